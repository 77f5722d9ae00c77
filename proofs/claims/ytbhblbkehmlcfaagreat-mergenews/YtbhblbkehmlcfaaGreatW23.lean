/- MergeNews returns true for every input and leaves its arguments as they are; no condition. -/
import Derived.Test.YtbhblbkehmlcfaaGreatW11
import Derived.Test.YtbhblbkehmlcfaaGreatW12
import Derived.Test.YtbhblbkehmlcfaaGreatW13
import Derived.Test.YtbhblbkehmlcfaaGreatW14
import Derived.Test.YtbhblbkehmlcfaaGreatW15
import Derived.Test.YtbhblbkehmlcfaaGreatW16
import Derived.Test.YtbhblbkehmlcfaaGreatW17
import Derived.Test.YtbhblbkehmlcfaaGreatW18
import Derived.Test.YtbhblbkehmlcfaaGreatW19
import Derived.Test.YtbhblbkehmlcfaaGreatW20
import Derived.Test.YtbhblbkehmlcfaaGreatW21
import Derived.Test.YtbhblbkehmlcfaaGreatW22
import Derived.Test.YtbhblbkehmlcfaaGreatW6
import Derived.Test.YtbhblbkehmlcfaaGreatW3
import Derived.Test.YtbhblbkehmlcfaaGreatW5
import Derived.Test.YtbhblbkehmlcfaaGreatRows
import Derived.WalkKit
import Derived.ProofKit
import Derived.OpenShut
/-
  MergeNews: ALL CASES.
-/
namespace Go.Ideal
open Go
set_option maxHeartbeats 4000000
set_option maxRecDepth 20000
theorem zbbv {a b d:Int} (w:Bool) (h1:a % 6=0) (H:List IBlk):CW tr.look F_Q4 [vi a,vi b,vi d, .p (.bool w)] H=some (.p (.bool true),H):=by
 rcases(show b % 3=0∨b % 3=1∨b % 3=2 by omega)with h2|h2|h2<;>rcases(show d % 3=0∨d % 3=1∨d % 3=2 by omega)with h3|h3|h3
 ·exact nwB nw_0 nw_1 w h1 h2 h3 H
 ·exact nwB nw_2 nw_3 w h1 h2 h3 H
 ·exact nwB nw_4 nw_5 w h1 h2 h3 H
 ·exact nwB nw_6 nw_7 w h1 h2 h3 H
 ·exact nwB nw_8 nw_9 w h1 h2 h3 H
 ·exact nwB nw_10 nw_11 w h1 h2 h3 H
 ·exact nwB nw_12 nw_13 w h1 h2 h3 H
 ·exact nwB nw_14 nw_15 w h1 h2 h3 H
 ·exact nwB nw_16 nw_17 w h1 h2 h3 H
theorem zbbw {a b d:Int} (w:Bool) (h1:a % 6=1) (H:List IBlk):CW tr.look F_Q4 [vi a,vi b,vi d, .p (.bool w)] H=some (.p (.bool true),H):=by
 rcases(show b % 4=0∨b % 4=1∨b % 4=2∨b % 4=3 by omega)with h2|h2|h2|h2<;>rcases(show d % 4=0∨d % 4=1∨d % 4=2∨d % 4=3 by omega)with h3|h3|h3|h3
 ·exact nwB nw_18 nw_19 w h1 h2 h3 H
 ·exact nwB nw_20 nw_21 w h1 h2 h3 H
 ·exact nwB nw_22 nw_23 w h1 h2 h3 H
 ·exact nwB nw_24 nw_25 w h1 h2 h3 H
 ·exact nwB nw_26 nw_27 w h1 h2 h3 H
 ·exact nwB nw_28 nw_29 w h1 h2 h3 H
 ·exact nwB nw_30 nw_31 w h1 h2 h3 H
 ·exact nwB nw_32 nw_33 w h1 h2 h3 H
 ·exact nwB nw_34 nw_35 w h1 h2 h3 H
 ·exact nwB nw_36 nw_37 w h1 h2 h3 H
 ·exact nwB nw_38 nw_39 w h1 h2 h3 H
 ·exact nwB nw_40 nw_41 w h1 h2 h3 H
 ·exact nwB nw_42 nw_43 w h1 h2 h3 H
 ·exact nwB nw_44 nw_45 w h1 h2 h3 H
 ·exact nwB nw_46 nw_47 w h1 h2 h3 H
 ·exact nwB nw_48 nw_49 w h1 h2 h3 H
theorem zbbx {a b d:Int} (w:Bool) (h1:a % 6=2) (H:List IBlk):CW tr.look F_Q4 [vi a,vi b,vi d, .p (.bool w)] H=some (.p (.bool true),H):=by
 rcases(show b % 5=0∨b % 5=1∨b % 5=2∨b % 5=3∨b % 5=4 by omega)with h2|h2|h2|h2|h2<;>rcases(show d % 5=0∨d % 5=1∨d % 5=2∨d % 5=3∨d % 5=4 by omega)with h3|h3|h3|h3|h3
 ·exact nwB nw_50 nw_51 w h1 h2 h3 H
 ·exact nwB nw_52 nw_53 w h1 h2 h3 H
 ·exact nwB nw_54 nw_55 w h1 h2 h3 H
 ·exact nwB nw_56 nw_57 w h1 h2 h3 H
 ·exact nwB nw_58 nw_59 w h1 h2 h3 H
 ·exact nwB nw_60 nw_61 w h1 h2 h3 H
 ·exact nwB nw_62 nw_63 w h1 h2 h3 H
 ·exact nwB nw_64 nw_65 w h1 h2 h3 H
 ·exact nwB nw_66 nw_67 w h1 h2 h3 H
 ·exact nwB nw_68 nw_69 w h1 h2 h3 H
 ·exact nwB nw_70 nw_71 w h1 h2 h3 H
 ·exact nwB nw_72 nw_73 w h1 h2 h3 H
 ·exact nwB nw_74 nw_75 w h1 h2 h3 H
 ·exact nwB nw_76 nw_77 w h1 h2 h3 H
 ·exact nwB nw_78 nw_79 w h1 h2 h3 H
 ·exact nwB nw_80 nw_81 w h1 h2 h3 H
 ·exact nwB nw_82 nw_83 w h1 h2 h3 H
 ·exact nwB nw_84 nw_85 w h1 h2 h3 H
 ·exact nwB nw_86 nw_87 w h1 h2 h3 H
 ·exact nwB nw_88 nw_89 w h1 h2 h3 H
 ·exact nwB nw_90 nw_91 w h1 h2 h3 H
 ·exact nwB nw_92 nw_93 w h1 h2 h3 H
 ·exact nwB nw_94 nw_95 w h1 h2 h3 H
 ·exact nwB nw_96 nw_97 w h1 h2 h3 H
 ·exact nwB nw_98 nw_99 w h1 h2 h3 H
theorem zbby {a b d:Int} (w:Bool) (h1:a % 6=3) (H:List IBlk):CW tr.look F_Q4 [vi a,vi b,vi d, .p (.bool w)] H=some (.p (.bool true),H):=by
 rcases(show b % 6=0∨b % 6=1∨b % 6=2∨b % 6=3∨b % 6=4∨b % 6=5 by omega)with h2|h2|h2|h2|h2|h2<;>rcases(show d % 6=0∨d % 6=1∨d % 6=2∨d % 6=3∨d % 6=4∨d % 6=5 by omega)with h3|h3|h3|h3|h3|h3
 ·exact nwB zbni zboh w h1 h2 h3 H
 ·exact nwB zbpg zbqf w h1 h2 h3 H
 ·exact nwB zbre zbsd w h1 h2 h3 H
 ·exact nwB zbnj zboi w h1 h2 h3 H
 ·exact nwB zbhq zbip w h1 h2 h3 H
 ·exact nwB zbjo zbkn w h1 h2 h3 H
 ·exact nwB zblm zbmk w h1 h2 h3 H
 ·exact nwB zbph zbqg w h1 h2 h3 H
 ·exact nwB zbrf zbse w h1 h2 h3 H
 ·exact nwB zbnk zboj w h1 h2 h3 H
 ·exact nwB zbhr zbiq w h1 h2 h3 H
 ·exact nwB zbjp zbko w h1 h2 h3 H
 ·exact nwB zbln zbml w h1 h2 h3 H
 ·exact nwB zbpi zbqh w h1 h2 h3 H
 ·exact nwB zbrg zbsf w h1 h2 h3 H
 ·exact nwB zbnl zbok w h1 h2 h3 H
 ·exact nwB zbhs zbir w h1 h2 h3 H
 ·exact nwB zbjq zbkp w h1 h2 h3 H
 ·exact nwB zblo zbmm w h1 h2 h3 H
 ·exact nwB zbpj zbqi w h1 h2 h3 H
 ·exact nwB zbrh zbsg w h1 h2 h3 H
 ·exact nwB zbnm zbol w h1 h2 h3 H
 ·exact nwB zbht zbis w h1 h2 h3 H
 ·exact nwB zbjr zbkq w h1 h2 h3 H
 ·exact nwB zblp zbmn w h1 h2 h3 H
 ·exact nwB zbpk zbqj w h1 h2 h3 H
 ·exact nwB zbri zbsh w h1 h2 h3 H
 ·exact nwB zbnn zbom w h1 h2 h3 H
 ·exact nwB zbhu zbit w h1 h2 h3 H
 ·exact nwB zbjs zbkr w h1 h2 h3 H
 ·exact nwB zblq zbmo w h1 h2 h3 H
 ·exact nwB zbpl zbqk w h1 h2 h3 H
 ·exact nwB zbrj zbsi w h1 h2 h3 H
 ·exact nwB zbno zbon w h1 h2 h3 H
 ·exact nwB zbhv zbiu w h1 h2 h3 H
 ·exact nwB zbjt zbks w h1 h2 h3 H
theorem zbbz {a b d:Int} (w:Bool) (h1:a % 6=4) (H:List IBlk):CW tr.look F_Q4 [vi a,vi b,vi d, .p (.bool w)] H=some (.p (.bool true),H):=by
 rcases(show b % 7=0∨b % 7=1∨b % 7=2∨b % 7=3∨b % 7=4∨b % 7=5∨b % 7=6 by omega)with h2|h2|h2|h2|h2|h2|h2<;>rcases(show d % 7=0∨d % 7=1∨d % 7=2∨d % 7=3∨d % 7=4∨d % 7=5∨d % 7=6 by omega)with h3|h3|h3|h3|h3|h3|h3
 ·exact nwB zbpm zbql w h1 h2 h3 H
 ·exact nwB zbrk zbsj w h1 h2 h3 H
 ·exact nwB zbpn zbqm w h1 h2 h3 H
 ·exact nwB zbrl zbsk w h1 h2 h3 H
 ·exact nwB zbhw zbiv w h1 h2 h3 H
 ·exact nwB zbju zbkt w h1 h2 h3 H
 ·exact nwB zblr zbmp w h1 h2 h3 H
 ·exact nwB zbnp zboo w h1 h2 h3 H
 ·exact nwB zbpo zbqn w h1 h2 h3 H
 ·exact nwB zbrm zbsl w h1 h2 h3 H
 ·exact nwB zbhx zbiw w h1 h2 h3 H
 ·exact nwB zbjv zbku w h1 h2 h3 H
 ·exact nwB zbls zbmq w h1 h2 h3 H
 ·exact nwB zbnq zbop w h1 h2 h3 H
 ·exact nwB zbpp zbqo w h1 h2 h3 H
 ·exact nwB zbrn zbsm w h1 h2 h3 H
 ·exact nwB zbhy zbix w h1 h2 h3 H
 ·exact nwB zbjw zbkv w h1 h2 h3 H
 ·exact nwB zblt zbmr w h1 h2 h3 H
 ·exact nwB zbnr zboq w h1 h2 h3 H
 ·exact nwB zbpq zbqp w h1 h2 h3 H
 ·exact nwB zbro zbsn w h1 h2 h3 H
 ·exact nwB zbhz zbiy w h1 h2 h3 H
 ·exact nwB zbjx zbkw w h1 h2 h3 H
 ·exact nwB zblu zbms w h1 h2 h3 H
 ·exact nwB zbns zbor w h1 h2 h3 H
 ·exact nwB zbpr zbqq w h1 h2 h3 H
 ·exact nwB zbrp zbso w h1 h2 h3 H
 ·exact nwB zbia zbiz w h1 h2 h3 H
 ·exact nwB zbjy zbkx w h1 h2 h3 H
 ·exact nwB zblv zbmt w h1 h2 h3 H
 ·exact nwB zbnt zbos w h1 h2 h3 H
 ·exact nwB zbps zbqr w h1 h2 h3 H
 ·exact nwB zbrq zbsp w h1 h2 h3 H
 ·exact nwB zbib zbja w h1 h2 h3 H
 ·exact nwB zbjz zbky w h1 h2 h3 H
 ·exact nwB zblw zbmu w h1 h2 h3 H
 ·exact nwB zbnu zbot w h1 h2 h3 H
 ·exact nwB zbpt zbqs w h1 h2 h3 H
 ·exact nwB zbrr zbsq w h1 h2 h3 H
 ·exact nwB zbic zbjb w h1 h2 h3 H
 ·exact nwB zbka zbkz w h1 h2 h3 H
 ·exact nwB zblx zbmv w h1 h2 h3 H
 ·exact nwB zbnv zbou w h1 h2 h3 H
 ·exact nwB zbpu zbqt w h1 h2 h3 H
 ·exact nwB zbrs zbsr w h1 h2 h3 H
 ·exact nwB zbid zbjc w h1 h2 h3 H
 ·exact nwB zbkb zbla w h1 h2 h3 H
 ·exact nwB zbly zbmw w h1 h2 h3 H
theorem zbca {a b d:Int} (w:Bool) (h1:a % 6=5) (H:List IBlk):CW tr.look F_Q4 [vi a,vi b,vi d, .p (.bool w)] H=some (.p (.bool true),H):=by
 rcases(show b % 8=0∨b % 8=1∨b % 8=2∨b % 8=3∨b % 8=4∨b % 8=5∨b % 8=6∨b % 8=7 by omega)with h2|h2|h2|h2|h2|h2|h2|h2<;>rcases(show d % 8=0∨d % 8=1∨d % 8=2∨d % 8=3∨d % 8=4∨d % 8=5∨d % 8=6∨d % 8=7 by omega)with h3|h3|h3|h3|h3|h3|h3|h3
 ·exact nwB zbie zbjd w h1 h2 h3 H
 ·exact nwB zbkc zblb w h1 h2 h3 H
 ·exact nwB zblz zbmx w h1 h2 h3 H
 ·exact nwB zbnw zbov w h1 h2 h3 H
 ·exact nwB zbpv zbqu w h1 h2 h3 H
 ·exact nwB zbrt zbss w h1 h2 h3 H
 ·exact nwB zbif zbje w h1 h2 h3 H
 ·exact nwB zbkd zblc w h1 h2 h3 H
 ·exact nwB zbma zbmy w h1 h2 h3 H
 ·exact nwB zbnx zbow w h1 h2 h3 H
 ·exact nwB zbpw zbqv w h1 h2 h3 H
 ·exact nwB zbru zbst w h1 h2 h3 H
 ·exact nwB zbig zbjf w h1 h2 h3 H
 ·exact nwB zbke zbld w h1 h2 h3 H
 ·exact nwB zbmb zbmz w h1 h2 h3 H
 ·exact nwB zbny zbox w h1 h2 h3 H
 ·exact nwB zbpx zbqw w h1 h2 h3 H
 ·exact nwB zbrv zbsu w h1 h2 h3 H
 ·exact nwB zbih zbjg w h1 h2 h3 H
 ·exact nwB zbkf zble w h1 h2 h3 H
 ·exact nwB zbmc zbna w h1 h2 h3 H
 ·exact nwB zbnz zboy w h1 h2 h3 H
 ·exact nwB zbpy zbqx w h1 h2 h3 H
 ·exact nwB zbrw zbsv w h1 h2 h3 H
 ·exact nwB zbii zbjh w h1 h2 h3 H
 ·exact nwB zbkg zblf w h1 h2 h3 H
 ·exact nwB zbmd zbnb w h1 h2 h3 H
 ·exact nwB zboa zboz w h1 h2 h3 H
 ·exact nwB zbpz zbqy w h1 h2 h3 H
 ·exact nwB zbrx zbsw w h1 h2 h3 H
 ·exact nwB zbij zbji w h1 h2 h3 H
 ·exact nwB zbkh zblg w h1 h2 h3 H
 ·exact nwB zbme zbnc w h1 h2 h3 H
 ·exact nwB zbob zbpa w h1 h2 h3 H
 ·exact nwB zbqa zbqz w h1 h2 h3 H
 ·exact nwB zbry zbsx w h1 h2 h3 H
 ·exact nwB zbik zbjj w h1 h2 h3 H
 ·exact nwB zbki zblh w h1 h2 h3 H
 ·exact nwB zbmf zbnd w h1 h2 h3 H
 ·exact nwB zboc zbpb w h1 h2 h3 H
 ·exact nwB zbqb zbra w h1 h2 h3 H
 ·exact nwB zbrz zbsy w h1 h2 h3 H
 ·exact nwB zbil zbjk w h1 h2 h3 H
 ·exact nwB zbkj zbli w h1 h2 h3 H
 ·exact nwB zbmg zbne w h1 h2 h3 H
 ·exact nwB zbod zbpc w h1 h2 h3 H
 ·exact nwB zbqc zbrb w h1 h2 h3 H
 ·exact nwB zbsa zbsz w h1 h2 h3 H
 ·exact nwB zbim zbjl w h1 h2 h3 H
 ·exact nwB zbkk zblj w h1 h2 h3 H
 ·exact nwB zbmh zbnf w h1 h2 h3 H
 ·exact nwB zboe zbpd w h1 h2 h3 H
 ·exact nwB zbqd zbrc w h1 h2 h3 H
 ·exact nwB zbsb zbta w h1 h2 h3 H
 ·exact nwB zbin zbjm w h1 h2 h3 H
 ·exact nwB zbkl zblk w h1 h2 h3 H
 ·exact nwB zbmi zbng w h1 h2 h3 H
 ·exact nwB zbof zbpe w h1 h2 h3 H
 ·exact nwB zbqe zbrd w h1 h2 h3 H
 ·exact nwB zbsc zbtb w h1 h2 h3 H
 ·exact nwB zbio zbjn w h1 h2 h3 H
 ·exact nwB zbkm zbll w h1 h2 h3 H
 ·exact nwB zbmj zbnh w h1 h2 h3 H
 ·exact nwB zbog zbpf w h1 h2 h3 H
theorem zbtc (a:Int) (_:(Lit.int .i64 a).wf=true) (b:Int) (_:(Lit.int .i64 b).wf=true) (d:Int) (_:(Lit.int .i64 d).wf=true) (w:Bool) (H:List IBlk):CW tr.look F_Q4 [vi a,vi b,vi d, .p (.bool w)] H=some (.p (.bool true),H):=by
 rcases(show a % 6=0∨a % 6=1∨a % 6=2∨a % 6=3∨a % 6=4∨a % 6=5 by omega)with h1|h1|h1|h1|h1|h1
 ·exact zbbv w h1 H
 ·exact zbbw w h1 H
 ·exact zbbx w h1 H
 ·exact zbby w h1 H
 ·exact zbbz w h1 H
 ·exact zbca w h1 H
end Go.Ideal

/-
  SEAT SCRIPT: WHAT THE ENTRY OF A LAW NEEDS.
-/
namespace Go.Ideal
open Go Go.Proofs Go.ChangeShapes Go.WideShapes Go.RowKit
theorem laidOut:laidOutB Tryz.prog=true:=by kernel_rfl
theorem own:ownKnob Tryz.prog.godebug=none:=by kernel_rfl
theorem readableI:Tryz.prog.readableRec 3=true∧3<Tryz.prog.types.size:=⟨by kernel_rfl,of_decide_eq_true (by kernel_rfl)⟩
theorem readableB:Tryz.prog.readableRec 4=true∧4<Tryz.prog.types.size:=⟨by kernel_rfl,of_decide_eq_true (by kernel_rfl)⟩
theorem boolT:Tryz.prog.underlying 4=some .bool:=Tryz.underlying4
theorem intT:Tryz.prog.underlying 3=some (.int .i64):=Tryz.underlying3
theorem zakj {P:Program} {H:Type} {enc:TypeId×Value→H} {W:World} {t:TypeId} (ht:P.underlying t=some .bool) {v:Value} {base:Nat} {d:DataW H} {ps:List MemPlace} (hv:Value.okWide P W .any base t v) (_:DataW.Trod enc P W 0 (fun _=>true) true t v d ps):∃b:Bool,Stands W (.p (.bool b)) v:=by
 obtain⟨b,rfl⟩:=okWide_bool ht hv
 exact⟨b,rfl,fun _=>by simp[VRel,PRel]⟩
theorem tz0 (z:Cells):TabZ z:=fun _ _ h=>by cases h
end Go.Ideal

/- MergeNews returns true for every input and leaves its arguments as they are; no condition. -/
namespace Go.Proofs.YtbhblbkehmlcfaaGreat.mergeNews
open Go.Ideal Go.ChangeShapes Go.WideShapes Go.ChangeAt Go.RowKit
set_option maxRecDepth 100000 in
theorem lifted (os:Os) (started:os.Started) (H:Type) (enc:TypeId×Value→H) :
 ReturnsInHanded {} Tryz.checked os 4 .any (Rows.mergeNewsSpec.pre6 enc Tryz.prog Tryz.f4 Rows.mergeNewsRow.domain false) (Rows.mergeNewsSpec.post enc Tryz.prog Tryz.f4 false true false false):=by
 refine returnsInHanded_of_change (C:=Tryz.checked) own started (by kernel_rfl) Tryz.func4
  (ChangeSpec.witness6 (enc:=enc) (C:=Tryz.checked) false ⟨#[],#[.int .i64 0, .int .i64 0, .int .i64 0, .bool false],[]⟩ 4 (by kernel_rfl) (by kernel_rfl) (by kernel_rfl) (by kernel_rfl)) ?_
 intro W base args ds gs before hval0 hW hcnd _
 have hval:∀(j:Nat) t v,Tryz.f4.params[j]? = some t→args[j]? = some v→Value.okWide Tryz.prog W .any base t v:=hval0
 have hW':=hW
 obtain⟨p,q,hA0,hV,rfl,hfz,hnd⟩:=hW
 have hA:DataW.TrodAll enc Tryz.prog W 0 (fun _=>true) true Tryz.f4.params.toList args.toList ds p:=hA0
 have hA1:=hA
 rw[Tryz.params4]at hA hval
 obtain⟨v0,vs0,d0,ds0,p0,q0,hargs,rfl,rfl,h0,r0⟩:=trodAll_cons hA
 obtain⟨v1,vs1,d1,ds1,p1,q1,rfl,rfl,rfl,h1,r1⟩:=trodAll_cons r0
 obtain⟨v2,vs2,d2,ds2,p2,q2,rfl,rfl,rfl,h2,r2⟩:=trodAll_cons r1
 obtain⟨v3,vs3,d3,ds3,p3,q3,rfl,rfl,rfl,h3,r3⟩:=trodAll_cons r2
 obtain⟨rfl,rfl,rfl⟩:=trodAll_nil r3
 obtain rfl:args = #[v0,v1,v2,v3]:=by cases args;simp_all
 obtain⟨rfl,rfl⟩:=trodVars_none hV
 obtain⟨a,w0,s0⟩:=zqm intT (hval 0 _ v0 rfl rfl) h0
 obtain⟨b,w1,s1⟩:=zqm intT (hval 1 _ v1 rfl rfl) h1
 obtain⟨c,w2,s2⟩:=zqm intT (hval 2 _ v2 rfl rfl) h2
 obtain⟨d,s3⟩:=zakj boolT (hval 3 _ v3 rfl rfl) h3
 have hlt:=fun x hx=>hW'.lt x hx
 clear hA0 hval0
 simp only[List.append_nil]at hW' hlt
 refine(zaps tr_mixed tr_prog zbat (zbtc a w0 b w1 c w2 d []) (tz0 _) (rs:=[v0,v1,v2,v3]) ⟨_,_,rfl,s0.1,s0.2 (tz0 _),_,_,rfl,s1.1,s1.2 (tz0 _),_,_,rfl,s2.1,s2.2 (tz0 _),_,_,rfl,s3.1,s3.2 (tz0 _),rfl⟩).mono fun e W' ⟨he,hg⟩=>?_
 subst he
 refine⟨_,rfl,zabr (pa:=p0++(p1++(p2++(p3++[])))) (pv:=[]) hW' (fun _ _ _=>(trodAll_cons_mk (shut_bool boolT _) trodAll_mk0)) (fun sp hsp=>?_) (fun _ _=>rfl) (by simp)
  (hg.frame _) hg.2.1 (ok_one (by kernel_rfl) rfl (okWide_bool_mk boolT _))⟩
 exact zop laidOut (fun t ht=>by rw[Tryz.params4]at ht;simp at ht;rcases ht with rfl|rfl|rfl|rfl<;>first|exact readableB|exact readableI) hA1 (fun x hx=>zane hg (by simpa using hlt x (by simpa using hx))) (fun x hx=>hsp x (by simpa using hx))
theorem over:Rows.mergeNewsRow.holds Tryz.pinned (OpenSpec.ofChange Rows.mergeNewsSpec) :=
 OpenClaim.holds_of_wide 4 Tryz.f4 rfl rfl rfl rfl rfl rfl rfl ⟨rfl,rfl,rfl,rfl,rfl⟩ rfl rfl rfl rfl rfl (by kernel_rfl) Tryz.func4 (by kernel_rfl)
  (of_decide_eq_true (by kernel_rfl)) (by unfold Func.isWrapper;first|(rw[if_pos (by decide +kernel)];kernel_rfl)|(rw[if_neg (by decide +kernel)];exact⟨rfl,rfl⟩))
  (fun os started H enc _=>lifted os started H enc)
theorem proved:Rows.MergeNewsSaid :=
 over
#print axioms proved
end Go.Proofs.YtbhblbkehmlcfaaGreat.mergeNews
