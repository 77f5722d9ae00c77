/- ScriptOnes returns true for every input and leaves its arguments as they are; no condition. -/
import Derived.Test.YtcicccnimohlaaaGreatW9
import Derived.Test.YtcicccnimohlaaaGreatW10
import Derived.Test.YtcicccnimohlaaaGreatW11
import Derived.Test.YtcicccnimohlaaaGreatW12
import Derived.Test.YtcicccnimohlaaaGreatW13
import Derived.Test.YtcicccnimohlaaaGreatW14
import Derived.Test.YtcicccnimohlaaaGreatW15
import Derived.Test.YtcicccnimohlaaaGreatW16
import Derived.Test.YtcicccnimohlaaaGreatW17
import Derived.Test.YtcicccnimohlaaaGreatW18
import Derived.Test.YtcicccnimohlaaaGreatW19
import Derived.Test.YtcicccnimohlaaaGreatW20
import Derived.Test.YtcicccnimohlaaaGreatW21
import Derived.Test.YtcicccnimohlaaaGreatW22
import Derived.Test.YtcicccnimohlaaaGreatW23
import Derived.Test.YtcicccnimohlaaaGreatW24
import Derived.Test.YtcicccnimohlaaaGreatW25
import Derived.Test.YtcicccnimohlaaaGreatW26
import Derived.Test.YtcicccnimohlaaaGreatW3
import Derived.Test.YtcicccnimohlaaaGreatW2
import Derived.Test.YtcicccnimohlaaaGreatW4
import Derived.Test.YtcicccnimohlaaaGreatRows
import Derived.WalkKit
import Derived.ProofKit
import Derived.OpenShut
/-
  ScriptOnes, THE LAW.
-/
namespace Go.Ideal
open Go
set_option maxHeartbeats 4000000
set_option maxRecDepth 20000
theorem zaya {a b d:Int} (ha : -9223372036854775808≤a∧a<9223372036854775808) (hb : -9223372036854775808≤b∧b<9223372036854775808) (hd : -9223372036854775808≤d∧d<9223372036854775808) (h0:a % (8:Int)=0) (H:List IBlk):CW tr.look F_Q3 [.p (.int .i64 a), .p (.int .i64 b), .p (.int .i64 d)] H=some (.p (.bool true),H):=by
 have key:=fun i j h1 h2 hc=>zdw (a:=a) (b:=b) (d:=d) 0 i j (by decide) ha hb hd h0 h1 h2 (fun K a b d=>onL0 K a b d) hc H
 have b0:=Int.emod_nonneg b (show(1:Int)≠0 by decide)
 have b1:=Int.emod_lt_of_pos b (show(0:Int)<1 by decide)
 have d0:=Int.emod_nonneg d (show(5:Int)≠0 by decide)
 have d1:=Int.emod_lt_of_pos d (show(0:Int)<5 by decide)
 rcases(show b % 1=0 by omega)with g
 ·rcases(show d % 5=0∨d % 5=1∨d % 5=2∨d % 5=3∨d % 5=4 by omega)with f|f|f|f|f
  ·exact key 0 0 g f fun b d=>⟨(zlb true false b d).1,(zlb false true b d).1⟩
  ·exact key 0 1 g f fun b d=>⟨(zlb true false b d).2.1,(zlb false true b d).2.1⟩
  ·exact key 0 2 g f fun b d=>⟨(zlb true false b d).2.2,(zlb false true b d).2.2⟩
  ·exact key 0 3 g f fun b d=>⟨(zadh true false b d).1,(zadh false true b d).1⟩
  ·exact key 0 4 g f fun b d=>(zadh true false b d).2
theorem zayb {a b d:Int} (ha : -9223372036854775808≤a∧a<9223372036854775808) (hb : -9223372036854775808≤b∧b<9223372036854775808) (hd : -9223372036854775808≤d∧d<9223372036854775808) (h0:a % (8:Int)=1) (H:List IBlk):CW tr.look F_Q3 [.p (.int .i64 a), .p (.int .i64 b), .p (.int .i64 d)] H=some (.p (.bool true),H):=by
 have key:=fun i j h1 h2 hc=>zdw (a:=a) (b:=b) (d:=d) 1 i j (by decide) ha hb hd h0 h1 h2 (fun K a b d=>onL1 K a b d) hc H
 have b0:=Int.emod_nonneg b (show(2:Int)≠0 by decide)
 have b1:=Int.emod_lt_of_pos b (show(0:Int)<2 by decide)
 have d0:=Int.emod_nonneg d (show(5:Int)≠0 by decide)
 have d1:=Int.emod_lt_of_pos d (show(0:Int)<5 by decide)
 rcases(show b % 2=0∨b % 2=1 by omega)with g|g
 ·rcases(show d % 5=0∨d % 5=1∨d % 5=2∨d % 5=3∨d % 5=4 by omega)with f|f|f|f|f
  ·exact key 0 0 g f fun b d=>⟨(zlc true false b d).1,(zlc false true b d).1⟩
  ·exact key 0 1 g f fun b d=>⟨(zlc true false b d).2.1,(zlc false true b d).2.1⟩
  ·exact key 0 2 g f fun b d=>⟨(zlc true false b d).2.2,(zlc false true b d).2.2⟩
  ·exact key 0 3 g f fun b d=>⟨(zadi true false b d).1,(zadi false true b d).1⟩
  ·exact key 0 4 g f fun b d=>(zadi true false b d).2
 ·rcases(show d % 5=0∨d % 5=1∨d % 5=2∨d % 5=3∨d % 5=4 by omega)with f|f|f|f|f
  ·exact key 1 0 g f fun b d=>⟨(zld true false b d).1,(zld false true b d).1⟩
  ·exact key 1 1 g f fun b d=>⟨(zld true false b d).2.1,(zld false true b d).2.1⟩
  ·exact key 1 2 g f fun b d=>⟨(zld true false b d).2.2,(zld false true b d).2.2⟩
  ·exact key 1 3 g f fun b d=>⟨(zadj true false b d).1,(zadj false true b d).1⟩
  ·exact key 1 4 g f fun b d=>(zadj true false b d).2
theorem zayc {a b d:Int} (ha : -9223372036854775808≤a∧a<9223372036854775808) (hb : -9223372036854775808≤b∧b<9223372036854775808) (hd : -9223372036854775808≤d∧d<9223372036854775808) (h0:a % (8:Int)=2) (H:List IBlk):CW tr.look F_Q3 [.p (.int .i64 a), .p (.int .i64 b), .p (.int .i64 d)] H=some (.p (.bool true),H):=by
 have key:=fun i j h1 h2 hc=>zdw (a:=a) (b:=b) (d:=d) 2 i j (by decide) ha hb hd h0 h1 h2 (fun K a b d=>onL2 K a b d) hc H
 have b0:=Int.emod_nonneg b (show(3:Int)≠0 by decide)
 have b1:=Int.emod_lt_of_pos b (show(0:Int)<3 by decide)
 have d0:=Int.emod_nonneg d (show(5:Int)≠0 by decide)
 have d1:=Int.emod_lt_of_pos d (show(0:Int)<5 by decide)
 rcases(show b % 3=0∨b % 3=1∨b % 3=2 by omega)with g|g|g
 ·rcases(show d % 5=0∨d % 5=1∨d % 5=2∨d % 5=3∨d % 5=4 by omega)with f|f|f|f|f
  ·exact key 0 0 g f fun b d=>⟨(zle true false b d).1,(zle false true b d).1⟩
  ·exact key 0 1 g f fun b d=>⟨(zle true false b d).2.1,(zle false true b d).2.1⟩
  ·exact key 0 2 g f fun b d=>⟨(zle true false b d).2.2,(zle false true b d).2.2⟩
  ·exact key 0 3 g f fun b d=>⟨(zadk true false b d).1,(zadk false true b d).1⟩
  ·exact key 0 4 g f fun b d=>(zadk true false b d).2
 ·rcases(show d % 5=0∨d % 5=1∨d % 5=2∨d % 5=3∨d % 5=4 by omega)with f|f|f|f|f
  ·exact key 1 0 g f fun b d=>⟨(zlf true false b d).1,(zlf false true b d).1⟩
  ·exact key 1 1 g f fun b d=>⟨(zlf true false b d).2.1,(zlf false true b d).2.1⟩
  ·exact key 1 2 g f fun b d=>⟨(zlf true false b d).2.2,(zlf false true b d).2.2⟩
  ·exact key 1 3 g f fun b d=>⟨(zadl true false b d).1,(zadl false true b d).1⟩
  ·exact key 1 4 g f fun b d=>(zadl true false b d).2
 ·rcases(show d % 5=0∨d % 5=1∨d % 5=2∨d % 5=3∨d % 5=4 by omega)with f|f|f|f|f
  ·exact key 2 0 g f fun b d=>⟨(zlg true false b d).1,(zlg false true b d).1⟩
  ·exact key 2 1 g f fun b d=>⟨(zlg true false b d).2.1,(zlg false true b d).2.1⟩
  ·exact key 2 2 g f fun b d=>⟨(zlg true false b d).2.2,(zlg false true b d).2.2⟩
  ·exact key 2 3 g f fun b d=>⟨(zadm true false b d).1,(zadm false true b d).1⟩
  ·exact key 2 4 g f fun b d=>(zadm true false b d).2
theorem zayd {a b d:Int} (ha : -9223372036854775808≤a∧a<9223372036854775808) (hb : -9223372036854775808≤b∧b<9223372036854775808) (hd : -9223372036854775808≤d∧d<9223372036854775808) (h0:a % (8:Int)=3) (H:List IBlk):CW tr.look F_Q3 [.p (.int .i64 a), .p (.int .i64 b), .p (.int .i64 d)] H=some (.p (.bool true),H):=by
 have key:=fun i j h1 h2 hc=>zdw (a:=a) (b:=b) (d:=d) 3 i j (by decide) ha hb hd h0 h1 h2 (fun K a b d=>onL3 K a b d) hc H
 have b0:=Int.emod_nonneg b (show(4:Int)≠0 by decide)
 have b1:=Int.emod_lt_of_pos b (show(0:Int)<4 by decide)
 have d0:=Int.emod_nonneg d (show(5:Int)≠0 by decide)
 have d1:=Int.emod_lt_of_pos d (show(0:Int)<5 by decide)
 rcases(show b % 4=0∨b % 4=1∨b % 4=2∨b % 4=3 by omega)with g|g|g|g
 ·rcases(show d % 5=0∨d % 5=1∨d % 5=2∨d % 5=3∨d % 5=4 by omega)with f|f|f|f|f
  ·exact key 0 0 g f fun b d=>⟨(zlh true false b d).1,(zlh false true b d).1⟩
  ·exact key 0 1 g f fun b d=>⟨(zlh true false b d).2.1,(zlh false true b d).2.1⟩
  ·exact key 0 2 g f fun b d=>⟨(zlh true false b d).2.2,(zlh false true b d).2.2⟩
  ·exact key 0 3 g f fun b d=>⟨(zadn true false b d).1,(zadn false true b d).1⟩
  ·exact key 0 4 g f fun b d=>(zadn true false b d).2
 ·rcases(show d % 5=0∨d % 5=1∨d % 5=2∨d % 5=3∨d % 5=4 by omega)with f|f|f|f|f
  ·exact key 1 0 g f fun b d=>⟨(zli true false b d).1,(zli false true b d).1⟩
  ·exact key 1 1 g f fun b d=>⟨(zli true false b d).2.1,(zli false true b d).2.1⟩
  ·exact key 1 2 g f fun b d=>⟨(zli true false b d).2.2,(zli false true b d).2.2⟩
  ·exact key 1 3 g f fun b d=>⟨(zado true false b d).1,(zado false true b d).1⟩
  ·exact key 1 4 g f fun b d=>(zado true false b d).2
 ·rcases(show d % 5=0∨d % 5=1∨d % 5=2∨d % 5=3∨d % 5=4 by omega)with f|f|f|f|f
  ·exact key 2 0 g f fun b d=>⟨(zlj true false b d).1,(zlj false true b d).1⟩
  ·exact key 2 1 g f fun b d=>⟨(zlj true false b d).2.1,(zlj false true b d).2.1⟩
  ·exact key 2 2 g f fun b d=>⟨(zlj true false b d).2.2,(zlj false true b d).2.2⟩
  ·exact key 2 3 g f fun b d=>⟨(zadp true false b d).1,(zadp false true b d).1⟩
  ·exact key 2 4 g f fun b d=>(zadp true false b d).2
 ·rcases(show d % 5=0∨d % 5=1∨d % 5=2∨d % 5=3∨d % 5=4 by omega)with f|f|f|f|f
  ·exact key 3 0 g f fun b d=>⟨(zlk true false b d).1,(zlk false true b d).1⟩
  ·exact key 3 1 g f fun b d=>⟨(zlk true false b d).2.1,(zlk false true b d).2.1⟩
  ·exact key 3 2 g f fun b d=>⟨(zlk true false b d).2.2,(zlk false true b d).2.2⟩
  ·exact key 3 3 g f fun b d=>⟨(zadq true false b d).1,(zadq false true b d).1⟩
  ·exact key 3 4 g f fun b d=>(zadq true false b d).2
theorem zaye {a b d:Int} (ha : -9223372036854775808≤a∧a<9223372036854775808) (hb : -9223372036854775808≤b∧b<9223372036854775808) (hd : -9223372036854775808≤d∧d<9223372036854775808) (h0:a % (8:Int)=4) (H:List IBlk):CW tr.look F_Q3 [.p (.int .i64 a), .p (.int .i64 b), .p (.int .i64 d)] H=some (.p (.bool true),H):=by
 have key:=fun i j h1 h2 hc=>zdw (a:=a) (b:=b) (d:=d) 4 i j (by decide) ha hb hd h0 h1 h2 (fun K a b d=>onL4 K a b d) hc H
 have b0:=Int.emod_nonneg b (show(5:Int)≠0 by decide)
 have b1:=Int.emod_lt_of_pos b (show(0:Int)<5 by decide)
 have d0:=Int.emod_nonneg d (show(5:Int)≠0 by decide)
 have d1:=Int.emod_lt_of_pos d (show(0:Int)<5 by decide)
 rcases(show b % 5=0∨b % 5=1∨b % 5=2∨b % 5=3∨b % 5=4 by omega)with g|g|g|g|g
 ·rcases(show d % 5=0∨d % 5=1∨d % 5=2∨d % 5=3∨d % 5=4 by omega)with f|f|f|f|f
  ·exact key 0 0 g f fun b d=>⟨(zll true false b d).1,(zll false true b d).1⟩
  ·exact key 0 1 g f fun b d=>⟨(zll true false b d).2.1,(zll false true b d).2.1⟩
  ·exact key 0 2 g f fun b d=>⟨(zll true false b d).2.2,(zll false true b d).2.2⟩
  ·exact key 0 3 g f fun b d=>⟨(zadr true false b d).1,(zadr false true b d).1⟩
  ·exact key 0 4 g f fun b d=>(zadr true false b d).2
 ·rcases(show d % 5=0∨d % 5=1∨d % 5=2∨d % 5=3∨d % 5=4 by omega)with f|f|f|f|f
  ·exact key 1 0 g f fun b d=>⟨(zlm true false b d).1,(zlm false true b d).1⟩
  ·exact key 1 1 g f fun b d=>⟨(zlm true false b d).2.1,(zlm false true b d).2.1⟩
  ·exact key 1 2 g f fun b d=>⟨(zlm true false b d).2.2,(zlm false true b d).2.2⟩
  ·exact key 1 3 g f fun b d=>⟨(zads true false b d).1,(zads false true b d).1⟩
  ·exact key 1 4 g f fun b d=>(zads true false b d).2
 ·rcases(show d % 5=0∨d % 5=1∨d % 5=2∨d % 5=3∨d % 5=4 by omega)with f|f|f|f|f
  ·exact key 2 0 g f fun b d=>⟨(zln true false b d).1,(zln false true b d).1⟩
  ·exact key 2 1 g f fun b d=>⟨(zln true false b d).2.1,(zln false true b d).2.1⟩
  ·exact key 2 2 g f fun b d=>⟨(zln true false b d).2.2,(zln false true b d).2.2⟩
  ·exact key 2 3 g f fun b d=>⟨(zadt true false b d).1,(zadt false true b d).1⟩
  ·exact key 2 4 g f fun b d=>(zadt true false b d).2
 ·rcases(show d % 5=0∨d % 5=1∨d % 5=2∨d % 5=3∨d % 5=4 by omega)with f|f|f|f|f
  ·exact key 3 0 g f fun b d=>⟨(zlo true false b d).1,(zlo false true b d).1⟩
  ·exact key 3 1 g f fun b d=>⟨(zlo true false b d).2.1,(zlo false true b d).2.1⟩
  ·exact key 3 2 g f fun b d=>⟨(zlo true false b d).2.2,(zlo false true b d).2.2⟩
  ·exact key 3 3 g f fun b d=>⟨(zadu true false b d).1,(zadu false true b d).1⟩
  ·exact key 3 4 g f fun b d=>(zadu true false b d).2
 ·rcases(show d % 5=0∨d % 5=1∨d % 5=2∨d % 5=3∨d % 5=4 by omega)with f|f|f|f|f
  ·exact key 4 0 g f fun b d=>⟨(zlp true false b d).1,(zlp false true b d).1⟩
  ·exact key 4 1 g f fun b d=>⟨(zlp true false b d).2.1,(zlp false true b d).2.1⟩
  ·exact key 4 2 g f fun b d=>⟨(zlp true false b d).2.2,(zlp false true b d).2.2⟩
  ·exact key 4 3 g f fun b d=>⟨(zadv true false b d).1,(zadv false true b d).1⟩
  ·exact key 4 4 g f fun b d=>(zadv true false b d).2
theorem zayf {a b d:Int} (ha : -9223372036854775808≤a∧a<9223372036854775808) (hb : -9223372036854775808≤b∧b<9223372036854775808) (hd : -9223372036854775808≤d∧d<9223372036854775808) (h0:a % (8:Int)=5) (H:List IBlk):CW tr.look F_Q3 [.p (.int .i64 a), .p (.int .i64 b), .p (.int .i64 d)] H=some (.p (.bool true),H):=by
 have key:=fun i j h1 h2 hc=>zdw (a:=a) (b:=b) (d:=d) 5 i j (by decide) ha hb hd h0 h1 h2 (fun K a b d=>onL5 K a b d) hc H
 have b0:=Int.emod_nonneg b (show(6:Int)≠0 by decide)
 have b1:=Int.emod_lt_of_pos b (show(0:Int)<6 by decide)
 have d0:=Int.emod_nonneg d (show(5:Int)≠0 by decide)
 have d1:=Int.emod_lt_of_pos d (show(0:Int)<5 by decide)
 rcases(show b % 6=0∨b % 6=1∨b % 6=2∨b % 6=3∨b % 6=4∨b % 6=5 by omega)with g|g|g|g|g|g
 ·rcases(show d % 5=0∨d % 5=1∨d % 5=2∨d % 5=3∨d % 5=4 by omega)with f|f|f|f|f
  ·exact key 0 0 g f fun b d=>⟨(zlq true false b d).1,(zlq false true b d).1⟩
  ·exact key 0 1 g f fun b d=>⟨(zlq true false b d).2.1,(zlq false true b d).2.1⟩
  ·exact key 0 2 g f fun b d=>⟨(zlq true false b d).2.2,(zlq false true b d).2.2⟩
  ·exact key 0 3 g f fun b d=>⟨(zadw true false b d).1,(zadw false true b d).1⟩
  ·exact key 0 4 g f fun b d=>(zadw true false b d).2
 ·rcases(show d % 5=0∨d % 5=1∨d % 5=2∨d % 5=3∨d % 5=4 by omega)with f|f|f|f|f
  ·exact key 1 0 g f fun b d=>⟨(zlr true false b d).1,(zlr false true b d).1⟩
  ·exact key 1 1 g f fun b d=>⟨(zlr true false b d).2.1,(zlr false true b d).2.1⟩
  ·exact key 1 2 g f fun b d=>⟨(zlr true false b d).2.2,(zlr false true b d).2.2⟩
  ·exact key 1 3 g f fun b d=>⟨(zadx true false b d).1,(zadx false true b d).1⟩
  ·exact key 1 4 g f fun b d=>(zadx true false b d).2
 ·rcases(show d % 5=0∨d % 5=1∨d % 5=2∨d % 5=3∨d % 5=4 by omega)with f|f|f|f|f
  ·exact key 2 0 g f fun b d=>⟨(zls true false b d).1,(zls false true b d).1⟩
  ·exact key 2 1 g f fun b d=>⟨(zls true false b d).2.1,(zls false true b d).2.1⟩
  ·exact key 2 2 g f fun b d=>⟨(zls true false b d).2.2,(zls false true b d).2.2⟩
  ·exact key 2 3 g f fun b d=>⟨(zady true false b d).1,(zady false true b d).1⟩
  ·exact key 2 4 g f fun b d=>(zady true false b d).2
 ·rcases(show d % 5=0∨d % 5=1∨d % 5=2∨d % 5=3∨d % 5=4 by omega)with f|f|f|f|f
  ·exact key 3 0 g f fun b d=>⟨(zlt true false b d).1,(zlt false true b d).1⟩
  ·exact key 3 1 g f fun b d=>⟨(zlt true false b d).2.1,(zlt false true b d).2.1⟩
  ·exact key 3 2 g f fun b d=>⟨(zlt true false b d).2.2,(zlt false true b d).2.2⟩
  ·exact key 3 3 g f fun b d=>⟨(zadz true false b d).1,(zadz false true b d).1⟩
  ·exact key 3 4 g f fun b d=>(zadz true false b d).2
 ·rcases(show d % 5=0∨d % 5=1∨d % 5=2∨d % 5=3∨d % 5=4 by omega)with f|f|f|f|f
  ·exact key 4 0 g f fun b d=>⟨(zlu true false b d).1,(zlu false true b d).1⟩
  ·exact key 4 1 g f fun b d=>⟨(zlu true false b d).2.1,(zlu false true b d).2.1⟩
  ·exact key 4 2 g f fun b d=>⟨(zlu true false b d).2.2,(zlu false true b d).2.2⟩
  ·exact key 4 3 g f fun b d=>⟨(zaea true false b d).1,(zaea false true b d).1⟩
  ·exact key 4 4 g f fun b d=>(zaea true false b d).2
 ·rcases(show d % 5=0∨d % 5=1∨d % 5=2∨d % 5=3∨d % 5=4 by omega)with f|f|f|f|f
  ·exact key 5 0 g f fun b d=>⟨(zlv true false b d).1,(zlv false true b d).1⟩
  ·exact key 5 1 g f fun b d=>⟨(zlv true false b d).2.1,(zlv false true b d).2.1⟩
  ·exact key 5 2 g f fun b d=>⟨(zlv true false b d).2.2,(zlv false true b d).2.2⟩
  ·exact key 5 3 g f fun b d=>⟨(zaeb true false b d).1,(zaeb false true b d).1⟩
  ·exact key 5 4 g f fun b d=>(zaeb true false b d).2
theorem zayg {a b d:Int} (ha : -9223372036854775808≤a∧a<9223372036854775808) (hb : -9223372036854775808≤b∧b<9223372036854775808) (hd : -9223372036854775808≤d∧d<9223372036854775808) (h0:a % (8:Int)=6) (H:List IBlk):CW tr.look F_Q3 [.p (.int .i64 a), .p (.int .i64 b), .p (.int .i64 d)] H=some (.p (.bool true),H):=by
 have key:=fun i j h1 h2 hc=>zdw (a:=a) (b:=b) (d:=d) 6 i j (by decide) ha hb hd h0 h1 h2 (fun K a b d=>onL6 K a b d) hc H
 have b0:=Int.emod_nonneg b (show(7:Int)≠0 by decide)
 have b1:=Int.emod_lt_of_pos b (show(0:Int)<7 by decide)
 have d0:=Int.emod_nonneg d (show(5:Int)≠0 by decide)
 have d1:=Int.emod_lt_of_pos d (show(0:Int)<5 by decide)
 rcases(show b % 7=0∨b % 7=1∨b % 7=2∨b % 7=3∨b % 7=4∨b % 7=5∨b % 7=6 by omega)with g|g|g|g|g|g|g
 ·rcases(show d % 5=0∨d % 5=1∨d % 5=2∨d % 5=3∨d % 5=4 by omega)with f|f|f|f|f
  ·exact key 0 0 g f fun b d=>⟨(zlw true false b d).1,(zlw false true b d).1⟩
  ·exact key 0 1 g f fun b d=>⟨(zlw true false b d).2.1,(zlw false true b d).2.1⟩
  ·exact key 0 2 g f fun b d=>⟨(zlw true false b d).2.2,(zlw false true b d).2.2⟩
  ·exact key 0 3 g f fun b d=>⟨(zaec true false b d).1,(zaec false true b d).1⟩
  ·exact key 0 4 g f fun b d=>(zaec true false b d).2
 ·rcases(show d % 5=0∨d % 5=1∨d % 5=2∨d % 5=3∨d % 5=4 by omega)with f|f|f|f|f
  ·exact key 1 0 g f fun b d=>⟨(zlx true false b d).1,(zlx false true b d).1⟩
  ·exact key 1 1 g f fun b d=>⟨(zlx true false b d).2.1,(zlx false true b d).2.1⟩
  ·exact key 1 2 g f fun b d=>⟨(zlx true false b d).2.2,(zlx false true b d).2.2⟩
  ·exact key 1 3 g f fun b d=>⟨(zaed true false b d).1,(zaed false true b d).1⟩
  ·exact key 1 4 g f fun b d=>(zaed true false b d).2
 ·rcases(show d % 5=0∨d % 5=1∨d % 5=2∨d % 5=3∨d % 5=4 by omega)with f|f|f|f|f
  ·exact key 2 0 g f fun b d=>⟨(zly true false b d).1,(zly false true b d).1⟩
  ·exact key 2 1 g f fun b d=>⟨(zly true false b d).2.1,(zly false true b d).2.1⟩
  ·exact key 2 2 g f fun b d=>⟨(zly true false b d).2.2,(zly false true b d).2.2⟩
  ·exact key 2 3 g f fun b d=>⟨(zaee true false b d).1,(zaee false true b d).1⟩
  ·exact key 2 4 g f fun b d=>(zaee true false b d).2
 ·rcases(show d % 5=0∨d % 5=1∨d % 5=2∨d % 5=3∨d % 5=4 by omega)with f|f|f|f|f
  ·exact key 3 0 g f fun b d=>⟨(zlz true false b d).1,(zlz false true b d).1⟩
  ·exact key 3 1 g f fun b d=>⟨(zlz true false b d).2.1,(zlz false true b d).2.1⟩
  ·exact key 3 2 g f fun b d=>⟨(zlz true false b d).2.2,(zlz false true b d).2.2⟩
  ·exact key 3 3 g f fun b d=>⟨(zaef true false b d).1,(zaef false true b d).1⟩
  ·exact key 3 4 g f fun b d=>(zaef true false b d).2
 ·rcases(show d % 5=0∨d % 5=1∨d % 5=2∨d % 5=3∨d % 5=4 by omega)with f|f|f|f|f
  ·exact key 4 0 g f fun b d=>⟨(zma true false b d).1,(zma false true b d).1⟩
  ·exact key 4 1 g f fun b d=>⟨(zma true false b d).2.1,(zma false true b d).2.1⟩
  ·exact key 4 2 g f fun b d=>⟨(zma true false b d).2.2,(zma false true b d).2.2⟩
  ·exact key 4 3 g f fun b d=>⟨(zaeg true false b d).1,(zaeg false true b d).1⟩
  ·exact key 4 4 g f fun b d=>(zaeg true false b d).2
 ·rcases(show d % 5=0∨d % 5=1∨d % 5=2∨d % 5=3∨d % 5=4 by omega)with f|f|f|f|f
  ·exact key 5 0 g f fun b d=>⟨(zmb true false b d).1,(zmb false true b d).1⟩
  ·exact key 5 1 g f fun b d=>⟨(zmb true false b d).2.1,(zmb false true b d).2.1⟩
  ·exact key 5 2 g f fun b d=>⟨(zmb true false b d).2.2,(zmb false true b d).2.2⟩
  ·exact key 5 3 g f fun b d=>⟨(zaeh true false b d).1,(zaeh false true b d).1⟩
  ·exact key 5 4 g f fun b d=>(zaeh true false b d).2
 ·rcases(show d % 5=0∨d % 5=1∨d % 5=2∨d % 5=3∨d % 5=4 by omega)with f|f|f|f|f
  ·exact key 6 0 g f fun b d=>⟨(zmc true false b d).1,(zmc false true b d).1⟩
  ·exact key 6 1 g f fun b d=>⟨(zmc true false b d).2.1,(zmc false true b d).2.1⟩
  ·exact key 6 2 g f fun b d=>⟨(zmc true false b d).2.2,(zmc false true b d).2.2⟩
  ·exact key 6 3 g f fun b d=>⟨(zaei true false b d).1,(zaei false true b d).1⟩
  ·exact key 6 4 g f fun b d=>(zaei true false b d).2
theorem zayh {a b d:Int} (ha : -9223372036854775808≤a∧a<9223372036854775808) (hb : -9223372036854775808≤b∧b<9223372036854775808) (hd : -9223372036854775808≤d∧d<9223372036854775808) (h0:a % (8:Int)=7) (H:List IBlk):CW tr.look F_Q3 [.p (.int .i64 a), .p (.int .i64 b), .p (.int .i64 d)] H=some (.p (.bool true),H):=by
 have key:=fun i j h1 h2 hc=>zdw (a:=a) (b:=b) (d:=d) 7 i j (by decide) ha hb hd h0 h1 h2 (fun K a b d=>onL7 K a b d) hc H
 have b0:=Int.emod_nonneg b (show(8:Int)≠0 by decide)
 have b1:=Int.emod_lt_of_pos b (show(0:Int)<8 by decide)
 have d0:=Int.emod_nonneg d (show(5:Int)≠0 by decide)
 have d1:=Int.emod_lt_of_pos d (show(0:Int)<5 by decide)
 rcases(show b % 8=0∨b % 8=1∨b % 8=2∨b % 8=3∨b % 8=4∨b % 8=5∨b % 8=6∨b % 8=7 by omega)with g|g|g|g|g|g|g|g
 ·rcases(show d % 5=0∨d % 5=1∨d % 5=2∨d % 5=3∨d % 5=4 by omega)with f|f|f|f|f
  ·exact key 0 0 g f fun b d=>⟨(zmd true false b d).1,(zmd false true b d).1⟩
  ·exact key 0 1 g f fun b d=>⟨(zmd true false b d).2.1,(zmd false true b d).2.1⟩
  ·exact key 0 2 g f fun b d=>⟨(zmd true false b d).2.2,(zmd false true b d).2.2⟩
  ·exact key 0 3 g f fun b d=>⟨(zaej true false b d).1,(zaej false true b d).1⟩
  ·exact key 0 4 g f fun b d=>(zaej true false b d).2
 ·rcases(show d % 5=0∨d % 5=1∨d % 5=2∨d % 5=3∨d % 5=4 by omega)with f|f|f|f|f
  ·exact key 1 0 g f fun b d=>⟨(zme true false b d).1,(zme false true b d).1⟩
  ·exact key 1 1 g f fun b d=>⟨(zme true false b d).2.1,(zme false true b d).2.1⟩
  ·exact key 1 2 g f fun b d=>⟨(zme true false b d).2.2,(zme false true b d).2.2⟩
  ·exact key 1 3 g f fun b d=>⟨(zaek true false b d).1,(zaek false true b d).1⟩
  ·exact key 1 4 g f fun b d=>(zaek true false b d).2
 ·rcases(show d % 5=0∨d % 5=1∨d % 5=2∨d % 5=3∨d % 5=4 by omega)with f|f|f|f|f
  ·exact key 2 0 g f fun b d=>⟨(zmf true false b d).1,(zmf false true b d).1⟩
  ·exact key 2 1 g f fun b d=>⟨(zmf true false b d).2.1,(zmf false true b d).2.1⟩
  ·exact key 2 2 g f fun b d=>⟨(zmf true false b d).2.2,(zmf false true b d).2.2⟩
  ·exact key 2 3 g f fun b d=>⟨(zael true false b d).1,(zael false true b d).1⟩
  ·exact key 2 4 g f fun b d=>(zael true false b d).2
 ·rcases(show d % 5=0∨d % 5=1∨d % 5=2∨d % 5=3∨d % 5=4 by omega)with f|f|f|f|f
  ·exact key 3 0 g f fun b d=>⟨(zmg true false b d).1,(zmg false true b d).1⟩
  ·exact key 3 1 g f fun b d=>⟨(zmg true false b d).2.1,(zmg false true b d).2.1⟩
  ·exact key 3 2 g f fun b d=>⟨(zmg true false b d).2.2,(zmg false true b d).2.2⟩
  ·exact key 3 3 g f fun b d=>⟨(zaem true false b d).1,(zaem false true b d).1⟩
  ·exact key 3 4 g f fun b d=>(zaem true false b d).2
 ·rcases(show d % 5=0∨d % 5=1∨d % 5=2∨d % 5=3∨d % 5=4 by omega)with f|f|f|f|f
  ·exact key 4 0 g f fun b d=>⟨(zmh true false b d).1,(zmh false true b d).1⟩
  ·exact key 4 1 g f fun b d=>⟨(zmh true false b d).2.1,(zmh false true b d).2.1⟩
  ·exact key 4 2 g f fun b d=>⟨(zmh true false b d).2.2,(zmh false true b d).2.2⟩
  ·exact key 4 3 g f fun b d=>⟨(zaen true false b d).1,(zaen false true b d).1⟩
  ·exact key 4 4 g f fun b d=>(zaen true false b d).2
 ·rcases(show d % 5=0∨d % 5=1∨d % 5=2∨d % 5=3∨d % 5=4 by omega)with f|f|f|f|f
  ·exact key 5 0 g f fun b d=>⟨(zmi true false b d).1,(zmi false true b d).1⟩
  ·exact key 5 1 g f fun b d=>⟨(zmi true false b d).2.1,(zmi false true b d).2.1⟩
  ·exact key 5 2 g f fun b d=>⟨(zmi true false b d).2.2,(zmi false true b d).2.2⟩
  ·exact key 5 3 g f fun b d=>⟨(zaeo true false b d).1,(zaeo false true b d).1⟩
  ·exact key 5 4 g f fun b d=>(zaeo true false b d).2
 ·rcases(show d % 5=0∨d % 5=1∨d % 5=2∨d % 5=3∨d % 5=4 by omega)with f|f|f|f|f
  ·exact key 6 0 g f fun b d=>⟨(zmj true false b d).1,(zmj false true b d).1⟩
  ·exact key 6 1 g f fun b d=>⟨(zmj true false b d).2.1,(zmj false true b d).2.1⟩
  ·exact key 6 2 g f fun b d=>⟨(zmj true false b d).2.2,(zmj false true b d).2.2⟩
  ·exact key 6 3 g f fun b d=>⟨(zaep true false b d).1,(zaep false true b d).1⟩
  ·exact key 6 4 g f fun b d=>(zaep true false b d).2
 ·rcases(show d % 5=0∨d % 5=1∨d % 5=2∨d % 5=3∨d % 5=4 by omega)with f|f|f|f|f
  ·exact key 7 0 g f fun b d=>⟨(zmk true false b d).1,(zmk false true b d).1⟩
  ·exact key 7 1 g f fun b d=>⟨(zmk true false b d).2.1,(zmk false true b d).2.1⟩
  ·exact key 7 2 g f fun b d=>⟨(zmk true false b d).2.2,(zmk false true b d).2.2⟩
  ·exact key 7 3 g f fun b d=>⟨(zaeq true false b d).1,(zaeq false true b d).1⟩
  ·exact key 7 4 g f fun b d=>(zaeq true false b d).2
theorem zasl (a:Int) (wa:(Lit.int .i64 a).wf=true) (b:Int) (wb:(Lit.int .i64 b).wf=true) (d:Int) (wd:(Lit.int .i64 d).wf=true) (H:List IBlk):CW tr.look F_Q3 [.p (.int .i64 a), .p (.int .i64 b), .p (.int .i64 d)] H=some (.p (.bool true),H):=by
 have ha:=wf_i64 wa
 have hb:=wf_i64 wb
 have hd:=wf_i64 wd
 have a0:=Int.emod_nonneg a (show(8:Int)≠0 by decide)
 have a1:=Int.emod_lt_of_pos a (show(0:Int)<8 by decide)
 rcases(show a % 8=0∨a % 8=1∨a % 8=2∨a % 8=3∨a % 8=4∨a % 8=5∨a % 8=6∨a % 8=7 by omega)with h|h|h|h|h|h|h|h
 ·exact zaya ha hb hd h H
 ·exact zayb ha hb hd h H
 ·exact zayc ha hb hd h H
 ·exact zayd ha hb hd h H
 ·exact zaye ha hb hd h H
 ·exact zayf ha hb hd h H
 ·exact zayg ha hb hd h H
 ·exact zayh ha hb hd h H
end Go.Ideal

/-
  SEAT SCRIPT: WHAT THE ENTRY OF A LAW NEEDS.
-/
namespace Go.Ideal
open Go Go.Proofs Go.ChangeShapes Go.WideShapes Go.RowKit
theorem laidOut:laidOutB Tryz.prog=true:=by kernel_rfl
theorem own:ownKnob Tryz.prog.godebug=none:=by kernel_rfl
theorem readableI:Tryz.prog.readableRec 3=true∧3<Tryz.prog.types.size:=⟨by kernel_rfl,of_decide_eq_true (by kernel_rfl)⟩
theorem boolT:Tryz.prog.underlying 4=some .bool:=Tryz.underlying4
theorem intT:Tryz.prog.underlying 3=some (.int .i64):=Tryz.underlying3
theorem tz0 (z:Cells):TabZ z:=fun _ _ h=>by cases h
end Go.Ideal

/- ScriptOnes returns true for every input and leaves its arguments as they are; no condition. -/
namespace Go.Proofs.YtcicccnimohlaaaGreat.scriptOnes
open Go.Ideal Go.ChangeShapes Go.WideShapes Go.ChangeAt Go.RowKit
set_option maxRecDepth 100000 in
theorem lifted (os:Os) (started:os.Started) (H:Type) (enc:TypeId×Value→H) :
 ReturnsInHanded {} Tryz.checked os 3 .any (Rows.scriptOnesSpec.pre6 enc Tryz.prog Tryz.f3 Rows.scriptOnesRow.domain false) (Rows.scriptOnesSpec.post enc Tryz.prog Tryz.f3 false true false false):=by
 refine returnsInHanded_of_change (C:=Tryz.checked) own started (by kernel_rfl) Tryz.func3
  (ChangeSpec.witness6 (enc:=enc) (C:=Tryz.checked) false ⟨#[],#[.int .i64 0, .int .i64 0, .int .i64 0],[]⟩ 3 (by kernel_rfl) (by kernel_rfl) (by kernel_rfl) (by kernel_rfl)) ?_
 intro W base args ds gs before hval0 hW hcnd _
 have hval:∀(j:Nat) t v,Tryz.f3.params[j]? = some t→args[j]? = some v→Value.okWide Tryz.prog W .any base t v:=hval0
 have hW':=hW
 obtain⟨p,q,hA0,hV,rfl,hfz,hnd⟩:=hW
 have hA:DataW.TrodAll enc Tryz.prog W 0 (fun _=>true) true Tryz.f3.params.toList args.toList ds p:=hA0
 have hA1:=hA
 rw[Tryz.params3]at hA hval
 obtain⟨v0,vs0,d0,ds0,p0,q0,hargs,rfl,rfl,h0,r0⟩:=trodAll_cons hA
 obtain⟨v1,vs1,d1,ds1,p1,q1,rfl,rfl,rfl,h1,r1⟩:=trodAll_cons r0
 obtain⟨v2,vs2,d2,ds2,p2,q2,rfl,rfl,rfl,h2,r2⟩:=trodAll_cons r1
 obtain⟨rfl,rfl,rfl⟩:=trodAll_nil r2
 obtain rfl:args = #[v0,v1,v2]:=by cases args;simp_all
 obtain⟨rfl,rfl⟩:=trodVars_none hV
 obtain⟨a,w0,s0⟩:=zqz intT (hval 0 _ v0 rfl rfl) h0
 obtain⟨b,w1,s1⟩:=zqz intT (hval 1 _ v1 rfl rfl) h1
 obtain⟨c,w2,s2⟩:=zqz intT (hval 2 _ v2 rfl rfl) h2
 have hlt:=fun x hx=>hW'.lt x hx
 clear hA0 hval0
 simp only[List.append_nil]at hW' hlt
 refine(zant tr_mixed tr_prog zaxm (zasl a w0 b w1 c w2 []) (tz0 _) (rs:=[v0,v1,v2]) ⟨_,_,rfl,s0.1,s0.2 (tz0 _),_,_,rfl,s1.1,s1.2 (tz0 _),_,_,rfl,s2.1,s2.2 (tz0 _),rfl⟩).mono fun e W' ⟨he,hg⟩=>?_
 subst he
 refine⟨_,rfl,zabl (pa:=p0++(p1++(p2++[]))) (pv:=[]) hW' (fun _ _ _=>(trodAll_cons_mk (shut_bool boolT _) trodAll_mk0)) (fun sp hsp=>?_) (fun _ _=>rfl) (by simp)
  (hg.frame _) hg.2.1 (ok_one (by kernel_rfl) rfl (okWide_bool_mk boolT _))⟩
 exact zph laidOut (fun t ht=>by rw[Tryz.params3]at ht;simp at ht;subst ht;exact readableI) hA1 (fun x hx=>zaly hg (by simpa using hlt x (by simpa using hx))) (fun x hx=>hsp x (by simpa using hx))
theorem over:Rows.scriptOnesRow.holds Tryz.pinned (OpenSpec.ofChange Rows.scriptOnesSpec) :=
 OpenClaim.holds_of_wide 3 Tryz.f3 rfl rfl rfl rfl rfl rfl rfl ⟨rfl,rfl,rfl,rfl,rfl⟩ rfl rfl rfl rfl rfl (by kernel_rfl) Tryz.func3 (by kernel_rfl)
  (of_decide_eq_true (by kernel_rfl)) (by unfold Func.isWrapper;first|(rw[if_pos (by decide +kernel)];kernel_rfl)|(rw[if_neg (by decide +kernel)];exact⟨rfl,rfl⟩))
  (fun os started H enc _=>lifted os started H enc)
theorem proved:Rows.ScriptOnesSaid :=
 over
#print axioms proved
end Go.Proofs.YtcicccnimohlaaaGreat.scriptOnes
