/- ScriptMoves returns true for every input and leaves its arguments as they are; no condition. -/
import Derived.Test.YtcicccnimohlaaaGreatW8
import Derived.Test.YtcicccnimohlaaaGreatW9
import Derived.Test.YtcicccnimohlaaaGreatW10
import Derived.Test.YtcicccnimohlaaaGreatW11
import Derived.Test.YtcicccnimohlaaaGreatW12
import Derived.Test.YtcicccnimohlaaaGreatW13
import Derived.Test.YtcicccnimohlaaaGreatW14
import Derived.Test.YtcicccnimohlaaaGreatW15
import Derived.Test.YtcicccnimohlaaaGreatW16
import Derived.Test.YtcicccnimohlaaaGreatW17
import Derived.Test.YtcicccnimohlaaaGreatW18
import Derived.Test.YtcicccnimohlaaaGreatW19
import Derived.Test.YtcicccnimohlaaaGreatW20
import Derived.Test.YtcicccnimohlaaaGreatW21
import Derived.Test.YtcicccnimohlaaaGreatW22
import Derived.Test.YtcicccnimohlaaaGreatW23
import Derived.Test.YtcicccnimohlaaaGreatW3
import Derived.Test.YtcicccnimohlaaaGreatW2
import Derived.Test.YtcicccnimohlaaaGreatW4
import Derived.Test.YtcicccnimohlaaaGreatRows
import Derived.WalkKit
import Derived.ProofKit
import Derived.OpenShut
/-
  ScriptMoves, THE LAW.
-/
namespace Go.Ideal
open Go
set_option maxHeartbeats 4000000
set_option maxRecDepth 20000
theorem zaxg {a b d:Int} (ha : -9223372036854775808≤a∧a<9223372036854775808) (hb : -9223372036854775808≤b∧b<9223372036854775808) (hd : -9223372036854775808≤d∧d<9223372036854775808) (h0:a % (7:Int)=0) (H:List IBlk):CW tr.look F_Q4 [.p (.int .i64 a), .p (.int .i64 b), .p (.int .i64 d)] H=some (.p (.bool true),H):=by
 have key:=fun i j h1 h2 hc=>zdg (a:=a) (b:=b) (d:=d) 0 i j (by decide) ha hb hd h0 h1 h2 mvS0 hc H
 have b0:=Int.emod_nonneg b (show(2:Int)≠0 by decide)
 have b1:=Int.emod_lt_of_pos b (show(0:Int)<2 by decide)
 have d0:=Int.emod_nonneg d (show(2:Int)≠0 by decide)
 have d1:=Int.emod_lt_of_pos d (show(0:Int)<2 by decide)
 rcases(show b % 2=0∨b % 2=1 by omega)with g|g
 ·rcases(show d % 2=0∨d % 2=1 by omega)with f|f
  ·exact key 0 0 g f fun b d=>(zagg b d).1
  ·exact key 0 1 g f fun b d=>(zagg b d).2
 ·rcases(show d % 2=0∨d % 2=1 by omega)with f|f
  ·exact key 1 0 g f fun b d=>(zagh b d).1
  ·exact key 1 1 g f fun b d=>(zagh b d).2
theorem zaxh {a b d:Int} (ha : -9223372036854775808≤a∧a<9223372036854775808) (hb : -9223372036854775808≤b∧b<9223372036854775808) (hd : -9223372036854775808≤d∧d<9223372036854775808) (h0:a % (7:Int)=1) (H:List IBlk):CW tr.look F_Q4 [.p (.int .i64 a), .p (.int .i64 b), .p (.int .i64 d)] H=some (.p (.bool true),H):=by
 have key:=fun i j h1 h2 hc=>zdg (a:=a) (b:=b) (d:=d) 1 i j (by decide) ha hb hd h0 h1 h2 mvS1 hc H
 have b0:=Int.emod_nonneg b (show(3:Int)≠0 by decide)
 have b1:=Int.emod_lt_of_pos b (show(0:Int)<3 by decide)
 have d0:=Int.emod_nonneg d (show(3:Int)≠0 by decide)
 have d1:=Int.emod_lt_of_pos d (show(0:Int)<3 by decide)
 rcases(show b % 3=0∨b % 3=1∨b % 3=2 by omega)with g|g|g
 ·rcases(show d % 3=0∨d % 3=1∨d % 3=2 by omega)with f|f|f
  ·exact key 0 0 g f fun b d=>(zwa b d).1
  ·exact key 0 1 g f fun b d=>(zwa b d).2.1
  ·exact key 0 2 g f fun b d=>(zwa b d).2.2
 ·rcases(show d % 3=0∨d % 3=1∨d % 3=2 by omega)with f|f|f
  ·exact key 1 0 g f fun b d=>(zwb b d).1
  ·exact key 1 1 g f fun b d=>(zwb b d).2.1
  ·exact key 1 2 g f fun b d=>(zwb b d).2.2
 ·rcases(show d % 3=0∨d % 3=1∨d % 3=2 by omega)with f|f|f
  ·exact key 2 0 g f fun b d=>(zwc b d).1
  ·exact key 2 1 g f fun b d=>(zwc b d).2.1
  ·exact key 2 2 g f fun b d=>(zwc b d).2.2
theorem zaxi {a b d:Int} (ha : -9223372036854775808≤a∧a<9223372036854775808) (hb : -9223372036854775808≤b∧b<9223372036854775808) (hd : -9223372036854775808≤d∧d<9223372036854775808) (h0:a % (7:Int)=2) (H:List IBlk):CW tr.look F_Q4 [.p (.int .i64 a), .p (.int .i64 b), .p (.int .i64 d)] H=some (.p (.bool true),H):=by
 have key:=fun i j h1 h2 hc=>zdg (a:=a) (b:=b) (d:=d) 2 i j (by decide) ha hb hd h0 h1 h2 mvS2 hc H
 have b0:=Int.emod_nonneg b (show(4:Int)≠0 by decide)
 have b1:=Int.emod_lt_of_pos b (show(0:Int)<4 by decide)
 have d0:=Int.emod_nonneg d (show(4:Int)≠0 by decide)
 have d1:=Int.emod_lt_of_pos d (show(0:Int)<4 by decide)
 rcases(show b % 4=0∨b % 4=1∨b % 4=2∨b % 4=3 by omega)with g|g|g|g
 ·rcases(show d % 4=0∨d % 4=1∨d % 4=2∨d % 4=3 by omega)with f|f|f|f
  ·exact key 0 0 g f fun b d=>(zwd b d).1
  ·exact key 0 1 g f fun b d=>(zwd b d).2.1
  ·exact key 0 2 g f fun b d=>(zwd b d).2.2
  ·exact key 0 3 g f fun b d=>(zaon b d)
 ·rcases(show d % 4=0∨d % 4=1∨d % 4=2∨d % 4=3 by omega)with f|f|f|f
  ·exact key 1 0 g f fun b d=>(zwe b d).1
  ·exact key 1 1 g f fun b d=>(zwe b d).2.1
  ·exact key 1 2 g f fun b d=>(zwe b d).2.2
  ·exact key 1 3 g f fun b d=>(zaoo b d)
 ·rcases(show d % 4=0∨d % 4=1∨d % 4=2∨d % 4=3 by omega)with f|f|f|f
  ·exact key 2 0 g f fun b d=>(zwf b d).1
  ·exact key 2 1 g f fun b d=>(zwf b d).2.1
  ·exact key 2 2 g f fun b d=>(zwf b d).2.2
  ·exact key 2 3 g f fun b d=>(zaop b d)
 ·rcases(show d % 4=0∨d % 4=1∨d % 4=2∨d % 4=3 by omega)with f|f|f|f
  ·exact key 3 0 g f fun b d=>(zwg b d).1
  ·exact key 3 1 g f fun b d=>(zwg b d).2.1
  ·exact key 3 2 g f fun b d=>(zwg b d).2.2
  ·exact key 3 3 g f fun b d=>(zaoq b d)
theorem zaxj {a b d:Int} (ha : -9223372036854775808≤a∧a<9223372036854775808) (hb : -9223372036854775808≤b∧b<9223372036854775808) (hd : -9223372036854775808≤d∧d<9223372036854775808) (h0:a % (7:Int)=3) (H:List IBlk):CW tr.look F_Q4 [.p (.int .i64 a), .p (.int .i64 b), .p (.int .i64 d)] H=some (.p (.bool true),H):=by
 have key:=fun i j h1 h2 hc=>zdg (a:=a) (b:=b) (d:=d) 3 i j (by decide) ha hb hd h0 h1 h2 mvS3 hc H
 have b0:=Int.emod_nonneg b (show(5:Int)≠0 by decide)
 have b1:=Int.emod_lt_of_pos b (show(0:Int)<5 by decide)
 have d0:=Int.emod_nonneg d (show(5:Int)≠0 by decide)
 have d1:=Int.emod_lt_of_pos d (show(0:Int)<5 by decide)
 rcases(show b % 5=0∨b % 5=1∨b % 5=2∨b % 5=3∨b % 5=4 by omega)with g|g|g|g|g
 ·rcases(show d % 5=0∨d % 5=1∨d % 5=2∨d % 5=3∨d % 5=4 by omega)with f|f|f|f|f
  ·exact key 0 0 g f fun b d=>(zwh b d).1
  ·exact key 0 1 g f fun b d=>(zwh b d).2.1
  ·exact key 0 2 g f fun b d=>(zwh b d).2.2
  ·exact key 0 3 g f fun b d=>(zagi b d).1
  ·exact key 0 4 g f fun b d=>(zagi b d).2
 ·rcases(show d % 5=0∨d % 5=1∨d % 5=2∨d % 5=3∨d % 5=4 by omega)with f|f|f|f|f
  ·exact key 1 0 g f fun b d=>(zwi b d).1
  ·exact key 1 1 g f fun b d=>(zwi b d).2.1
  ·exact key 1 2 g f fun b d=>(zwi b d).2.2
  ·exact key 1 3 g f fun b d=>(zagj b d).1
  ·exact key 1 4 g f fun b d=>(zagj b d).2
 ·rcases(show d % 5=0∨d % 5=1∨d % 5=2∨d % 5=3∨d % 5=4 by omega)with f|f|f|f|f
  ·exact key 2 0 g f fun b d=>(zwj b d).1
  ·exact key 2 1 g f fun b d=>(zwj b d).2.1
  ·exact key 2 2 g f fun b d=>(zwj b d).2.2
  ·exact key 2 3 g f fun b d=>(zagk b d).1
  ·exact key 2 4 g f fun b d=>(zagk b d).2
 ·rcases(show d % 5=0∨d % 5=1∨d % 5=2∨d % 5=3∨d % 5=4 by omega)with f|f|f|f|f
  ·exact key 3 0 g f fun b d=>(zwk b d).1
  ·exact key 3 1 g f fun b d=>(zwk b d).2.1
  ·exact key 3 2 g f fun b d=>(zwk b d).2.2
  ·exact key 3 3 g f fun b d=>(zagl b d).1
  ·exact key 3 4 g f fun b d=>(zagl b d).2
 ·rcases(show d % 5=0∨d % 5=1∨d % 5=2∨d % 5=3∨d % 5=4 by omega)with f|f|f|f|f
  ·exact key 4 0 g f fun b d=>(zwl b d).1
  ·exact key 4 1 g f fun b d=>(zwl b d).2.1
  ·exact key 4 2 g f fun b d=>(zwl b d).2.2
  ·exact key 4 3 g f fun b d=>(zagm b d).1
  ·exact key 4 4 g f fun b d=>(zagm b d).2
theorem zaxk {a b d:Int} (ha : -9223372036854775808≤a∧a<9223372036854775808) (hb : -9223372036854775808≤b∧b<9223372036854775808) (hd : -9223372036854775808≤d∧d<9223372036854775808) (h0:a % (7:Int)=4) (H:List IBlk):CW tr.look F_Q4 [.p (.int .i64 a), .p (.int .i64 b), .p (.int .i64 d)] H=some (.p (.bool true),H):=by
 have key:=fun i j h1 h2 hc=>zdg (a:=a) (b:=b) (d:=d) 4 i j (by decide) ha hb hd h0 h1 h2 mvS4 hc H
 have b0:=Int.emod_nonneg b (show(6:Int)≠0 by decide)
 have b1:=Int.emod_lt_of_pos b (show(0:Int)<6 by decide)
 have d0:=Int.emod_nonneg d (show(6:Int)≠0 by decide)
 have d1:=Int.emod_lt_of_pos d (show(0:Int)<6 by decide)
 rcases(show b % 6=0∨b % 6=1∨b % 6=2∨b % 6=3∨b % 6=4∨b % 6=5 by omega)with g|g|g|g|g|g
 ·rcases(show d % 6=0∨d % 6=1∨d % 6=2∨d % 6=3∨d % 6=4∨d % 6=5 by omega)with f|f|f|f|f|f
  ·exact key 0 0 g f fun b d=>(zwm b d).1
  ·exact key 0 1 g f fun b d=>(zwm b d).2.1
  ·exact key 0 2 g f fun b d=>(zwm b d).2.2
  ·exact key 0 3 g f fun b d=>(zwn b d).1
  ·exact key 0 4 g f fun b d=>(zwn b d).2.1
  ·exact key 0 5 g f fun b d=>(zwn b d).2.2
 ·rcases(show d % 6=0∨d % 6=1∨d % 6=2∨d % 6=3∨d % 6=4∨d % 6=5 by omega)with f|f|f|f|f|f
  ·exact key 1 0 g f fun b d=>(zwo b d).1
  ·exact key 1 1 g f fun b d=>(zwo b d).2.1
  ·exact key 1 2 g f fun b d=>(zwo b d).2.2
  ·exact key 1 3 g f fun b d=>(zwp b d).1
  ·exact key 1 4 g f fun b d=>(zwp b d).2.1
  ·exact key 1 5 g f fun b d=>(zwp b d).2.2
 ·rcases(show d % 6=0∨d % 6=1∨d % 6=2∨d % 6=3∨d % 6=4∨d % 6=5 by omega)with f|f|f|f|f|f
  ·exact key 2 0 g f fun b d=>(zwq b d).1
  ·exact key 2 1 g f fun b d=>(zwq b d).2.1
  ·exact key 2 2 g f fun b d=>(zwq b d).2.2
  ·exact key 2 3 g f fun b d=>(zwr b d).1
  ·exact key 2 4 g f fun b d=>(zwr b d).2.1
  ·exact key 2 5 g f fun b d=>(zwr b d).2.2
 ·rcases(show d % 6=0∨d % 6=1∨d % 6=2∨d % 6=3∨d % 6=4∨d % 6=5 by omega)with f|f|f|f|f|f
  ·exact key 3 0 g f fun b d=>(zws b d).1
  ·exact key 3 1 g f fun b d=>(zws b d).2.1
  ·exact key 3 2 g f fun b d=>(zws b d).2.2
  ·exact key 3 3 g f fun b d=>(zwt b d).1
  ·exact key 3 4 g f fun b d=>(zwt b d).2.1
  ·exact key 3 5 g f fun b d=>(zwt b d).2.2
 ·rcases(show d % 6=0∨d % 6=1∨d % 6=2∨d % 6=3∨d % 6=4∨d % 6=5 by omega)with f|f|f|f|f|f
  ·exact key 4 0 g f fun b d=>(zwu b d).1
  ·exact key 4 1 g f fun b d=>(zwu b d).2.1
  ·exact key 4 2 g f fun b d=>(zwu b d).2.2
  ·exact key 4 3 g f fun b d=>(zwv b d).1
  ·exact key 4 4 g f fun b d=>(zwv b d).2.1
  ·exact key 4 5 g f fun b d=>(zwv b d).2.2
 ·rcases(show d % 6=0∨d % 6=1∨d % 6=2∨d % 6=3∨d % 6=4∨d % 6=5 by omega)with f|f|f|f|f|f
  ·exact key 5 0 g f fun b d=>(zww b d).1
  ·exact key 5 1 g f fun b d=>(zww b d).2.1
  ·exact key 5 2 g f fun b d=>(zww b d).2.2
  ·exact key 5 3 g f fun b d=>(zwx b d).1
  ·exact key 5 4 g f fun b d=>(zwx b d).2.1
  ·exact key 5 5 g f fun b d=>(zwx b d).2.2
theorem zaxl {a b d:Int} (ha : -9223372036854775808≤a∧a<9223372036854775808) (hb : -9223372036854775808≤b∧b<9223372036854775808) (hd : -9223372036854775808≤d∧d<9223372036854775808) (h0:a % (7:Int)=5) (H:List IBlk):CW tr.look F_Q4 [.p (.int .i64 a), .p (.int .i64 b), .p (.int .i64 d)] H=some (.p (.bool true),H):=by
 have key:=fun i j h1 h2 hc=>zdg (a:=a) (b:=b) (d:=d) 5 i j (by decide) ha hb hd h0 h1 h2 mvS5 hc H
 have b0:=Int.emod_nonneg b (show(7:Int)≠0 by decide)
 have b1:=Int.emod_lt_of_pos b (show(0:Int)<7 by decide)
 have d0:=Int.emod_nonneg d (show(7:Int)≠0 by decide)
 have d1:=Int.emod_lt_of_pos d (show(0:Int)<7 by decide)
 rcases(show b % 7=0∨b % 7=1∨b % 7=2∨b % 7=3∨b % 7=4∨b % 7=5∨b % 7=6 by omega)with g|g|g|g|g|g|g
 ·rcases(show d % 7=0∨d % 7=1∨d % 7=2∨d % 7=3∨d % 7=4∨d % 7=5∨d % 7=6 by omega)with f|f|f|f|f|f|f
  ·exact key 0 0 g f fun b d=>(zwy b d).1
  ·exact key 0 1 g f fun b d=>(zwy b d).2.1
  ·exact key 0 2 g f fun b d=>(zwy b d).2.2
  ·exact key 0 3 g f fun b d=>(zwz b d).1
  ·exact key 0 4 g f fun b d=>(zwz b d).2.1
  ·exact key 0 5 g f fun b d=>(zwz b d).2.2
  ·exact key 0 6 g f fun b d=>(zaor b d)
 ·rcases(show d % 7=0∨d % 7=1∨d % 7=2∨d % 7=3∨d % 7=4∨d % 7=5∨d % 7=6 by omega)with f|f|f|f|f|f|f
  ·exact key 1 0 g f fun b d=>(zxa b d).1
  ·exact key 1 1 g f fun b d=>(zxa b d).2.1
  ·exact key 1 2 g f fun b d=>(zxa b d).2.2
  ·exact key 1 3 g f fun b d=>(zxb b d).1
  ·exact key 1 4 g f fun b d=>(zxb b d).2.1
  ·exact key 1 5 g f fun b d=>(zxb b d).2.2
  ·exact key 1 6 g f fun b d=>(zaos b d)
 ·rcases(show d % 7=0∨d % 7=1∨d % 7=2∨d % 7=3∨d % 7=4∨d % 7=5∨d % 7=6 by omega)with f|f|f|f|f|f|f
  ·exact key 2 0 g f fun b d=>(zxc b d).1
  ·exact key 2 1 g f fun b d=>(zxc b d).2.1
  ·exact key 2 2 g f fun b d=>(zxc b d).2.2
  ·exact key 2 3 g f fun b d=>(zxd b d).1
  ·exact key 2 4 g f fun b d=>(zxd b d).2.1
  ·exact key 2 5 g f fun b d=>(zxd b d).2.2
  ·exact key 2 6 g f fun b d=>(zaot b d)
 ·rcases(show d % 7=0∨d % 7=1∨d % 7=2∨d % 7=3∨d % 7=4∨d % 7=5∨d % 7=6 by omega)with f|f|f|f|f|f|f
  ·exact key 3 0 g f fun b d=>(zxe b d).1
  ·exact key 3 1 g f fun b d=>(zxe b d).2.1
  ·exact key 3 2 g f fun b d=>(zxe b d).2.2
  ·exact key 3 3 g f fun b d=>(zxf b d).1
  ·exact key 3 4 g f fun b d=>(zxf b d).2.1
  ·exact key 3 5 g f fun b d=>(zxf b d).2.2
  ·exact key 3 6 g f fun b d=>(zaou b d)
 ·rcases(show d % 7=0∨d % 7=1∨d % 7=2∨d % 7=3∨d % 7=4∨d % 7=5∨d % 7=6 by omega)with f|f|f|f|f|f|f
  ·exact key 4 0 g f fun b d=>(zxg b d).1
  ·exact key 4 1 g f fun b d=>(zxg b d).2.1
  ·exact key 4 2 g f fun b d=>(zxg b d).2.2
  ·exact key 4 3 g f fun b d=>(zxh b d).1
  ·exact key 4 4 g f fun b d=>(zxh b d).2.1
  ·exact key 4 5 g f fun b d=>(zxh b d).2.2
  ·exact key 4 6 g f fun b d=>(zaov b d)
 ·rcases(show d % 7=0∨d % 7=1∨d % 7=2∨d % 7=3∨d % 7=4∨d % 7=5∨d % 7=6 by omega)with f|f|f|f|f|f|f
  ·exact key 5 0 g f fun b d=>(zxi b d).1
  ·exact key 5 1 g f fun b d=>(zxi b d).2.1
  ·exact key 5 2 g f fun b d=>(zxi b d).2.2
  ·exact key 5 3 g f fun b d=>(zxj b d).1
  ·exact key 5 4 g f fun b d=>(zxj b d).2.1
  ·exact key 5 5 g f fun b d=>(zxj b d).2.2
  ·exact key 5 6 g f fun b d=>(zaow b d)
 ·rcases(show d % 7=0∨d % 7=1∨d % 7=2∨d % 7=3∨d % 7=4∨d % 7=5∨d % 7=6 by omega)with f|f|f|f|f|f|f
  ·exact key 6 0 g f fun b d=>(zxk b d).1
  ·exact key 6 1 g f fun b d=>(zxk b d).2.1
  ·exact key 6 2 g f fun b d=>(zxk b d).2.2
  ·exact key 6 3 g f fun b d=>(zxl b d).1
  ·exact key 6 4 g f fun b d=>(zxl b d).2.1
  ·exact key 6 5 g f fun b d=>(zxl b d).2.2
  ·exact key 6 6 g f fun b d=>(zaox b d)
theorem zaxm {a b d:Int} (ha : -9223372036854775808≤a∧a<9223372036854775808) (hb : -9223372036854775808≤b∧b<9223372036854775808) (hd : -9223372036854775808≤d∧d<9223372036854775808) (h0:a % (7:Int)=6) (H:List IBlk):CW tr.look F_Q4 [.p (.int .i64 a), .p (.int .i64 b), .p (.int .i64 d)] H=some (.p (.bool true),H):=by
 have key:=fun i j h1 h2 hc=>zdg (a:=a) (b:=b) (d:=d) 6 i j (by decide) ha hb hd h0 h1 h2 mvS6 hc H
 have b0:=Int.emod_nonneg b (show(8:Int)≠0 by decide)
 have b1:=Int.emod_lt_of_pos b (show(0:Int)<8 by decide)
 have d0:=Int.emod_nonneg d (show(8:Int)≠0 by decide)
 have d1:=Int.emod_lt_of_pos d (show(0:Int)<8 by decide)
 rcases(show b % 8=0∨b % 8=1∨b % 8=2∨b % 8=3∨b % 8=4∨b % 8=5∨b % 8=6∨b % 8=7 by omega)with g|g|g|g|g|g|g|g
 ·rcases(show d % 8=0∨d % 8=1∨d % 8=2∨d % 8=3∨d % 8=4∨d % 8=5∨d % 8=6∨d % 8=7 by omega)with f|f|f|f|f|f|f|f
  ·exact key 0 0 g f fun b d=>(zxm b d).1
  ·exact key 0 1 g f fun b d=>(zxm b d).2.1
  ·exact key 0 2 g f fun b d=>(zxm b d).2.2
  ·exact key 0 3 g f fun b d=>(zxn b d).1
  ·exact key 0 4 g f fun b d=>(zxn b d).2.1
  ·exact key 0 5 g f fun b d=>(zxn b d).2.2
  ·exact key 0 6 g f fun b d=>(zagn b d).1
  ·exact key 0 7 g f fun b d=>(zagn b d).2
 ·rcases(show d % 8=0∨d % 8=1∨d % 8=2∨d % 8=3∨d % 8=4∨d % 8=5∨d % 8=6∨d % 8=7 by omega)with f|f|f|f|f|f|f|f
  ·exact key 1 0 g f fun b d=>(zxo b d).1
  ·exact key 1 1 g f fun b d=>(zxo b d).2.1
  ·exact key 1 2 g f fun b d=>(zxo b d).2.2
  ·exact key 1 3 g f fun b d=>(zxp b d).1
  ·exact key 1 4 g f fun b d=>(zxp b d).2.1
  ·exact key 1 5 g f fun b d=>(zxp b d).2.2
  ·exact key 1 6 g f fun b d=>(zago b d).1
  ·exact key 1 7 g f fun b d=>(zago b d).2
 ·rcases(show d % 8=0∨d % 8=1∨d % 8=2∨d % 8=3∨d % 8=4∨d % 8=5∨d % 8=6∨d % 8=7 by omega)with f|f|f|f|f|f|f|f
  ·exact key 2 0 g f fun b d=>(zxq b d).1
  ·exact key 2 1 g f fun b d=>(zxq b d).2.1
  ·exact key 2 2 g f fun b d=>(zxq b d).2.2
  ·exact key 2 3 g f fun b d=>(zxr b d).1
  ·exact key 2 4 g f fun b d=>(zxr b d).2.1
  ·exact key 2 5 g f fun b d=>(zxr b d).2.2
  ·exact key 2 6 g f fun b d=>(zagp b d).1
  ·exact key 2 7 g f fun b d=>(zagp b d).2
 ·rcases(show d % 8=0∨d % 8=1∨d % 8=2∨d % 8=3∨d % 8=4∨d % 8=5∨d % 8=6∨d % 8=7 by omega)with f|f|f|f|f|f|f|f
  ·exact key 3 0 g f fun b d=>(zxs b d).1
  ·exact key 3 1 g f fun b d=>(zxs b d).2.1
  ·exact key 3 2 g f fun b d=>(zxs b d).2.2
  ·exact key 3 3 g f fun b d=>(zxt b d).1
  ·exact key 3 4 g f fun b d=>(zxt b d).2.1
  ·exact key 3 5 g f fun b d=>(zxt b d).2.2
  ·exact key 3 6 g f fun b d=>(zagq b d).1
  ·exact key 3 7 g f fun b d=>(zagq b d).2
 ·rcases(show d % 8=0∨d % 8=1∨d % 8=2∨d % 8=3∨d % 8=4∨d % 8=5∨d % 8=6∨d % 8=7 by omega)with f|f|f|f|f|f|f|f
  ·exact key 4 0 g f fun b d=>(zxu b d).1
  ·exact key 4 1 g f fun b d=>(zxu b d).2.1
  ·exact key 4 2 g f fun b d=>(zxu b d).2.2
  ·exact key 4 3 g f fun b d=>(zxv b d).1
  ·exact key 4 4 g f fun b d=>(zxv b d).2.1
  ·exact key 4 5 g f fun b d=>(zxv b d).2.2
  ·exact key 4 6 g f fun b d=>(zagr b d).1
  ·exact key 4 7 g f fun b d=>(zagr b d).2
 ·rcases(show d % 8=0∨d % 8=1∨d % 8=2∨d % 8=3∨d % 8=4∨d % 8=5∨d % 8=6∨d % 8=7 by omega)with f|f|f|f|f|f|f|f
  ·exact key 5 0 g f fun b d=>(zxw b d).1
  ·exact key 5 1 g f fun b d=>(zxw b d).2.1
  ·exact key 5 2 g f fun b d=>(zxw b d).2.2
  ·exact key 5 3 g f fun b d=>(zxx b d).1
  ·exact key 5 4 g f fun b d=>(zxx b d).2.1
  ·exact key 5 5 g f fun b d=>(zxx b d).2.2
  ·exact key 5 6 g f fun b d=>(zags b d).1
  ·exact key 5 7 g f fun b d=>(zags b d).2
 ·rcases(show d % 8=0∨d % 8=1∨d % 8=2∨d % 8=3∨d % 8=4∨d % 8=5∨d % 8=6∨d % 8=7 by omega)with f|f|f|f|f|f|f|f
  ·exact key 6 0 g f fun b d=>(zxy b d).1
  ·exact key 6 1 g f fun b d=>(zxy b d).2.1
  ·exact key 6 2 g f fun b d=>(zxy b d).2.2
  ·exact key 6 3 g f fun b d=>(zxz b d).1
  ·exact key 6 4 g f fun b d=>(zxz b d).2.1
  ·exact key 6 5 g f fun b d=>(zxz b d).2.2
  ·exact key 6 6 g f fun b d=>(zagt b d).1
  ·exact key 6 7 g f fun b d=>(zagt b d).2
 ·rcases(show d % 8=0∨d % 8=1∨d % 8=2∨d % 8=3∨d % 8=4∨d % 8=5∨d % 8=6∨d % 8=7 by omega)with f|f|f|f|f|f|f|f
  ·exact key 7 0 g f fun b d=>(zya b d).1
  ·exact key 7 1 g f fun b d=>(zya b d).2.1
  ·exact key 7 2 g f fun b d=>(zya b d).2.2
  ·exact key 7 3 g f fun b d=>(zyb b d).1
  ·exact key 7 4 g f fun b d=>(zyb b d).2.1
  ·exact key 7 5 g f fun b d=>(zyb b d).2.2
  ·exact key 7 6 g f fun b d=>(zagu b d).1
  ·exact key 7 7 g f fun b d=>(zagu b d).2
theorem zaoy (a:Int) (wa:(Lit.int .i64 a).wf=true) (b:Int) (wb:(Lit.int .i64 b).wf=true) (d:Int) (wd:(Lit.int .i64 d).wf=true) (H:List IBlk):CW tr.look F_Q4 [.p (.int .i64 a), .p (.int .i64 b), .p (.int .i64 d)] H=some (.p (.bool true),H):=by
 have ha:=wf_i64 wa
 have hb:=wf_i64 wb
 have hd:=wf_i64 wd
 have a0:=Int.emod_nonneg a (show(7:Int)≠0 by decide)
 have a1:=Int.emod_lt_of_pos a (show(0:Int)<7 by decide)
 rcases(show a % 7=0∨a % 7=1∨a % 7=2∨a % 7=3∨a % 7=4∨a % 7=5∨a % 7=6 by omega)with h|h|h|h|h|h|h
 ·exact zaxg ha hb hd h H
 ·exact zaxh ha hb hd h H
 ·exact zaxi ha hb hd h H
 ·exact zaxj ha hb hd h H
 ·exact zaxk ha hb hd h H
 ·exact zaxl ha hb hd h H
 ·exact zaxm ha hb hd h H
end Go.Ideal

/-
  SEAT SCRIPT: WHAT THE ENTRY OF A LAW NEEDS.
-/
namespace Go.Ideal
open Go Go.Proofs Go.ChangeShapes Go.WideShapes Go.RowKit
theorem laidOut:laidOutB Tryz.prog=true:=by kernel_rfl
theorem own:ownKnob Tryz.prog.godebug=none:=by kernel_rfl
theorem readableI:Tryz.prog.readableRec 3=true∧3<Tryz.prog.types.size:=⟨by kernel_rfl,of_decide_eq_true (by kernel_rfl)⟩
theorem boolT:Tryz.prog.underlying 4=some .bool:=Tryz.underlying4
theorem intT:Tryz.prog.underlying 3=some (.int .i64):=Tryz.underlying3
theorem tz0 (z:Cells):TabZ z:=fun _ _ h=>by cases h
end Go.Ideal

/- ScriptMoves returns true for every input and leaves its arguments as they are; no condition. -/
namespace Go.Proofs.YtcicccnimohlaaaGreat.scriptMoves
open Go.Ideal Go.ChangeShapes Go.WideShapes Go.ChangeAt Go.RowKit
set_option maxRecDepth 100000 in
theorem lifted (os:Os) (started:os.Started) (H:Type) (enc:TypeId×Value→H) :
 ReturnsInHanded {} Tryz.checked os 4 .any (Rows.scriptMovesSpec.pre6 enc Tryz.prog Tryz.f4 Rows.scriptMovesRow.domain false) (Rows.scriptMovesSpec.post enc Tryz.prog Tryz.f4 false true false false):=by
 refine returnsInHanded_of_change (C:=Tryz.checked) own started (by kernel_rfl) Tryz.func4
  (ChangeSpec.witness6 (enc:=enc) (C:=Tryz.checked) false ⟨#[],#[.int .i64 0, .int .i64 0, .int .i64 0],[]⟩ 4 (by kernel_rfl) (by kernel_rfl) (by kernel_rfl) (by kernel_rfl)) ?_
 intro W base args ds gs before hval0 hW hcnd _
 have hval:∀(j:Nat) t v,Tryz.f4.params[j]? = some t→args[j]? = some v→Value.okWide Tryz.prog W .any base t v:=hval0
 have hW':=hW
 obtain⟨p,q,hA0,hV,rfl,hfz,hnd⟩:=hW
 have hA:DataW.TrodAll enc Tryz.prog W 0 (fun _=>true) true Tryz.f4.params.toList args.toList ds p:=hA0
 have hA1:=hA
 rw[Tryz.params4]at hA hval
 obtain⟨v0,vs0,d0,ds0,p0,q0,hargs,rfl,rfl,h0,r0⟩:=trodAll_cons hA
 obtain⟨v1,vs1,d1,ds1,p1,q1,rfl,rfl,rfl,h1,r1⟩:=trodAll_cons r0
 obtain⟨v2,vs2,d2,ds2,p2,q2,rfl,rfl,rfl,h2,r2⟩:=trodAll_cons r1
 obtain⟨rfl,rfl,rfl⟩:=trodAll_nil r2
 obtain rfl:args = #[v0,v1,v2]:=by cases args;simp_all
 obtain⟨rfl,rfl⟩:=trodVars_none hV
 obtain⟨a,w0,s0⟩:=zpe intT (hval 0 _ v0 rfl rfl) h0
 obtain⟨b,w1,s1⟩:=zpe intT (hval 1 _ v1 rfl rfl) h1
 obtain⟨c,w2,s2⟩:=zpe intT (hval 2 _ v2 rfl rfl) h2
 have hlt:=fun x hx=>hW'.lt x hx
 clear hA0 hval0
 simp only[List.append_nil]at hW' hlt
 refine(zamv tr_mixed tr_prog zawv (zaoy a w0 b w1 c w2 []) (tz0 _) (rs:=[v0,v1,v2]) ⟨_,_,rfl,s0.1,s0.2 (tz0 _),_,_,rfl,s1.1,s1.2 (tz0 _),_,_,rfl,s2.1,s2.2 (tz0 _),rfl⟩).mono fun e W' ⟨he,hg⟩=>?_
 subst he
 refine⟨_,rfl,zabp (pa:=p0++(p1++(p2++[]))) (pv:=[]) hW' (fun _ _ _=>(trodAll_cons_mk (shut_bool boolT _) trodAll_mk0)) (fun sp hsp=>?_) (fun _ _=>rfl) (by simp)
  (hg.frame _) hg.2.1 (ok_one (by kernel_rfl) rfl (okWide_bool_mk boolT _))⟩
 exact znl laidOut (fun t ht=>by rw[Tryz.params4]at ht;simp at ht;subst ht;exact readableI) hA1 (fun x hx=>zald hg (by simpa using hlt x (by simpa using hx))) (fun x hx=>hsp x (by simpa using hx))
theorem over:Rows.scriptMovesRow.holds Tryz.pinned (OpenSpec.ofChange Rows.scriptMovesSpec) :=
 OpenClaim.holds_of_wide 4 Tryz.f4 rfl rfl rfl rfl rfl rfl rfl ⟨rfl,rfl,rfl,rfl,rfl⟩ rfl rfl rfl rfl rfl (by kernel_rfl) Tryz.func4 (by kernel_rfl)
  (of_decide_eq_true (by kernel_rfl)) (by unfold Func.isWrapper;first|(rw[if_pos (by decide +kernel)];kernel_rfl)|(rw[if_neg (by decide +kernel)];exact⟨rfl,rfl⟩))
  (fun os started H enc _=>lifted os started H enc)
theorem proved:Rows.ScriptMovesSaid :=
 over
#print axioms proved
end Go.Proofs.YtcicccnimohlaaaGreat.scriptMoves
