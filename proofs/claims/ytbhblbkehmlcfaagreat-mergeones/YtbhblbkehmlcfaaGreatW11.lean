/-
  MergeOnes: THE CALLS OF Place CUT OUT, where the loop is left; THE CASES.
-/
import Derived.Test.YtbhblbkehmlcfaaGreatW10
namespace Go.Ideal
open Go
set_option maxHeartbeats 4000000
set_option maxRecDepth 100000
theorem zbie (F:WO) (L:Nat) (x y z:Int) (b:Bool) (h:FH) (kr:IVal→FH→WR):zdu F L [vi x,vi y,vi z, .p (.bool b)] h kr =
 gonH (fun c h k=>F 7 [vi x,c] h k) (fun i j=>gonT (fun c h k=>F 7 [vi i,c] h k) (fun c h k=>F 7 [vi j,c] h k) F L kr) F L y z b h:=by kernel_rfl
noncomputable def onX (x:Nat):WR:=gonH (Qm (pt 6 x fun _=>0)) (fun _ _ ck _ rk hk=>some ([iN ck, .agg rk],⟨[],hk⟩)) (fun _ _ _ _=>none) 1000000 0 0 true ⟨.e,0, .e⟩
noncomputable def oK (r:WR):Nat:=match r with|some (.p (.int _ (.ofNat n))::_,_)=>n|_=>0
noncomputable def oR (r:WR):LI:=match r with|some (_ :: .agg l::_,_)=>l|_=>[]
noncomputable def xoH (r:WR):FH:=match r with|some (_,m)=>m.h|_=>⟨.e,0, .e⟩
theorem zaso (u:Int→Int) (Q:Int→Int→Nat→Bool→LI→FH→WR) (F:WO) (i j:Int) (b:Bool):gonH (Qm (pt 6 0 u)) Q F 1000000 i j b ⟨.e,0, .e⟩=Q i j (oK (onX 0)) b (oR (onX 0)) (xoH (onX 0)):=by kernel_rfl
theorem zasp (u:Int→Int) (Q:Int→Int→Nat→Bool→LI→FH→WR) (F:WO) (i j:Int) (b:Bool):gonH (Qm (pt 6 1 u)) Q F 1000000 i j b ⟨.e,0, .e⟩=Q i j (oK (onX 1)) b (oR (onX 1)) (xoH (onX 1)):=by kernel_rfl
theorem zasq (u:Int→Int) (Q:Int→Int→Nat→Bool→LI→FH→WR) (F:WO) (i j:Int) (b:Bool):gonH (Qm (pt 6 2 u)) Q F 1000000 i j b ⟨.e,0, .e⟩=Q i j (oK (onX 2)) b (oR (onX 2)) (xoH (onX 2)):=by kernel_rfl
theorem zasr (u:Int→Int) (Q:Int→Int→Nat→Bool→LI→FH→WR) (F:WO) (i j:Int) (b:Bool):gonH (Qm (pt 6 3 u)) Q F 1000000 i j b ⟨.e,0, .e⟩=Q i j (oK (onX 3)) b (oR (onX 3)) (xoH (onX 3)):=by kernel_rfl
theorem zass (u:Int→Int) (Q:Int→Int→Nat→Bool→LI→FH→WR) (F:WO) (i j:Int) (b:Bool):gonH (Qm (pt 6 4 u)) Q F 1000000 i j b ⟨.e,0, .e⟩=Q i j (oK (onX 4)) b (oR (onX 4)) (xoH (onX 4)):=by kernel_rfl
theorem zast (u:Int→Int) (Q:Int→Int→Nat→Bool→LI→FH→WR) (F:WO) (i j:Int) (b:Bool):gonH (Qm (pt 6 5 u)) Q F 1000000 i j b ⟨.e,0, .e⟩=Q i j (oK (onX 5)) b (oR (onX 5)) (xoH (onX 5)):=by kernel_rfl
noncomputable def onI:MT→WR:=fun _=>endX
def onT (x m p q:Nat) (w:Bool):Prop:=∀i j u v w0,gonH (Qm (pt 6 x u)) (fun _ _=>gonT (Qm (pt m p v)) (Qm (pt m q w0)) cG 1000000 (nextK onI)) cG 1000000 i j w ⟨.e,0, .e⟩=endX
theorem onB {x m p q:Nat} (ht:onT x m p q true) (hf:onT x m p q false) (w:Bool) {y z s:Int} (h1:y % ((6:Nat):Int)=x) (h2:z % (m:Int)=p) (h3:s % (m:Int)=q) (H:List IBlk):CW tr.look F_Q3 [vi y,vi z,vi s, .p (.bool w)] H=some (.p (.bool true),H):=by
 have hr:onT x m p q w:=by cases w with|true=>exact ht|false=>exact hf
 have hr:=hr z s (fun b=>y % b) (fun b=>z % b) (fun b=>s % b)
 rw[pt_eq (show(fun b=>z % b) (m:Int)=p from h2),pt_eq (show(fun b=>s % b) (m:Int)=q from h3)]at hr
 have hx:x<6:=by have:=Int.emod_lt_of_pos y (show(0:Int)<6 by omega);omega
 have key:∀Q:Int→Int→Nat→Bool→LI→FH→WR,gonH (Qm fun b=>y % b) Q cG 1000000 z s w ⟨.e,0, .e⟩=gonH (Qm fun b=>y % b) (fun _ _=>Q z s) cG 1000000 z s w ⟨.e,0, .e⟩:=by
  intro Q
  rw[← pt_eq (u:=fun b=>y % b) (show(fun b=>y % b) ((6:Nat):Int)=x from h1)]
  match x,hx with
  |0,_=>exact(zaso _ Q cG z s w).trans (zaso _ (fun _ _=>Q z s) cG z s w).symm
  |1,_=>exact(zasp _ Q cG z s w).trans (zasp _ (fun _ _=>Q z s) cG z s w).symm
  |2,_=>exact(zasq _ Q cG z s w).trans (zasq _ (fun _ _=>Q z s) cG z s w).symm
  |3,_=>exact(zasr _ Q cG z s w).trans (zasr _ (fun _ _=>Q z s) cG z s w).symm
  |4,_=>exact(zass _ Q cG z s w).trans (zass _ (fun _ _=>Q z s) cG z s w).symm
  |5,_=>exact(zast _ Q cG z s w).trans (zast _ (fun _ _=>Q z s) cG z s w).symm
 rw[pt_eq (show(fun b=>y % b) ((6:Nat):Int)=x from h1)]at hr
 have e:zdu cG 1000000 [vi y,vi z,vi s, .p (.bool w)] ⟨.e,0, .e⟩ (nextK onI)=endX:=by
  rw[zbie]
  simp only[zbci]
  rw[key]
  exact hr
 exact(zbcj (l:=[.int .i64 y, .int .i64 z, .int .i64 s, .bool w]) zfv rfl (c := .e) trivial (ih:=onI) (show zdv.code cG 1000000 (List.map .p [.int .i64 y, .int .i64 z, .int .i64 s, .bool w]) ⟨.e,0, .e⟩ (nextK onI)=some _ from e)).1 H
end Go.Ideal
