/-
  IDEAL SEMANTICS, 82: THE OPERATIONS ON THE HEAP.
-/
import Derived.Test.YtbhblbkehmlcfaaGreatW6
import Derived.Test.YtbhblbkehmlcfaaGreatW3
namespace Go.Ideal
open Go
set_option linter.unusedSectionVars false
variable [Kept]
theorem getW (B:List (Nat×IBlk)) (H:List IBlk) (i:Nat):Mem.get ⟨B,H⟩ (.heap i)=H[i]? := (rfl)
theorem putW (B:List (Nat×IBlk)) (H:List IBlk) (i:Nat) (b:IBlk):Mem.put ⟨B,H⟩ (.heap i) b=⟨B,H.set i b⟩:=(rfl)
noncomputable def zacw (z:List PVal):HF:=fun h k=>lall (gpc z) fun cs=>hpush h (.cells cs (llen z) 0 false) fun i h=>k (.ptr (.heap i) 0 0) h
theorem zanx {z:List PVal}:HOK3 (zacw z) (.alloc none z):=fun {h H k x} hh e=>by
 unfold zacw at e
 rw[zag,zep,zaf]at e
 obtain⟨h',h1,h2⟩:=zcs hh e
 exact⟨_,_,h',fun C B=>rfl,h1,h2⟩
noncomputable def zug (z:List PVal) (es:Nat):HF:=fun h k=>lall (gpc z) fun cs=>hpush h (.cells cs es 0 false) fun i h=>k (.ptr (.heap i) 0 0) h
theorem zajt {z:List PVal} {es:Nat}:HOK3 (zug z es) (.allocA z es):=fun {h H k x} hh e=>by
 unfold zug at e
 rw[zag,zep]at e
 obtain⟨h',h1,h2⟩:=zcs hh e
 exact⟨_,_,h',fun C B=>rfl,h1,h2⟩
noncomputable def h_box (n:Nat) (v:IVal):HF:=fun h k=>cofn n v fun cs=>hpush h (.cells cs n 0 false) fun i h=>k (.ptr (.heap i) 0 0) h
theorem zavz {n:Nat} {x:Opd}:HOK3 (h_box n (cv x)) (.box none n x):=fun {h H k y} hh e=>by
 obtain⟨cs,h1,h2,h3⟩:=zpl e
 rw[cv_eq]at h1
 obtain⟨h',h4,h5⟩:=zcs hh h3
 have hb:Nat.beq cs.length n=true:=by rw[h2];exact Nat.beq_refl n
 exact⟨_,_,h',fun C B=>by simp only[evalOp,h1,hb,newBlk],h4,h5⟩
noncomputable def zct (es n:Nat) (z:List PVal) (p:List (Nat×Nat×IVal)):HF:=fun h k=>wfill p (grepl n z) fun cs=>hpush h (.cells cs es 0 false) fun i h=>k (.slice i 0 0 n) h
theorem zwr {es n:Nat} {z:List PVal} {p:List (Nat×Nat×Opd)}:HOK3 (zct es n z (cvp p)) (.buildSlice es n z p):=fun {h H k y} hh e=>by
 obtain⟨cs,hf,e⟩:=zrh e
 rw[zgk]at hf
 obtain⟨h',h4,h5⟩:=zcs hh e
 exact⟨_,_,h',fun C B=>by simp only[evalOp,hf],h4,h5⟩
noncomputable def zaju:HF:=fun h k=>hpush h (.map [] 0) fun i h=>k (.map i) h
theorem zany:HOK3 zaju .mkMap:=fun {h H k y} hh e=>by
 obtain⟨h',h4,h5⟩:=zcs hh e
 exact⟨_,_,h',fun C B=>rfl,h4,h5⟩
noncomputable def zbw (es:Nat) (z:List PVal) (n c:IVal):HF:=fun h k=>w64 n (fun a=>w64 c (fun b=>ift (Nat.ble a b) (ift (Nat.ble b 4294967296) (lall (grepl b z) fun cs=>hpush h (.cells cs es 0 false) fun i h=>k (.slice i 0 0 a) h))) none) none
theorem zagr {es:Nat} {z:List PVal} {n c:Opd}:HOK3 (zbw es z (cv n) (cv c)) (.mkSlice es z n c):=fun {h H k y} hh e=>by
 unfold zbw at e
 rw[cv_eq,cv_eq]at e
 obtain⟨a,ha,e⟩:=zil e
 obtain⟨b,hb,e⟩:=zil e
 obtain⟨h1,e⟩:=zak e
 obtain⟨h2,e⟩:=zak e
 have h1:=Nat.le_of_ble_eq_true h1
 have h2:=Nat.le_of_ble_eq_true h2
 rw[zag,zgk]at e
 obtain⟨h',h4,h5⟩:=zcs hh e
 have hc:0≤Int.ofNat a∧Int.ofNat a≤Int.ofNat b∧Int.ofNat b≤4294967296:=⟨Int.natCast_nonneg a,Int.ofNat_le.2 h1,by have:=Int.ofNat_le.2 h2;exact this⟩
 exact⟨_,_,h',fun C B=>by simp only[evalOp,ha,hb,if_pos hc];rfl,h4,h5⟩
noncomputable def whi (n:Nat) (o:Option IVal) (k:Nat→WR):WR:=Option.rec (motive:=fun _=>WR) (k n) (fun v=>w64 v (fun a=>ift (Nat.ble a n) (k a)) none) o
noncomputable def wlo (n:Nat) (o:Option IVal) (k:Nat→WR):WR:=Option.rec (motive:=fun _=>WR) (k 0) (fun v=>w64 v (fun a=>ift (Nat.ble a n) (k a)) none) o
theorem wbnd {n:Nat} {v:IVal} {k:Nat→WR} {x:WX} (h:w64 v (fun a=>ift (Nat.ble a n) (k a)) none=some x):∃a,asBound n v=some a∧k a=some x:=by
 obtain⟨a,rfl,h⟩:=zil h
 obtain⟨h1,h2⟩:=zak h
 refine⟨a,?_,h2⟩
 rw[← zij]
 show(Bool.rec none (some a) (Nat.ble a n):Option Nat)=_
 rw[h1]
theorem zamm {n:Nat} {o:Option Opd} {k:Nat→WR} {x:WX} (h:whi n (cvo o) k=some x):∃a,boundHi noRho n o=some a∧k a=some x:=by
 cases o with
 |none=>exact⟨n,rfl,h⟩
 |some y =>
  obtain⟨a,h1,h2⟩:=wbnd (show w64 (cv y) _ none=some x from h)
  rw[cv_eq]at h1
  exact⟨a,h1,h2⟩
theorem zamn {n:Nat} {o:Option Opd} {k:Nat→WR} {x:WX} (h:wlo n (cvo o) k=some x):∃a,boundLo noRho n o=some a∧k a=some x:=by
 cases o with
 |none=>exact⟨0,rfl,h⟩
 |some y =>
  obtain⟨a,h1,h2⟩:=wbnd (show w64 (cv y) _ none=some x from h)
  rw[cv_eq]at h1
  exact⟨a,h1,h2⟩
noncomputable def zfu (es:Nat) (x:IVal) (lo hi:Option IVal):HF:=fun h k=>wSl x (fun i v o n=>whi n hi fun b=>wlo b lo fun l=>hcells h i fun _ e w _=>wbeq e es (wbeq v w (nforce (o+l*es) fun a=>nforce (b-l) fun c=>k (.slice i v a c) h))) (vv (zhh es x lo hi) fun v=>k v h)
theorem zags {es:Nat} {x:Opd} {lo hi:Option Opd}:HOK3 (zfu es (cv x) (cvo lo) (cvo hi)) (.sliceSl es x lo hi):=fun {h H k y} hh e=>by
 have fz:(∀ C M,evalOp C noRho M (.sliceSl es x lo hi)=(evalOp wC noRho ⟨[],[]⟩ (.sliceSl es x lo hi)).map fun p=>(p.1,M))→vv (zhh es (cv x) (cvo lo) (cvo hi)) (fun v=>k v h)=some y→∃v H' h',(∀ C B,evalOp C noRho ⟨B,H⟩ (.sliceSl es x lo hi)=some (v,⟨B,H'⟩))∧RH h' H'∧k v h'=some y:=fun hM g=>by
  obtain⟨v,h1,h2⟩:=vv_ok (o := .sliceSl es x lo hi) (fun C M=>zari (.sliceSl es x lo hi) C M) hM g
  exact⟨v,H,h,fun C B=>h1 C _,hh,h2⟩
 unfold zfu at e
 generalize hg:vv (zhh es (cv x) (cvo lo) (cvo hi)) (fun v=>k v h)=g at e
 simp only[evalOp]at fz ⊢
 rw[cv_eq]at e
 cases hv:noRho x with
 |p u =>
  rw[hv]at e
  simp only[hv]at fz
  cases u with
  |nilslice=>exact fz (fun C M=>by cases hh:boundHi noRho 0 hi<;>simp only[Option.map_none]<;>(rename_i q;cases boundLo noRho q lo<;>rfl)) (hg.trans e)
  |slice e' n cs=>exact fz (fun C M=>by cases hb:Nat.beq e' es<;>cases hh:boundHi noRho n hi<;>simp only[hb,hh,Option.map_none]<;>(rename_i q;cases boundLo noRho q lo<;>rfl)) (hg.trans e)
  |_=>exact fz (fun C M=>rfl) (hg.trans e)
 |slice i v o n =>
  rw[hv]at e
  obtain⟨b,h1,e2⟩:=zamm (show whi n (cvo hi) (fun b=>wlo b (cvo lo) fun l=>hcells h i fun _ e w _=>wbeq e es (wbeq v w (nforce (o+l*es) fun a=>nforce (b-l) fun c=>k (.slice i v a c) h)))=some y from e)
  obtain⟨l,h2,e3⟩:=zamn e2
  obtain⟨cs,e',w,op,g1,e4⟩:=zbv hh e3
  obtain⟨g2,e5⟩:=zae e4
  obtain⟨g3,e6⟩:=zae e5
  rw[zan,zan]at e6
  have hb:(Nat.beq e' es&&Nat.beq v w)=true:=by rw[g2,g3,Nat.beq_refl,Nat.beq_refl];rfl
  exact⟨_,H,h,fun C B=>by simp only[h1,h2,getW,g1,hb],hh,e6⟩
 |_=>simp only[hv]at fz;rw[hv]at e;exact fz (fun C M=>rfl) (hg.trans e)
noncomputable def zhi (len es:Nat) (x:IVal) (lo hi:Option IVal):HF:=fun h k=>wHp x (fun i v o=>whi len hi fun b=>wlo b lo fun l=>hcells h i fun cs e w op=>wbeq e es (wbeq v w (wbeq (o+len*es) (llen cs) (wshut op (nforce (o+l*es) fun a=>nforce (b-l) fun c=>k (.slice i v a c) h))))) none
theorem zanz {op:Bool} {e:WR} {x:WX} (h:wshut op e=some x):op=false∧e=some x:=by
 cases op with
 |true=>cases h
 |false=>exact⟨rfl,h⟩
theorem zacx {len es:Nat} {x:Opd} {lo hi:Option Opd}:HOK3 (zhi len es (cv x) (cvo lo) (cvo hi)) (.sliceArr len es x lo hi):=fun {h H k y} hh e=>by
 unfold zhi at e
 rw[cv_eq]at e
 obtain⟨i,v,o,hv,e⟩:=zamj e
 obtain⟨b,h1,e⟩:=zamm e
 obtain⟨l,h2,e⟩:=zamn e
 obtain⟨cs,e',w,op,g1,e⟩:=zbv hh e
 obtain⟨g2,e⟩:=zae e
 obtain⟨g3,e⟩:=zae e
 obtain⟨g4,e⟩:=zae e
 obtain⟨g5,e⟩:=zanz e
 rw[zaf]at g4
 rw[zan,zan]at e
 have hb:((Nat.beq e' es&&Nat.beq v w)&&(Nat.beq (o+len*es) cs.length&&!op))=true:=by rw[g2,g3,g4,g5,Nat.beq_refl,Nat.beq_refl,Nat.beq_refl];rfl
 exact⟨_,H,h,fun C B=>by simp only[evalOp,hv,h1,h2,getW,g1,hb],hh,e⟩
noncomputable def hsrc (h:FH) (es:Nat) (y:IVal) (f:List IVal→Nat→WR):WR:=match y with
 | .p .nilslice=>f [] 0
 | .p (.slice e n cs)=>wbeq e es (lall (gpc cs) fun l=>f l n)
 | .p (.str s)=>wbeq 1 es (lall (gbytes s) fun l=>nforce (llen s) fun n=>f l n)
 | .slice k ver off n=>hcells h k fun cs e v _=>wbeq ver v (wbeq e es (nforce (n*es) fun q=>Bool.rec (motive:=fun _=>WR) (wcut cs off q fun l=>f l n) (ift (Nat.ble off (llen cs)) (f [] n)) (Nat.beq q 0)))
 |_=>none
theorem zagt {h:FH} {H:List IBlk} (hh:RH h H) {es:Nat} {y:IVal} {f:List IVal→Nat→WR} {x:WX} (e:hsrc h es y f=some x):∃ys n,(∀ B,srcCells ⟨B,H⟩ es y=some ys)∧srcLen y=some n∧f ys n=some x:=by
 unfold hsrc at e
 split at e
 ·exact⟨_,_,fun B=>rfl,rfl,e⟩
 ·rename_i e' n cs
  obtain⟨h1,e⟩:=zae e
  rw[zag,zep]at e
  exact⟨_,_,fun B=>by simp only[srcCells,h1,Nat.beq_refl],rfl,e⟩
 ·rename_i s
  obtain⟨h1,e⟩:=zae e
  rw[zag,zwb,zan,zaf]at e
  exact⟨_,_,fun B=>by simp only[srcCells,←h1,Nat.beq_refl],rfl,e⟩
 ·rename_i k ver off n
  obtain⟨cs,e',w,o,g1,e⟩:=zbv hh e
  obtain⟨g2,e⟩:=zae e
  obtain⟨g3,e⟩:=zae e
  rw[zan]at e
  have key:Nat.ble (off+n*es) cs.length=true→f ((cs.drop off).take (n*es)) n=some x→∃ys q,(∀ B,srcCells ⟨B,H⟩ es (.slice k ver off n)=some ys)∧srcLen (.slice k ver off n)=some q∧f ys q=some x:=fun hl hf=>by
   have hb:((Nat.beq ver w&&Nat.beq e' es)&&Nat.ble (off+n*es) cs.length)=true:=by rw[g2,g3,Nat.beq_refl,Nat.beq_refl,hl];rfl
   exact⟨_,_,fun B=>by simp only[srcCells,getW,g1,hb],rfl,hf⟩
  cases hz:Nat.beq (n*es) 0 with
  |true =>
   rw[hz]at e
   have hz:=Nat.eq_of_beq_eq_true hz
   obtain⟨g4,e⟩:=zak e
   rw[zaf]at g4
   exact key (by rw[hz];exact g4) (by rw[hz,List.take_zero];exact e)
  |false =>
   rw[hz]at e
   obtain⟨g4,e⟩:=zagp e
   have:n*es≠0:=fun h=>by rw[h]at hz;cases hz
   exact key (Nat.ble_eq_true_of_le (by omega)) e
 ·cases e
noncomputable def zad (es:Nat) (x y:IVal):HF:=fun h k=>hsrc h es y fun ys ny=>match x with
 | .p .nilslice=>ift (Nat.ble (0+ny) maxAppend) (Bool.rec (motive:=fun _=>WR) (hpush h (.cells ys es 0 true) fun i h=>k (.slice i 0 0 ny) h) (k x h) (Nat.beq ny 0))
 | .slice i ver off n=>ift (Nat.ble (n+ny) maxAppend) (hcells h i fun cs e v o=>wbeq ver v (wbeq e es (nforce (n*es) fun q=>nforce (llen cs) fun len=>ift (Nat.ble (off+q) len) (Bool.rec (motive:=fun _=>WR)
  (nforce (n+ny) fun nn=>Bool.rec (motive:=fun _=>WR) (wtk q (qdrop off cs) ys fun cs'=>nforce (v+1) fun v'=>hset h i (.cells cs' e v' true) fun h=>k (.slice i v' 0 nn) h) (wspl cs (off+q) ys fun cs'=>hset h i (.cells cs' e v o) fun h=>k (.slice i ver off nn) h) (Nat.ble (off+(n+ny)*es) len)) (k x h) (Nat.beq ny 0)))))
 | .clip i ver off n=>ift (Nat.ble (n+ny) maxAppend) (hcells h i fun cs e v _=>wbeq ver v (wbeq e es (nforce (n*es) fun q=>ift (Nat.ble (off+q) (llen cs)) (Bool.rec (motive:=fun _=>WR) (nforce (n+ny) fun nn=>wtk q (qdrop off cs) ys fun cs'=>hpush h (.cells cs' es 0 true) fun j h=>k (.slice j 0 0 nn) h) none (Nat.beq ny 0)))))
 |_=>none
theorem zajv {es:Nat} {x y:Opd}:HOK3 (zad es (cv x) (cv y)) (.append es x y):=fun {h H k z} hh e=>by
 unfold zad at e
 rw[cv_eq,cv_eq]at e
 obtain⟨ys,ny,g1,g2,e⟩:=zagt hh e
 simp only[evalOp]
 split at e
 ·rename_i hx
  rw[hx]
  obtain⟨hb,e⟩:=zak e
  cases h0:Nat.beq ny 0 with
  |true =>
   rw[h0,hx]at e
   exact⟨_,H,h,fun C B=>by simp only[evalAppend,evalAppend0,g1,g2,sliceLen,hb,h0],hh,e⟩
  |false =>
   rw[h0]at e
   obtain⟨h',k1,k2⟩:=zcs hh e
   exact⟨_,_,h',fun C B=>by simp only[evalAppend,evalAppend0,g1,g2,sliceLen,hb,h0],k1,k2⟩
 ·rename_i i ver off n hx
  rw[hx]
  obtain⟨hb,e⟩:=zak e
  obtain⟨cs,e',v,o,q1,e⟩:=zbv hh e
  obtain⟨q2,e⟩:=zae e
  obtain⟨q3,e⟩:=zae e
  rw[zan,zan,zaf]at e
  obtain⟨q4,e⟩:=zak e
  have hc:((Nat.beq ver v&&Nat.beq e' es)&&Nat.ble (off+n*es) cs.length)=true:=by rw[q2,q3,Nat.beq_refl,Nat.beq_refl,q4];rfl
  cases h0:Nat.beq ny 0 with
  |true =>
   rw[h0,hx]at e
   exact⟨_,H,h,fun C B=>by simp only[evalAppend,evalAppend0,g1,g2,sliceLen,hb,h0,getW,q1,hc],hh,e⟩
  |false =>
   rw[h0]at e
   dsimp only at e
   rw[zan]at e
   cases hd:Nat.ble (off+(n+ny)*es) cs.length with
   |true =>
    rw[hd]at e
    obtain⟨_,e⟩:=zkn e
    obtain⟨h',j1,j2⟩:=zch hh q1 e
    exact⟨_,_,h',fun C B=>by simp only[evalAppend,evalAppend0,g1,g2,sliceLen,hb,h0,getW,putW,q1,hc,hd],j1,j2⟩
   |false =>
    rw[hd]at e
    obtain⟨_,e⟩:=zuf e
    rw[zan,zue]at e
    obtain⟨h',j1,j2⟩:=zch hh q1 e
    exact⟨_,_,h',fun C B=>by simp only[evalAppend,evalAppend0,g1,g2,sliceLen,hb,h0,getW,putW,q1,hc,hd],j1,j2⟩
 ·rename_i i ver off n hx
  rw[hx]
  obtain⟨hb,e⟩:=zak e
  obtain⟨cs,e',v,o,q1,e⟩:=zbv hh e
  obtain⟨q2,e⟩:=zae e
  obtain⟨q3,e⟩:=zae e
  rw[zan]at e
  obtain⟨q4,e⟩:=zak e
  rw[zaf]at q4
  have hc:((Nat.beq ver v&&Nat.beq e' es)&&Nat.ble (off+n*es) cs.length)=true:=by rw[q2,q3,Nat.beq_refl,Nat.beq_refl,q4];rfl
  cases h0:Nat.beq ny 0 with
  |true=>rw[h0]at e;cases e
  |false =>
   rw[h0]at e
   dsimp only at e
   rw[zan]at e
   obtain⟨_,e⟩:=zuf e
   rw[zue]at e
   obtain⟨h',j1,j2⟩:=zcs hh e
   have hb2:(Nat.ble (n+ny) maxAppend&&!(Nat.beq ny 0))=true:=by rw[hb,h0];rfl
   exact⟨_,_,h',fun C B=>by simp only[evalAppend,g1,g2,hb2,getW,q1,hc],j1,j2⟩
 ·cases e
noncomputable def wlook (ok:Bool) (v:IVal) (b:Bool) (k:IVal→WR):WR:=Bool.rec (motive:=fun _=>WR) (k v) (k (.tup [v, .p (.bool b)])) ok
theorem zrj {ok:Bool} {v:IVal} {b:Bool} {k:IVal→WR} {x:WX} (e:wlook ok v b k=some x):∃u,(∀ M,lookRes M ok v b=some (u,M))∧k u=some x:=by
 cases ok with
 |true=>exact⟨_,fun M=>rfl,e⟩
 |false=>exact⟨_,fun M=>rfl,e⟩
noncomputable def zaj (ok:Bool) (z:IVal) (c:KTy) (x key:IVal):HF:=fun h k=>ift (gisKey c key) (match x with
 | .p .nilmap=>wlook ok z false fun v=>k v h
 | .map i=>hmap h i fun es _=>match gfindEnt c key es 0 with
   |some (some (_,v))=>wlook ok v true fun v=>k v h
   |some none=>wlook ok z false fun v=>k v h
   |none=>none
 |_=>none)
theorem zajw {ok:Bool} {z:IVal} {c:KTy} {x key:Opd}:HOK3 (zaj ok z c (cv x) (cv key)) (.lookup ok z c x key):=fun {h H k y} hh e=>by
 unfold zaj at e
 rw[cv_eq,cv_eq,zeg]at e
 obtain⟨hk,e⟩:=zak e
 simp only[evalOp,hk]
 split at e
 ·rename_i hx
  rw[hx]
  obtain⟨u,h1,h2⟩:=zrj e
  exact⟨u,H,h,fun C B=>h1 _,hh,h2⟩
 ·rename_i i hx
  rw[hx]
  obtain⟨es,ck,h1,h2⟩:=zft hh e
  rw[zbo]at h2
  cases hf:findEnt c (noRho key) es 0 with
  |none=>rw[hf]at h2;cases h2
  |some q =>
   rw[hf]at h2
   cases q with
   |none =>
    obtain⟨u,h3,h4⟩:=zrj h2
    exact⟨u,H,h,fun C B=>by simp only[getW,h1,hf,h3],hh,h4⟩
   |some p =>
    obtain⟨j,v⟩:=p
    obtain⟨u,h3,h4⟩:=zrj h2
    exact⟨u,H,h,fun C B=>by simp only[getW,h1,hf,h3],hh,h4⟩
 ·cases e
noncomputable def zbp (c:KTy) (x key v:IVal):HF:=fun h k=>ift (gisKey c key) (ift (passB v) (match x with
 | .map i=>hmap h i fun es clock=>match gfindEnt c key es 0 with
   |some (some (j,_))=>lall (gmodify es j fun e=>(key,v,e.2.2)) fun es=>hset h i (.map es clock) fun h=>k (.tup []) h
   |some none=>lall (lapp es [(key,v,clock)]) fun es=>nforce (clock+1) fun ck=>hset h i (.map es ck) fun h=>k (.tup []) h
   |none=>none
 |_=>none))
theorem zajx {c:KTy} {x key v:Opd}:HOK3 (zbp c (cv x) (cv key) (cv v)) (.mapUpd c x key v):=fun {h H k y} hh e=>by
 unfold zbp at e
 rw[cv_eq,cv_eq,cv_eq,zeg,zpf]at e
 obtain⟨hk,e⟩:=zak e
 obtain⟨hp,e⟩:=zak e
 simp only[evalOp,hk,hp]
 split at e
 ·rename_i i hx
  rw[hx]
  obtain⟨es,ck,h1,h2⟩:=zft hh e
  rw[zbo]at h2
  cases hf:findEnt c (noRho key) es 0 with
  |none=>rw[hf]at h2;cases h2
  |some q =>
   rw[hf]at h2
   cases q with
   |none =>
    dsimp only at h2
    rw[zag,zan,zdd]at h2
    obtain⟨h',j1,j2⟩:=zch hh h1 h2
    exact⟨_,_,h',fun C B=>by simp only[getW,putW,h1,hf],j1,j2⟩
   |some p =>
    obtain⟨j,u⟩:=p
    dsimp only at h2
    rw[zag,zdt]at h2
    obtain⟨h',j1,j2⟩:=zch hh h1 h2
    exact⟨_,_,h',fun C B=>by simp only[getW,putW,h1,hf],j1,j2⟩
 ·cases e
noncomputable def zfe (z:IVal) (c:KTy) (x key:IVal):HF:=fun h k=>ift (gisKey c key) (match x with
 | .map i=>hmap h i fun es clock=>match gfindEnt c key es 0 with
   |some (some (j,v))=>lall (gmodify es j fun e=>(key,e.2.1,e.2.2)) fun es'=>hset h i (.map es' clock) fun h=>nforce (bornAt es j) fun b=>k (.tup [v, .p (.int .i64 (.ofNat b))]) h
   |some none=>lall (lapp es [(key,z,clock)]) fun es=>nforce (clock+1) fun ck=>hset h i (.map es ck) fun h=>k (.tup [z, .p (.int .i64 (.ofNat clock))]) h
   |none=>none
 |_=>none)
theorem zajy {z:IVal} {c:KTy} {x key:Opd}:HOK3 (zfe z c (cv x) (cv key)) (.mapEnt z c x key):=fun {h H k y} hh e=>by
 unfold zfe at e
 rw[cv_eq,cv_eq,zeg]at e
 obtain⟨hk,e⟩:=zak e
 simp only[evalOp,hk]
 split at e
 ·rename_i i hx
  rw[hx]
  obtain⟨es,ck,h1,h2⟩:=zft hh e
  rw[zbo]at h2
  cases hf:findEnt c (noRho key) es 0 with
  |none=>rw[hf]at h2;cases h2
  |some q =>
   rw[hf]at h2
   cases q with
   |none =>
    dsimp only at h2
    rw[zag,zan,zdd]at h2
    obtain⟨h',j1,j2⟩:=zch hh h1 h2
    exact⟨_,_,h',fun C B=>by simp only[getW,putW,h1,hf];rfl,j1,j2⟩
   |some p =>
    obtain⟨j,u⟩:=p
    dsimp only at h2
    rw[zag,zdt]at h2
    obtain⟨h',j1,j2⟩:=zch hh h1 h2
    rw[zan]at j2
    exact⟨_,_,h',fun C B=>by simp only[getW,putW,h1,hf];rfl,j1,j2⟩
 ·cases e
noncomputable def zim (x s v:IVal):HF:=fun h k=>ift (passB v) (match x,s with
 | .map i, .p (.int .i64 b)=>hmap h i fun es clock=>match gfindBorn b es 0 with
   |some j=>lall (gmodify es j fun e=>(e.1,v,e.2.2)) fun es=>hset h i (.map es clock) fun h=>k (.tup []) h
   |none=>none
 |_,_=>none)
theorem zaoa {x s v:Opd}:HOK3 (zim (cv x) (cv s) (cv v)) (.entSt x s v):=fun {h H k y} hh e=>by
 unfold zim at e
 rw[cv_eq,cv_eq,cv_eq,zpf]at e
 obtain⟨hp,e⟩:=zak e
 simp only[evalOp,hp]
 split at e
 ·rename_i i b hx hs
  simp only[hx,hs]
  obtain⟨es,ck,h1,h2⟩:=zft hh e
  rw[zkj]at h2
  cases hf:findBorn b es 0 with
  |none=>rw[hf]at h2;cases h2
  |some j =>
   rw[hf]at h2
   dsimp only at h2
   rw[zag,zdt]at h2
   obtain⟨h',j1,j2⟩:=zch hh h1 h2
   exact⟨_,_,h',fun C B=>by simp only[getW,putW,h1,hf],j1,j2⟩
 ·cases e
noncomputable def h_del (c:KTy) (x key:IVal):HF:=fun h k=>ift (gisKey c key) (match x with
 | .p .nilmap=>k (.tup []) h
 | .map i=>hmap h i fun es clock=>match gfindEnt c key es 0 with
   |some (some (j,_))=>lall (es.eraseIdx j) fun es=>hset h i (.map es clock) fun h=>k (.tup []) h
   |some none=>hset h i (.map es clock) fun h=>k (.tup []) h
   |none=>none
 |_=>none)
theorem zawa {c:KTy} {x key:Opd}:HOK3 (h_del c (cv x) (cv key)) (.del c x key):=fun {h H k y} hh e=>by
 unfold h_del at e
 rw[cv_eq,cv_eq,zeg]at e
 obtain⟨hk,e⟩:=zak e
 simp only[evalOp,hk]
 split at e
 ·rename_i hx;rw[hx];exact⟨_,H,h,fun C B=>rfl,hh,e⟩
 ·rename_i i hx
  rw[hx]
  obtain⟨es,ck,h1,h2⟩:=zft hh e
  rw[zbo]at h2
  cases hf:findEnt c (noRho key) es 0 with
  |none=>rw[hf]at h2;cases h2
  |some q =>
   rw[hf]at h2
   cases q with
   |none =>
    obtain⟨h',j1,j2⟩:=zch hh h1 h2
    exact⟨_,_,h',fun C B=>by simp only[getW,putW,h1,hf],j1,j2⟩
   |some p =>
    obtain⟨j,u⟩:=p
    dsimp only at h2
    rw[zag]at h2
    obtain⟨h',j1,j2⟩:=zch hh h1 h2
    exact⟨_,_,h',fun C B=>by simp only[getW,putW,h1,hf],j1,j2⟩
 ·cases e
noncomputable def znr (x:IVal):HF:=fun h k=>match x with
 | .map i=>hmap h i fun es ck=>match es with
   | []=>k (.tup [.p (.bool false), .undef, .undef]) h
   |(a,v,s)::r=>match r with
    | []=>wbeq s 0 (wbeq ck 1 (k (.tup [.p (.bool true),a,v]) h))
    |_=>none
 |_=>none
theorem zaob {x:Opd}:HOK3 (znr (cv x)) (.first x):=fun {h H k y} hh e=>by
 unfold znr at e
 rw[cv_eq]at e
 simp only[evalOp]
 split at e
 ·rename_i i hx
  rw[hx]
  obtain⟨es,ck,h1,h2⟩:=zft hh e
  match es,h1,h2 with
  | [],h1,h2=>exact⟨_,H,h,fun C B=>by simp only[getW,h1],hh,h2⟩
  | [(a,v,s)],h1,h2 =>
    obtain⟨g1,h2⟩:=zae h2
    obtain⟨g2,h2⟩:=zae h2
    have hb:(Nat.beq s 0&&Nat.beq ck 1)=true:=by rw[g1,g2];rfl
    exact⟨_,H,h,fun C B=>by simp only[getW,h1,hb],hh,h2⟩
 ·cases e
noncomputable def zns (x:IVal):HF:=fun h k=>match x with
 | .map i=>hmap h i fun es ck=>match es with
   | []=>none
   |(_,_,s)::r=>match r with
    | []=>wbeq s 0 (wbeq ck 1 (k (.tup []) h))
    |_=>none
 |_=>none
theorem zaoc {x:Opd}:HOK3 (zns (cv x)) (.still x):=fun {h H k y} hh e=>by
 unfold zns at e
 rw[cv_eq]at e
 simp only[evalOp]
 split at e
 ·rename_i i hx
  rw[hx]
  obtain⟨es,ck,h1,h2⟩:=zft hh e
  match es,h1,h2 with
  | [(a,v,s)],h1,h2 =>
    obtain⟨g1,h2⟩:=zae h2
    obtain⟨g2,h2⟩:=zae h2
    have hb:(Nat.beq s 0&&Nat.beq ck 1)=true:=by rw[g1,g2];rfl
    exact⟨_,H,h,fun C B=>by simp only[getW,h1,hb],hh,h2⟩
 ·cases e
noncomputable def hwr (h:FH) (i ver off:Nat) (new:List IVal) (k:FH→WR):WR:=hcells h i fun cs e w o=>wbeq ver w (wspl cs off new fun cs'=>hset h i (.cells cs' e w o) k)
theorem zacy {h:FH} {H:List IBlk} (hh:RH h H) {i ver off:Nat} {new:List IVal} {k:FH→WR} {x:WX} (e:hwr h i ver off new k=some x):∃H' h',(∀ B,writeCells ⟨B,H⟩ (.ptr (.heap i) ver off) new=some ⟨B,H'⟩)∧RH h' H'∧k h'=some x:=by
 obtain⟨cs,es,w,o,h1,e⟩:=zbv hh e
 obtain⟨h2,e⟩:=zae e
 obtain⟨h3,e⟩:=zkn e
 obtain⟨h',j1,j2⟩:=zch hh h1 e
 refine⟨_,h',fun B=>?_,j1,j2⟩
 have hb:(Nat.beq ver w&&Nat.ble (off+new.length) cs.length)=true:=by rw[h2,Nat.beq_refl,Nat.ble_eq_true_of_le h3];rfl
 simp only[writeCells,getW,putW,h1,hb]
noncomputable def zaay (es:Nat) (x y:IVal):HF:=fun h k=>match x,gsrcLen y with
 | .slice i ver off n,some ny=>hsrc h es (takeVal es (min ny n) y) fun ys _=>Bool.rec (motive:=fun _=>WR) (hwr h i ver off ys fun h=>nforce (min ny n) fun q=>k (.p (.int .i64 (.ofNat q))) h) (k (.p (.int .i64 (.ofNat 0))) h) (Nat.beq (min ny n) 0)
 |_,_=>none
theorem zarq {es:Nat} {x y:Opd}:HOK3 (zaay es (cv x) (cv y)) (.copy es x y):=fun {h H k z} hh e=>by
 unfold zaay at e
 rw[cv_eq,cv_eq,zls]at e
 simp only[evalOp,evalCopy]
 split at e
 ·rename_i i ver off n ny hx hy
  simp only[hx,hy]
  obtain⟨ys,q,g1,_,g2⟩:=zagt hh e
  simp only[g1]
  cases hb:Nat.beq (min ny n) 0 with
  |true=>rw[hb]at g2;exact⟨_,H,h,fun C B=>rfl,hh,g2⟩
  |false =>
   rw[hb]at g2
   obtain⟨H',h',h1,h2,h3⟩:=zacy hh g2
   rw[zan]at h3
   exact⟨_,H',h',fun C B=>by simp only[h1];rfl,h2,h3⟩
 ·cases e
noncomputable def zacz (z:List PVal) (x:IVal):HF:=fun h k=>match x with
 | .p .nilslice=>k (.tup []) h
 | .slice i ver off n=>Bool.rec (motive:=fun _=>WR) (lall (grepl n z) fun ys=>hwr h i ver off ys fun h=>k (.tup []) h) (k (.tup []) h) (Nat.beq n 0)
 |_=>none
theorem zaod {z:List PVal} {x:Opd}:HOK3 (zacz z (cv x)) (.clear z x):=fun {h H k y} hh e=>by
 unfold zacz at e
 rw[cv_eq]at e
 simp only[evalOp]
 split at e
 ·rename_i hx;rw[hx];exact⟨_,H,h,fun C B=>rfl,hh,e⟩
 ·rename_i i ver off n hx
  rw[hx]
  cases hb:Nat.beq n 0 with
  |true=>rw[hb]at e;exact⟨_,H,h,fun C B=>by simp only[hb],hh,e⟩
  |false =>
   rw[hb]at e
   dsimp only at e
   rw[zag,zgk]at e
   obtain⟨H',h',h1,h2,h3⟩:=zacy hh e
   exact⟨_,H',h',fun C B=>by simp only[hb,h1],h2,h3⟩
 ·cases e
noncomputable def zagu (es:Nat) (x hi mx:IVal):HF:=fun h k=>match x with
 | .p .nilslice=>match gbnd 0 mx,gbnd 0 hi with
   |some _,some _=>k (.p .nilslice) h
   |_,_=>none
 | .slice i v o n=>match gbnd n mx with
   |some a=>match gbnd a hi with
    |some b=>hcells h i fun _ e w _=>wbeq b a (wbeq e es (wbeq v w (k (.clip i v o b) h)))
    |none=>none
   |none=>none
 |_=>none
theorem zarr {es:Nat} {x hi mx:Opd}:HOK3 (zagu es (cv x) (cv hi) (cv mx)) (.clip es x hi mx):=fun {h H k y} hh e=>by
 unfold zagu at e
 rw[cv_eq,cv_eq,cv_eq]at e
 simp only[evalOp]
 split at e
 ·rename_i hx
  rw[hx]
  rw[zij,zij]at e
  split at e
  ·rename_i h1 h2
   exact⟨_,H,h,fun C B=>by simp only[h1,h2],hh,e⟩
  ·cases e
 ·rename_i i v o n hx
  rw[hx]
  rw[zij]at e
  split at e
  ·rename_i a h1
   rw[zij]at e
   split at e
   ·rename_i b h2
    obtain⟨cs,e',w,op,g1,e⟩:=zbv hh e
    obtain⟨g2,e⟩:=zae e
    obtain⟨g3,e⟩:=zae e
    obtain⟨g4,e⟩:=zae e
    have hb:(Nat.beq b a&&(Nat.beq e' es&&Nat.beq v w))=true:=by rw[g2,g3,g4,Nat.beq_refl,Nat.beq_refl,Nat.beq_refl];rfl
    exact⟨_,H,h,fun C B=>by simp only[h1,h2,getW,g1,hb],hh,e⟩
   ·cases e
  ·cases e
 ·cases e
end Go.Ideal

/-
  IDEAL SEMANTICS, 54: CODE WHOSE SLOTS ARE LEAN's OWN VARIABLES: for the kernel. 'hcode' makes it out of the ideal code; whatever it comes to, the ideal code comes to.
-/
namespace Go.Ideal
open Go
set_option linter.unusedSectionVars false
inductive HC (α:Type) where
 |op (o:α) (k:IVal→HC α)
 |opg (g:IVal) (w:Bool) (o:α) (k:IVal→HC α)
 |chk (o:IOp) (v:IVal) (k:HC α)
 |chkg (g:IVal) (w:Bool) (o:IOp) (v:IVal) (k:HC α)
 |cond (v:IVal) (a b:HC α)
 |block (id:Nat) (b:HC α) (k:List IVal→HC α)
 |loop (vs:List IVal) (b:List IVal→HC α)
 |fin (x:IExit) (vs:List IVal)
 |fresh (l:List Nat) (vs:List IVal) (k:HC α)
 |both (a b:HC α) (k:List IVal→HC α)
 |stuck
abbrev HR:=Option (IExit×List IVal×Mem)
noncomputable def hfree (s:Nat) (vs:List IVal):Bool:=List.rec (motive:=fun _=>Bool) true (fun v _ ih=>match v with | .ptr (.box t) _ _=>Bool.rec ih false (Nat.beq s t)|_=>ih) vs
noncomputable def hfresh (vs:List IVal) (l:List Nat) (M:Mem) (k:Mem→HR):HR :=
 List.rec (motive:=fun _=>Mem→HR) k (fun s _ ih M=>Option.rec (motive:=fun _=>HR) (ih M) (fun _=>Bool.rec none (ih ⟨dropBox M.boxes s,M.heap⟩) (hfree s vs)) (gfindBox M.boxes s)) l M
noncomputable def hloop (b:List IVal→Mem→HR) (n:Nat):List IVal→Mem→HR :=
 Nat.rec (motive:=fun _=>List IVal→Mem→HR) (fun _ _=>none) (fun _ ih vs M=>Option.rec (motive:=fun _=>HR) none (fun r=>match r with|(x,vs,M)=>IExit.rec (motive:=fun _=>HR) (ih vs M) (fun i=>some (.exit i,vs,M)) (some (.ret,vs,M)) x) (b vs M)) n
noncomputable def hput (k:IVal→Mem→HR) (r:Option (IVal×Mem)):HR :=
 Option.rec (motive:=fun _=>HR) none (fun p=>Prod.rec (fun v M=>k v M) p) r
noncomputable def hchk (C:Oracle) (M:Mem) (o:IOp) (v:IVal):Bool :=
 Bool.rec (motive:=fun _=>Bool) (Option.rec (motive:=fun _=>Bool) false (fun p=>IVal.beq p.1 v) (evalOpG o C noRho M))
  (match contentOf noRho o,keyOf v with
   |some b,some k=>match gget M k with
    |some c=>IBlk.beq b c
    |none=>false
   |_,_=>false) (isAlloc o)
noncomputable def hrun (C:Oracle) (L:Nat) (c:HC XF):Mem→HR :=
 HC.rec (motive:=fun _=>Mem→HR)
  (fun f _ ih M=>hput ih (f C M))
  (fun g w f _ ih M=>Option.rec (motive:=fun _=>HR) none (fun t=>Bool.rec (ih skipped M) (hput ih (f C M)) t) (saysBool w g))
  (fun f v _ ih M=>Bool.rec none (ih M) (hchk C M f v))
  (fun g w f v _ ih M=>Option.rec (motive:=fun _=>HR) none (fun t=>Bool.rec (ih M) (Bool.rec none (ih M) (hchk C M f v)) t) (saysBool w g))
  (fun v _ _ a b M=>Option.rec (motive:=fun _=>HR) none (fun t=>Bool.rec (b M) (a M) t) (fbool v))
  (fun id _ _ b k M=>Option.rec (motive:=fun _=>HR) none (fun r=>match r with|(x,vs,M)=>IExit.rec (motive:=fun _=>HR) (k vs M) (fun i=>Bool.rec (some (.exit i,vs,M)) (k vs M) (Nat.beq i id)) (some (.ret,vs,M)) x) (b M))
  (fun vs _ b M=>hloop b L vs M)
  (fun x vs M=>some (x,vs,M))
  (fun l vs _ ih M=>hfresh vs l M ih)
  (fun _ _ _ a b k M=>match a M,b M with|some (.normal,vs,M1),some (.normal,ws,M2)=>Bool.rec none (k vs M1) (IVal.beqs vs ws&&(boxesBeq M1.boxes M2.boxes&&heapBeq M1.heap M2.heap))|_,_=>none)
  (fun _=>none) c
abbrev SE:=List (Nat×IVal)
def sfind:SE→Nat→Option IVal
 | [],_=>none
 |(s,v)::r,t=>match Nat.beq s t with|true=>some v|false=>sfind r t
def sopd (E:SE):Opd→Option Opd
 | .tmp t=>match sfind E t with|some v=>some (.const v)|none=>none
 |o=>some o
def sopds (E:SE):List Opd→Option (List Opd)
 | []=>some []
 |x::r=>match sopd E x,sopds E r with
  |some y,some l=>some (y::l)
  |_,_=>none
def sopt (E:SE):Option Opd→Option (Option Opd)
 |none=>some none
 |some x=>match sopd E x with|some y=>some (some y)|none=>none
def sparts (E:SE):List (Nat×Nat×Opd)→Option (List (Nat×Nat×Opd))
 | []=>some []
 |(a,b,x)::r=>match sopd E x,sparts E r with
  |some y,some l=>some ((a,b,y)::l)
  |_,_=>none
def sop (E:SE):IOp→Option IOp
 | .mov x=>(sopd E x).map .mov
 | .pick c a b=>match sopd E c,sopd E a,sopd E b with|some c,some a,some b=>some (.pick c a b)|_,_,_=>none
 | .alloc s z=>some (.alloc s z)
 | .box s n x=>(sopd E x).map (.box s n)
 | .build z p=>(sparts E p).map (.build z)
 | .buildSlice e n z p=>(sparts E p).map (.buildSlice e n z)
 | .load n a=>(sopd E a).map (.load n)
 | .store n a x=>match sopd E a,sopd E x with|some a,some x=>some (.store n a x)|_,_=>none
 | .nilCheck x=>(sopd E x).map .nilCheck
 | .fieldAddr o x=>(sopd E x).map (.fieldAddr o)
 | .idxSlice e x i=>match sopd E x,sopd E i with|some x,some i=>some (.idxSlice e x i)|_,_=>none
 | .idxArr l e x i=>match sopd E x,sopd E i with|some x,some i=>some (.idxArr l e x i)|_,_=>none
 | .field n o x=>(sopd E x).map (.field n o)
 | .idxVal l e n x i=>match sopd E x,sopd E i with|some x,some i=>some (.idxVal l e n x i)|_,_=>none
 | .idxStr x i=>match sopd E x,sopd E i with|some x,some i=>some (.idxStr x i)|_,_=>none
 | .sliceStr x a b=>match sopd E x,sopt E a,sopt E b with|some x,some a,some b=>some (.sliceStr x a b)|_,_,_=>none
 | .sliceSl e x a b=>match sopd E x,sopt E a,sopt E b with|some x,some a,some b=>some (.sliceSl e x a b)|_,_,_=>none
 | .bin o x y=>match sopd E x,sopd E y with|some x,some y=>some (.bin o x y)|_,_=>none
 | .eqv n c x y=>match sopd E x,sopd E y with|some x,some y=>some (.eqv n c x y)|_,_=>none
 | .eqPtr n x y=>match sopd E x,sopd E y with|some x,some y=>some (.eqPtr n x y)|_,_=>none
 | .eqSl n x y=>match sopd E x,sopd E y with|some x,some y=>some (.eqSl n x y)|_,_=>none
 | .not x=>(sopd E x).map .not
 | .neg x=>(sopd E x).map .neg
 | .conv d x=>(sopd E x).map (.conv d)
 | .extract x i=>(sopd E x).map (.extract · i)
 | .mkFunc f cap=>(sopds E cap).map (.mkFunc f)
 | .len x=>(sopd E x).map .len
 | .lenStr x=>(sopd E x).map .lenStr
 | .append e x y=>match sopd E x,sopd E y with|some x,some y=>some (.append e x y)|_,_=>none
 | .maxi xs=>(sopds E xs).map .maxi
 | .mini xs=>(sopds E xs).map .mini
 | .mkMap=>some .mkMap
 | .lookup ok z c x k=>match sopd E x,sopd E k with|some x,some k=>some (.lookup ok z c x k)|_,_=>none
 | .mapUpd c x k v=>match sopd E x,sopd E k,sopd E v with|some x,some k,some v=>some (.mapUpd c x k v)|_,_,_=>none
 | .mkSlice e z n c=>match sopd E n,sopd E c with|some n,some c=>some (.mkSlice e z n c)|_,_=>none
 | .call f az=>match sopd E f,sopds E az with|some f,some l=>some (.call f l)|_,_=>none
 | .allocA z e=>some (.allocA z e)
 | .mapEnt z c x k=>match sopd E x,sopd E k with|some x,some k=>some (.mapEnt z c x k)|_,_=>none
 | .entSt x s v=>match sopd E x,sopd E s,sopd E v with|some x,some s,some v=>some (.entSt x s v)|_,_,_=>none
 | .sliceArr l e x a b=>match sopd E x,sopt E a,sopt E b with|some x,some a,some b=>some (.sliceArr l e x a b)|_,_,_=>none
 | .copy e x y=>match sopd E x,sopd E y with|some x,some y=>some (.copy e x y)|_,_=>none
 | .clip e x h m=>match sopd E x,sopd E h,sopd E m with|some x,some h,some m=>some (.clip e x h m)|_,_,_=>none
 | .clear z x=>(sopd E x).map (.clear z)
 | .del c x k=>match sopd E x,sopd E k with|some x,some k=>some (.del c x k)|_,_=>none
 | .first x=>(sopd E x).map .first
 | .second n=>(sopd E n).map .second
 | .still x=>(sopd E x).map .still
def RelSS (E:SE) (ρ:Opd→IVal):Prop:=∀t v,sfind E t=some v→ρ (.tmp t)=v
structure Rho (ρ:Opd→IVal):Prop where
 const:∀v,ρ (.const v)=v
 func:∀f,ρ (.func f) = .p (.func f)
theorem zrk (T R:List IVal) (sub:List (Nat×Nat)):Rho (evalOpd T R sub):=⟨fun _=>rfl,fun _=>rfl⟩
section
variable {E:SE} {ρ:Opd→IVal}
theorem zcd (hρ:Rho ρ) (h:RelSS E ρ) {x y:Opd} (e:sopd E x=some y):ρ x=noRho y:=by
 cases x with
 |tmp t =>
  simp only[sopd]at e
  split at e
  ·rename_i v hv
   injection e with e
   subst e
   exact h t v hv
  ·cases e
 |const v=>injection e with e;subst e;exact hρ.const v
 |func f=>injection e with e;subst e;exact hρ.func f
theorem zada (hρ:Rho ρ) (h:RelSS E ρ):∀ {l m:List Opd},sopds E l=some m→l.map ρ=m.map noRho
 | [],m,e=>by injection e with e;subst e;rfl
 |x::r,m,e=>by
  simp only[sopds]at e
  split at e
  ·rename_i y l h1 h2
   injection e with e
   subst e
   simp only[List.map_cons]
   rw[zcd hρ h h1,zada hρ h h2]
  ·cases e
theorem zbbz (hρ:Rho ρ) (h:RelSS E ρ) {a b:Option Opd} (e:sopt E a=some b) (n:Nat):boundLo ρ n a=boundLo noRho n b:=by
 cases a with
 |none=>injection e with e;subst e;rfl
 |some x =>
  simp only[sopt]at e
  split at e
  ·rename_i y hy
   injection e with e
   subst e
   simp only[boundLo,zcd hρ h hy]
  ·cases e
theorem zbca (hρ:Rho ρ) (h:RelSS E ρ) {a b:Option Opd} (e:sopt E a=some b) (n:Nat):boundHi ρ n a=boundHi noRho n b:=by
 cases a with
 |none=>injection e with e;subst e;rfl
 |some x =>
  simp only[sopt]at e
  split at e
  ·rename_i y hy
   injection e with e
   subst e
   simp only[boundHi,zcd hρ h hy]
  ·cases e
theorem zws (hρ:Rho ρ) (h:RelSS E ρ):∀ {l m:List (Nat×Nat×Opd)} (c:List IVal),sparts E l=some m→fillParts ρ c l=fillParts noRho c m
 | [],m,c,e=>by injection e with e;subst e;rfl
 |(a,b,x)::r,m,c,e=>by
  simp only[sparts]at e
  split at e
  ·rename_i y l h1 h2
   injection e with e
   subst e
   rw[fillParts,fillParts,zcd hρ h h1]
   cases(noRho y).cellsOf with
   |none=>rfl
   |some new=>simp only[zws hρ h _ h2]
  ·cases e
theorem zaxy (hρ:Rho ρ) (h:RelSS E ρ) {o o':IOp} (e:sop E o=some o') (C:Oracle) (M:Mem):evalOp C ρ M o=evalOp C noRho M o':=by
 have hn:Rho noRho:=zrk [] [] []
 cases o<;>simp only[sop,Option.map_eq_some_iff]at e
 all_goals first
  |(injection e with e;subst e;rfl)
  |(obtain⟨y,h1,rfl⟩:=e;simp only[evalOp,zcd hρ h h1];done)
  |(obtain⟨y,h1,rfl⟩:=e;simp only[evalOp,zws hρ h _ h1];done)
  |(obtain⟨y,h1,rfl⟩:=e;simp only[evalOp,zada hρ h h1];done)
  |(split at e<;>first|(cases e;done)|(injection e with e;subst e;rename_i h1 h2;simp only[evalOp,zcd hρ h h1,zcd hρ h h2];done)|(injection e with e;subst e;rename_i h1 h2;simp only[evalOp,zcd hρ h h1,zada hρ h h2];done)|(injection e with e;subst e;rename_i h1 h2 h3;simp only[evalOp,zcd hρ h h1,zcd hρ h h2,zcd hρ h h3];done)|(injection e with e;subst e;rename_i h1 h2 h3;simp only[evalOp,zcd hρ h h1,zbbz hρ h h2,zbca hρ h h3];done))
theorem zajz (hρ:Rho ρ) (h:RelSS E ρ) {o o':IOp} (e:sop E o=some o'):isAlloc o'=isAlloc o∧contentOf ρ o=contentOf noRho o':=by
 cases o<;>simp only[sop,Option.map_eq_some_iff]at e
 all_goals first
  |(injection e with e;subst e;exact⟨rfl,rfl⟩)
  |(obtain⟨y,h1,rfl⟩:=e;exact⟨rfl,rfl⟩)
  |(obtain⟨y,h1,rfl⟩:=e;refine⟨rfl,?_⟩;simp only[contentOf,zcd hρ h h1];done)
  |(obtain⟨y,h1,rfl⟩:=e;refine⟨rfl,?_⟩;simp only[contentOf,zws hρ h _ h1];done)
  |(split at e<;>first|(cases e;done)|(injection e with e;subst e;exact⟨rfl,rfl⟩)|(injection e with e;subst e;rename_i h1 h2;refine⟨rfl,?_⟩;simp only[contentOf,zcd hρ h h2];done))
end
end Go.Ideal

/-
  IDEAL SEMANTICS, 55: THE IDEAL CODE AS CODE OVER LEAN's OWN VARIABLES, and that it comes to the same.
-/
namespace Go.Ideal
open Go
set_option linter.unusedSectionVars false
inductive An where
 |lf
 |sq (a b:An)
 |cd (l:List Nat) (a b:An)
 |cj (a b:An)
 |bk (l:List Nat) (a:An)
 |lp (l:List Nat) (a:An)
section
variable {α:Type} (mk:IOp→α)
def vecS (E:SE):List Nat→Option (List IVal)
 | []=>some []
 |t::l=>match sfind E t,vecS E l with
  |some v,some vs=>some (v::vs)
  |_,_=>none
def hfin (x:IExit) (l:List Nat) (E:SE):HC α:=match vecS E l with|some vs=>.fin x vs|none=>.stuck
def zipSS:List Nat→List IVal→SE
 |t::l,v::vs=>(t,v)::zipSS l vs
 |_,_=>[]
def allIn (m:List Bool):List Nat→Bool
 | []=>true
 |t::l=>match m[t]? with|some true=>allIn m l|_=>false
def mkOK (m:List Bool) (l:List Nat):Bool:=match m with|[]=>true|m=>allIn m l
def sdel (d:Nat):SE→SE
 | []=>[]
 |(s,v)::r=>match Nat.beq s d with|true=>sdel d r|false=>(s,v)::sdel d r
def sput (E:SE) (d:Option Nat) (v:IVal):SE:=match d with|some d=>(d,v)::sdel d E|none=>E
def svals:SE→List IVal
 | []=>[]
 |(_,v)::r=>v::svals r
def dstOK (nt:Nat) (d:Option Nat):Bool:=match d with|some d=>Nat.blt d nt|none=>true
def xv (g:IVal→List IVal→HC α) (vs:List IVal):HC α:=List.casesOn (motive:=fun _=>HC α) vs .stuck fun v r=>g v r
def x0 (c:HC α) (_:List IVal):HC α:=c
def lamV:Nat→(List IVal→HC α)→List IVal→HC α
 |0,f=>x0 (f [])
 |n+1,f=>xv fun v=>lamV n fun l=>f (v::l)
def hop (E:SE) (o:IOp) (g:Option (Nat×Bool)) (k:IVal→HC α):HC α :=
 match sop E o with
 |none=>.stuck
 |some o=>match g with
  |none=>match o with
   | .mov (.const v)=>k v
   |o=>.op (mk o) k
  |some (x,w)=>match sfind E x with
   |some v=>.opg v w (mk o) k
   |none=>.stuck
def hreg (nt:Nat) (kont:SE→HC α):List IOper→SE→HC α
 | [],E=>kont E
 |o::r,E=>match dstOK nt o.dst with
  |true=>hop mk E o.op o.guard fun v=>hreg nt kont r (sput E o.dst v)
  |false=>.stuck
def hfreshS (l:List Nat) (E:SE) (c:HC α):HC α:=match l with|[]=>c|l=>.fresh l (svals E) c
def subS (E R:SE):List (Nat×Nat)→Option SE
 | []=>some E
 |(s,j)::r=>match sfind R j,subS E R r with
  |some v,some E'=>some ((s,v)::E')
  |_,_=>none
def hat (ops:List IOper) (E R:SE) (i:Nat) (k:SE→HC α):HC α :=
 match ops[i]? with
 |none=>.stuck
 |some o=>match subS E R o.sub with
  |some E'=>hop mk E' o.op o.guard fun v=>k ((i,v)::R)
  |none=>.stuck
def hqs (ops:List IOper) (E:SE) (k:SE→HC α):List Nat→SE→HC α
 | [],R=>k R
 |i::r,R=>hat mk ops E R i fun R=>hqs ops E k r R
def hrc (ops:List IOper) (E R:SE) (k:HC α):List Nat→HC α
 | []=>k
 |i::r=>match ops[i]? with
  |none=>.stuck
  |some o=>match subS E R o.sub,sfind R i with
   |some E',some x=>match sop E' o.op with
    |some op=>match o.guard with
     |none=>.chk op x (hrc ops E R k r)
     |some (t,w)=>match sfind E' t with
      |some g=>.chkg g w op x (hrc ops E R k r)
      |none=>.stuck
    |none=>.stuck
   |_,_=>.stuck
def hplan (ops:List IOper) (E:SE) (k:SE→HC α):List Stage→SE→HC α
 | [],R=>k R
 |g::r,R=>hqs mk ops E (fun R=>hrc ops E R (match g.e with
  |none=>hplan ops E k r R
  |some i=>hat mk ops E R i fun R=>hplan ops E k r R) g.rc) g.qs R
def upto:Nat→Nat→List Nat
 |0,_=>[]
 |n+1,i=>i::upto n (i+1)
def hplans (ops:List IOper) (E:SE):List (List Stage)→HC α
 | []=>.stuck
 | [g]=>hplan mk ops E (hfin .normal (upto ops.length 0)) g []
 |g::r=>.both (hplan mk ops E (hfin .normal (upto ops.length 0)) g []) (hplans ops E r) fun vs=>.fin .normal vs
def putAllS (E:SE):List IOper→List IVal→SE
 |o::r,v::vs=>putAllS (sput E o.dst v) r vs
 |_,_=>E
def hdraw (nt:Nat) (ops:List IOper) (plans:List (List Stage)) (kont:SE→HC α) (E:SE):HC α :=
 match dstsFit nt ops with
 |false=>.stuck
 |true=>match plans with
  | [g]=>hplan mk ops E (fun R=>match vecS R (upto ops.length 0)with|some vs=>kont (putAllS E ops vs)|none=>.stuck) g []
  |pl=>.block 0 (hplans mk ops E pl) (lamV ops.length fun vs=>kont (putAllS E ops vs))
def afind:List (Nat×List Nat)→Nat→Option (List Nat)
 | [],_=>none
 |(s,v)::r,t=>match Nat.beq s t with|true=>some v|false=>afind r t
def hcode (nt:Nat) (res:List Nat):List (Nat×List Nat)→ICode→An→(SE→HC α)→SE→HC α
 |_, .skip,_,k,E=>k E
 |Δ, .seq a b, .sq x y,k,E=>hcode nt res Δ a x (fun E=>hcode nt res Δ b y k E) E
 |Δ, .cond c a b, .cj x y,k,E=>match sopd E c with
  |some (.const v)=>.cond v (hcode nt res Δ a x k E) (hcode nt res Δ b y k E)
  |_=>.stuck
 |Δ, .cond c a b, .cd l x y,k,E=>match sopd E c with
  |some (.const v)=>.block 0 (.cond v (hcode nt res Δ a x (hfin .normal l) E) (hcode nt res Δ b y (hfin .normal l) E)) (lamV l.length fun vs=>k (zipSS l vs))
  |_=>.stuck
 |Δ, .block id m c, .bk l x,k,E=>match mkOK m l with
  |true=>.block (id+1) (hcode nt res ((id,l)::Δ) c x (hfin .normal l) E) (lamV l.length fun vs=>k (zipSS l vs))
  |false=>.stuck
 |Δ, .loop m c, .lp l x,_,E=>match mkOK m l,vecS E l with
  |true,some vs=>.loop vs (lamV l.length fun vs=>hcode nt res Δ c x (hfin .normal l) (zipSS l vs))
  |_,_=>.stuck
 |Δ, .exit id,_,_,E=>match afind Δ id with
  |some l=>hfin (.exit (id+1)) l E
  |none=>.stuck
 |_, .ret,_,_,E=>hfin .ret res E
 |_, .reg fr ops,_,k,E=>hfreshS fr E (hreg mk nt k ops E)
 |_, .draw fr ops pl,_,k,E=>hfreshS fr E (hdraw mk nt ops pl k E)
 |_,_,_,_,_=>.stuck
end
structure RelTS (nt:Nat) (E:SE) (T:List IVal):Prop where
 len:T.length=nt
 at':∀t v,sfind E t=some v→T[t]? = some v
def RelVS (l:List Nat) (vs:List IVal) (T:List IVal):Prop:=∀t v,sfind (zipSS l vs) t=some v→T[t]? = some v
theorem RelTS.s {nt:Nat} {E:SE} {T:List IVal} (h:RelTS nt E T):RelSS E (evalOpd T [] []):=fun t v e=>by
 show T.getD t .undef=v
 rw[List.getD_eq_getElem?_getD,h.at' t v e];rfl
theorem zagv {d t:Nat}:∀(E:SE),sfind (sdel d E) t=if d=t then none else sfind E t
 | []=>by simp[sdel,sfind]
 |(s,v)::r=>by
  have ih:=zagv (d:=d) (t:=t) r
  simp only[sdel]
  cases h:Nat.beq s d with
  |true =>
   have:=Nat.eq_of_beq_eq_true h
   subst this
   simp only[ih,sfind]
   by_cases e:s=t
   ·simp[e]
   ·rw[if_neg e,if_neg e]
    cases h2:Nat.beq s t with
    |true=>exact absurd (Nat.eq_of_beq_eq_true h2) e
    |false=>rfl
  |false =>
   have hne:s≠d:=fun e=>by rw[e,Nat.beq_refl]at h;cases h
   simp only[sfind,ih]
   by_cases e:d=t
   ·subst e
    have:Nat.beq s d=false:=h
    first|(simp only[this,if_true];done)|(simp only[this];simp;done)|(rw[this];simp;done)|simp[this]
   ·rw[if_neg e,if_neg e]
theorem RelTS.put {nt:Nat} {E:SE} {T:List IVal} (h:RelTS nt E T) {d:Option Nat} (hd:dstOK nt d=true) (v:IVal):RelTS nt (sput E d v) (putDst T d v):=by
 cases d with
 |none=>exact h
 |some d =>
  have hd:d<nt:=by simpa[dstOK,Nat.blt_eq]using hd
  refine⟨by simp[putDst,h.len],fun t u e=>?_⟩
  simp only[sput,sfind]at e
  show(T.set d v)[t]? = some u
  cases hb:Nat.beq d t with
  |true =>
   rw[hb]at e
   have:=Nat.eq_of_beq_eq_true hb
   subst this
   injection e with e
   subst e
   rw[List.getElem?_set_self (by rw[h.len];exact hd)]
  |false =>
   rw[hb]at e
   have hne:d≠t:=fun e=>by rw[e,Nat.beq_refl]at hb;cases hb
   simp only[zagv,if_neg hne]at e
   rw[List.getElem?_set_ne hne]
   exact h.at' t u e
theorem zpm:∀ {l:List Nat} {vs:List IVal} {t:Nat} {v:IVal},sfind (zipSS l vs) t=some v→t∈l
 | [],vs,t,v,h=>by simp[zipSS,sfind]at h
 |s::l,[],t,v,h=>by simp[zipSS,sfind]at h
 |s::l,u::us,t,v,h=>by
  simp only[zipSS,sfind]at h
  cases hb:Nat.beq s t with
  |true=>exact List.mem_cons.2 (.inl (Nat.eq_of_beq_eq_true hb).symm)
  |false=>rw[hb]at h;exact List.mem_cons_of_mem _ (zpm h)
theorem zaaz {m:List Bool}:∀ {l:List Nat},allIn m l=true→∀t∈l,m[t]? = some true
 | [],_,t,h=>by cases h
 |s::l,h,t,ht=>by
  simp only[allIn]at h
  split at h
  ·rename_i e
   rcases List.mem_cons.1 ht with rfl|ht
   ·exact e
   ·exact zaaz h t ht
  ·cases h
theorem zwt:∀(m:List Bool) (T:List IVal) (t:Nat),m[t]? = some true→(maskT m T)[t]? = T[t]?
 | [],T,t,h=>by simp at h
 |b::m,[],t,h=>by cases b<;>simp[maskT]
 |true::m,v::T,0,h=>by simp[maskT]
 |false::m,v::T,0,h=>by simp at h
 |true::m,v::T,t+1,h=>by simpa[maskT]using zwt m T t (by simpa using h)
 |false::m,v::T,t+1,h=>by simpa[maskT]using zwt m T t (by simpa using h)
theorem zadb (m:List Bool) (T:List IVal):(maskT m T).length=T.length:=by
 induction m generalizing T with
 |nil=>simp[maskT]
 |cons b m ih =>
  cases T with
  |nil=>cases b<;>simp[maskT]
  |cons v T=>cases b<;>simp[maskT,ih]
theorem RelVS.mask {l:List Nat} {vs T:List IVal} {m:List Bool} (h:RelVS l vs T) (hm:mkOK m l=true):RelVS l vs (maskT m T):=by
 intro t v e
 have:=h t v e
 cases m with
 |nil=>simpa[maskT]using this
 |cons b m =>
  have hm:allIn (b::m) l=true:=hm
  rw[zwt _ _ _ (zaaz hm t (zpm e))]
  exact this
end Go.Ideal

/-
  IDEAL SEMANTICS, 83: ALL OPERATIONS, over known boxes and the heap.
-/
namespace Go.Ideal
open Go
set_option linter.unusedSectionVars false
variable [Kept]
abbrev WO:=FuncId→List IVal→FH→(IVal→FH→WR)→WR
def WLe (F:WO) (C:Oracle):Prop:=∀f a h H k x,RH h H→F f a h k=some x→∃v h' H',C f a H=some (v,H')∧RH h' H'∧k v h'=some x
abbrev WF:=WO→WM→(IVal→WM→WR)→WR
def WOK (F:WO) (C:Oracle) (g:WF) (o:IOp):Prop:=∀ {G m M k x},RW G m M→g F m k=some x→∃v M' m',evalOp C noRho M o=some (v,M')∧k v m'=some x∧RW G m' M'
noncomputable abbrev wV (g:VF):WF:=fun _ m k=>g fun v=>k v m
noncomputable abbrev wH (g:HF):WF:=fun _ m k=>WM.rec (motive:=fun _=>WR) (fun b h=>g h fun v h=>k v ⟨b,h⟩) m
section
variable {F:WO} {C:Oracle}
theorem wV_ok {g:VF} {o:IOp} (h:VOK g o):WOK F C (wV g) o:=fun {G m M k x} hm e=>by
 obtain⟨v,h1,h2⟩:=h (show g (fun v=>k v m)=some x from e)
 exact⟨v,M,m,h1 C M,h2,hm⟩
theorem wH_ok {g:HF} {o:IOp} (h:HOK3 g o):WOK F C (wH g) o:=fun {G m M k x} hm e=>by
 obtain⟨b,hh⟩:=m
 obtain⟨v,H',h',h1,h2,h3⟩:=h hm.h (show g hh (fun v h=>k v ⟨b,h⟩)=some x from e)
 exact⟨v,⟨M.boxes,H'⟩,⟨b,h'⟩,h1 C M.boxes,h3,hm.heap h2⟩
noncomputable abbrev wbx (s:Nat) (b:BXS) (f:IBlk→WR):WR:=List.rec (motive:=fun _=>WR) none (fun p _ ih=>Prod.rec (motive:=fun _=>WR) (fun t o=>Bool.rec (motive:=fun _=>WR) ih (Option.rec (motive:=fun _=>WR) none f o) (Nat.beq t s)) p) b
theorem zadc {s:Nat} {f:IBlk→WR} {x:WX}:∀ {b:BXS},wbx s b f=some x→∃c,bfind b s=some (some c)∧f c=some x
 | [],h=>by cases h
 |(t,o)::r,h=>by
  have h:(Bool.rec (wbx s r f) (Option.rec none f o) (Nat.beq t s):WR)=some x:=h
  rw[bfind]
  cases hb:Nat.beq t s with
  |false=>rw[hb]at h;exact zadc h
  |true =>
   rw[hb]at h
   cases o with
   |none=>cases h
   |some c=>exact⟨c,rfl,h⟩
noncomputable def wabs (s:Nat) (b:BXS) (e:WR):WR:=List.rec (motive:=fun _=>WR) none (fun p _ ih=>Prod.rec (motive:=fun _=>WR) (fun t o=>Bool.rec (motive:=fun _=>WR) ih (Option.rec (motive:=fun _=>WR) e (fun _=>none) o) (Nat.beq t s)) p) b
theorem zwu {s:Nat} {e:WR} {x:WX}:∀ {b:BXS},wabs s b e=some x→bfind b s=some none∧e=some x
 | [],h=>by cases h
 |(t,o)::r,h=>by
  have h:(Bool.rec (wabs s r e) (Option.rec e (fun _=>none) o) (Nat.beq t s):WR)=some x:=h
  rw[bfind]
  cases hb:Nat.beq t s with
  |false=>rw[hb]at h;exact zwu h
  |true =>
   rw[hb]at h
   cases o with
   |none=>exact⟨rfl,h⟩
   |some c=>cases h
theorem newB {G:Gh} {m:WM} {M:Mem} (hm:RW G m M) {s:Nat} (h:bfind m.bx s=some none) (b:IBlk):newBlk M (some s) b=some (.ptr (.box s) 0 0,⟨(s,b)::M.boxes,M.heap⟩)∧RW G ⟨(s,some b)::m.bx,m.h⟩ ⟨(s,b)::M.boxes,M.heap⟩:=by
 refine⟨by simp only[newBlk,hm.bx s none h],hm.box (by rw[zbh,Nat.beq_refl]) fun t hne=>by rw[zbh,zarj hne]⟩
noncomputable def zamo (s:Nat) (z:List PVal):WF:=fun _ m k=>WM.rec (motive:=fun _=>WR) (fun b h=>wabs s b (k (.ptr (.box s) 0 0) ⟨(s,some (.cells (gpc z) (llen z) 0 false))::b,h⟩)) m
theorem zaka {s:Nat} {z:List PVal}:WOK F C (zamo s z) (.alloc (some s) z):=fun {G m M k x} hm e=>by
 obtain⟨b,h⟩:=m
 obtain⟨h1,h2⟩:=zwu (show wabs s b (k (.ptr (.box s) 0 0) ⟨(s,some (.cells (gpc z) (llen z) 0 false))::b,h⟩)=some x from e)
 rw[zep,zaf]at h2
 obtain⟨h3,h4⟩:=newB hm h1 (.cells (pcells z) z.length 0 false)
 exact⟨_,_,_,h3,h2,h4⟩
noncomputable def zaxz (s n:Nat) (v:IVal):WF:=fun _ m k=>cofn n v fun cs=>WM.rec (motive:=fun _=>WR) (fun b h=>wabs s b (k (.ptr (.box s) 0 0) ⟨(s,some (.cells cs n 0 false))::b,h⟩)) m
theorem zars {s n:Nat} {x:Opd}:WOK F C (zaxz s n (cv x)) (.box (some s) n x):=fun {G m M k y} hm e=>by
 obtain⟨b,h⟩:=m
 obtain⟨cs,g1,g2,g3⟩:=zpl e
 obtain⟨h1,h2⟩:=zwu (show wabs s b (k (.ptr (.box s) 0 0) ⟨(s,some (.cells cs n 0 false))::b,h⟩)=some y from g3)
 rw[cv_eq]at g1
 obtain⟨h3,h4⟩:=newB hm h1 (.cells cs n 0 false)
 have hb:Nat.beq cs.length n=true:=by rw[g2];exact Nat.beq_refl n
 exact⟨_,_,_,by simp only[evalOp,g1,hb,h3],h2,h4⟩
noncomputable def ldc (n:Option Nat) (off:Nat) (cs:List IVal) (k:IVal→WR):WR:=Option.rec (motive:=fun _=>WR) (wg off cs k) (fun n=>ift (Nat.ble 1 n) (wcut cs off n fun l=>k (.agg l))) n
theorem zadd {n:Option Nat} {off:Nat} {cs:List IVal} {k:IVal→WR} {x:WX} (h:ldc n off cs k=some x) (M:Mem) (a:IVal) (ha:∀q,readCells M q a=match Nat.ble (off+q) cs.length with|true=>some ((cs.drop off).take q)|false=>none):∃v,loadVal M n a=some v∧k v=some x:=by
 cases n with
 |none =>
  obtain⟨v,h1,h2⟩:=zbby (show wg off cs k=some x from h)
  refine⟨v,?_,h2⟩
  have hl:=(List.getElem?_eq_some_iff.1 h1).1
  have hd:(cs.drop off).take 1=[v]:=by
   refine List.ext_getElem? fun i=>?_
   rw[List.getElem?_take]
   cases i with
   |zero=>rw[if_pos (by omega),List.getElem?_drop,Nat.add_zero,h1];rfl
   |succ i=>rw[if_neg (by omega)];rfl
  have hb:Nat.ble (off+1) cs.length=true:=Nat.ble_eq_true_of_le hl
  simp only[loadVal,ha,hb,hd]
 |some n =>
  obtain⟨h1,h2⟩:=zak (show ift (Nat.ble 1 n) (wcut cs off n fun l=>k (.agg l))=some x from h)
  obtain⟨h3,h4⟩:=zagp h2
  have h1:=Nat.le_of_ble_eq_true h1
  have hb:Nat.ble (off+n) cs.length=true:=Nat.ble_eq_true_of_le (by omega)
  exact⟨_,by simp only[loadVal,ha,hb],h4⟩
noncomputable def hld (n:Option Nat) (i ver off:Nat) (h:FH) (k:IVal→WR):WR:=hcells h i fun cs _ w _=>wbeq ver w (ldc n off cs k)
noncomputable def zac (n:Option Nat) (v:IVal) (m:WM) (k:IVal→WR):WR :=
 IVal.rec (motive_1:=fun _=>WR) (motive_2:=fun _=>PUnit) (fun u=>PV.rec (motive:=fun _=>WR) (fun cs=>ldc n 0 (gpc cs) k) (fun _ _ _=>none) none (pPtr u)) (fun key ver off=>wKey key (fun s=>WM.rec (motive:=fun _=>WR) (fun b _=>wbx s b fun c=>IBlk.rec (motive:=fun _=>WR) (fun cs _ w _=>wbeq ver w (ldc n off cs k)) (fun _ _=>none) c) m) (fun i=>WM.rec (motive:=fun _=>WR) (fun _ h=>hld n i ver off h k) m)) (fun _ _ _ _=>none) (fun _=>none) (fun _ _ _=>none) (fun _ _=>none) (fun _ _=>none) none (fun _=>none) (fun _ _ _ _=>none) ⟨⟩ (fun _ _ _ _=>⟨⟩) v
theorem zwv {G:Gh} {n:Option Nat} {v:IVal} {m:WM} {M:Mem} (hm:RW G m M) {k:IVal→WR} {x:WX} (e:zac n v m k=some x):∃u,loadVal M n v=some u∧k u=some x:=by
 obtain⟨b,h⟩:=m
 cases v with
 |p u =>
  cases u with
  |ptr cs =>
   have e:ldc n 0 (gpc cs) k=some x:=e
   rw[zep]at e
   refine zadd e M _ fun q=>?_
   simp only[readCells,pcells,Nat.zero_add,List.length_map,List.drop_zero]
   cases Nat.ble q cs.length with
   |true=>simp only[List.map_take]
   |false=>rfl
  |_=>cases e
 |ptr key ver off =>
  cases key with
  |box s =>
   obtain⟨c,h1,h2⟩:=zadc (show wbx s b (fun c=>IBlk.rec (motive:=fun _=>WR) (fun cs _ w _=>wbeq ver w (ldc n off cs k)) (fun _ _=>none) c)=some x from e)
   cases c with
   |map=>cases h2
   |cells cs es w o =>
    obtain⟨rfl,h3⟩:=zae h2
    have h4:findBox M.boxes s=some (.cells cs es ver o):=hm.bx s _ h1
    refine zadd h3 M _ fun q=>?_
    have h5:M.get (.box s)=some (.cells cs es ver o):=h4
    simp only[readCells,h5,Nat.beq_refl,Bool.true_and]
    rfl
  |heap i =>
   obtain⟨cs,es,w,o,h1,h2⟩:=zbv hm.h (show hcells h i (fun cs _ w _=>wbeq ver w (ldc n off cs k))=some x from e)
   obtain⟨rfl,h3⟩:=zae h2
   refine zadd h3 M _ fun q=>?_
   have h5:M.get (.heap i)=some (.cells cs es ver o):=h1
   simp only[readCells,h5,Nat.beq_refl,Bool.true_and]
   rfl
 |_=>cases e
theorem zart {n:Option Nat} {a:Opd}:WOK F C (fun _ m k=>zac n (cv a) m fun v=>k v m) (.load n a):=fun {G m M k x} hm e=>by
 obtain⟨u,h1,h2⟩:=zwv hm e
 rw[cv_eq]at h1
 exact⟨u,M,m,by simp only[evalOp,h1],h2,hm⟩
noncomputable def gand (a b:Bool):Bool:=Bool.rec (motive:=fun _=>Bool) false b a
noncomputable def zaru (n:Nat) (a x:IVal) (m:WM) (k:WM→WR):WR:=cofn n x fun new=>wPtr a (fun key ver off=>wKey key (fun s=>WM.rec (motive:=fun _=>WR) (fun b h=>wbx s b fun c=>IBlk.rec (motive:=fun _=>WR) (fun cs e w o=>wbeq ver w (Bool.rec (motive:=fun _=>WR) (wspl cs off new fun cs'=>k ⟨(s,some (.cells cs' e w o))::b,h⟩) (wbeq (llen cs) n (k ⟨(s,some (.cells new e w o))::b,h⟩)) (gand (Nat.beq n e) (Nat.beq off 0)))) (fun _ _=>none) c) m) (fun i=>WM.rec (motive:=fun _=>WR) (fun b h=>hwr h i ver off new fun h=>k ⟨b,h⟩) m)) none
theorem zaoe {n:Nat} {a x:Opd}:WOK F C (fun _ m k=>zaru n (cv a) (cv x) m fun m=>k (.tup []) m) (.store n a x):=fun {G m M k y} hm e=>by
 obtain⟨b,h⟩:=m
 obtain⟨new,g1,g2,g3⟩:=zpl e
 obtain⟨key,ver,off,ha,g4⟩:=zwn g3
 rw[cv_eq]at g1 ha
 have hb:Nat.beq new.length n=true:=by rw[g2];exact Nat.beq_refl n
 cases key with
 |box s =>
  obtain⟨c,h1,h2⟩:=zadc (show wbx s b (fun c=>IBlk.rec (motive:=fun _=>WR) (fun cs e w o=>wbeq ver w (Bool.rec (motive:=fun _=>WR) (wspl cs off new fun cs'=>k (.tup []) ⟨(s,some (.cells cs' e w o))::b,h⟩) (wbeq (llen cs) n (k (.tup []) ⟨(s,some (.cells new e w o))::b,h⟩)) (gand (Nat.beq n e) (Nat.beq off 0)))) (fun _ _=>none) c)=some y from g4)
  cases c with
  |map=>cases h2
  |cells cs es w o =>
   obtain⟨rfl,h3⟩:=zae h2
   have key:off+new.length≤cs.length→k (.tup []) ⟨(s,some (.cells (splice cs off new) es ver o))::b,h⟩=some y→∃v M' m',evalOp C noRho M (.store n a x)=some (v,M')∧k v m'=some y∧RW G m' M':=fun h4 h5=>by
    have h6:findBox M.boxes s=some (.cells cs es ver o):=hm.bx s _ h1
    have h7:M.get (.box s)=some (.cells cs es ver o):=h6
    refine⟨.tup [],⟨setBox M.boxes s (.cells (splice cs off new) es ver o),M.heap⟩,_,?_,h5,hm.box (zami h6) fun t hne=>zwl hne⟩
    simp only[evalOp,g1,hb,ha,writeCells,h7,Nat.beq_refl,Bool.true_and,Nat.ble_eq_true_of_le h4]
    rfl
   cases hg:gand (Nat.beq n es) (Nat.beq off 0)with
   |false =>
    rw[hg]at h3
    obtain⟨h4,h5⟩:=zkn h3
    exact key h4 h5
   |true =>
    rw[hg]at h3
    obtain⟨h4,h5⟩:=zae h3
    rw[zaf]at h4
    have h0:off=0:=by
     cases hz:Nat.beq off 0 with
     |true=>exact Nat.eq_of_beq_eq_true hz
     |false=>rw[hz]at hg;cases hy:Nat.beq n es<;>(rw[hy]at hg;cases hg)
    subst h0
    refine key (by omega) ?_
    have:splice cs 0 new=new:=by
     unfold splice
     rw[List.take_zero,Nat.zero_add,List.drop_of_length_le (by omega)]
     simp
    rw[this]
    exact h5
 |heap i =>
  obtain⟨H',h',h1,h2,h3⟩:=zacy hm.h (show hwr h i ver off new (fun h=>k (.tup []) ⟨b,h⟩)=some y from g4)
  have h1:=h1 M.boxes
  exact⟨.tup [],⟨M.boxes,H'⟩,⟨b,h'⟩,by simp only[evalOp,g1,hb,ha];rw[show writeCells M (.ptr (.heap i) ver off) new=some ⟨M.boxes,H'⟩from h1],h3,hm.heap h2⟩
noncomputable def wpass (l:List IVal) (e:WR):WR:=List.rec (motive:=fun _=>WR) e (fun v _ ih=>ift (passB v) ih) l
theorem zrl {e:WR} {x:WX}:∀ {l:List IVal},wpass l e=some x→passesOK l=true∧e=some x
 | [],h=>⟨rfl,h⟩
 |v::r,h=>by
  obtain⟨h1,h2⟩:=zak (show ift (passB v) (wpass r e)=some x from h)
  obtain⟨h3,h4⟩:=zrl h2
  rw[zpf]at h1
  exact⟨by rw[passesOK,h1];exact h3,h4⟩
noncomputable def wapp (f:IVal) (l:List IVal) (F:WO) (h:FH) (k:IVal→FH→WR):WR:=FW.rec (motive:=fun _=>WR) (fun g=>F g l h k) (fun g cap=>lall (lapp l cap) fun l=>F g l h k) none (toFW f)
noncomputable def zagw (f:IVal) (l:List IVal):WF:=fun F m k=>wpass l (WM.rec (motive:=fun _=>WR) (fun b h=>wapp f l F h fun v h=>k v ⟨b,h⟩) m)
theorem zarv {f:Opd} {l:List Opd} (hF:WLe F C):WOK F C (zagw (cv f) (cvs l)) (.call f l):=fun {G m M k x} hm e=>by
 obtain⟨b,h⟩:=m
 obtain⟨hp,e⟩:=zrl e
 rw[zama]at hp
 simp only[evalOp,hp]
 have e:(FW.rec (motive:=fun _=>WR) (fun g=>F g (cvs l) h fun v h=>k v ⟨b,h⟩) (fun g cap=>lall (lapp (cvs l) cap) fun l=>F g l h fun v h=>k v ⟨b,h⟩) none (toFW (cv f)):WR)=some x:=e
 rw[cv_eq,zama]at e
 have key:∀g az,(F g az h fun v h=>k v ⟨b,h⟩)=some x→∃v H m',C g az M.heap=some (v,H)∧k v m'=some x∧RW G m' ⟨M.boxes,H⟩:=by
  intro g az e
  obtain⟨v,h',H,h1,h2,h3⟩:=hF _ _ _ _ _ _ hm.h e
  exact⟨v,H,_,h1,h3,hm.heap h2⟩
 cases hv:noRho f with
 |p u =>
  rw[hv]at e
  cases u with
  |func g =>
   obtain⟨v,H,m',g1,g2,g3⟩:=key g _ e
   exact⟨v,_,m',by simp only[g1],g2,g3⟩
  |_=>cases e
 |func g cap =>
  rw[hv]at e
  have e:lall (lapp (l.map noRho) cap) (fun l=>F g l h fun v h=>k v ⟨b,h⟩)=some x:=e
  rw[zag,zdd]at e
  obtain⟨v,H,m',g1,g2,g3⟩:=key g _ e
  exact⟨v,_,m',by simp only[g1],g2,g3⟩
 |_=>rw[hv]at e;cases e
noncomputable def wop (o:IOp):WF :=
 IOp.rec (motive:=fun _=>WF) (fun x=>wV (vv (x_mov (cv x)))) (fun c a b=>wV (zwq (cv c) (cv a) (cv b))) (fun s z=>Option.rec (motive:=fun _=>WF) (wH (zacw z)) (fun s=>zamo s z) s) (fun s n x=>Option.rec (motive:=fun _=>WF) (wH (h_box n (cv x))) (fun s=>zaxz s n (cv x)) s) (fun z p=>wV (zri z (cvp p))) (fun e n z p=>wH (zct e n z (cvp p))) (fun n a=>fun _ m k=>zac n (cv a) m fun v=>k v m) (fun n a x=>fun _ m k=>zaru n (cv a) (cv x) m fun m=>k (.tup []) m)
  (fun x=>wV (v_nil (cv x))) (fun o x=>wV (zaa o (cv x))) (fun e x i=>wV (zab e (cv x) (cv i))) (fun l e x i=>wV (zpj l e (cv x) (cv i))) (fun n o x=>wV (zajs n o (cv x))) (fun l e n x i=>wV (vv (zud l e n (cv x) (cv i)))) (fun x i=>wV (vv (zpg (cv x) (cv i)))) (fun x a b=>wV (vv (zhg (cv x) (cvo a) (cvo b)))) (fun e x a b=>wH (zfu e (cv x) (cvo a) (cvo b)))
  (fun o x y=>wV (vbin o (cv x) (cv y))) (fun n c x y=>wV (vv (x_eqv n c x y))) (fun n x y=>wV (vv (zgs n x y))) (fun n x y=>wV (vv (zamf n x y))) (fun x=>wV (v_not (cv x))) (fun x=>wV (vv (x_neg x))) (fun d x=>wV (vv (zfs d (cv x)))) (fun x i=>wV (zwp (cv x) i))
  (fun f c=>wV (vv (zea f c))) (fun x=>wV (v_len (cv x))) (fun x=>wV (vv (zdf (cv x)))) (fun e x y=>wH (zad e (cv x) (cv y))) (fun l=>wV (vv (zaax l))) (fun l=>wV (vv (zagl l))) (wH zaju)
  (fun ok z c x k=>wH (zaj ok z c (cv x) (cv k))) (fun c x k v=>wH (zbp c (cv x) (cv k) (cv v))) (fun e z n c=>wH (zbw e z (cv n) (cv c))) (fun f l=>zagw (cv f) (cvs l)) (fun z e=>wH (zug z e))
  (fun z c x k=>wH (zfe z c (cv x) (cv k))) (fun x s v=>wH (zim (cv x) (cv s) (cv v))) (fun l e x a b=>wH (zhi l e (cv x) (cvo a) (cvo b))) (fun e x y=>wH (zaay e (cv x) (cv y))) (fun e x h m=>wH (zagu e (cv x) (cv h) (cv m))) (fun z x=>wH (zacz z (cv x))) (fun c x k=>wH (h_del c (cv x) (cv k))) (fun x=>wH (znr (cv x))) (fun n=>wV (vv (zlu n))) (fun x=>wH (zns (cv x))) o
theorem zarw (hF:WLe F C):∀o:IOp,WOK F C (wop o) o:=fun o=>by
 have hx:∀o C M,xop o C M=evalOp C noRho M o:=zari
 cases o with
 |alloc s z=>cases s with
  |none=>exact fun {_ _ _ _ _} hm q=>wH_ok (F:=F) (C:=C) zanx hm q
  |some s=>exact fun {_ _ _ _ _} hm q=>zaka (F:=F) (C:=C) hm q
 |box s n x=>cases s with
  |none=>exact fun {_ _ _ _ _} hm q=>wH_ok (F:=F) (C:=C) zavz hm q
  |some s=>exact fun {_ _ _ _ _} hm q=>zars (F:=F) (C:=C) hm q
 |buildSlice e n z p=>exact fun {_ _ _ _ _} hm q=>wH_ok (F:=F) (C:=C) zwr hm q
 |load n a=>exact fun {_ _ _ _ _} hm q=>zart (F:=F) (C:=C) hm q
 |store n a x=>exact fun {_ _ _ _ _} hm q=>zaoe (F:=F) (C:=C) hm q
 |sliceSl e x a b=>exact fun {_ _ _ _ _} hm q=>wH_ok (F:=F) (C:=C) zags hm q
 |append e x y=>exact fun {_ _ _ _ _} hm q=>wH_ok (F:=F) (C:=C) zajv hm q
 |mkMap=>exact fun {_ _ _ _ _} hm q=>wH_ok (F:=F) (C:=C) zany hm q
 |lookup ok z c x k=>exact fun {_ _ _ _ _} hm q=>wH_ok (F:=F) (C:=C) zajw hm q
 |mapUpd c x k v=>exact fun {_ _ _ _ _} hm q=>wH_ok (F:=F) (C:=C) zajx hm q
 |mkSlice e z n c=>exact fun {_ _ _ _ _} hm q=>wH_ok (F:=F) (C:=C) zagr hm q
 |call f l=>exact fun {_ _ _ _ _} hm q=>zarv hF hm q
 |allocA z e=>exact fun {_ _ _ _ _} hm q=>wH_ok (F:=F) (C:=C) zajt hm q
 |mapEnt z c x k=>exact fun {_ _ _ _ _} hm q=>wH_ok (F:=F) (C:=C) zajy hm q
 |entSt x s v=>exact fun {_ _ _ _ _} hm q=>wH_ok (F:=F) (C:=C) zaoa hm q
 |sliceArr l e x a b=>exact fun {_ _ _ _ _} hm q=>wH_ok (F:=F) (C:=C) zacx hm q
 |copy e x y=>exact fun {_ _ _ _ _} hm q=>wH_ok (F:=F) (C:=C) zarq hm q
 |clip e x h m=>exact fun {_ _ _ _ _} hm q=>wH_ok (F:=F) (C:=C) zarr hm q
 |clear z x=>exact fun {_ _ _ _ _} hm q=>wH_ok (F:=F) (C:=C) zaod hm q
 |del c x k=>exact fun {_ _ _ _ _} hm q=>wH_ok (F:=F) (C:=C) zawa hm q
 |first x=>exact fun {_ _ _ _ _} hm q=>wH_ok (F:=F) (C:=C) zaob hm q
 |still x=>exact fun {_ _ _ _ _} hm q=>wH_ok (F:=F) (C:=C) zaoc hm q
 |mov x=>exact fun {_ _ _ _ _} hm q=>wV_ok (F:=F) (C:=C) (vv_ok (hx _) fun C M=>rfl) hm q
 |pick c a b=>exact fun {_ _ _ _ _} hm q=>wV_ok (F:=F) (C:=C) (vv_le (zarn _ _ _) (hx (.pick c a b)) fun C M=>by simp only[evalOp];split<;>rfl) hm q
 |build z p=>exact fun {_ _ _ _ _} hm q=>wV_ok (F:=F) (C:=C) zanw hm q
 |nilCheck x=>exact fun {_ _ _ _ _} hm q=>wV_ok (F:=F) (C:=C) (vv_le (zavu _) (hx (.nilCheck x)) fun C M=>by simp only[evalOp];split<;>rfl) hm q
 |fieldAddr o x=>exact fun {_ _ _ _ _} hm q=>wV_ok (F:=F) (C:=C) (vv_le (zyu _ _) (hx (.fieldAddr o x)) fun C M=>by simp only[evalOp];split<;>first|rfl|(split<;>rfl)) hm q
 |idxSlice e x i=>exact fun {_ _ _ _ _} hm q=>wV_ok (F:=F) (C:=C) (vv_le (zacu _ _ _) (hx (.idxSlice e x i)) fun C M=>by simp only[evalOp];split<;>first|rfl|(split<;>rfl)) hm q
 |idxArr l e x i=>exact fun {_ _ _ _ _} hm q=>wV_ok (F:=F) (C:=C) (vv_le (zajr _ _ _ _) (hx (.idxArr l e x i)) fun C M=>by simp only[evalOp];split<;>first|rfl|(split<;>first|rfl|(split<;>rfl))) hm q
 |field n o x=>exact fun {_ _ _ _ _} hm q=>wV_ok (F:=F) (C:=C) (vv_le (zanv _ _ _) (hx (.field n o x)) fun C M=>by simp only[evalOp];split<;>first|rfl|(split<;>first|rfl|(split<;>rfl))) hm q
 |idxVal l e n x i=>exact fun {_ _ _ _ _} hm q=>wV_ok (F:=F) (C:=C) (vv_ok (hx (.idxVal l e n x i)) fun C M=>by simp only[evalOp];split<;>first|rfl|(split<;>first|rfl|(split<;>rfl))) hm q
 |idxStr x i=>exact fun {_ _ _ _ _} hm q=>wV_ok (F:=F) (C:=C) (vv_ok (hx (.idxStr x i)) fun C M=>by simp only[evalOp];split<;>first|rfl|(split<;>first|rfl|(split<;>rfl))) hm q
 |sliceStr x a b=>exact fun {_ _ _ _ _} hm q=>wV_ok (F:=F) (C:=C) (vv_ok (hx (.sliceStr x a b)) fun C M=>by simp only[evalOp];split<;>first|rfl|(split<;>first|rfl|(split<;>rfl))) hm q
 |bin o x y=>exact fun {_ _ _ _ _} hm q=>wV_ok (F:=F) (C:=C) (vv_le (zbbx _ _ _) (hx (.bin o x y)) fun C M=>by simp only[evalOp];split<;>rfl) hm q
 |eqv n c x y=>exact fun {_ _ _ _ _} hm q=>wV_ok (F:=F) (C:=C) (vv_ok (hx (.eqv n c x y)) fun C M=>by simp only[evalOp];cases eqVals c (noRho x) (noRho y)<;>rfl) hm q
 |eqPtr n x y=>exact fun {_ _ _ _ _} hm q=>wV_ok (F:=F) (C:=C) (vv_ok (hx (.eqPtr n x y)) fun C M=>by simp only[evalOp];cases evalNilPtr (noRho x) (noRho y)<;>rfl) hm q
 |eqSl n x y=>exact fun {_ _ _ _ _} hm q=>wV_ok (F:=F) (C:=C) (vv_ok (hx (.eqSl n x y)) fun C M=>by simp only[evalOp];cases evalNilSl (noRho x) (noRho y)<;>rfl) hm q
 |not x=>exact fun {_ _ _ _ _} hm q=>wV_ok (F:=F) (C:=C) (vv_le (zavw _) (hx (.not x)) fun C M=>by simp only[evalOp];split<;>rfl) hm q
 |neg x=>exact fun {_ _ _ _ _} hm q=>wV_ok (F:=F) (C:=C) (vv_ok (hx (.neg x)) fun C M=>by simp only[evalOp];split<;>rfl) hm q
 |conv d x=>exact fun {_ _ _ _ _} hm q=>wV_ok (F:=F) (C:=C) (vv_ok (hx (.conv d x)) fun C M=>by simp only[evalOp];split<;>rfl) hm q
 |extract x i=>exact fun {_ _ _ _ _} hm q=>wV_ok (F:=F) (C:=C) (vv_le (zago _ _) (hx (.extract x i)) fun C M=>by simp only[evalOp];split<;>first|rfl|(split<;>rfl)) hm q
 |mkFunc f c=>exact fun {_ _ _ _ _} hm q=>wV_ok (F:=F) (C:=C) (vv_ok (hx (.mkFunc f c)) fun C M=>by simp only[evalOp];split<;>rfl) hm q
 |len x=>exact fun {_ _ _ _ _} hm q=>wV_ok (F:=F) (C:=C) (vv_le (zavv _) (hx (.len x)) fun C M=>by simp only[evalOp];split<;>rfl) hm q
 |lenStr x=>exact fun {_ _ _ _ _} hm q=>wV_ok (F:=F) (C:=C) (vv_ok (hx (.lenStr x)) fun C M=>by simp only[evalOp];split<;>rfl) hm q
 |maxi l=>exact fun {_ _ _ _ _} hm q=>wV_ok (F:=F) (C:=C) (vv_ok (hx (.maxi l)) fun C M=>by simp only[evalOp];split<;>first|rfl|(split<;>rfl)) hm q
 |mini l=>exact fun {_ _ _ _ _} hm q=>wV_ok (F:=F) (C:=C) (vv_ok (hx (.mini l)) fun C M=>by simp only[evalOp];split<;>first|rfl|(split<;>rfl)) hm q
 |second n=>exact fun {_ _ _ _ _} hm q=>wV_ok (F:=F) (C:=C) (vv_ok (hx (.second n)) fun C M=>by simp only[evalOp];split<;>rfl) hm q
end
end Go.Ideal

/-
  IDEAL SEMANTICS, 84: THE CODE OVER LEAN's OWN VARIABLES, known boxes and the heap; shapes are kept where ways join.
-/
namespace Go.Ideal
open Go
set_option linter.unusedSectionVars false
variable [Kept]
abbrev WC:=WM→WR
theorem PVal.zff:∀n:Nat,(∀ v:PVal,SizeOf.sizeOf v≤n→PVal.beq v v=true)∧(∀ l:List PVal,SizeOf.sizeOf l≤n→PVal.beqs l l=true):=by
 intro n
 induction n with
 |zero =>
  refine⟨fun v hs=>?_,fun l hs=>?_⟩
  ·exfalso;cases v<;>simp at hs
  ·exfalso;cases l<;>simp at hs
 |succ n ih =>
  refine⟨fun v hs=>?_,fun l hs=>?_⟩
  ·cases v with
   |bool b=>simp[PVal.beq]
   |int k a=>simp[PVal.beq]
   |str s=>simp[PVal.beq]
   |slice e k cs =>
    have:=ih.2 cs (by simp at hs;omega)
    simp only[PVal.beq,this,Nat.beq_refl,Bool.and_self]
   |ptr cs =>
    have:=ih.2 cs (by simp at hs;omega)
    simp only[PVal.beq,this]
   |func f=>simp only[PVal.beq,Nat.beq_refl]
   |_=>simp only[PVal.beq]
  ·cases l with
   |nil=>simp only[PVal.beqs]
   |cons x l =>
    have h1:=ih.1 x (by simp at hs;omega)
    have h2:=ih.2 l (by simp at hs;omega)
    simp only[PVal.beqs,h1,h2,Bool.and_self]
theorem PVal.zko (v:PVal):PVal.beq v v=true:=(PVal.zff _).1 v (Nat.le_refl _)
theorem IVal.zff:∀n:Nat,(∀ v:IVal,SizeOf.sizeOf v≤n→IVal.beq v v=true)∧(∀ l:List IVal,SizeOf.sizeOf l≤n→IVal.beqs l l=true):=by
 intro n
 induction n with
 |zero =>
  refine⟨fun v hs=>?_,fun l hs=>?_⟩
  ·exfalso;cases v<;>simp at hs
  ·exfalso;cases l<;>simp at hs
 |succ n ih =>
  refine⟨fun v hs=>?_,fun l hs=>?_⟩
  ·cases v with
   |p a=>simp only[IVal.beq,PVal.zko]
   |ptr k a o=>simp only[IVal.beq,Nat.beq_refl,Bool.and_self,decide_true]
   |slice k a o m=>simp only[IVal.beq,Nat.beq_refl,Bool.and_self]
   |map i=>simp only[IVal.beq,Nat.beq_refl]
   |func f cs =>
    have:=ih.2 cs (by simp at hs;omega)
    simp only[IVal.beq,this,Nat.beq_refl,Bool.and_self]
   |agg cs =>
    have:=ih.2 cs (by simp at hs;omega)
    simp only[IVal.beq,this]
   |tup cs =>
    have:=ih.2 cs (by simp at hs;omega)
    simp only[IVal.beq,this]
   |undef=>simp only[IVal.beq]
   |opq i=>simp only[IVal.beq,Nat.beq_refl]
   |clip k a o m=>simp only[IVal.beq,Nat.beq_refl,Bool.and_self]
  ·cases l with
   |nil=>simp only[IVal.beqs]
   |cons x l =>
    have h1:=ih.1 x (by simp at hs;omega)
    have h2:=ih.2 l (by simp at hs;omega)
    simp only[IVal.beqs,h1,h2,Bool.and_self]
theorem IVal.zko (v:IVal):IVal.beq v v=true:=(IVal.zff _).1 v (Nat.le_refl _)
theorem IVal.zaof (v:List IVal):IVal.beqs v v=true:=(IVal.zff _).2 v (Nat.le_refl _)
theorem zpn:∀l,entsBeq l l=true
 | []=>rfl
 |(k,v,n)::r=>by simp only[entsBeq,IVal.zko,Nat.beq_refl,zpn r,Bool.and_self]
theorem IBlk.zko (b:IBlk):IBlk.beq b b=true:=by
 cases b with
 |cells cs e v o=>simp only[IBlk.beq,IVal.zaof,Nat.beq_refl,Bool.and_self,decide_true]
 |map es c=>simp only[IBlk.beq,zpn,Nat.beq_refl,Bool.and_self]
theorem zmt:∀l,boxesBeq l l=true
 | []=>rfl
 |(s,b)::r=>by simp only[boxesBeq,Nat.beq_refl,IBlk.zko,zmt r,Bool.and_self]
inductive Pm where
 |slot (t:Nat) (ty:Ty)
 |box (s:Nat) (b:BT)
@[reducible] def NT:List Pm→Type
 | []=>FH→WR
 | .slot _ ty::r=>ty.fn (NT r)
 | .box _ b::r=>b.fn (NT r)
abbrev jlam:(l:List Pm)→(SE→BXS→FH→WR)→NT l
 | [],f=>fun h=>f [] [] h
 | .slot t ty::r,f=>ty.lam fun v=>jlam r fun E b h=>f ((t,v)::E) b h
 | .box s bt::r,f=>bt.lam fun o=>jlam r fun E b h=>f E ((s,o)::b) h
noncomputable abbrev japp:(l:List Pm)→NT l→SE→WM→WR
 | [],g,_,m=>WM.rec (motive:=fun _=>WR) (fun _ h=>g h) m
 | .slot t ty::r,g,E,m=>match sfind E t with
   |some v=>ty.app v g fun g=>japp r g E m
   |none=>none
 | .box s bt::r,g,E,m=>WM.rec (motive:=fun _=>WR) (fun b _=>match bfind b s with
   |some o=>bt.app o g fun g=>japp r g E m
   |none=>none) m
def slotsIn:List Pm→List Nat
 | []=>[]
 | .slot t _::r=>t::slotsIn r
 | .box _ _::r=>slotsIn r
theorem zpo {x:WX} {E:SE} {m:WM}:∀ {l:List Pm} {f:SE→BXS→FH→WR},japp l (jlam l f) E m=some x →
 ∃E' b',f E' b' m.h=some x∧(∀ t v,sfind E' t=some v→sfind E t=some v∧t∈slotsIn l)∧(∀ s o,bfind b' s=some o→bfind m.bx s=some o)
 | [],f,h=>⟨[],[],h,(fun t v e=>by cases e),(fun s o e=>by cases e)⟩
 | .slot t ty::r,f,h=>by
   have h:(match sfind E t with|some v=>ty.app v (ty.lam fun v=>jlam r fun E b h=>f ((t,v)::E) b h) (fun g=>japp r g E m)|none=>none)=some x:=h
   split at h
   ·rename_i v hv
    have h:=Ty.zbb (t:=ty) (f:=fun v=>jlam r fun E b h=>f ((t,v)::E) b h) (k:=fun g=>japp r g E m) h
    obtain⟨E',b',h1,h2,h3⟩:=zpo h
    refine⟨(t,v)::E',b',h1,fun u w e=>?_,h3⟩
    simp only[sfind]at e
    cases hb:Nat.beq t u with
    |true =>
     rw[hb]at e
     injection e with e
     have:=Nat.eq_of_beq_eq_true hb
     subst this e
     exact⟨hv,List.mem_cons_self⟩
    |false =>
     rw[hb]at e
     exact⟨(h2 u w e).1,List.mem_cons_of_mem _ (h2 u w e).2⟩
   ·cases h
 | .box s bt::r,f,h=>by
   obtain⟨b,hh⟩:=m
   have h:(match bfind b s with|some o=>bt.app o (bt.lam fun o=>jlam r fun E b h=>f E ((s,o)::b) h) (fun g=>japp r g E ⟨b,hh⟩)|none=>none)=some x:=h
   split at h
   ·rename_i o ho
    have h:=BT.zbb (t:=bt) (f:=fun o=>jlam r fun E b h=>f E ((s,o)::b) h) (k:=fun g=>japp r g E ⟨b,hh⟩) h
    obtain⟨E',b',h1,h2,h3⟩:=zpo h
    refine⟨E',(s,o)::b',h1,h2,fun u w e=>?_⟩
    simp only[bfind]at e
    cases hb:Nat.beq s u with
    |true =>
     rw[hb]at e
     injection e with e
     have:=Nat.eq_of_beq_eq_true hb
     subst this e
     exact ho
    |false =>
     rw[hb]at e
     exact h3 u w e
   ·cases h
noncomputable def wblock {T:Type} (κ:T) (b:T→WR):WR:=b κ
noncomputable def wloop {T:Type} (z:T) (b:T→T) (n:Nat):T:=Nat.rec (motive:=fun _=>T) z (fun _ ih=>b ih) n
noncomputable abbrev wif (t:Bool) (a b:WR):WR:=Bool.rec (motive:=fun _=>WR) b a t
noncomputable abbrev wcond (v:IVal) (a b:WR):WR:=tB v fun t=>wif t a b
noncomputable def wcallH (f:IVal) (l:List IVal) (F:WO):HF:=fun h k=>zagw f l F ⟨[],h⟩ fun v m=>k v m.h
noncomputable def wgd (g:IVal) (w:Bool) (run skip:WR):WR:=IVal.rec (motive_1:=fun _=>WR) (motive_2:=fun _=>PUnit) (fun p=>wPB p (fun b=>Bool.rec (motive:=fun _=>WR) (Bool.rec (motive:=fun _=>WR) run skip b) (Bool.rec (motive:=fun _=>WR) skip run b) w) none) (fun _ _ _=>none) (fun _ _ _ _=>none) (fun _=>none) (fun _ _ _=>none) (fun _ _=>none) (fun vs _=>wnil vs skip) none (fun _=>none) (fun _ _ _ _=>none) ⟨⟩ (fun _ _ _ _=>⟨⟩) g
theorem zbhz (g:IVal) (w:Bool) (run skip:WR):wgd g w run skip=Option.rec (motive:=fun _=>WR) none (fun t=>Bool.rec skip run t) (saysBool w g):=by
 cases g with
 |p u =>
  cases u with
  |bool b=>cases b<;>cases w<;>rfl
  |_=>rfl
 |tup vs=>cases vs<;>rfl
 |_=>rfl
theorem zade {g:IVal} {w:Bool} {run skip:WR} {x:WX} (h:wgd g w run skip=some x):(saysBool w g=some true∧run=some x)∨(saysBool w g=some false∧skip=some x):=by
 rw[zbhz]at h
 cases hs:saysBool w g with
 |none=>rw[hs]at h;cases h
 |some b =>
  rw[hs]at h
  cases b with
  |true=>exact .inl ⟨rfl,h⟩
  |false=>exact .inr ⟨rfl,h⟩
noncomputable def wgV (g:IVal) (w:Bool) (f:VF):VF:=fun k=>wgd g w (f k) (k skipped)
noncomputable def wgH (g:IVal) (w:Bool) (f:HF):HF:=fun h k=>wgd g w (f h k) (k skipped h)
inductive WS where
 |v (g:WM→VF)
 |h (g:WO→HF)
 |w
noncomputable def wsort (o:IOp):WS :=
 IOp.rec (motive:=fun _=>WS) (fun x=>.v fun _=>vv (x_mov (cv x))) (fun c a b=>.v fun _=>zwq (cv c) (cv a) (cv b)) (fun s z=>Option.rec (motive:=fun _=>WS) (.h fun _=>zacw z) (fun _=>.w) s) (fun s n x=>Option.rec (motive:=fun _=>WS) (.h fun _=>h_box n (cv x)) (fun _=>.w) s) (fun z p=>.v fun _=>zri z (cvp p)) (fun e n z p=>.h fun _=>zct e n z (cvp p)) (fun n a=>.v fun m=>zac n (cv a) m) (fun _ _ _=>.w)
  (fun x=>.v fun _=>v_nil (cv x)) (fun o x=>.v fun _=>zaa o (cv x)) (fun e x i=>.v fun _=>zab e (cv x) (cv i)) (fun l e x i=>.v fun _=>zpj l e (cv x) (cv i)) (fun n o x=>.v fun _=>zajs n o (cv x)) (fun l e n x i=>.v fun _=>vv (zud l e n (cv x) (cv i))) (fun x i=>.v fun _=>vv (zpg (cv x) (cv i))) (fun x a b=>.v fun _=>vv (zhg (cv x) (cvo a) (cvo b))) (fun e x a b=>.h fun _=>zfu e (cv x) (cvo a) (cvo b))
  (fun o x y=>.v fun _=>vbin o (cv x) (cv y)) (fun n c x y=>.v fun _=>vv (x_eqv n c x y)) (fun n x y=>.v fun _=>vv (zgs n x y)) (fun n x y=>.v fun _=>vv (zamf n x y)) (fun x=>.v fun _=>v_not (cv x)) (fun x=>.v fun _=>vv (x_neg x)) (fun d x=>.v fun _=>vv (zfs d (cv x))) (fun x i=>.v fun _=>zwp (cv x) i)
  (fun f c=>.v fun _=>vv (zea f c)) (fun x=>.v fun _=>v_len (cv x)) (fun x=>.v fun _=>vv (zdf (cv x))) (fun e x y=>.h fun _=>zad e (cv x) (cv y)) (fun l=>.v fun _=>vv (zaax l)) (fun l=>.v fun _=>vv (zagl l)) (.h fun _=>zaju)
  (fun ok z c x k=>.h fun _=>zaj ok z c (cv x) (cv k)) (fun c x k v=>.h fun _=>zbp c (cv x) (cv k) (cv v)) (fun e z n c=>.h fun _=>zbw e z (cv n) (cv c)) (fun f l=>.h fun F=>wcallH (cv f) (cvs l) F) (fun z e=>.h fun _=>zug z e)
  (fun z c x k=>.h fun _=>zfe z c (cv x) (cv k)) (fun x s v=>.h fun _=>zim (cv x) (cv s) (cv v)) (fun l e x a b=>.h fun _=>zhi l e (cv x) (cvo a) (cvo b)) (fun e x y=>.h fun _=>zaay e (cv x) (cv y)) (fun e x h m=>.h fun _=>zagu e (cv x) (cv h) (cv m)) (fun z x=>.h fun _=>zacz z (cv x)) (fun c x k=>.h fun _=>h_del c (cv x) (cv k)) (fun x=>.h fun _=>znr (cv x)) (fun n=>.v fun _=>vv (zlu n)) (fun x=>.h fun _=>zns (cv x)) o
theorem zbcb {o:IOp} {g:WM→VF} (h:wsort o = .v g) (F:WO) (m:WM) (k:IVal→WM→WR):g m (fun v=>k v m)=wop o F m k:=by
 cases o with
 |alloc s z=>cases s<;>cases h
 |box s n x=>cases s<;>cases h
 |_=>first|(injection h with h;subst h;rfl)|cases h
theorem zaog (f:IVal) (l:List IVal) (F:WO) (b:BXS) (h:FH) (k:IVal→WM→WR):(zagw f l F ⟨[],h⟩ fun v m=>k v ⟨b,m.h⟩)=zagw f l F ⟨b,h⟩ k:=by
 rfl
theorem zbcc {o:IOp} {g:WO→HF} (h:wsort o = .h g) (F:WO) (b:BXS) (hh:FH) (k:IVal→WM→WR):g F hh (fun v h=>k v ⟨b,h⟩)=wop o F ⟨b,hh⟩ k:=by
 cases o with
 |alloc s z=>cases s<;>first|(injection h with h;subst h;rfl)|cases h
 |box s n x=>cases s<;>first|(injection h with h;subst h;rfl)|cases h
 |call f l=>injection h with h;subst h;exact zaog (cv f) (cvs l) F b hh k
 |_=>first|(injection h with h;subst h;rfl)|cases h
noncomputable def wgop (gv:IVal) (w:Bool) (o:IOp) (F:WO) (m:WM) (k:IVal→WM→WR):WR:=match wsort o with
 | .v g=>wgV gv w (g m) fun v=>k v m
 | .h g=>WM.rec (motive:=fun _=>WR) (fun b h=>wgH gv w (g F) h fun v h=>k v ⟨b,h⟩) m
 | .w=>wgd gv w (wop o F m k) (k skipped m)
theorem zarx {gv:IVal} {w:Bool} {o:IOp} {F:WO} {m:WM} {k:IVal→WM→WR} {x:WX} (h:wgop gv w o F m k=some x):(saysBool w gv=some true∧wop o F m k=some x)∨(saysBool w gv=some false∧k skipped m=some x):=by
 unfold wgop at h
 split at h
 ·rename_i g hg
  rcases zade h with⟨h1,h2⟩|⟨h1,h2⟩
  ·exact .inl ⟨h1,by rw[← zbcb hg];exact h2⟩
  ·exact .inr ⟨h1,h2⟩
 ·rename_i g hg
  obtain⟨b,hh⟩:=m
  rcases zade (show wgd gv w (g F hh fun v h=>k v ⟨b,h⟩) (k skipped ⟨b,hh⟩)=some x from h)with⟨h1,h2⟩|⟨h1,h2⟩
  ·exact .inl ⟨h1,by rw[← zbcc hg];exact h2⟩
  ·exact .inr ⟨h1,h2⟩
 ·exact zade h
end Go.Ideal

/-
  IDEAL SEMANTICS, 85: WHAT THE CODE OVER LEAN's OWN VARIABLES COMES TO, THE IDEAL CODE COMES TO.
-/
namespace Go.Ideal
open Go
set_option linter.unusedSectionVars false
variable [Kept]
inductive WA where
 |lf
 |sq (a b:WA)
 |cj (a b:WA)
 |cd (J:List Pm) (a b:WA)
 |bk (J:List Pm) (a:WA)
 |lp (J:List Pm) (a:WA)
 |rg (hs:List Ty)
noncomputable abbrev nbox (s:Nat) (v:IVal):Bool:=IVal.rec (motive_1:=fun _=>Bool) (motive_2:=fun _=>PUnit) (fun _=>true) (fun k _ _=>Key.rec (motive:=fun _=>Bool) (fun t=>gnot (Nat.beq s t)) (fun _=>true) k) (fun _ _ _ _=>true) (fun _=>true) (fun _ _ _=>true) (fun _ _=>true) (fun _ _=>true) true (fun _=>true) (fun _ _ _ _=>true) ⟨⟩ (fun _ _ _ _=>⟨⟩) v
theorem zary {s:Nat} {v:IVal} (h:nbox s v=true):killV s v=v:=by
 cases v with
 |ptr key ver off =>
  cases key with
  |box t =>
   have h:gnot (Nat.beq s t)=true:=h
   cases hb:Nat.beq s t with
   |true=>rw[hb]at h;cases h
   |false=>simp only[killV,hb]
  |heap i=>rfl
 |_=>rfl
noncomputable abbrev wfree (s:Nat) (vs:List IVal) (e:WR):WR:=List.rec (motive:=fun _=>WR) e (fun v _ ih=>ift (nbox s v) ih) vs
theorem zaba {s:Nat} {e:WR} {x:WX}:∀ {vs:List IVal},wfree s vs e=some x→(∀ v∈vs,killV s v=v)∧e=some x
 | [],h=>⟨fun v hv=>(by cases hv),h⟩
 |u::r,h=>by
  obtain⟨h1,h2⟩:=zak (show ift (nbox s u) (wfree s r e)=some x from h)
  obtain⟨h3,h4⟩:=zaba h2
  refine⟨fun v hv=>?_,h4⟩
  rcases List.mem_cons.1 hv with rfl|hv
  ·exact zary h1
  ·exact h3 v hv
noncomputable abbrev wkn (s:Nat) (b:BXS) (e1 e2:WR):WR:=List.rec (motive:=fun _=>WR) e2 (fun p _ ih=>Prod.rec (motive:=fun _=>WR) (fun t o=>Bool.rec (motive:=fun _=>WR) ih (Option.rec (motive:=fun _=>WR) e1 (fun _=>e2) o) (Nat.beq t s)) p) b
theorem zamp {s:Nat} {e1 e2:WR} {x:WX}:∀ {b:BXS},wkn s b e1 e2=some x→(bfind b s=some none∧e1=some x)∨e2=some x
 | [],h=>.inr h
 |(t,o)::r,h=>by
  have h:(Bool.rec (wkn s r e1 e2) (Option.rec e1 (fun _=>e2) o) (Nat.beq t s):WR)=some x:=h
  rw[bfind]
  cases hb:Nat.beq t s with
  |false=>rw[hb]at h;exact zamp h
  |true =>
   rw[hb]at h
   cases o with
   |none=>exact .inl ⟨rfl,h⟩
   |some c=>exact .inr h
noncomputable abbrev wfresh (vs:List IVal) (l:List Nat) (m:WM) (k:WM→WR):WR :=
 List.rec (motive:=fun _=>WM→WR) k (fun s _ ih m=>WM.rec (motive:=fun _=>WR) (fun b h=>wkn s b (ih ⟨b,h⟩) (wfree s vs (ih ⟨(s,none)::b,h⟩))) m) l m
section
variable {F:WO} {C:Oracle} {nt:Nat}
theorem zww:∀ {E:SE} {t:Nat} {v:IVal},sfind E t=some v→v∈svals E
 | [],t,v,h=>by cases h
 |(s,u)::r,t,v,h=>by
  simp only[sfind]at h
  cases hb:Nat.beq s t with
  |true=>rw[hb]at h;injection h with h;subst h;exact List.mem_cons_self
  |false=>rw[hb]at h;exact List.mem_cons_of_mem _ (zww h)
theorem killW {E:SE} {T:List IVal} (h:RelTS nt E T) {s:Nat} (hf:∀v∈svals E,killV s v=v):RelTS nt E (kill s T):=by
 refine⟨by simp[Ideal.kill,h.len],fun t v e=>?_⟩
 rw[Ideal.kill,List.getElem?_map,h.at' t v e]
 show some (killV s v)=some v
 rw[hf v (zww e)]
theorem zhj {E:SE} {c:WM→WR} {x:WX}:∀ {l:List Nat} {G:Gh} {T:List IVal} {m:WM} {M:Mem},RW G m M→wfresh (svals E) l m c=some x→RelTS nt E T→∃T' M' m',freshen ⟨T,M⟩ l=⟨T',M'⟩∧RelTS nt E T'∧RW G m' M'∧c m'=some x
 | [],G,T,m,M,hm,h,hE=>⟨T,M,m,rfl,hE,hm,h⟩
 |s::l,G,T,⟨b,hh⟩,M,hm,h,hE=>by
  have h:wkn s b (wfresh (svals E) l ⟨b,hh⟩ c) (wfree s (svals E) (wfresh (svals E) l ⟨(s,none)::b,hh⟩ c))=some x:=h
  rw[freshen]
  rcases zamp h with⟨h1,h2⟩|h2
  ·rw[hm.bx s none h1]
   exact zhj hm h2 hE
  ·obtain⟨h3,h4⟩:=zaba h2
   cases hb:findBox M.boxes s with
   |none =>
    have hm2:RW G ⟨(s,none)::b,hh⟩ ⟨M.boxes,M.heap⟩:=hm.box hb fun t _=>rfl
    exact zhj (M:=M) hm2 h4 hE
   |some q =>
    have hm2:RW G ⟨(s,none)::b,hh⟩ ⟨dropBox M.boxes s,M.heap⟩:=hm.box zwm fun t hne=>zkm hne
    exact zhj hm2 h4 (killW hE h3)
noncomputable def wopT (t:Ty) (o:IOp):WF:=match t,o with
 | .one (.c .nat), .bin .sub x y=>wV (zaml (cv x) (cv y))
 |_,o=>wop o
theorem zbcd {F:WO} {C:Oracle} (hF:WLe F C) (t:Ty) (o:IOp):WOK F C (wopT t o) o:=by
 unfold wopT
 split
 ·rename_i x y
  exact fun {_ _ _ _ _} hm q=>wV_ok (F:=F) (C:=C) (vv_le (zaro _ _) (zari (.bin .sub x y)) fun C M=>by simp only[evalOp];split<;>rfl) hm q
 ·exact zarw hF o
noncomputable def wshop (F:WO) (t:Ty) (E:SE) (o:IOp) (g:Option (Nat×Bool)) (k:IVal→WC):WC:=fun m =>
 match sop E o with
 |none=>none
 |some o=>match g with
  |none=>match o with
   | .mov (.const v)=>k v m
   |o=>wopT t o F m fun v m=>tyr t v fun v=>k v m
  |some (x,w)=>match sfind E x with
   |some gv=>wgop gv w o F m fun v m=>k v m
   |none=>none
theorem zagx (hF:WLe F C) {t:Ty} {E:SE} {T R:List IVal} {sub:List (Nat×Nat)} (hE:RelSS E (evalOpd T R sub)) {o:IOp} {g:Option (Nat×Bool)} {k:IVal→WC} {G:Gh} {m:WM} {M:Mem} {x:WX} (hm:RW G m M) (h:(wshop F t E o g k) m=some x) :
 (wantedI T R sub g=some true∧∃v M' m',evalOp C (evalOpd T R sub) M o=some (v,M')∧RW G m' M'∧(k v) m'=some x)∨(wantedI T R sub g=some false∧(k skipped) m=some x):=by
 unfold wshop at h
 split at h
 ·cases h
 ·rename_i o' ho
  have heq:=zaxy (zrk T R sub) hE ho C M
  split at h
  ·split at h
   ·rename_i v
    exact .inl ⟨rfl,v,M,m,by rw[heq];rfl,hm,h⟩
   ·obtain⟨v,M',m',h1,h2,h3⟩:=zbcd hF t o' hm (show wopT t o' F m (fun v m=>tyr t v fun v=>(k v) m)=some x from h)
    rw[← heq]at h1
    exact .inl ⟨rfl,v,M',m',h1,h3,zamk (k:=fun v=>k v m') h2⟩
  ·rename_i s w
   split at h
   ·rename_i gv hv
    have hl:look T R sub s=gv:=hE s gv hv
    have hw:wantedI T R sub (some (s,w))=saysBool w gv:=by
     simp only[wantedI,hl]
     rfl
    rw[hw]
    rcases zarx h with⟨h1,h2⟩|⟨h1,h2⟩
    ·obtain⟨v,M',m',g1,g2,g3⟩:=zarw hF o' hm h2
     rw[← heq]at g1
     exact .inl ⟨h1,v,M',m',g1,g3,g2⟩
    ·exact .inr ⟨h1,h2⟩
   ·cases h
def hdT:List Ty→Ty
 | []=>.one (.c .any)
 |t::_=>t
noncomputable def wreg (F:WO) (nt:Nat) (kont:SE→WC):List Ty→List IOper→SE→WC
 |_,[],E=>kont E
 |hs,o::r,E=>fun m=>match dstOK nt o.dst with
  |true=>wshop F (hdT hs) E o.op o.guard (fun v=>wreg F nt kont hs.tail r (sput E o.dst v)) m
  |false=>none
theorem zadf (hF:WLe F C) {kont:SE→WC} {x:WX}:∀ {ops:List IOper} {hs:List Ty} {G:Gh} {E:SE} {T:List IVal} {m:WM} {M:Mem},RW G m M→(wreg F nt kont hs ops E) m=some x→RelTS nt E T→∃T' M' m' E',evalReg C ⟨T,M⟩ ops=some ⟨T',M'⟩∧RelTS nt E' T'∧RW G m' M'∧(kont E') m'=some x
 | [],hs,G,E,T,m,M,hm,h,hE=>⟨T,M,m,E,rfl,hE,hm,by simpa only[wreg]using h⟩
 |o::r,hs,G,E,T,m,M,hm,h,hE=>by
  simp only[wreg]at h
  split at h
  ·rename_i hd
   rcases zagx hF hE.s hm h with⟨h1,v,M',m',h2,h3,h4⟩|⟨h1,h2⟩
   ·obtain⟨T',M2,m2,E',g1,g2,g3,g4⟩:=zadf hF h3 h4 (hE.put hd v)
    refine⟨T',M2,m2,E',?_,g2,g3,g4⟩
    rw[evalReg]
    simp only[h1,h2]
    exact g1
   ·obtain⟨T',M2,m2,E',g1,g2,g3,g4⟩:=zadf hF hm h2 (hE.put hd skipped)
    refine⟨T',M2,m2,E',?_,g2,g3,g4⟩
    rw[evalReg]
    simp only[h1]
    exact g1
  ·cases h
structure RelRW (n:Nat) (R:SE) (RL:List IVal):Prop where
 len:RL.length=n
 at':∀j v,sfind R j=some v→RL[j]? = some v
theorem subW {E R:SE} {T RL:List IVal} {n:Nat} (hE:RelTS nt E T) (hR:RelRW n R RL):∀ {sub:List (Nat×Nat)} {E':SE},subS E R sub=some E'→RelSS E' (evalOpd T RL sub)
 | [],E',h=>by injection h with h;subst h;exact fun t v e=>by show T.getD t .undef=v;rw[List.getD_eq_getElem?_getD,hE.at' t v e];rfl
 |(s,j)::r,E',h=>by
  simp only[subS]at h
  split at h
  ·rename_i v E2 h1 h2
   injection h with h
   subst h
   have ih:=subW hE hR h2
   intro t u e
   show look T RL ((s,j)::r) t=u
   simp only[sfind]at e
   simp only[look,findSub]
   cases hb:Nat.beq s t with
   |true =>
    rw[hb]at e
    injection e with e
    subst e
    show RL.getD j .undef=v
    rw[List.getD_eq_getElem?_getD,hR.at' j v h1];rfl
   |false =>
    rw[hb]at e
    exact ih t u e
  ·cases h
variable {ops:List IOper}
theorem RelRW.put {n:Nat} {R:SE} {RL:List IVal} (h:RelRW n R RL) {i:Nat} (hi:i<n) (v:IVal):RelRW n ((i,v)::R) (RL.set i v):=by
 refine⟨by simp[h.len],fun j u e=>?_⟩
 simp only[sfind]at e
 cases hb:Nat.beq i j with
 |true =>
  rw[hb]at e
  have:=Nat.eq_of_beq_eq_true hb
  subst this
  injection e with e
  subst e
  rw[List.getElem?_set_self (by rw[h.len];exact hi)]
 |false =>
  rw[hb]at e
  have hne:i≠j:=fun e=>by rw[e,Nat.beq_refl]at hb;cases hb
  rw[List.getElem?_set_ne hne]
  exact h.at' j u e
noncomputable def wat (F:WO) (hs:List Ty) (ops:List IOper) (E R:SE) (i:Nat) (k:SE→WC):WC:=fun m =>
 match ops[i]? with
 |none=>none
 |some o=>match subS E R o.sub with
  |some E'=>wshop F (hdT (hs.drop i)) E' o.op o.guard (fun v=>k ((i,v)::R)) m
  |none=>none
noncomputable def wqs (F:WO) (hs:List Ty) (ops:List IOper) (E:SE) (k:SE→WC):List Nat→SE→WC
 | [],R=>k R
 |i::r,R=>wat F hs ops E R i fun R=>wqs F hs ops E k r R
noncomputable def wfetch (m:WM):Key→Option IBlk
 | .box s=>match bfind m.bx s with|some o=>o|none=>none
 | .heap i=>hfind m.h i
where hfind (h:FH) (i:Nat):Option IBlk:=fhopen h fun t n _=>Bool.rec none (hget (hp i) t) (Nat.ble (Nat.succ i) n)
theorem zakb {G:Gh} {m:WM} {M:Mem} (hm:RW G m M) {k:Key} {b:IBlk} (h:wfetch m k=some b):M.get k=some b:=by
 cases k with
 |box s =>
  simp only[wfetch]at h
  split at h
  ·rename_i o ho
   subst h
   exact hm.bx s _ ho
  ·cases h
 |heap i =>
  have h2:fheap ⟨[],m.h⟩ i=some b:=h
  rw[zamg (m:=⟨[],m.h⟩) (M:=⟨[],M.heap⟩) ⟨rfl,hm.h⟩]at h2
  exact h2
noncomputable def wchk (F:WO) (m:WM) (o:IOp) (v:IVal):Bool :=
 Bool.rec (motive:=fun _=>Bool) (match wop o F m (fun u m=>some ([u],m))with|some ([u],_)=>IVal.beq u v|_=>false)
  (match contentOf noRho o,keyOf v with
   |some b,some k=>match wfetch m k with
    |some c=>IBlk.beq b c
    |none=>false
   |_,_=>false) (isAlloc o)
theorem zbce (hF:WLe F C) {G:Gh} {m:WM} {M:Mem} (hm:RW G m M) {o:IOp} {v:IVal} (h:wchk F m o v=true):(match isAlloc o with
 |true=>match contentOf noRho o,keyOf v with
  |some b,some k=>match M.get k with
   |some c=>IBlk.beq b c
   |none=>false
  |_,_=>false
 |false=>match evalOp C noRho M o with
  |some (u,_)=>IVal.beq u v
  |none=>false)=true:=by
 unfold wchk at h
 cases ha:isAlloc o with
 |true =>
  rw[ha]at h
  dsimp only at h ⊢
  split at h
  ·rename_i b k h1 h2
   split at h
   ·rename_i c hc
    have:=zakb hm hc
    simp only[this]
    first|exact h|(rw[h1,h2];exact h)
   ·cases h
  ·cases h
 |false =>
  rw[ha]at h
  dsimp only at h ⊢
  split at h
  ·rename_i u q hq
   obtain⟨u',M',m',g1,g2,_⟩:=zarw hF o hm hq
   injection g2 with g2
   injection g2 with g2 _
   injection g2 with g2 _
   subst g2
   rw[g1]
   exact h
  ·cases h
noncomputable def wgb (g:IVal) (w c:Bool):Bool:=Option.rec (motive:=fun _=>Bool) false (fun t=>Bool.rec (motive:=fun _=>Bool) true c t) (saysBool w g)
theorem zbia {g:IVal} {w c:Bool} (h:wgb g w c=true):(saysBool w g=some true∧c=true)∨saysBool w g=some false:=by
 unfold wgb at h
 cases hs:saysBool w g with
 |none=>rw[hs]at h;cases h
 |some t =>
  rw[hs]at h
  cases t with
  |true=>exact .inl ⟨rfl,h⟩
  |false=>exact .inr rfl
noncomputable def wsrc (F:WO) (ops:List IOper) (E R:SE) (k:WC):List Nat→WC
 | []=>k
 |i::r=>fun m=>match ops[i]? with
  |none=>none
  |some o=>match subS E R o.sub,sfind R i with
   |some E',some x=>match sop E' o.op with
    |some op=>match o.guard with
     |none=>ift (wchk F m op x) (wsrc F ops E R k r m)
     |some (t,w)=>match sfind E' t with
      |some g=>ift (wgb g w (wchk F m op x)) (wsrc F ops E R k r m)
      |none=>none
    |none=>none
   |_,_=>none
noncomputable def wplan (F:WO) (hs:List Ty) (ops:List IOper) (E:SE) (k:SE→WC):List Stage→SE→WC
 | [],R=>k R
 |g::r,R=>wqs F hs ops E (fun R=>wsrc F ops E R (match g.e with
  |none=>wplan F hs ops E k r R
  |some i=>wat F hs ops E R i fun R=>wplan F hs ops E k r R) g.rc) g.qs R
theorem zarz (hF:WLe F C) {hs:List Ty} {E R:SE} {T RL:List IVal} (hE:RelTS nt E T) (hR:RelRW ops.length R RL) {i:Nat} {k:SE→WC} {G:Gh} {m:WM} {M:Mem} {x:WX} (hm:RW G m M) (h:(wat F hs ops E R i k) m=some x) :
 ∃R' RL' M' m',evalAt C ops T RL M i=some (RL',M')∧RelRW ops.length R' RL'∧RW G m' M'∧(k R') m'=some x:=by
 unfold wat at h
 split at h
 ·cases h
 ·rename_i o ho
  have hi:i<ops.length:=(List.getElem?_eq_some_iff.1 ho).1
  split at h
  ·rename_i E' hs
   unfold evalAt
   rw[ho]
   rcases zagx hF (subW hE hR hs) hm h with⟨h1,v,M',m',h2,h3,h4⟩|⟨h1,h2⟩
   ·exact⟨_,_,M',m',by simp only[h1,h2],hR.put hi v,h3,h4⟩
   ·exact⟨_,_,M,m,by simp only[h1],hR.put hi skipped,hm,h2⟩
  ·cases h
theorem zasa (hF:WLe F C) {hs:List Ty} {E:SE} {T:List IVal} (hE:RelTS nt E T) {k:SE→WC} {x:WX} {G:Gh}:∀ {l:List Nat} {R:SE} {RL:List IVal} {m:WM} {M:Mem},RelRW ops.length R RL→RW G m M→(wqs F hs ops E k l R) m=some x →
 ∃R' RL' M' m',evalQs C ops T RL M l=some (RL',M')∧RelRW ops.length R' RL'∧RW G m' M'∧(k R') m'=some x
 | [],R,RL,m,M,hR,hm,h=>⟨R,RL,M,m,rfl,hR,hm,h⟩
 |i::l,R,RL,m,M,hR,hm,h=>by
  obtain⟨R2,RL2,M2,m2,g1,g2,g3,g4⟩:=zarz hF hE hR hm h
  obtain⟨R3,RL3,M3,m3,k1,k2,k3,k4⟩:=zasa hF hE g2 g3 g4
  exact⟨R3,RL3,M3,m3,by rw[evalQs,g1];exact k1,k2,k3,k4⟩
theorem zadg (hF:WLe F C) {E R:SE} {T RL:List IVal} (hE:RelTS nt E T) (hR:RelRW ops.length R RL) {k:WC} {G:Gh} {m:WM} {M:Mem} {x:WX} (hm:RW G m M):∀ {l:List Nat},(wsrc F ops E R k l) m=some x→rechecks C ops T RL M l=true∧k m=some x
 | [],h=>⟨rfl,h⟩
 |i::l,h=>by
  simp only[wsrc]at h
  split at h
  ·cases h
  ·rename_i o ho
   split at h
   ·rename_i E' v hs hv
    have hgi:RL.getD i .undef=v:=by rw[List.getD_eq_getElem?_getD,hR.at' i v hv];rfl
    have hS:=subW hE hR hs
    split at h
    ·rename_i op hop
     obtain⟨ha,hc⟩:=zajz (zrk T RL o.sub) hS hop
     have he:=zaxy (zrk T RL o.sub) hS hop C M
     have key:wchk F m op v=true→wantedI T RL o.sub o.guard=some true→recheck C ops T RL M i=true:=by
      intro hk hw
      have hk:=zbce hF hm hk
      rw[ha,←hc,←he]at hk
      unfold recheck
      simp only[ho,hw,hgi]
      exact hk
     split at h
     ·rename_i hg
      obtain⟨hb,h⟩:=zak h
      obtain⟨g1,g2⟩:=zadg hF hE hR hm h
      refine⟨?_,g2⟩
      rw[rechecks,key hb (by rw[hg];rfl)]
      exact g1
     ·rename_i t w hg
      split at h
      ·rename_i g hgv
       have hl:look T RL o.sub t=g:=hS t g hgv
       have hw:wantedI T RL o.sub o.guard=saysBool w g:=by rw[hg];simp only[wantedI,hl];rfl
       obtain⟨hb,h⟩:=zak h
       obtain⟨g1,g2⟩:=zadg hF hE hR hm h
       refine⟨?_,g2⟩
       rcases zbia hb with⟨hs2,hb⟩|hs2
       ·rw[rechecks,key hb (by rw[hw,hs2])]
        exact g1
       ·have:recheck C ops T RL M i=true:=by
         unfold recheck
         simp only[ho,hw,hs2]
        rw[rechecks,this]
        exact g1
      ·cases h
    ·cases h
   ·cases h
theorem zpp (hF:WLe F C) {hs:List Ty} {E:SE} {T:List IVal} (hE:RelTS nt E T) {k:SE→WC} {x:WX} {G:Gh}:∀ {l:List Stage} {R:SE} {RL:List IVal} {m:WM} {M:Mem},RelRW ops.length R RL→RW G m M→(wplan F hs ops E k l R) m=some x →
 ∃R' RL' M' m',evalPlan C ops T RL M l=some (RL',M')∧RelRW ops.length R' RL'∧RW G m' M'∧(k R') m'=some x
 | [],R,RL,m,M,hR,hm,h=>⟨R,RL,M,m,rfl,hR,hm,h⟩
 |g::l,R,RL,m,M,hR,hm,h=>by
  simp only[wplan]at h
  obtain⟨R2,RL2,M2,m2,g1,g2,g3,g4⟩:=zasa hF hE hR hm h
  obtain⟨k1,k2⟩:=zadg hF hE g2 g3 g4
  rw[evalPlan,g1]
  simp only[k1]
  cases hg:g.e with
  |none =>
   rw[hg]at k2
   exact zpp hF hE g2 g3 k2
  |some i =>
   rw[hg]at k2
   obtain⟨R3,RL3,M3,m3,a1,a2,a3,a4⟩:=zarz hF hE g2 g3 k2
   simp only[a1]
   exact zpp hF hE a2 a3 a4
theorem zamq:∀(l:List IOper),RelRW l.length [] (noRes l):=fun l=>⟨by induction l with|nil=>rfl|cons o r ih=>simp[noRes,ih],fun j v e=>by cases e⟩
theorem zagy:∀(n i:Nat) {R:SE} {vs:List IVal},vecS R (upto n i)=some vs→vs.length=n∧∀j v,vs[j]? = some v→sfind R (i+j)=some v
 |0,i,R,vs,h=>by injection h with h;subst h;exact⟨rfl,fun j v e=>by simp at e⟩
 |n+1,i,R,vs,h=>by
  simp only[upto,vecS]at h
  split at h
  ·rename_i u us h1 h2
   injection h with h
   subst h
   obtain⟨g1,g2⟩:=zagy n (i+1) h2
   refine⟨by simp[g1],fun j v e=>?_⟩
   cases j with
   |zero=>simp at e;subst e;exact h1
   |succ j=>rw[show i+(j+1)=i+1+j by omega];exact g2 j v (by simpa using e)
  ·cases h
theorem zasb {n:Nat} {R:SE} {RL vs:List IVal} (hR:RelRW n R RL) (h:vecS R (upto n 0)=some vs):vs=RL:=by
 obtain⟨h1,h2⟩:=zagy n 0 h
 apply List.ext_getElem?
 intro j
 cases e:vs[j]? with
 |some v=>have:=h2 j v e;rw[Nat.zero_add]at this;rw[hR.at' j v this]
 |none =>
  rw[List.getElem?_eq_none_iff]at e
  rw[List.getElem?_eq_none (by rw[hR.len];omega)]
theorem putAllW:∀ {l:List IOper} {E:SE} {T vs:List IVal},RelTS nt E T→dstsFit nt l=true→RelTS nt (putAllS E l vs) (putAll T l vs)
 | [],E,T,vs,hE,_=>by cases vs<;>exact hE
 |o::r,E,T,[],hE,_=>hE
 |o::r,E,T,v::vs,hE,hd=>by
  rw[putAllS,putAll]
  have hd2:dstOK nt o.dst=true∧dstsFit nt r=true:=by
   simp only[dstsFit]at hd
   split at hd
   ·rename_i d e
    split at hd
    ·rename_i hlt;exact⟨by simp only[dstOK,e];exact hlt,hd⟩
    ·cases hd
   ·rename_i e;exact⟨by simp only[dstOK,e],hd⟩
  exact putAllW (hE.put hd2.1 v) hd2.2
noncomputable def wfinR (n:Nat):SE→WC:=fun R m=>match vecS R (upto n 0)with|some vs=>some (vs,m)|none=>none
noncomputable def fheq (a b:FH):Bool:=fhopen a fun t n _=>fhopen b fun u n' _=>Nat.beq n n'&&hteqW t u n
where hteqW (t u:HT) (n:Nat):Bool:=Nat.rec (motive:=fun _=>Bool) true (fun i ih=>Bool.rec false ih (match hget (hp i) t,hget (hp i) u with|some a,some b=>IBlk.beq a b|_,_=>false)) n
noncomputable def wboth (n0:Nat) (a b:WR):WR:=match a,b with
 |some (vs,m1),some (ws,m2)=>ift (IVal.beqs vs ws) (wbeq (llen m1.bx) n0 (wbeq (llen m2.bx) n0 (ift (fheq m1.h m2.h) (some (vs,m1)))))
 |_,_=>none
noncomputable def wplans (F:WO) (hs:List Ty) (ops:List IOper) (E:SE):List (List Stage)→WC
 | []=>fun _=>none
 | [g]=>fun m=>wplan F hs ops E (wfinR ops.length) g [] m
 |g::r=>fun m=>wboth (llen m.bx) (wplan F hs ops E (wfinR ops.length) g [] m) (wplans F hs ops E r m)
theorem RW0 {G:Gh} {m:WM} {M:Mem} (h:RW G m M):RW (m.bx.length,M.boxes) m M:=⟨h.bx,Nat.le_refl _,fun _=>rfl,h.h⟩
theorem zwx:∀ {H K:List IBlk},H.length=K.length→(∀ (i:Nat) a b,H[i]? = some a→K[i]? = some b→IBlk.beq a b=true)→heapBeq H K=true
 | [],[],_,_=>rfl
 |a::H,b::K,hl,h=>by
  rw[heapBeq,h 0 a b rfl rfl,Bool.true_and]
  exact zwx (by simpa using hl) fun i x y hx hy=>h (i+1) x y (by simpa using hx) (by simpa using hy)
 | [],b::K,hl,_=>by simp at hl
 |a::H,[],hl,_=>by simp at hl
theorem zamr {t u:HT}:∀ {n:Nat},fheq.hteqW t u n=true→∀i,i<n→∃a b,hget (hp i) t=some a∧hget (hp i) u=some b∧IBlk.beq a b=true
 |0,_,i,hi=>by omega
 |n+1,h,i,hi=>by
  have h:(Bool.rec false (fheq.hteqW t u n) (match hget (hp n) t,hget (hp n) u with|some a,some b=>IBlk.beq a b|_,_=>false):Bool)=true:=h
  cases hc:(match hget (hp n) t,hget (hp n) u with|some a,some b=>IBlk.beq a b|_,_=>false)with
  |false=>rw[hc]at h;cases h
  |true =>
   rw[hc]at h
   by_cases e:i=n
   ·subst e
    split at hc
    ·rename_i a b h1 h2;exact⟨a,b,h1,h2,hc⟩
    ·cases hc
   ·exact zamr h i (by omega)
theorem zbcf {a b:FH} {H K:List IBlk} (ha:RH a H) (hb:RH b K) (h:fheq a b=true):heapBeq H K=true:=by
 obtain⟨t,n,c⟩:=a
 obtain⟨u,n',c'⟩:=b
 have h:(Nat.beq n n'&&fheq.hteqW t u n)=true:=h
 rw[Bool.and_eq_true]at h
 obtain⟨h2,h3⟩:=h
 have l1:n=H.length:=ha.n
 have l2:n'=K.length:=hb.n
 have hl:=Nat.eq_of_beq_eq_true h2
 refine zwx (by omega) fun i x y hx hy=>?_
 have hi:=(List.getElem?_eq_some_iff.1 hx).1
 have hle:=ha.le
 obtain⟨p,q,g1,g2,g3⟩:=zamr h3 i (by omega)
 have k1:=ha.at' i (by omega)
 have k2:=hb.at' i (by omega)
 rw[hx]at k1
 rw[hy]at k2
 have k1:hget (hp i) t=some x:=k1
 have k2:hget (hp i) u=some y:=k2
 rw[g1]at k1
 rw[g2]at k2
 injection k1 with k1
 injection k2 with k2
 rw[← k1,←k2];exact g3
theorem zabb (hF:WLe F C) {hs:List Ty} {E:SE} {T:List IVal} (hE:RelTS nt E T) {G:Gh} {m:WM} {M:Mem} (hm:RW G m M) {g:List Stage} {vs:List IVal} {m':WM} (h:(wplan F hs ops E (wfinR ops.length) g []) m=some (vs,m')):∃M',RW G m' M'∧evalPlan C ops T (noRes ops) M g=some (vs,M'):=by
 obtain⟨R',RL',M2,m2,h1,h2,hm2,h3⟩:=zpp hF hE (zamq ops) hm h
 unfold wfinR at h3
 split at h3
 ·rename_i ws hw
  injection h3 with h3
  injection h3 with a b
  subst a b
  rw[zasb h2 hw]
  exact⟨M2,hm2,h1⟩
 ·cases h3
theorem zabc (hF:WLe F C) {hs:List Ty} {E:SE} {T:List IVal} (hE:RelTS nt E T) {m:WM} {M:Mem} (hm:RW (m.bx.length,M.boxes) m M):∀ {pl:List (List Stage)} {vs:List IVal} {m':WM},2≤pl.length∨llen m'.bx=llen m.bx→(wplans F hs ops E pl) m=some (vs,m')→llen m'.bx=llen m.bx∧∃M',RW (m.bx.length,M.boxes) m' M'∧evalPlans C ops ⟨T,M⟩ pl=some (vs,M')
 | [],vs,m',_,h=>by cases h
 | [g],vs,m',hl,h=>by
   rw[evalPlans]
   exact⟨hl.resolve_left (by simp),zabb hF hE hm h⟩
 |g::g2::r,vs,m',_,h=>by
  have h:wboth (llen m.bx) ((wplan F hs ops E (wfinR ops.length) g []) m) ((wplans F hs ops E (g2::r)) m)=some (vs,m'):=h
  unfold wboth at h
  split at h
  ·rename_i vs1 m1 ws m2 h1 h2
   obtain⟨b1,h⟩:=zak h
   obtain⟨b2,h⟩:=zae h
   obtain⟨b3,h⟩:=zae h
   obtain⟨b4,h⟩:=zak h
   injection h with h
   injection h with a b
   subst a b
   obtain⟨M1,q1,p1⟩:=zabb hF hE hm h1
   obtain⟨_,M2,q2,p2⟩:=zabc hF hE hm (.inr b3) h2
   refine⟨b2,M1,q1,?_⟩
   have e1:M1.boxes=M.boxes:=q1.same (by rw[← zaf,←zaf];exact b2)
   have e2:M2.boxes=M.boxes:=q2.same (by rw[← zaf,←zaf];exact b3)
   have hq:(boxesBeq M1.boxes M2.boxes&&heapBeq M1.heap M2.heap)=true:=by rw[e1,e2,zmt,zbcf q1.h q2.h b4];rfl
   rw[evalPlans]
   ·simp only[p1,p2,b1,hq,Bool.and_self]
   ·simp
  ·cases h
noncomputable abbrev tyrs:List Ty→List IVal→(List IVal→WR)→WR
 | [],vs,f=>wnil vs (f [])
 |t::r,vs,f=>wcons vs fun v vs=>tyr t v fun v=>tyrs r vs fun l=>f (v::l)
theorem zpq {x:WX}:∀ {ts:List Ty} {vs:List IVal} {f:List IVal→WR},tyrs ts vs f=some x→f vs=some x∧vs.length=ts.length
 | [],vs,f,h=>by obtain⟨rfl,h2⟩:=zwo h;exact⟨h2,rfl⟩
 |t::r,vs,f,h0=>by
  obtain⟨v,vs,rfl,h⟩:=zre h0
  have h:=zamk (k:=fun v=>tyrs r vs fun l=>f (v::l)) h
  obtain⟨h1,h2⟩:=zpq (f:=fun l=>f (v::l)) h
  exact⟨h1,by simp[h2]⟩
noncomputable def wmul (r:WR) (k:List IVal→FH→WR):WR:=Option.rec (motive:=fun _=>WR) none (fun p=>Prod.rec (motive:=fun _=>WR) (fun vs m=>WM.rec (motive:=fun _=>WR) (fun _ h=>k vs h) m) p) r
noncomputable def wdraw (F:WO) (nt:Nat) (hs:List Ty) (ops:List IOper) (plans:List (List Stage)) (kont:SE→WC) (E:SE):WC:=fun m =>
 match dstsFit nt ops with
 |false=>none
 |true=>match plans with
  | []=>none
  | [g]=>wplan F hs ops E (fun R m=>match vecS R (upto ops.length 0)with|some vs=>kont (putAllS E ops vs) m|none=>none) g [] m
  |g1::g2::pl=>WM.rec (motive:=fun _=>WR) (fun b h=>wmul (wplans F hs ops E (g1::g2::pl) ⟨b,h⟩) fun vs h'=>tyrs (hs.take ops.length) vs fun vs=>kont (putAllS E ops vs) ⟨b,h'⟩) m
theorem zasc (hF:WLe F C) {hs:List Ty} {E:SE} {T:List IVal} (hE:RelTS nt E T) {plans:List (List Stage)} {kont:SE→WC} {G:Gh} {m:WM} {M:Mem} {x:WX} (hm:RW G m M) (h:(wdraw F nt hs ops plans kont E) m=some x) :
 ∃T' M' m' E',evalDraw C ops plans ⟨T,M⟩=some ⟨T',M'⟩∧RelTS nt E' T'∧RW G m' M'∧(kont E') m'=some x:=by
 unfold wdraw at h
 unfold evalDraw
 simp only[hE.len]
 split at h
 ·cases h
 ·rename_i hd
  simp only[hd]
  split at h
  ·cases h
  ·rename_i g
   obtain⟨R',RL',M2,m2,h1,h2,hm2,h3⟩:=zpp hF hE (zamq ops) hm h
   split at h3
   ·rename_i vs hv
    have:=zasb h2 hv
    subst this
    refine⟨_,M2,m2,_,by rw[evalPlans];simp only[h1],putAllW hE hd,hm2,h3⟩
   ·cases h3
  ·rename_i g1 g2 pl
   obtain⟨b,hh⟩:=m
   have h:wmul (wplans F hs ops E (g1::g2::pl) ⟨b,hh⟩) (fun vs h'=>tyrs (hs.take ops.length) vs fun vs=>kont (putAllS E ops vs) ⟨b,h'⟩)=some x:=h
   cases hp:wplans F hs ops E (g1::g2::pl) ⟨b,hh⟩with
   |none=>rw[hp]at h;cases h
   |some p =>
    obtain⟨vs,m1⟩:=p
    rw[hp]at h
    obtain⟨g3,g4⟩:=zpq (show tyrs (hs.take ops.length) vs (fun vs=>kont (putAllS E ops vs) ⟨b,m1.h⟩)=some x from h)
    obtain⟨hl,M1,q1,q2⟩:=zabc hF hE (RW0 hm) (.inl (by simp)) hp
    have e1:M1.boxes=M.boxes:=q1.same (by rw[← zaf,←zaf];exact hl)
    obtain⟨b1,hh1⟩:=m1
    refine⟨_,M1,⟨b,hh1⟩,_,by simp only[q2],putAllW hE hd,?_,g3⟩
    have:=hm.heap (h':=hh1) (H:=M1.heap) q1.h
    rw[← e1]at this
    exact this
end
structure TE where
 id:Nat
 J:List Pm
 j:NT J
def tefind:List TE→Nat→Option TE
 | [],_=>none
 |e::r,t=>match Nat.beq e.id t with|true=>some e|false=>tefind r t
noncomputable abbrev jgo (J:List Pm) (j:NT J):SE→WC:=fun E m=>japp J j E m
noncomputable abbrev jto (J:List Pm) (k:SE→WC):NT J:=jlam J fun E b h=>k E ⟨b,h⟩
noncomputable def jnone (J:List Pm):NT J:=jlam J fun _ _ _=>none
noncomputable def wcode (F:WO) (L nt:Nat) (kr:SE→WC):List TE→ICode→WA→(SE→WC)→SE→WC
 |_, .skip,_,k,E=>k E
 |Δ, .seq a b, .sq x y,k,E=>wcode F L nt kr Δ a x (fun E=>wcode F L nt kr Δ b y k E) E
 |Δ, .cond c a b, .cj x y,k,E=>fun m=>match sopd E c with
  |some (.const v)=>wcond v (wcode F L nt kr Δ a x k E m) (wcode F L nt kr Δ b y k E m)
  |_=>none
 |Δ, .cond c a b, .cd J x y,k,E=>fun m=>match sopd E c with
  |some (.const v)=>wblock (jto J k) fun j=>wcond v (wcode F L nt kr Δ a x (jgo J j) E m) (wcode F L nt kr Δ b y (jgo J j) E m)
  |_=>none
 |Δ, .block id mk c, .bk J x,k,E=>fun m=>match mkOK mk (slotsIn J)with
  |true=>wblock (jto J k) fun j=>wcode F L nt kr (⟨id,J,j⟩::Δ) c x (jgo J j) E m
  |false=>none
 |Δ, .loop mk c, .lp J x,_,E=>fun m=>match mkOK mk (slotsIn J)with
  |true=>jgo J (wloop (jnone J) (fun j=>jto J (wcode F L nt kr Δ c x (jgo J j))) L) E m
  |false=>none
 |Δ, .exit id,_,_,E=>fun m=>match tefind Δ id with
  |some e=>jgo e.J e.j E m
  |none=>none
 |_, .ret,_,_,E=>kr E
 |_, .reg fr ops, .rg hs,k,E=>fun m=>wfresh (svals E) fr m fun m=>wreg F nt k hs ops E m
 |_, .draw fr ops pl, .rg hs,k,E=>fun m=>wfresh (svals E) fr m fun m=>wdraw F nt hs ops pl k E m
 |_,_,_,_,_=>fun _=>none
section
variable {F:WO} {C:Oracle} {L nt:Nat}
def EndW (nt:Nat) (kr:SE→WC) (Δ:List TE) (k:SE→WC) (x:WX):IExit→List IVal→Mem→Prop
 | .normal,T,M=>∃E m G,RW G m M∧RelTS nt E T∧k E m=some x
 | .exit i,T,M=>∃e E m G,tefind Δ i=some e∧jgo e.J e.j E m=some x∧RW G m M∧RelTS nt E T
 | .ret,T,M=>∃E m G,kr E m=some x∧RW G m M∧RelTS nt E T
theorem zadh {J:List Pm} {k:SE→WC} {E:SE} {T:List IVal} {G:Gh} {m:WM} {M:Mem} {x:WX} (hE:RelTS nt E T) (hm:RW G m M) (h:jgo J (jto J k) E m=some x):∃E' m' G',k E' m'=some x∧RelTS nt E' T∧RW G' m' M∧(∀ mk,mkOK mk (slotsIn J)=true→RelTS nt E' (maskT mk T)):=by
 obtain⟨E',b',h1,h2,h3⟩:=zpo (f:=fun E b h=>k E ⟨b,h⟩) h
 have hT:RelTS nt E' T:=⟨hE.len,fun t v e=>hE.at' t v (h2 t v e).1⟩
 refine⟨E',⟨b',m.h⟩,(b'.length,M.boxes),h1,hT,⟨fun s o e=>hm.bx s o (h3 s o e),Nat.le_refl _,fun _=>rfl,hm.h⟩,fun mk hmk=>⟨by rw[zadb];exact hE.len,fun t v e=>?_⟩⟩
 have hv:RelVS [t] [v] T:=fun u w e2=>by
  simp only[zipSS,sfind]at e2
  cases hb:Nat.beq t u with
  |true =>
   rw[hb]at e2
   injection e2 with e2
   subst e2
   rw[← Nat.eq_of_beq_eq_true hb]
   exact hT.at' t v e
  |false=>rw[hb]at e2;cases e2
 have hm1:mkOK mk [t]=true:=by
  have ht:=(h2 t v e).2
  cases mk with
  |nil=>rfl
  |cons b r =>
   have key:∀l:List Nat,allIn (b::r) l=true→t∈l→allIn (b::r) [t]=true:=by
    intro l
    induction l with
    |nil=>intro _ h;cases h
    |cons u l ih =>
     intro ha hmem
     simp only[allIn]at ha
     split at ha
     ·rename_i hu
      rcases List.mem_cons.1 hmem with rfl|hmem
      ·simp only[allIn,hu]
      ·exact ih ha hmem
     ·cases ha
   exact key _ hmk ht
 exact(hv.mask hm1) t v (by simp only[zipSS,sfind,Nat.beq_refl])
end
end Go.Ideal

/-
  IDEAL SEMANTICS, 71: THE OPERATIONS OVER THE MEMORY AS A TREE, each with what comes behind it.
-/
namespace Go.Ideal
open Go
set_option linter.unusedSectionVars false
variable [Kept]
abbrev YR:=Option (IExit×List IVal×FM)
abbrev FOr:=FuncId→List IVal→FH→(IVal→FH→YR)→YR
section
variable {R:Type}
end
section
variable {R:Type}
end
section
variable {F:FOr} {C:Oracle}
end
end Go.Ideal

/-
  IDEAL SEMANTICS, 71b: THE OPERATIONS ON VALUES, each handing its value straight to what comes behind it.
-/
namespace Go.Ideal
open Go
set_option linter.unusedSectionVars false
variable [Kept]
section
variable {R:Type}
end
end Go.Ideal

/-
  IDEAL SEMANTICS, 72: THE OTHER OPERATIONS OVER THE MEMORY AS A TREE.
-/
namespace Go.Ideal
open Go
set_option linter.unusedSectionVars false
variable [Kept]
section
variable {F:FOr} {C:Oracle}
end
end Go.Ideal

/-
  IDEAL SEMANTICS, 73: THE CODE OVER LEAN's OWN VARIABLES, OVER THE MEMORY AS A TREE: what it comes to, the ideal code comes to.
-/
namespace Go.Ideal
open Go
set_option linter.unusedSectionVars false
variable [Kept]
abbrev SC:=FM→YR
section
variable (F:FOr) (L:Nat)
end
section
variable {F:FOr} {C:Oracle} {L nt:Nat}
structure RelRS (n:Nat) (R:SE) (RL:List IVal):Prop where
 len:RL.length=n
 at':∀j v,sfind R j=some v→RL[j]? = some v
variable {ops:List IOper}
theorem RelRS.put {n:Nat} {R:SE} {RL:List IVal} (h:RelRS n R RL) {i:Nat} (hi:i<n) (v:IVal):RelRS n ((i,v)::R) (RL.set i v):=by
 refine⟨by simp[h.len],fun j u e=>?_⟩
 simp only[sfind]at e
 cases hb:Nat.beq i j with
 |true =>
  rw[hb]at e
  have:=Nat.eq_of_beq_eq_true hb
  subst this
  injection e with e
  subst e
  rw[List.getElem?_set_self (by rw[h.len];exact hi)]
 |false =>
  rw[hb]at e
  have hne:i≠j:=fun e=>by rw[e,Nat.beq_refl]at hb;cases hb
  rw[List.getElem?_set_ne hne]
  exact h.at' j u e
end
end Go.Ideal

/-
  IDEAL SEMANTICS, 74: CODE, over the memory as a tree.
-/
namespace Go.Ideal
open Go
set_option linter.unusedSectionVars false
variable [Kept]
section
variable {F:FOr} {C:Oracle} {L nt:Nat} {ops:List IOper}
def RelPS:List Nat→List IVal→List IVal→Prop
 | [],vs,_=>vs=[]
 |t::l,vs,T=>∃v r,vs=v::r∧T[t]? = some v∧RelPS l r T
theorem RelTS.pos {E:SE} {T:List IVal} (h:RelTS nt E T):∀ {l:List Nat} {vs:List IVal},vecS E l=some vs→RelPS l vs T
 | [],vs,e=>by injection e with e;exact e.symm
 |t::l,vs,e=>by
  simp only[vecS]at e
  split at e
  ·rename_i v r h1 h2
   injection e with e
   exact⟨v,r,e.symm,h.at' t v h1,RelTS.pos h h2⟩
  ·cases e
end
end Go.Ideal
