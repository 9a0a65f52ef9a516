/-
  Lemmas for the law: MI, ML, Pjc.
-/
import Derived.Test.YtpeipeljmapkmaaGreatW5
import Derived.Test.YtpeipeljmapkmaaGreatW2
set_option linter.unusedVariables false
set_option linter.unusedSimpArgs false
set_option maxRecDepth 100000
set_option maxHeartbeats 4000000
namespace Go.Proofs.YtpeipeljmapkmaaGreat
open Go.RowKit
section
def xJz(vs:List Int)(n:Int)(b p:Int):Int:=if b=n\/xJ2 vs b < xJ2 vs p then p else b
def xXc(vs:List Int)(n:Int)(xs:List Int):Int:=xs.foldl (xJz vs n) n
theorem zK8{vs xs:List Int}{n x:Int}{k:Nat}(h:xs[k]? = some x):xXc vs n (xs.take (k+1))=xJz vs n (xXc vs n (xs.take k)) x:=by
 unfold xXc;rw[List.take_add_one,h];simp only[Option.toList,List.foldl_append,List.foldl_cons,List.foldl_nil]
theorem xV1{vs:List Int}{n:Int}(h0:0<=n):∀ {xs:List Int},(∀ x∈xs,0<=x/\x < n)->0<=xXc vs n xs/\xXc vs n xs<=n:=by
 have key:∀ (xs:List Int) (b:Int),0<=b/\b<=n->(∀ x∈xs,0<=x/\x < n)->0<=xs.foldl (xJz vs n) b/\xs.foldl (xJz vs n) b<=n:=by
  intro xs
  induction xs with
  | nil=>intro b hb _;exact hb
  | cons x xs ih=>
   intro b hb h;refine ih _ ?_ (fun y hy=>h y (List.mem_cons_of_mem _ hy));have:=h x (List.mem_cons_self ..);unfold xJz
   split <;> omega
 intro xs h;exact key xs n ⟨h0,Int.le_refl _⟩ h
theorem zQr(w:World)(b n c d:Nat)(V X:Option Addr)(vs xs:List Int)(h0:w.cell? ⟨b,0,none⟩=some (.int .i64 (n:Int)))(h6:w.cell? ⟨b,6,none⟩=some (.slice V (n+1) c))(hI:Ints w V vs)(hvl:vs.length=n+1)(hn:n<=1000000000)(hJ:Ints w X xs)(hl:xs.length<=9223372036854775807)(hxs:∀ x∈xs,0<=x/\x < (n:Int)) :
  Calls Tryz.prog 182 #[.pointer (some ⟨b,0,none⟩),.slice X xs.length d] w fun e w'=>e=.returned (.int .i64 (xXc vs n xs))/\Below w.heap.size w w':=by
 go_enter Tryz.func182,Tryz.ntmps182
 go_wp2_with fail
 go_loopw [5,15] (fun v i wr=>∃ k:Nat,k<=xs.length/\i=.int .i64 k/\(∃ h:Int,Hid (h=xXc vs n (xs.take k))/\v=.int .i64 h)/\Below w.heap.size w wr) (fun _ i _=>xs.length - (intOf i).toNat)
 case atStart=>exact⟨0,Nat.zero_le _,rfl,⟨(n:Int),lHd rfl,rfl⟩,Below.refl _ _⟩
 case round=>
  obtain⟨k,hk,rfl,⟨h,hh,rfl⟩,hBr⟩:=hrel;have hc0:=(hBr.cell (World.block_lt_of_cell? w _ h0)).trans h0;have hc6:=(hBr.cell (World.block_lt_of_cell? w _ h6)).trans h6
  by_cases hlt:k < xs.length
  ·obtain⟨ad,x,rfl,hx,hc⟩:=(hJ.below hBr).at_ hlt;obtain⟨x0,x1⟩:=hxs x (lMg hx.out);obtain⟨b0,b1⟩:=xV1 (vs:=vs) (n:=(n:Int)) (by omega) (xs:=xs.take k) (fun y hy=>hxs y (List.mem_of_mem_take hy));rw[<- hh.out] at b0 b1;have HS:=lHd (zK8 (vs:=vs) (n:=(n:Int)) hx.out);rw[<- hh.out] at HS
   by_cases hb:h=(n:Int)
   ·subst hb;have HE:=lHd (show x=xXc vs n (xs.take (k+1)) by rw[HS.out];unfold xJz;rw[if_pos (.inl rfl)])
    go_wp2_with fail
    go_quiet (fail)
    go_wp2
    go_roundw
    case rel=>exact⟨k+1,by omega,by go_num,⟨x,HE,rfl⟩,bch⟩
    case measure=>simp[intOf];omega
   ·have hbb:(h == (n:Int))=false:=by simpa using hb
    obtain⟨vd,vx,rfl,hvx,hcx⟩:=(hI.below hBr).at_ (k:=x.toNat) (by omega);obtain⟨vd',vh,e,hvh,hch⟩:=(hI.below hBr).at_ (k:=h.toNat) (by omega);injection e with e
    subst e;have e1:=xJ5 hvx.out;have e2:=xJ5 hvh.out;have HB:=lHd hb
    by_cases hg:vh < vx
    ·have HE:=lHd (show x=xXc vs n (xs.take (k+1)) by rw[HS.out];unfold xJz;rw[e1,e2,if_pos (.inr hg)]);have hgd:decide (vh < vx)=true:=by simpa using hg
     clear e1 e2
     go_wp2_with fail
     go_quiet (fail)
     go_wp2
     go_roundw
     case rel=>exact⟨k+1,by omega,by go_num,⟨x,HE,rfl⟩,bch⟩
     case measure=>simp[intOf];omega
    ·have HE:=lHd (show h=xXc vs n (xs.take (k+1)) by rw[HS.out];unfold xJz;rw[e1,e2,if_neg (by have:=HB.out;omega)]);have hgd:decide (vh < vx)=false:=by simpa using hg
     clear e1 e2
     go_wp2_with fail
     go_quiet (fail)
     go_wp2
     go_roundw
     case rel=>exact⟨k+1,by omega,by go_num,⟨h,HE,rfl⟩,bch⟩
     case measure=>simp[intOf];omega
  ·rw[List.take_of_length_le (by omega)] at hh;go_wp2;go_ret;exact⟨xYd hh.out,hBr⟩
inductive GR(start:Int->Prop)(E:Nat->Int->Int->Prop):Int->Prop
 | start {p:Int}:start p->GR start E p
 | step {i:Nat} {p q:Int}:GR start E p->E i p q->GR start E q
open Classical in
noncomputable def grV(N:Nat)(start:Int->Prop)(E:Nat->Int->Int->Prop):List Bool:=(List.range N).map fun (p:Nat)=>decide (GR start E (p:Int))
theorem zQs(N:Nat)(start:Int->Prop)(E:Nat->Int->Int->Prop):(grV N start E).length=N:=by simp[grV]
theorem zQt{N p:Nat}{start:Int->Prop}{E:Nat->Int->Int->Prop}(h:p < N):(grV N start E)[p]? = some true↔GR start E (p:Int):=by simp[grV,h]
theorem vWe{N p:Nat}{start:Int->Prop}{E:Nat->Int->Int->Prop}(h:p < N):(grV N start E)[p]? = some false↔¬ GR start E (p:Int):=by simp[grV,h]
structure SoundG(N:Nat)(start:Int->Prop)(E:Nat->Int->Int->Prop)(bs:List Bool):Prop where
 len:bs.length=N
 init:∀ p,start p->bs[p.toNat]? = some true
 sound:∀ p:Nat,bs[p]? = some true->GR start E (p:Int)
def xZr(E:Nat->Int->Int->Prop)(k:Nat)(bs:List Bool):Prop:=∀ i p q,i < k->E i p q->bs[p.toNat]? = some true->bs[q.toNat]? = some true
section
variable {N:Nat}{start:Int->Prop}{E:Nat->Int->Int->Prop}{bs:List Bool}
theorem xYo:xZr E 0 bs:=fun i p q hi=>absurd hi (by omega)
theorem xZ0{k:Nat}(h:xZr E k bs)(h2:∀ p q,E k p q->bs[p.toNat]? = some true->bs[q.toNat]? = some true):xZr E (k+1) bs:=fun i p q hi hE hp=>by
 by_cases e:i=k
 ·subst e;exact h2 p q hE hp
 ·exact h i p q (by omega) hE hp
theorem vQo{bs:List Bool}{i j:Nat}(h:bs[i]? = some true)(hj:j < bs.length):(bs.set j true)[i]? = some true:=by
 rw[List.getElem?_set]
 split
 ·rename_i e;subst e;simp[hj]
 ·exact h
theorem SoundG.set_(h:SoundG N start E bs){q:Int}(hq:GR start E q)(q0:0<=q)(hN:q < (N:Int)):SoundG N start E (bs.set q.toNat true):=by
 have hl:q.toNat < bs.length:=by rw[h.len];omega
 refine⟨by rw[List.length_set];exact h.len,fun p hp=>vQo (h.init p hp) hl,fun p hp=>?_⟩;rw[List.getElem?_set] at hp
 split at hp
 ·rename_i e
  subst e;rw[Int.toNat_of_nonneg q0];exact hq
 ·exact h.sound p hp
theorem SoundG.eq{m:Nat}(h:SoundG N start E bs)(hc:xZr E m bs)(hE:∀ i p q,E i p q->i < m):bs=grV N start E:=by
 have key:∀ p,GR start E p->bs[p.toNat]? = some true:=fun p hp=>by
  induction hp with
  | start h1=>exact h.init _ h1
  | step _ h2 ih=>exact hc _ _ _ (hE _ _ _ h2) h2 ih
 apply List.ext_getElem?;intro p;rcases Nat.lt_or_ge p N with hp | hp
 ·have h1:bs[p]? = some true↔(grV N start E)[p]? = some true:=by
   rw[zQt hp];exact⟨h.sound p,fun hr=>by have:=key _ hr;simpa using this⟩
  obtain⟨a,ha⟩:∃ a,bs[p]? = some a:=⟨_,lGe (by rw[h.len];exact hp)⟩;obtain⟨b,hb⟩:∃ b,(grV N start E)[p]? = some b:=⟨_,lGe (by rw[zQs];exact hp)⟩;rw[ha,hb] at h1 ⊢
  cases a <;> cases b <;> simp_all
 ·rw[List.getElem?_eq_none (by rw[h.len];exact hp),List.getElem?_eq_none (by rw[zQs];exact hp)]
end
def ZE(n:Nat)(W:List Int)(ops:List OpV)(cost:List Int)(i:Nat)(p q:Int):Prop:=∃ o c,ops[i]? = some o/\cost[i]? = some c/\¬ 0 < c/\p∈o.add/\q=xXc W n o.pre
def ZS(n:Nat)(W:List Int)(goal:List Int)(p:Int):Prop:=p=xXc W n goal
noncomputable def xVk(n:Nat)(W:List Int)(ops:List OpV)(cost goal:List Int):List Bool:=grV (n+1) (ZS n W goal) (ZE n W ops cost)
def BE(n:Nat)(W:List Int)(ops:List OpV)(Z:List Bool)(i:Nat)(p q:Int):Prop:=∃ o,ops[i]? = some o/\p=xXc W n o.pre/\q∈o.add/\Z[q.toNat]? = some false
def BS(n:Nat)(st:List Int)(p:Int):Prop:=p=(n:Int)\/p∈st
noncomputable def vW4(n:Nat)(W:List Int)(ops:List OpV)(st:List Int)(Z:List Bool):List Bool:=grV (n+1) (BS n st) (BE n W ops Z)
def vQp(n:Nat)(W:List Int)(ops:List OpV)(Z B:List Bool)(i:Nat):Prop:=∃ o,ops[i]? = some o/\B[(xXc W n o.pre).toNat]? = some true/\∃ p∈o.add,Z[p.toNat]? = some true
open Classical in
noncomputable def xZ1(n:Nat)(W:List Int)(ops:List OpV)(Z B:List Bool)(k:Nat):List Int:=((List.range k).filter fun i=>decide (vQp n W ops Z B i)).map fun (i:Nat)=>(i:Int)
noncomputable def vQ8(n:Nat)(W:List Int)(ops:List OpV)(Z B:List Bool):List Int:=xZ1 n W ops Z B ops.length
def xQc(cost:List Int)(l:List Int):Int:=l.foldl (fun m i=>min m (xJ2 cost i)) 1000000000
section
variable {n:Nat}{W:List Int}{ops:List OpV}{Z B:List Bool}
theorem vJ8{k:Nat}(h:vQp n W ops Z B k):xZ1 n W ops Z B (k+1)=xZ1 n W ops Z B k ++ [(k:Int)]:=by
 unfold xZ1;rw[List.range_succ,List.filter_append];simp[h]
theorem vQq{k:Nat}(h:¬ vQp n W ops Z B k):xZ1 n W ops Z B (k+1)=xZ1 n W ops Z B k:=by
 unfold xZ1;rw[List.range_succ,List.filter_append];simp[h]
theorem vJ9(k:Nat):(xZ1 n W ops Z B k).length<=k:=by
 unfold xZ1;rw[List.length_map];exact Nat.le_trans (List.length_filter_le _ _) (by simp)
theorem xKg{k:Nat}{x:Int}:x∈xZ1 n W ops Z B k↔∃ i:Nat,x=(i:Int)/\i < k/\vQp n W ops Z B i:=by
 unfold xZ1;simp only[List.mem_map,List.mem_filter,List.mem_range,decide_eq_true_eq];exact⟨fun ⟨i,⟨h1,h2⟩,h3⟩=>⟨i,h3.symm,h1,h2⟩,fun ⟨i,h1,h2,h3⟩=>⟨i,⟨h2,h3⟩,h1.symm⟩⟩
theorem zVy:SetP (vQ8 n W ops Z B) (ops.length:Int):=by
 refine SetP.of_pairwise (fun x hx=>?_) ?_
 ·obtain⟨i,rfl,hi,_⟩:=xKg.1 hx;omega
 ·unfold vQ8 xZ1;rw[List.pairwise_map];refine List.Pairwise.imp (fun h=>?_) (List.Pairwise.filter _ List.pairwise_lt_range);omega
end
theorem zK9{cost l:List Int}{i c:Int}(h:cost[i.toNat]? = some c):xQc cost (l ++ [i])=min (xQc cost l) c:=by
 unfold xQc;rw[List.foldl_append,List.foldl_cons,List.foldl_nil,xJ5 h]
theorem vYw{cost:List Int}:∀ (l:List Int) (m:Int),l.foldl (fun m i=>min m (xJ2 cost i)) m<=m/\(∀ i∈l,l.foldl (fun m i=>min m (xJ2 cost i)) m<=xJ2 cost i)/\(l.foldl (fun m i=>min m (xJ2 cost i)) m=m\/∃ i∈l,l.foldl (fun m i=>min m (xJ2 cost i)) m=xJ2 cost i):=by
 intro l
 induction l with
 | nil=>intro m;exact⟨Int.le_refl _,by simp,.inl rfl⟩
 | cons x l ih=>
  intro m;obtain⟨h1,h2,h3⟩:=ih (min m (xJ2 cost x));refine⟨Int.le_trans h1 (Int.min_le_left _ _),fun i hi=>?_,?_⟩
  ·rcases List.mem_cons.1 hi with e | e
   ·subst e;exact Int.le_trans h1 (Int.min_le_right _ _)
   ·exact h2 i e
  ·rcases h3 with h3 | ⟨i,hi,h3⟩
   ·rcases Int.le_total m (xJ2 cost x) with h4 | h4
    ·left;rw[List.foldl_cons,h3];omega
    ·right;exact⟨x,List.mem_cons_self ..,by rw[List.foldl_cons,h3];omega⟩
   ·right;exact⟨i,List.mem_cons_of_mem _ hi,h3⟩
theorem xKh{V:List Int}{n:Nat}(hl:V.length=n){p:Int}(h0:0<=p)(h1:p < (n:Int)):xJ2 (V ++ [0]) p=xJ2 V p:=by
 unfold xJ2;rw[List.getElem?_append_left (by omega)]
theorem vJa{V:List Int}{n:Nat}(hl:V.length=n):xJ2 (V ++ [0]) (n:Int)=0:=by
 unfold xJ2;rw[List.getElem?_append_right (by simp;omega)];simp[hl]
theorem vJb{V:List Int}{n:Nat}(hl:V.length=n)(hV:xQd V){xs:List Int}(hx:∀ x∈xs,0<=x/\x < (n:Int)) :
  (xXc (V ++ [0]) n xs=(n:Int)/\xs=[]\/xXc (V ++ [0]) n xs∈xs)/\xJ2 (V ++ [0]) (xXc (V ++ [0]) n xs)=xJu false V xs:=by
 have key:∀ (ys:List Int) (b o:Int),(∀ x∈ys,0<=x/\x < (n:Int))->(b=(n:Int)->o=0)->xJ2 (V ++ [0]) b=o->0<=o ->
   (ys.foldl (xJz (V ++ [0]) n) b=b/\(b=(n:Int)->ys=[])\/ys.foldl (xJz (V ++ [0]) n) b∈ys)/\xJ2 (V ++ [0]) (ys.foldl (xJz (V ++ [0]) n) b)=ys.foldl (fun o p=>xXo false o (xJ2 V p)) o:=by
  intro ys
  induction ys with
  | nil=>intro b o _ _ h _;exact⟨.inl ⟨rfl,fun _=>rfl⟩,h⟩
  | cons y ys ih=>
   intro b o hy hb he ho;have hy0:=hy y (List.mem_cons_self ..);have ev:=xKh hl hy0.1 hy0.2;have hin:=xX7 hV y;unfold InV at hin;have hstep:xJ2 (V ++ [0]) (xJz (V ++ [0]) n b y)=xXo false o (xJ2 V y):=by
    unfold xJz xXo;dsimp only;rw[he,ev]
    by_cases e:b=(n:Int)
    ·have:=hb e;rw[if_pos (.inl e),ev]
     split <;> omega
    ·by_cases e2:o < xJ2 V y
     ·rw[if_pos (.inr e2),if_pos e2,ev]
     ·rw[if_neg (fun h=>h.elim e e2),if_neg e2,he]
   have hne:¬ xJz (V ++ [0]) n b y=(n:Int):=by
    unfold xJz
    split
    ·omega
    ·rename_i h;exact fun e=>h (.inl e)
   obtain⟨h1,h2⟩:=ih (xJz (V ++ [0]) n b y) (xXo false o (xJ2 V y)) (fun x hx=>hy x (List.mem_cons_of_mem _ hx)) (fun e=>absurd e hne) hstep (by unfold xXo;dsimp only;split <;> omega);rw[List.foldl_cons,List.foldl_cons];refine⟨?_,h2⟩;rcases h1 with ⟨h1,_⟩ | h1
   ·rw[h1];unfold xJz
    split
    ·right;exact List.mem_cons_self ..
    ·rename_i h3
     left;exact⟨rfl,fun e=>absurd (.inl e) h3⟩
   ·right;exact List.mem_cons_of_mem _ h1
 obtain⟨h1,h2⟩:=key xs n 0 hx (fun _=>rfl) (vJa hl) (Int.le_refl _);refine⟨?_,h2⟩;rcases h1 with ⟨h1,h3⟩ | h1
 ·left;exact⟨h1,h3 rfl⟩
 ·right;exact h1
theorem vJc{V:List Int}:∀ (xs:List Int) (o:Int),o<=xs.foldl (fun o p=>xXo false o (xJ2 V p)) o/\(∀ x∈xs,xJ2 V x<=xs.foldl (fun o p=>xXo false o (xJ2 V p)) o)/\∀ z,o<=z->(∀ x∈xs,xJ2 V x<=z)->xs.foldl (fun o p=>xXo false o (xJ2 V p)) o<=z:=by
 intro xs
 induction xs with
 | nil=>intro o;exact⟨Int.le_refl _,by simp,fun z h _=>h⟩
 | cons x xs ih=>
  intro o;have hs:o<=xXo false o (xJ2 V x)/\xJ2 V x<=xXo false o (xJ2 V x)/\(xXo false o (xJ2 V x)=o\/xXo false o (xJ2 V x)=xJ2 V x):=by unfold xXo;dsimp only;split <;> omega
  obtain⟨h1,h2,h3⟩:=ih (xXo false o (xJ2 V x));refine⟨Int.le_trans hs.1 h1,fun y hy=>?_,fun z hz hx=>h3 z ?_ (fun y hy=>hx y (List.mem_cons_of_mem _ hy))⟩
  ·rcases List.mem_cons.1 hy with e | e
   ·subst e;exact Int.le_trans hs.2.1 h1
   ·exact h2 y e
  ·have:=hx x (List.mem_cons_self ..);omega
theorem zJg{V xs:List Int}{x:Int}(h:x∈xs):xJ2 V x<=xJu false V xs:=(vJc xs 0).2.1 x h
theorem zQu{V xs:List Int}:0<=xJu false V xs:=(vJc xs 0).1
theorem zJh{a b:Int}(ha:InV a)(hb:InV b):xXa a b<=a+b:=by unfold InV at *;unfold xXa;(repeat split) <;> omega
theorem vQr{a b z:Int}(ha:InV a)(hb:InV b)(h:z<=a+b)(h2:z<=999999999):z<=xXa a b:=by unfold InV at *;unfold xXa;(repeat split) <;> omega
theorem zXu{s:Bool}{n:Nat}{st:List Int}{ops:List OpV}{cs V:List Int}(hV:Best s n st ops cs V)(hlc:cs.length=ops.length)(hc:xQd cs)(hc2:∀ c∈cs,c < 1000000000)
  (hst:∀ p∈st,0<=p) (hops:∀ o∈ops,(∀ p∈o.pre,0<=p/\p < (n:Int))/\∀ p∈o.add,0<=p/\p < (n:Int)) {p:Int} (h0:0<=p) (h1:p < (n:Int)):xJ2 V p=1000000000↔¬ Reach st ops (fun _=>true) p:=by
 have hVall:=hV.fix.shape.all;have fin:∀ p,Reach st ops (fun _=>true) p->¬ xJ2 V p=1000000000:=fun p hp=>by
  induction hp with
  | init h=>rw[hV.fix.shape.zero _ h];omega
  | @step p i o ho hu hq hp ih=>
   have hi:=(List.getElem?_eq_some_iff.1 ho).1;have hcs:cs[i]? = some cs[i]:=lGe (by omega);have hcm:=lMg hcs;have h2:=hV.fix.closed i o _ hi ho hcs p hp;have h3:=zYk (s:=s) hVall o (hc _ hcm);have h4:¬ opV s V o cs[i]=1000000000:=fun e=>by
    rcases (xQa (xXk hVall _) (hc _ hcm)).1 e with e | e
    ·obtain⟨x,hx,e⟩:=(xWb hVall _).1 e;exact ih x hx e
    ·have:=hc2 _ hcm;omega
   unfold InV at h3;omega
 constructor
 ·intro h hr;exact fin p hr h
 ·intro h
  let U:List Int:=(List.range n).map fun (q:Nat)=>@ite _ (Reach st ops (fun _=>true) (q:Int)) (Classical.propDecidable _) (xJ2 V (q:Int)) 1000000000
  have hU:∀ q,0<=q->q < (n:Int)->xJ2 U q=@ite _ (Reach st ops (fun _=>true) q) (Classical.propDecidable _) (xJ2 V q) 1000000000:=fun q q0 q1=>by
   obtain⟨k,rfl⟩:=Int.eq_ofNat_of_zero_le q0;refine xJ5 ?_;show ((List.range n).map _)[k]? = _;rw[List.getElem?_map,List.getElem?_range (by omega)];rfl
  have hUall:xQd U:=fun v hv=>by
   obtain⟨q,_,rfl⟩:=List.mem_map.1 hv
   split
   ·exact xX7 hVall _
   ·exact InV.inf
  have hle:∀ q,0<=q->q < (n:Int)->xJ2 V q<=xJ2 U q:=fun q q0 q1=>by
   rw[hU q q0 q1];have:=xX7 hVall q;unfold InV at this
   split <;> omega
  have hleV:LeV V U:=fun q=>by
   by_cases e:q.toNat < n
   ·have h1:xJ2 V q=xJ2 V (q.toNat:Int):=by unfold xJ2;rw[Int.toNat_natCast]
    have h2:xJ2 U q=xJ2 U (q.toNat:Int):=by unfold xJ2;rw[Int.toNat_natCast]
    rw[h1,h2];exact hle _ (by omega) (by omega)
   ·have:xJ2 V q=0:=by unfold xJ2;rw[List.getElem?_eq_none (by rw[hV.fix.shape.len];omega)];rfl
    rw[this];have:=xX7 hUall q;exact this.1
  have hfix:Fix s n st ops cs U:=by
   refine⟨⟨by simp[U],hUall,fun q hq=>?_⟩,fun i o c hi ho hcs q hq=>?_⟩
   ·have q0:=hst q hq
    by_cases q1:q < (n:Int)
    ·rw[hU q q0 q1,if_pos (.init hq)];exact hV.fix.shape.zero q hq
    ·unfold xJ2;rw[List.getElem?_eq_none (by simp[U];omega)];rfl
   ·have hcm:=lMg hcs;have hoo:=hops o (lMg ho);obtain⟨q0,q1⟩:=hoo.2 q hq
    by_cases hall:∀ x∈o.pre,Reach st ops (fun _=>true) x
    ·rw[hU q q0 q1,if_pos (.step ho rfl hall hq)];exact Int.le_trans (hV.fix.closed i o c hi ho hcs q hq) (zYl hVall hUall hleV o (hc c hcm))
    ·have:∃ x∈o.pre,¬ Reach st ops (fun _=>true) x:=Classical.byContradiction fun hn=>hall fun x hx=>Classical.byContradiction fun hr=>hn ⟨x,hx,hr⟩
     obtain⟨x,hx,hr⟩:=this;have h5:xJu s U o.pre=1000000000:=(xWb hUall _).2 ⟨x,hx,by rw[hU x (hoo.1 x hx).1 (hoo.1 x hx).2,if_neg hr]⟩;have h6:opV s U o c=1000000000:=by unfold opV;exact xW1 (.inl h5)
     have:=xX7 hUall q;unfold InV at this;omega
  have h2:=hV.great _ hfix p;rw[hU p h0 h1,if_neg h] at h2;have h3:=xX7 hVall p;unfold InV at h3;omega
structure AtCut(n:Nat)(st goal:List Int)(ops:List OpV)(left V:List Int):Prop where
 best:Best false n st ops left V
 lc:left.length=ops.length
 lv:∀ c∈left,0<=c/\c<=100
 st_:∀ p∈st,0<=p/\p < (n:Int)
 goal_:∀ p∈goal,0<=p/\p < (n:Int)
 ops_:∀ o∈ops,(∀ p∈o.pre,0<=p/\p < (n:Int))/\∀ p∈o.add,0<=p/\p < (n:Int)
 pos:¬ xJu false V goal=0
 fin:¬ xJu false V goal=1000000000
def xXl(left C:List Int)(c:Int):List Int:=C.foldl (fun l i=>l.set i.toNat (xJ2 l i - c)) left
theorem xKi(C:List Int)(c:Int):∀ (left:List Int),(xXl left C c).length=left.length:=by
 induction C with
 | nil=>intro left;rfl
 | cons x C ih=>intro left;show (xXl (left.set x.toNat (xJ2 left x - c)) C c).length=_;rw[ih,List.length_set]
theorem zKa{left C:List Int}{c x:Int}{k:Nat}(h:C[k]? = some x):xXl left (C.take (k+1)) c=(xXl left (C.take k) c).set x.toNat (xJ2 (xXl left (C.take k) c) x - c):=by
 unfold xXl;rw[List.take_add_one,h];simp only[Option.toList,List.foldl_append,List.foldl_cons,List.foldl_nil]
theorem xK0{c:Int}:∀ (C left:List Int),C.Pairwise (· < ·)->(∀ x∈C,0<=x/\x < (left.length:Int))->∀ i:Int,0<=i->xJ2 (xXl left C c) i=if i∈C then xJ2 left i - c else xJ2 left i:=by
 intro C
 induction C with
 | nil=>intro left _ _ i _;rfl
 | cons x C ih=>
  intro left hp hx i hi;show xJ2 (xXl (left.set x.toNat (xJ2 left x - c)) C c) i=_;have h0:=hx x (List.mem_cons_self ..);rw[List.pairwise_cons] at hp;rw[ih _ hp.2 (fun y hy=>by rw[List.length_set];exact hx y (List.mem_cons_of_mem _ hy)) i hi,xQy (by omega)]
  by_cases e:i=x
  ·subst e;have:¬ i∈C:=fun h=>by have:=hp.1 i h;omega
   rw[if_neg this,if_pos rfl,if_pos (List.mem_cons_self ..)]
  ·rw[if_neg (show ¬ i.toNat=x.toNat by omega)]
   by_cases h:i∈C
   ·rw[if_pos h,if_pos (List.mem_cons_of_mem _ h)]
   ·rw[if_neg h,if_neg (fun k=>(List.mem_cons.1 k).elim e h)]
theorem vJd{l:List Int}{v:Int}(h:v∈l):∃ i:Int,0<=i/\i < (l.length:Int)/\xJ2 l i=v:=by
 obtain⟨i,hi,rfl⟩:=List.mem_iff_getElem.1 h;exact⟨i,by omega,by omega,xXp hi⟩
theorem zXv{l:List Int}{i:Int}(h0:0<=i)(h1:i < (l.length:Int)):xJ2 l i∈l:=by
 have hi:i.toNat < l.length:=by omega
 have:xJ2 l i=l[i.toNat]:=xJ5 (lGe hi);rw[this];exact List.getElem_mem _
theorem zKb{V:List Int}:∀ {i:Nat} {x y:Int},V[i]? = some y->0<=x->x<=y->xXz (V.set i x)+(y - x).toNat=xXz V:=by
 induction V with
 | nil=>intro i x y h;simp at h
 | cons a V ih=>
  intro i x y h h0 hlt
  cases i with
  | zero=>simp at h;subst h;simp[xXz];omega
  | succ i=>have:=ih (by simpa using h) h0 hlt;simp only[xXz,List.set_cons_succ,List.map_cons,List.sum_cons] at *;omega
theorem xYp{c:Int}(hc:0<=c):∀ (C left:List Int),C.Pairwise (· < ·)->(∀ x∈C,0<=x/\x < (left.length:Int))->(∀ i∈C,c<=xJ2 left i)->xXz (xXl left C c)+C.length * c.toNat=xXz left:=by
 intro C
 induction C with
 | nil=>intro left _ _ _;simp[xXl]
 | cons x C ih=>
  intro left hp hx hf;show xXz (xXl (left.set x.toNat (xJ2 left x - c)) C c)+_=_;have h0:=hx x (List.mem_cons_self ..);have hfx:=hf x (List.mem_cons_self ..);rw[List.pairwise_cons] at hp;have hi:x.toNat < left.length:=by omega
  have hv:left[x.toNat]? = some (xJ2 left x):=by rw[lGe hi,xJ5 (lGe hi)]
  have h1:=zKb hv (show 0<=xJ2 left x - c by omega) (by omega);have h2:=ih (left.set x.toNat (xJ2 left x - c)) hp.2 (fun y hy=>by rw[List.length_set];exact hx y (List.mem_cons_of_mem _ hy)) (fun i hi2=>by
   have:=hp.1 i hi2;rw[xQy hi,if_neg (show ¬ i.toNat=x.toNat by omega)];exact hf i (List.mem_cons_of_mem _ hi2))
  rw[List.length_cons,Nat.succ_mul];omega
noncomputable def xZn(n:Nat)(st goal:List Int)(ops:List OpV)(left V:List Int):List Int:=
 vQ8 n (V ++ [0]) ops (xVk n (V ++ [0]) ops left goal) (vW4 n (V ++ [0]) ops st (xVk n (V ++ [0]) ops left goal))
structure CutP(n:Nat)(st goal:List Int)(ops:List OpV)(left C:List Int)(c:Int):Prop where
 set:SetP C (ops.length:Int)
 ne:C≠[]
 pos:0 < c
 le:c<=100
 fit:∀ i∈C,c<=xJ2 left i
 cut:¬ ∀ q∈goal,Reach st ops (xKm C) q
 drop:∀ V V',Best false n st ops left V->Best false n st ops (xXl left C c) V'->xJu false V goal<=c+xJu false V' goal
 ex:∃ V,AtCut n st goal ops left V/\C=xZn n st goal ops left V/\c=xQc left C
theorem CutP.lower_in{n:Nat}{st goal:List Int}{ops:List OpV}{left C:List Int}{c:Int}(h:CutP n st goal ops left C c)(hl:left.length=ops.length)(hv:∀ c∈left,0<=c/\c<=100)(k:Nat):∀ v∈xXl left (C.take k) c,0<=v/\v<=100:=fun v hvm=>by
 obtain⟨i,h0,h1,rfl⟩:=vJd hvm;rw[xKi] at h1;have hx:∀ x∈C.take k,0<=x/\x < (left.length:Int):=fun x hx=>by rw[hl];exact h.set.1 x (List.mem_of_mem_take hx)
 rw[xK0 _ _ (h.set.pairwise.sublist (List.take_sublist _ _)) hx i h0];have h2:=hv _ (zXv h0 h1);have h3:=h.pos
 split
 ·rename_i hm
  have:=h.fit i (List.mem_of_mem_take hm);omega
 ·exact h2
theorem CutP.not_yet{n:Nat}{st goal:List Int}{ops:List OpV}{left C:List Int}{c x:Int}{k:Nat}(h:CutP n st goal ops left C c)(hl:left.length=ops.length)(hx:C[k]? = some x):xJ2 (xXl left (C.take k) c) x=xJ2 left x/\c<=xJ2 left x:=by
 have hm:=lMg hx;have hy:∀ y∈C.take k,0<=y/\y < (left.length:Int):=fun y hy=>by rw[hl];exact h.set.1 y (List.mem_of_mem_take hy)
 rw[xK0 _ _ (h.set.pairwise.sublist (List.take_sublist _ _)) hy x (h.set.1 x hm).1,if_neg]
 ·exact⟨rfl,h.fit x hm⟩
 ·intro hin;obtain⟨j,hj,e⟩:=List.mem_iff_getElem.1 hin;rw[List.length_take] at hj;rw[List.getElem_take] at e;have:=h.set.inj (i:=j) (j:=k) (x:=x) (by rw[<- e];exact lGe (by omega)) hx;omega
section
variable {n:Nat}{st goal:List Int}{ops:List OpV}{left V:List Int}
theorem AtCut.all(h:AtCut n st goal ops left V):xQd V:=h.best.fix.shape.all
theorem AtCut.len(h:AtCut n st goal ops left V):V.length=n:=h.best.fix.shape.len
theorem AtCut.costs(h:AtCut n st goal ops left V):xQd left:=fun v hv=>by have:=h.lv v hv;unfold InV;omega
theorem AtCut.g0(h:AtCut n st goal ops left V):0 < xJu false V goal/\xJu false V goal < 1000000000:=by
 have h1:=xXk (s:=false) h.all goal;have h2:=h.pos;have h3:=h.fin;unfold InV at h1;omega
theorem AtCut.hard(h:AtCut n st goal ops left V){xs:List Int}(hx:∀ x∈xs,0<=x/\x < (n:Int)) :
  (xXc (V ++ [0]) n xs=(n:Int)/\xs=[]\/xXc (V ++ [0]) n xs∈xs/\xJ2 V (xXc (V ++ [0]) n xs)=xJu false V xs):=by
 obtain⟨h1,h2⟩:=vJb h.len h.all hx;rcases h1 with h1 | h1
 ·exact .inl h1
 ·have:=hx _ h1;rw[xKh h.len this.1 this.2] at h2;exact .inr ⟨h1,h2⟩
theorem AtCut.zone_in(h:AtCut n st goal ops left V){p:Int}(hp:GR (ZS n (V ++ [0]) goal) (ZE n (V ++ [0]) ops left) p):(0<=p/\p < (n:Int))/\xJu false V goal<=xJ2 V p:=by
 have hg:=h.g0
 induction hp with
 | start e=>
  rw[show _=_ from e];rcases h.hard h.goal_ with ⟨_,e2⟩ | ⟨h1,h2⟩
  ·rw[e2] at hg;simp[xQx] at hg
  ·exact⟨h.goal_ _ h1,by rw[h2];exact Int.le_refl _⟩
 | @step i p q _ hE ih=>
  obtain⟨o,c,ho,hc,hc0,hp,rfl⟩:=hE;have hcm:=lMg hc;have hoo:=h.ops_ o (lMg ho);have h1:=h.best.fix.closed i o c (List.getElem?_eq_some_iff.1 ho).1 ho hc p hp;have h2:=zJh (xXk (s:=false) h.all o.pre) (h.costs c hcm);unfold opV at h1;rcases h.hard hoo.1 with ⟨_,e2⟩ | ⟨h3,h4⟩
  ·rw[e2,xQx] at h1 h2;omega
  ·exact⟨hoo.1 _ h3,by rw[h4];omega⟩
theorem AtCut.zone(h:AtCut n st goal ops left V){p:Int}(h0:0<=p)(h1:p < (n:Int)):(xVk n (V ++ [0]) ops left goal)[p.toNat]? = some true↔GR (ZS n (V ++ [0]) goal) (ZE n (V ++ [0]) ops left) p:=by
 have:=zQt (N:=n+1) (p:=p.toNat) (start:=ZS n (V ++ [0]) goal) (E:=ZE n (V ++ [0]) ops left) (by omega);rw[Int.toNat_of_nonneg h0] at this;exact this
theorem AtCut.zone_no(h:AtCut n st goal ops left V){p:Int}(h0:0<=p)(h1:p < (n:Int)):(xVk n (V ++ [0]) ops left goal)[p.toNat]? = some false↔¬ GR (ZS n (V ++ [0]) goal) (ZE n (V ++ [0]) ops left) p:=by
 have:=vWe (N:=n+1) (p:=p.toNat) (start:=ZS n (V ++ [0]) goal) (E:=ZE n (V ++ [0]) ops left) (by omega);rw[Int.toNat_of_nonneg h0] at this;exact this
theorem AtCut.bef_in(h:AtCut n st goal ops left V){p:Int}(hp:GR (BS n st) (BE n (V ++ [0]) ops (xVk n (V ++ [0]) ops left goal)) p):(0<=p/\p<=(n:Int))/\¬ GR (ZS n (V ++ [0]) goal) (ZE n (V ++ [0]) ops left) p:=by
 have hg:=h.g0
 cases hp with
 | start e=>
  rcases e with e | e
  ·subst e;exact⟨by omega,fun hz=>by have:=h.zone_in hz;omega⟩
  ·have:=h.st_ p e;exact⟨by omega,fun hz=>by have:=h.zone_in hz;have:=h.best.fix.shape.zero p e;omega⟩
 | step _ hE=>
  obtain⟨o,ho,_,hq,hz⟩:=hE;have:=(h.ops_ o (lMg ho)).2 p hq;exact⟨by omega,(h.zone_no this.1 this.2).1 hz⟩
theorem AtCut.bef(h:AtCut n st goal ops left V)(Z:List Bool){p:Int}(h0:0<=p)(h1:p<=(n:Int)):(vW4 n (V ++ [0]) ops st Z)[p.toNat]? = some true↔GR (BS n st) (BE n (V ++ [0]) ops Z) p:=by
 have:=zQt (N:=n+1) (p:=p.toNat) (start:=BS n st) (E:=BE n (V ++ [0]) ops Z) (by omega);rw[Int.toNat_of_nonneg h0] at this;exact this
theorem AtCut.hard_le(h:AtCut n st goal ops left V){xs:List Int}(hx:∀ x∈xs,0<=x/\x < (n:Int)):0<=xXc (V ++ [0]) n xs/\xXc (V ++ [0]) n xs<=(n:Int):=xV1 (by omega) hx
theorem AtCut.mem(h:AtCut n st goal ops left V){i:Nat}:(i:Int)∈xZn n st goal ops left V↔∃ o,ops[i]? = some o/\GR (BS n st) (BE n (V ++ [0]) ops (xVk n (V ++ [0]) ops left goal)) (xXc (V ++ [0]) n o.pre)/\∃ p∈o.add,GR (ZS n (V ++ [0]) goal) (ZE n (V ++ [0]) ops left) p:=by
 unfold xZn vQ8;rw[xKg];constructor
 ·rintro ⟨j,e,hj,o,ho,hb,p,hp,hz⟩;obtain rfl:i=j:=by omega
  have hoo:=h.ops_ o (lMg ho);have hh:=h.hard_le hoo.1;exact⟨o,ho,(h.bef _ hh.1 hh.2).1 hb,p,hp,(h.zone (hoo.2 p hp).1 (hoo.2 p hp).2).1 hz⟩
 ·rintro ⟨o,ho,hb,p,hp,hz⟩;have hoo:=h.ops_ o (lMg ho);have hh:=h.hard_le hoo.1;exact⟨i,rfl,(List.getElem?_eq_some_iff.1 ho).1,o,ho,(h.bef _ hh.1 hh.2).2 hb,p,hp,(h.zone (hoo.2 p hp).1 (hoo.2 p hp).2).2 hz⟩
theorem AtCut.cut_pos(h:AtCut n st goal ops left V){i:Int}(hi:i∈xZn n st goal ops left V):0 < xJ2 left i/\xJ2 left i<=100:=by
 obtain⟨j,rfl,hj,_⟩:=xKg.1 hi;obtain⟨o,ho,hb,p,hp,hz⟩:=h.mem.1 hi;have hjl:j < left.length:=by rw[h.lc];exact hj
 have hc:left[j]? = some left[j]:=lGe hjl;have e:xJ2 left (j:Int)=left[j]:=xXp hjl;have h1:=h.lv _ (lMg hc);rw[e];refine⟨Classical.byContradiction fun hn=>?_,h1.2⟩;exact (h.bef_in hb).2 (.step hz ⟨o,_,ho,hc,hn,hp,rfl⟩)
theorem AtCut.reach_bef(h:AtCut n st goal ops left V){p:Int}(hp:Reach st ops (xKm (xZn n st goal ops left V)) p):GR (BS n st) (BE n (V ++ [0]) ops (xVk n (V ++ [0]) ops left goal)) p:=by
 induction hp with
 | init hp=>exact .start (.inr hp)
 | @step p i o ho hu hq hp ih=>
  have hoo:=h.ops_ o (lMg ho);have hb:GR (BS n st) (BE n (V ++ [0]) ops (xVk n (V ++ [0]) ops left goal)) (xXc (V ++ [0]) n o.pre):=by
   rcases h.hard hoo.1 with ⟨e,_⟩ | ⟨h3,_⟩
   ·rw[e];exact .start (.inl rfl)
   ·exact ih _ h3
  have hnz:¬ GR (ZS n (V ++ [0]) goal) (ZE n (V ++ [0]) ops left) p:=fun hz=>by
   have:=h.mem.2 ⟨o,ho,hb,p,hp,hz⟩;unfold xKm at hu;simp[this] at hu
  exact .step hb ⟨o,ho,rfl,hp,(h.zone_no (hoo.2 p hp).1 (hoo.2 p hp).2).2 hnz⟩
theorem AtCut.goal_zone(h:AtCut n st goal ops left V):xXc (V ++ [0]) n goal∈goal/\GR (ZS n (V ++ [0]) goal) (ZE n (V ++ [0]) ops left) (xXc (V ++ [0]) n goal):=by
 have hg:=h.g0;rcases h.hard h.goal_ with ⟨_,e2⟩ | ⟨h1,_⟩
 ·rw[e2] at hg;simp[xQx] at hg
 ·exact⟨h1,.start rfl⟩
theorem AtCut.cut_no(h:AtCut n st goal ops left V):¬ ∀ q∈goal,Reach st ops (xKm (xZn n st goal ops left V)) q:=fun hall=>by
 obtain⟨h1,h2⟩:=h.goal_zone;exact (h.bef_in (h.reach_bef (hall _ h1))).2 h2
theorem AtCut.cut_ne(h:AtCut n st goal ops left V):xZn n st goal ops left V≠[]:=fun e=>by
 refine h.cut_no fun q hq=>?_
 have hg:=h.g0;have hr:=h.goal_ q hq;have h1:=zJg (V:=V) hq;have h2:=zXu h.best h.lc h.costs (fun c hc=>by have:=h.lv c hc;omega) (fun p hp=>(h.st_ p hp).1) h.ops_ hr.1 hr.2;have h3:Reach st ops (fun _=>true) q:=Classical.byContradiction fun hn=>by have:=h2.2 hn;omega
 exact h3.mono (fun _ h=>h) (fun i _=>by rw[e];simp[xKm])
theorem AtCut.drop(h:AtCut n st goal ops left V){c:Int}(hc:0 < c)(hcf:∀ i∈xZn n st goal ops left V,c<=xJ2 left i){V':List Int}(hV':Best false n st ops (xXl left (xZn n st goal ops left V) c) V'):xJu false V goal<=c+xJu false V' goal:=by
 have hg:=h.g0;obtain⟨M,hM⟩:∃ M,M=max 0 (xJu false V goal - c):=⟨_,rfl⟩;have hM0:0<=M/\M<=999999999/\xJu false V goal - c<=M/\(M=0\/M=xJu false V goal - c):=by omega
 clear hM;have hset:SetP (xZn n st goal ops left V) (ops.length:Int):=zVy;have hlow:∀ i:Nat,i < ops.length->xJ2 (xXl left (xZn n st goal ops left V) c) (i:Int)=if (i:Int)∈xZn n st goal ops left V then xJ2 left i - c else xJ2 left i:=fun i hi=>
  xK0 _ _ hset.pairwise (fun x hx=>by rw[h.lc];exact hset.1 x hx) i (by omega)
 let Bf:=GR (BS n st) (BE n (V ++ [0]) ops (xVk n (V ++ [0]) ops left goal))
 let U:List Int:=(List.range n).map fun (q:Nat)=>@ite _ (Bf (q:Int)) (Classical.propDecidable _) (min (xJ2 V (q:Int)) M) M
 have hU:∀ q,0<=q->q < (n:Int)->xJ2 U q=@ite _ (Bf q) (Classical.propDecidable _) (min (xJ2 V q) M) M:=fun q q0 q1=>by
  obtain⟨k,rfl⟩:=Int.eq_ofNat_of_zero_le q0;refine xJ5 ?_;show ((List.range n).map _)[k]? = _;rw[List.getElem?_map,List.getElem?_range (by omega)];rfl
 have hVin:=fun q=>xX7 h.all q
 unfold InV at hVin;have hUM:∀ q,0<=q->q < (n:Int)->xJ2 U q<=M:=fun q q0 q1=>by
  rw[hU q q0 q1];split <;> omega
 have hUall:xQd U:=fun v hv=>by
  obtain⟨q,_,rfl⟩:=List.mem_map.1 hv;have:=hVin (q:Int);unfold InV
  split <;> omega
 have hfix:Fix false n st ops (xXl left (xZn n st goal ops left V) c) U:=by
  refine⟨⟨by simp[U],hUall,fun q hq=>?_⟩,fun i o c' hi ho hcs q hq=>?_⟩
  ·have q0:=h.st_ q hq;rw[hU q q0.1 q0.2,if_pos (show Bf q from .start (.inr hq)),h.best.fix.shape.zero q hq];omega
  ·have hoo:=h.ops_ o (lMg ho);obtain⟨q0,q1⟩:=hoo.2 q hq;have hil:i < left.length:=by rw[h.lc];exact hi
   have hl:left[i]? = some left[i]:=lGe hil;have el:xJ2 left (i:Int)=left[i]:=xXp hil;have ec:xJ2 (xXl left (xZn n st goal ops left V) c) (i:Int)=c':=xJ5 (by simpa using hcs);rw[hlow i hi,el] at ec;have hl2:=h.lv _ (lMg hl);have hcin:InV c':=by
    unfold InV
    split at ec
    ·rename_i hm;have:=hcf _ hm;rw[el] at this;omega
    ·omega
   have hcl:=h.best.fix.closed i o _ hi ho hl;have hple:=zJh (xXk (s:=false) h.all o.pre) (h.costs _ (lMg hl));have hUq:=hUM q q0 q1;unfold opV at hcl ⊢;have hcn:=zQu (V:=V) (xs:=o.pre);refine vQr (xXk hUall _) hcin ?_ (by omega)
   by_cases hb:Bf (xXc (V ++ [0]) n o.pre)
   ·have hx:min (xJu false V o.pre) M<=xJu false U o.pre:=by
     rcases h.hard hoo.1 with ⟨_,e⟩ | ⟨h3,h4⟩
     ·rw[e,xQx,xQx];omega
     ·have h5:=zJg (V:=U) h3;have h6:=hoo.1 _ h3;rw[hU _ h6.1 h6.2,if_pos hb,h4] at h5;exact h5
    by_cases hi2:(i:Int)∈xZn n st goal ops left V
    ·rw[if_pos hi2] at ec;have h7:=hcf _ hi2;rw[el] at h7;obtain⟨o',ho',_,p1,hp1,hz1⟩:=h.mem.1 hi2;rw[ho] at ho';injection ho' with ho'
     subst ho';have h8:=(h.zone_in hz1).2;have h9:=hcl p1 hp1;omega
    ·rw[if_neg hi2] at ec;have hnz:¬ GR (ZS n (V ++ [0]) goal) (ZE n (V ++ [0]) ops left) q:=fun hz=>hi2 (h.mem.2 ⟨o,ho,hb,q,hq,hz⟩)
     have hbq:Bf q:=.step hb ⟨o,ho,rfl,hq,(h.zone_no q0 q1).2 hnz⟩;have h9:=hcl q hq;rw[hU q q0 q1,if_pos hbq];omega
   ·rcases h.hard hoo.1 with ⟨e,_⟩ | ⟨h3,_⟩
    ·exact absurd (show Bf _ by rw[e];exact .start (.inl rfl)) hb
    ·have h5:=zJg (V:=U) h3;have h6:=hoo.1 _ h3;rw[hU _ h6.1 h6.2,if_neg hb] at h5;unfold InV at hcin;omega
 obtain⟨h1,h2⟩:=h.goal_zone;have h3:=h.goal_ _ h1;have h4:=hV'.great U hfix (xXc (V ++ [0]) n goal);rw[hU _ h3.1 h3.2,if_neg (fun hb=>(h.bef_in hb).2 h2)] at h4;have h5:=zJg (V:=V') h1;omega
theorem AtCut.proper(h:AtCut n st goal ops left V):CutP n st goal ops left (xZn n st goal ops left V) (xQc left (xZn n st goal ops left V)):=by
 obtain⟨h1,h2,h3⟩:=vYw (cost:=left) (xZn n st goal ops left V) 1000000000;have hc:0 < xQc left (xZn n st goal ops left V)/\xQc left (xZn n st goal ops left V)<=100:=by
  unfold xQc;rcases h3 with h3 | ⟨i,hi,h3⟩
  ·obtain⟨i,hi⟩:=List.exists_mem_of_ne_nil _ h.cut_ne;have h4:=h2 i hi;have h5:=h.cut_pos hi;omega
  ·have h5:=h.cut_pos hi;omega
 refine⟨zVy,h.cut_ne,hc.1,hc.2,h2,h.cut_no,fun V2 V' hb hb'=>?_,⟨V,h,rfl,rfl⟩⟩;rw[show V2=V from (zXg hb).trans (zXg h.best).symm];exact h.drop hc.1 h2 hb'
end
def xJr(c0:List Int)(cs:List (List Int×Int)):List Int:=cs.foldl (fun l x=>xXl l x.1 x.2) c0
theorem xKj(c0:List Int)(cs:List (List Int×Int))(x:List Int×Int):xJr c0 (cs ++ [x])=xXl (xJr c0 cs) x.1 x.2:=by
 unfold xJr;rw[List.foldl_append];rfl
theorem xZe{c0:List Int}{cs:List (List Int×Int)}{x:List Int×Int}{k:Nat}(h:cs[k]? = some x):xJr c0 (cs.take (k+1))=xXl (xJr c0 (cs.take k)) x.1 x.2:=by
 rw[List.take_add_one,h];exact xKj _ _ _
theorem xXr(c0:List Int)(cs:List (List Int×Int)):(xJr c0 cs).length=c0.length:=by
 have:∀ (cs:List (List Int×Int)) (l:List Int),(cs.foldl (fun l x=>xXl l x.1 x.2) l).length=l.length:=by
  intro cs
  induction cs with
  | nil=>intro l;rfl
  | cons x cs ih=>intro l;rw[List.foldl_cons,ih,xKi]
 exact this cs c0
def xJv(cs:List (List Int×Int)):Int:=(cs.map (·.2)).sum
theorem xYq(cs:List (List Int×Int))(x:List Int×Int):xJv (cs ++ [x])=xJv cs+x.2:=by
 unfold xJv;rw[List.map_append,List.sum_append];simp
theorem xQi{cs:List (List Int×Int)}{x:List Int×Int}{k:Nat}(h:cs[k]? = some x):xJv (cs.take (k+1))=xJv (cs.take k)+x.2:=by
 rw[List.take_add_one,h];exact xYq _ _
def CutsOk(n:Nat)(st goal:List Int)(ops:List OpV)(c0:List Int)(cs:List (List Int×Int)):Prop:=∀ i x,cs[i]? = some x->CutP n st goal ops (xJr c0 (cs.take i)) x.1 x.2
section
variable {n:Nat}{st goal:List Int}{ops:List OpV}{c0:List Int}{cs:List (List Int×Int)}
theorem CutsOk.nil:CutsOk n st goal ops c0 []:=fun i x h=>by simp at h
theorem CutsOk.snoc(h:CutsOk n st goal ops c0 cs){x:List Int×Int}(hx:CutP n st goal ops (xJr c0 cs) x.1 x.2):CutsOk n st goal ops c0 (cs ++ [x]):=fun i y hy=>by
 rcases Nat.lt_or_ge i cs.length with hi | hi
 ·rw[List.getElem?_append_left hi] at hy;rw[List.take_append_of_le_length (by omega)];exact h i y hy
 ·have:i=cs.length:=by
   have:=(List.getElem?_eq_some_iff.1 hy).1;rw[List.length_append] at this;simp at this;omega
  subst this;rw[List.getElem?_append_right (Nat.le_refl _)] at hy;simp at hy;subst hy;rw[List.take_left];exact hx
theorem CutsOk.left_in(h:CutsOk n st goal ops c0 cs)(hl:c0.length=ops.length)(hv:∀ c∈c0,0<=c/\c<=100):∀ k,∀ c∈xJr c0 (cs.take k),0<=c/\c<=100:=by
 intro k
 induction k with
 | zero=>exact hv
 | succ k ih=>
  rcases Nat.lt_or_ge k cs.length with hk | hk
  ·have hx:=lGe hk;have hp:=h k _ hx;rw[xZe hx];have:=hp.lower_in (by rw[xXr];exact hl) ih cs[k].1.length
   rwa [List.take_length] at this
  ·rw[List.take_of_length_le (by omega)];rw[List.take_of_length_le hk] at ih;exact ih
theorem CutsOk.total(h:CutsOk n st goal ops c0 cs)(hl:c0.length=ops.length):∀ k,k<=cs.length->0<=xJv (cs.take k)/\xJv (cs.take k)+xXz (xJr c0 (cs.take k))<=xXz c0/\(k:Int)+xXz (xJr c0 (cs.take k))<=xXz c0:=by
 intro k
 induction k with
 | zero=>intro _;simp[xJv,xJr]
 | succ k ih=>
  intro hk;have hx:=lGe (show k < cs.length by omega);have hp:=h k _ hx;have h1:=ih (by omega);rw[xZe hx,xQi hx];have h2:=xYp (c:=cs[k].2) (by have:=hp.pos;omega) cs[k].1 (xJr c0 (cs.take k)) hp.set.pairwise (fun x hx=>by rw[xXr,hl];exact hp.set.1 x hx) hp.fit;have h3:0 < cs[k].1.length:=List.length_pos_iff.2 hp.ne;have h4:=hp.pos;have h5:cs[k].2.toNat<=cs[k].1.length * cs[k].2.toNat:=Nat.le_mul_of_pos_left _ h3;omega
end
theorem zQv{V:List Int}(h:∀ v∈V,0<=v/\v<=100):xXz V<=100 * V.length:=by
 induction V with
 | nil=>simp[xXz]
 | cons v V ih=>
  have h1:=ih (fun x hx=>h x (List.mem_cons_of_mem _ hx));have h2:=h v (List.mem_cons_self ..);simp only[xXz,List.map_cons,List.sum_cons,List.length_cons] at *;omega
structure SBox(w:World)(b n:Nat)(t:TaskV)(Ai Ag Ao S C Q:Option Addr)(ci cg co cs cc cq:Nat)(st left W:List Int):Prop where
 k0:w.cell? ⟨b,0,none⟩=some (.int .i64 (n:Int))
 k1:w.cell? ⟨b,1,none⟩=some (.slice Ai t.init.length ci)
 k2:w.cell? ⟨b,2,none⟩=some (.slice Ag t.goal.length cg)
 k3:w.cell? ⟨b,3,none⟩=some (.slice Ao t.ops.length co)
 k4:w.cell? ⟨b,4,none⟩=some (.slice S st.length cs)
 k5:w.cell? ⟨b,5,none⟩=some (.slice C left.length cc)
 k6:w.cell? ⟨b,6,none⟩=some (.slice Q (n+1) cq)
 mem:TaskMem w Ai Ag Ao t
 is:Ints w S st
 ic:Ints w C left
 iw:Ints w Q W
 lw:W.length=n+1
 n9:n<=1000000
 lc:left.length=t.ops.length
 ls:lenOk st.length
 st_:∀ p∈st,0<=p/\p < (n:Int)
 goal_:∀ p∈t.goal,0<=p/\p < (n:Int)
 ops_:∀ o∈t.ops,(∀ p∈o.pre,0<=p/\p < (n:Int))/\∀ p∈o.add,0<=p/\p < (n:Int)
section
variable {w w':World}{b n:Nat}{t:TaskV}{Ai Ag Ao S C Q:Option Addr}{ci cg co cs cc cq:Nat}{st left W:List Int}
theorem SBox.below(h:SBox w b n t Ai Ag Ao S C Q ci cg co cs cc cq st left W)(hb:Below w.heap.size w w'):SBox w' b n t Ai Ag Ao S C Q ci cg co cs cc cq st left W:=by
 have k:∀ {o:Nat} {v:Value},w.cell? ⟨b,o,none⟩=some v->w'.cell? ⟨b,o,none⟩=some v:=fun h=>(hb.cell (World.block_lt_of_cell? w _ h)).trans h
 exact⟨k h.k0,k h.k1,k h.k2,k h.k3,k h.k4,k h.k5,k h.k6,h.mem.below hb,h.is.below hb,h.ic.below hb,h.iw.below hb,h.lw,h.n9,h.lc,h.ls,h.st_,h.goal_,h.ops_⟩
theorem SBox.cells(h:SBox w b n t Ai Ag Ao S C Q ci cg co cs cc cq st left W):w.cell? ⟨b,0,none⟩=some (.int .i64 (n:Int))/\w.cell? ⟨b,1,none⟩=some (.slice Ai t.init.length ci)/\w.cell? ⟨b,2,none⟩=some (.slice Ag t.goal.length cg)/\w.cell? ⟨b,3,none⟩=some (.slice Ao t.ops.length co) /\
  w.cell? ⟨b,4,none⟩=some (.slice S st.length cs)/\w.cell? ⟨b,5,none⟩=some (.slice C left.length cc)/\w.cell? ⟨b,6,none⟩=some (.slice Q (n+1) cq):=⟨h.k0,h.k1,h.k2,h.k3,h.k4,h.k5,h.k6⟩
theorem zJi(h:SBox w b n t Ai Ag Ao S C Q ci cg co cs cc cq st left W)(X:Option Addr)(d:Nat)(xs:List Int)(hJ:Ints w X xs)(hl:lenOk xs.length)(hxs:∀ x∈xs,0<=x/\x < (n:Int))(v:Int)(hv:xXc W n xs=v) :
  Calls Tryz.prog 182 #[.pointer (some ⟨b,0,none⟩),.slice X xs.length d] w fun e w'=>e=.returned (.int .i64 v)/\Below w.heap.size w w':=by
 subst hv;exact zQr w b n cq d Q X W xs h.k0 h.k6 h.iw h.lw (by have:=h.n9;omega) hJ hl.le hxs
end
theorem zJj{bs:List Bool}{i:Nat}:xJy (bs.set i true)<=xJy bs:=by
 induction bs generalizing i with
 | nil=>simp
 | cons b bs ih=>
  cases i with
  | zero=>simp[xJy]
  | succ i=>have:=ih (i:=i);simp only[xJy,List.set_cons_succ,List.map_cons,List.sum_cons] at *;omega
theorem zXw{N i:Nat}{b:Bool}(h:(List.replicate N false)[i]? = some b):b=false:=by
 rw[List.getElem?_replicate] at h
 split at h <;> simp_all
theorem vJe(n:Nat)(hn:n<=1000000)(w:World) :
  (Instr.makeSlice 200 (.int .i64 ((n:Int)+1)) (.int .i64 ((n:Int)+1))).run Tryz.prog w=.ok (.slice (some ⟨w.heap.size,0,none⟩) (n+1) (n+1)) (w.alloc (.cells (List.replicate (n+1) (Value.bool false)).toArray 4)):=zWh (n+1) (by omega) w
theorem zKc{n:Nat}{W goal:List Int}{E:Nat->Int->Int->Prop}{h:Int}(hh:xXc W n goal=h)(h0:0<=h)(h1:h<=(n:Int)):SoundG (n+1) (ZS n W goal) E ((List.replicate (n+1) false).set h.toNat true):=by
 refine⟨by simp,fun p hp=>?_,fun p hp=>?_⟩
 ·have:p=h:=by rw[<- hh];exact hp
  subst this;rw[List.getElem?_set_self (by simp;omega)]
 ·rw[List.getElem?_set] at hp
  split at hp
  ·rename_i e
   subst e;rw[Int.toNat_of_nonneg h0];exact .start hh.symm
  ·have:=zXw hp;cases this
theorem vJf{n:Nat}{st:List Int}{E:Nat->Int->Int->Prop}(h:∀ p∈st,0<=p/\p < (n:Int)):SoundG (n+1) (BS n st) E (xVo (n+1) ((n:Int) :: st)):=by
 have hx:∀ x∈(n:Int) :: st,0<=x/\x < ((n+1:Nat):Int):=fun x hx=>by
  rcases List.mem_cons.1 hx with e | e
  ·omega
  ·have:=h x e;omega
 have hs:=zVh (n:=n+1) (ops:=[]) (use:=fun _=>true) hx;refine⟨hs.len,fun p hp=>hs.init p ?_,fun p hp=>?_⟩
 ·rcases hp with e | e
  ·rw[e];exact List.mem_cons_self ..
  ·exact List.mem_cons_of_mem _ e
 ·have hr:=hs.sound p hp
  cases hr with
  | init hm=>
   rcases List.mem_cons.1 hm with e | e
   ·exact .start (.inl e)
   ·exact .start (.inr e)
  | step ho=>simp at ho
theorem zQw(n:Nat):xVo (n+1) [(n:Int)]=(List.replicate (n+1) false).set n true:=by
 unfold xVo;simp
theorem zKd{n k:Nat}{l:List Int}{x:Int}(h:l[k]? = some x):xVo (n+1) ((n:Int) :: l.take (k+1))=(xVo (n+1) ((n:Int) :: l.take k)).set x.toNat true:=by
 have h2:((n:Int) :: l)[k+1]? = some x:=by simpa using h
 have:=zWp (n:=n+1) h2;simpa[List.take_succ_cons] using this
theorem vQs(w:World)(b:Nat)(n:Nat)(t:TaskV)(Ai Ag Ao S C Q:Option Addr)(ci cg co cs cc cq:Nat)(st left W:List Int)(hX:SBox w b n t Ai Ag Ao S C Q ci cg co cs cc cq st left W) :
  Calls Tryz.prog 180 #[.pointer (some ⟨b,0,none⟩)] w fun e w'=>∃ g,e=.returned (.slice (some ⟨g,0,none⟩) (n+1) (n+1))/\w.heap.size<=g/\BArr w' g (xVk n W t.ops left t.goal)/\Below w.heap.size w w':=by
 have hmk:=vJe n hX.n9;have hn9:=hX.n9;obtain⟨h,hh⟩:∃ h,Hid (xXc W n t.goal=h):=⟨_,lHd rfl⟩;obtain⟨h0,h1⟩:=xV1 (vs:=W) (n:=(n:Int)) (by omega) hX.goal_;rw[hh.out] at h0 h1;have hlo:=hX.mem.lops.le;have HX:=lHd hX;obtain⟨k0,k1,k2,k3,k4,k5,k6⟩:=SBox.cells (HX.out);have kb:=World.block_lt_of_cell? _ _ k0;clear hX;go_enter Tryz.func180,Tryz.ntmps180
 go_wp2_with fail
 refine (zJi (HX.out.below bch) _ _ _ (HX.out.mem.goal.below bch) HX.out.mem.lgoal HX.out.goal_ h hh.out).mono ?_;rintro e w1 ⟨rfl,hB1⟩;have D1:=xJ4 w hB1 bch;have hA1:BArr w1 w.heap.size (List.replicate (n+1) false):=(BArr.made w (n+1) _ rfl).below hB1;obtain⟨y,hy,hd,hf⟩:=hA1.cell (i:=h.toNat) (by simp;omega)
 go_wp2_with fail
 go_loopg [4] (2 * xJy ((List.replicate (n+1) false).set h.toNat true)+1) (fun gk ch wr=>∃ (V:List Bool) (c:Bool),ch=.bool c/\Hid (gk=2 * xJy V+c.toNat)/\BArr wr w.heap.size V/\SoundG (n+1) (ZS n W t.goal) (ZE n W t.ops left) V/\Hid (c=false->xZr (ZE n W t.ops left) t.ops.length V)/\Below w.heap.size w wr)
 case atStart=>exact⟨_,true,rfl,lHd rfl,hA1.set_ _ _,zKc hh.out h0 h1,lHd (fun h=>by cases h),bch⟩
 case round=>
  obtain⟨V0,c,rfl,hgk,hA0,hV0,hcl,hBp⟩:=hrel;obtain⟨g3,rfl⟩:∃ g:Nat,g=gk:=⟨_,rfl⟩;obtain⟨w3,rfl⟩:∃ wo:World,wo=wr:=⟨_,rfl⟩
  cases c with
  | false=>
   have e:=hV0.eq (hcl.out rfl) (fun i p q h=>by obtain⟨o,c,ho,_⟩:=h;exact (List.getElem?_eq_some_iff.1 ho).1);rw[e] at hA0;clear e hV0 hcl;go_wp2;go_ret;exact⟨_,rfl,by omega,hA0,hBp⟩
  | true=>
   clear k0 k1 k2 k3 k4 k5 k6 kb;obtain⟨k0,k1,k2,k3,k4,k5,k6⟩:=SBox.cells (HX.out.below hBp);have kb:=World.block_lt_of_cell? _ _ k0
   go_wp2_with fail
   go_loopg [4,33] (t.ops.length) (fun gk ch i wr=>∃ (V:List Bool) (c:Bool) (k:Nat),ch=.bool c/\i=.int .i64 k/\Hid (k+gk=t.ops.length)/\BArr wr w.heap.size V/\SoundG (n+1) (ZS n W t.goal) (ZE n W t.ops left) V/\Hid (c=true->xJy V < xJy V0)/\Hid (c=false->xJy V<=xJy V0/\xZr (ZE n W t.ops left) k V)/\Below w.heap.size w wr)
   case atStart=>exact⟨V0,false,0,rfl,rfl,lHd (by omega),hA0,hV0,lHd (fun h=>by cases h),lHd (fun _=>⟨Nat.le_refl _,xYo⟩),bch⟩
   case round=>
    obtain⟨V1,c1,k,rfl,rfl,hk,hA1,hV1,ht1,hf1,hBs⟩:=hrel;obtain⟨g4,rfl⟩:∃ g:Nat,g=gk:=⟨_,rfl⟩;obtain⟨w4,rfl⟩:∃ wo:World,wo=wr:=⟨_,rfl⟩;clear k0 k1 k2 k3 k4 k5 k6 kb;obtain⟨k0,k1,k2,k3,k4,k5,k6⟩:=SBox.cells (HX.out.below hBs);have kb:=World.block_lt_of_cell? _ _ k0
    by_cases hlt:k < t.ops.length
    ·obtain⟨ad,o,A0,c0,A1,c1',A2,c2,rfl,ho,hc0,hc1,hc2,hc3,hm⟩:=HX.out.mem.ops.at2 hBs hlt;have hoo:=lHd (HX.out.ops_ o (lMg ho.out));have hk1:=lHd (show k+1+(g4 - 1)=t.ops.length/\g4 - 1 < g4 by have:=hk.out;omega);have hlk:k < left.length:=by have:=HX.out.lc;omega
     obtain⟨cd,cv,rfl,hcv,hcc⟩:=(HX.out.ic.below hBs).at_ hlk;obtain⟨f,hf⟩:∃ f,Hid (xXc W n o.pre=f):=⟨_,lHd rfl⟩;obtain⟨f0,f1⟩:=xV1 (vs:=W) (n:=(n:Int)) (by omega) hoo.out.1;rw[hf.out] at f0 f1
     go_wp2_with fail
     refine (zJi (HX.out.below bch) _ _ _ (hm.pre.below bch) hm.lpre hoo.out.1 f hf.out).mono ?_;rintro e w6 ⟨rfl,hB6⟩;have D6:=xJ4 w hB6 bch;have C6:=Cls.below (l:=[(w4.heap.size,0,.slice A0 o.pre.length c0),(w4.heap.size,1,.slice A1 o.add.length c1'),(w4.heap.size,2,.slice A2 o.del.length c2),(w4.heap.size,3,.int .i64 o.cost)]) hB6 (by simp[Cls,go_sem]);have F6:=C6;simp only[Cls,and_true] at F6;have y6w40:w4.heap.size < w6.heap.size:=C6.blk (b:=w4.heap.size) (k:=0) (v:=.slice A0 o.pre.length c0) (by simp);have E6:=xJ4 w4 hB6 bch;clear k0 k1 k2 k3 k4 k5 k6 kb;obtain⟨k0,k1,k2,k3,k4,k5,k6⟩:=SBox.cells (HX.out.below D6);have kb:=World.block_lt_of_cell? _ _ k0;have hcc6:=(E6.cell (World.block_lt_of_cell? w4 _ hcc)).trans hcc;clear hcc;have hA6:=hA1.below E6
     by_cases hpos:0 < cv
     ·have hpd:decide (0 < cv)=true:=by simpa using hpos
      have HP:=lHd hpos;clear hpos;go_wp2
      go_roundg (g4 - 1)
      case measure=>exact hk1.out.2
      case rel=>
       refine⟨V1,c1,k+1,rfl,by go_num,lHd hk1.out.1,hA6,hV1,ht1,lHd (fun h=>⟨(hf1.out h).1,xZ0 (hf1.out h).2 (fun p q hE hp=>by obtain⟨o',c',_,hc',hn',_⟩:=hE;rw[hcv.out] at hc';injection hc' with hc';subst hc';exact absurd HP.out hn')⟩),bch⟩
     ·have hpd:decide (0 < cv)=false:=by simpa using hpos
      have HP:=lHd hpos;clear hpos;have hl1:=hV1.len;obtain⟨yf,hyf,hyc,hyw⟩:=hA6.cell (i:=f.toNat) (by omega);clear hl1
      cases yf with
      | true=>
       go_wp2
       go_roundg (g4 - 1)
       case measure=>exact hk1.out.2
       case rel=>
        refine⟨V1,c1,k+1,rfl,by go_num,lHd hk1.out.1,hA6,hV1,ht1,lHd (fun h=>⟨(hf1.out h).1,xZ0 (hf1.out h).2 (fun p q hE hp=>by obtain⟨o',c',ho',_,_,_,e⟩:=hE;rw[ho.out] at ho';injection ho' with ho';subst ho';rw[e,hf.out];exact hyf.out)⟩),bch⟩
      | false=>
       have hlc':=hm.ladd.le
       go_wp2_with fail
       go_loopg [4,59] (o.add.length) (fun gk ch i wr=>∃ (V:List Bool) (c:Bool) (j:Nat),ch=.bool c/\i=.int .i64 j/\Hid (j+gk=o.add.length)/\BArr wr w.heap.size V/\SoundG (n+1) (ZS n W t.goal) (ZE n W t.ops left) V/\Hid (c=true->xJy V < xJy V0)/\Hid (c=false->xJy V<=xJy V0/\xZr (ZE n W t.ops left) k V/\V[f.toNat]? = some false/\∀ p∈o.add.take j,V[p.toNat]? = some false)/\Below w.heap.size w wr)
       case atStart=>exact⟨V1,c1,0,rfl,rfl,lHd (by omega),hA6,hV1,ht1,lHd (fun h=>⟨(hf1.out h).1,(hf1.out h).2,hyf.out,by simp⟩),bch⟩
       case round=>
        obtain⟨V2,c2',j,rfl,rfl,hj,hA2,hV2,ht2,hf2,hBu⟩:=hrel;obtain⟨w8,rfl⟩:∃ wo:World,wo=wr:=⟨_,rfl⟩
        by_cases hlj:j < o.add.length
        ·obtain⟨pd,p,rfl,hp,hpc⟩:=(hm.add.below hBu).at_ hlj;obtain⟨p0,p1⟩:=hoo.out.2 p (lMg hp.out);have hl2:=hV2.len;obtain⟨y2,hy2,hyc2,hyw2⟩:=hA2.cell (i:=p.toNat) (by omega);obtain⟨yf,hyf2,hyfc,hyfw⟩:=hA2.cell (i:=f.toNat) (by omega);have hj1:=lHd (show j+1+(gk - 1)=o.add.length/\gk - 1 < gk by have:=hj.out;omega);have HV2:=lHd hV2;clear hV2 hl2
         cases y2 with
         | true=>
          have hz:=lHd (show GR (ZS n W t.goal) (ZE n W t.ops left) f from by
           have h3:=HV2.out.sound _ hy2.out;rw[Int.toNat_of_nonneg p0] at h3;exact .step h3 ⟨o,cv,ho.out,hcv.out,(by have:=HP.out;omega),lMg hp.out,hf.out.symm⟩)
          go_wp2
          go_roundg (gk - 1)
          case measure=>exact hj1.out.2
          case rel=>
           refine⟨V2.set f.toNat true,true,j+1,rfl,by go_num,lHd hj1.out.1,hA2.set_ _ _,HV2.out.set_ hz.out f0 (by omega),lHd (fun _=>?_),lHd (fun h=>by cases h),bch⟩
           cases c2' with
           | true=>have h2:=ht2.out (by simp);have h3:=zJj (bs:=V2) (i:=f.toNat);omega
           | false=>have h2:=hf2.out (by simp);have h3:=zJ7 h2.2.2.1;omega
         | false=>
          go_wp2
          go_roundg (gk - 1)
          case measure=>exact hj1.out.2
          case rel=>
           exact⟨V2,c2',j+1,rfl,by go_num,lHd hj1.out.1,hA2,HV2.out,ht2,lHd (fun h=>⟨(hf2.out h).1,(hf2.out h).2.1,(hf2.out h).2.2.1,xJo (P:=fun p:Int=>V2[p.toNat]? = some false) hp.out (hf2.out h).2.2.2 hy2.out⟩),bch⟩
        ·go_wp2
         go_roundg (g4 - 1)
         case measure=>exact hk1.out.2
         case rel=>
          refine⟨V2,c2',k+1,rfl,by go_num,lHd hk1.out.1,hA2,hV2,ht2,lHd (fun h=>⟨(hf2.out h).1,xZ0 (hf2.out h).2.1 (fun p q hE hp=>?_)⟩),bch⟩;obtain⟨o',c',ho',_,_,hpm,_⟩:=hE;rw[ho.out] at ho';injection ho' with ho';subst ho'
          have h3:=xX4 hlj (hf2.out h).2.2.2 p hpm;rw[h3] at hp;cases hp
    ·have hkk:=lHd (show k=t.ops.length by have:=hk.out;omega);go_wp2
     go_roundg (2 * xJy V1+c1.toNat)
     case measure=>
      rw[hgk.out]
      cases c1 with
      | true=>have:=ht1.out rfl;simp;omega
      | false=>have:=(hf1.out rfl).1;simp;omega
     case rel=>exact⟨V1,c1,rfl,lHd rfl,hA1,hV1,lHd (fun h=>by rw[<- hkk.out];exact (hf1.out h).2),bch⟩
theorem BArr.made_set(w:World)(n i:Nat)(b:Bool):BArr (w.alloc (.cells ((Array.replicate n (Value.bool false)).setIfInBounds i (.bool b)) 4)) w.heap.size ((List.replicate n false).set i b):=by
 have h:=Arr.new w 4 (((List.replicate n false).set i b).map Value.bool);unfold BArr;rw[List.map_set,List.map_replicate] at h ⊢;rw[<- List.toArray_replicate,List.setIfInBounds_toArray];exact h
theorem zKe(w:World)(b:Nat)(n:Nat)(t:TaskV)(Ai Ag Ao S C Q:Option Addr)(ci cg co cs cc cq:Nat)(st left W:List Int)(hX:SBox w b n t Ai Ag Ao S C Q ci cg co cs cc cq st left W)(Zp:Option Addr)(cz:Nat)(Z:List Bool)(hZ:Bools w Zp Z)(hzl:Z.length=n+1) :
  Calls Tryz.prog 181 #[.pointer (some ⟨b,0,none⟩),.slice Zp (n+1) cz] w fun e w'=>∃ g,e=.returned (.slice (some ⟨g,0,none⟩) (n+1) (n+1))/\w.heap.size<=g/\BArr w' g (vW4 n W t.ops st Z)/\Below w.heap.size w w':=by
 have hmk:=vJe n hX.n9;have hn9:=hX.n9;have hlo:=hX.mem.lops.le;have hls:=hX.ls.le;have HST:=lHd hX.st_;have hS:=hX.is;have HZL:=lHd hzl;clear hzl;have HX:=lHd hX;obtain⟨k0,k1,k2,k3,k4,k5,k6⟩:=SBox.cells (HX.out);have kb:=World.block_lt_of_cell? _ _ k0;clear hX;have hA0:=BArr.made w (n+1) _ rfl;obtain⟨y,hy,hd,hf⟩:=hA0.cell (i:=n) (by simp);go_enter Tryz.func181,Tryz.ntmps181
 go_wp2_with fail
 go_loopg [32] (st.length) (fun gk i wr=>∃ k:Nat,Hid (k+gk=st.length)/\i=.int .i64 k/\BArr wr w.heap.size (xVo (n+1) ((n:Int) :: st.take k))/\Below w.heap.size w wr)
 case atStart=>
  refine⟨0,lHd (by omega),rfl,?_,bch⟩;rw[List.take_zero,zQw];exact BArr.made_set w (n+1) n true
 case round=>
  obtain⟨k,hk,rfl,hA,hBq⟩:=hrel;have dqs:=hBq.size
  by_cases hlt:k < st.length
  ·obtain⟨sd,x,rfl,hx,hc⟩:=(hS.below hBq).at_ hlt;obtain⟨x0,x1⟩:=HST.out x (lMg hx.out);have hlen:=xW8 (n+1) ((n:Int) :: st.take k);obtain⟨y1,hy1,hd1,hf1⟩:=hA.cell (i:=x.toNat) (by omega);have hk1:=lHd (show k+1+(gk - 1)=st.length/\gk - 1 < gk by have:=hk.out;omega);go_wp2
   go_roundg (gk - 1)
   case measure=>exact hk1.out.2
   case rel=>
    refine⟨k+1,lHd hk1.out.1,by go_num,?_,bch⟩;rw[zKd hx.out];exact hA.set_ _ _
  ·rw[List.take_of_length_le (by omega)] at hA;obtain⟨w2,rfl⟩:∃ wo:World,wo=wr:=⟨_,rfl⟩;clear k0 k1 k2 k3 k4 k5 k6 kb;obtain⟨k0,k1,k2,k3,k4,k5,k6⟩:=SBox.cells (HX.out.below hBq);have kb:=World.block_lt_of_cell? _ _ k0
   go_wp2_with fail
   go_loopg [8] (2 * xJy (xVo (n+1) ((n:Int) :: st))+1) (fun gk ch wr=>∃ (V:List Bool) (c:Bool),ch=.bool c/\Hid (gk=2 * xJy V+c.toNat)/\BArr wr w.heap.size V/\SoundG (n+1) (BS n st) (BE n W t.ops Z) V/\Hid (c=false->xZr (BE n W t.ops Z) t.ops.length V)/\Below w.heap.size w wr)
   case atStart=>exact⟨_,true,rfl,lHd rfl,hA,vJf HST.out,lHd (fun h=>by cases h),bch⟩
   case round=>
    obtain⟨V0,c,rfl,hgk,hA0,hV0,hcl,hBp⟩:=hrel;obtain⟨g3,rfl⟩:∃ g:Nat,g=gk:=⟨_,rfl⟩;obtain⟨w3,rfl⟩:∃ wo:World,wo=wr:=⟨_,rfl⟩
    cases c with
    | false=>
     have e:=hV0.eq (hcl.out rfl) (fun i p q h=>by obtain⟨o,ho,_⟩:=h;exact (List.getElem?_eq_some_iff.1 ho).1);rw[e] at hA0;clear e hV0 hcl;go_wp2;go_ret;exact⟨_,rfl,by omega,hA0,hBp⟩
    | true=>
     clear k0 k1 k2 k3 k4 k5 k6 kb;obtain⟨k0,k1,k2,k3,k4,k5,k6⟩:=SBox.cells (HX.out.below hBp);have kb:=World.block_lt_of_cell? _ _ k0
     go_wp2_with fail
     go_loopg [8,47] (t.ops.length) (fun gk ch i wr=>∃ (V:List Bool) (c:Bool) (k:Nat),ch=.bool c/\i=.int .i64 k/\Hid (k+gk=t.ops.length)/\BArr wr w.heap.size V/\SoundG (n+1) (BS n st) (BE n W t.ops Z) V/\Hid (c=true->xJy V < xJy V0)/\Hid (c=false->xJy V<=xJy V0/\xZr (BE n W t.ops Z) k V)/\Below w.heap.size w wr)
     case atStart=>exact⟨V0,false,0,rfl,rfl,lHd (by omega),hA0,hV0,lHd (fun h=>by cases h),lHd (fun _=>⟨Nat.le_refl _,xYo⟩),bch⟩
     case round=>
      obtain⟨V1,c1,k,rfl,rfl,hk,hA1,hV1,ht1,hf1,hBs⟩:=hrel;obtain⟨g4,rfl⟩:∃ g:Nat,g=gk:=⟨_,rfl⟩;obtain⟨w4,rfl⟩:∃ wo:World,wo=wr:=⟨_,rfl⟩;clear k0 k1 k2 k3 k4 k5 k6 kb;obtain⟨k0,k1,k2,k3,k4,k5,k6⟩:=SBox.cells (HX.out.below hBs);have kb:=World.block_lt_of_cell? _ _ k0
      by_cases hlt:k < t.ops.length
      ·obtain⟨ad,o,A0,c0,A1,c1',A2,c2,rfl,ho,hc0,hc1,hc2,hc3,hm⟩:=HX.out.mem.ops.at2 hBs hlt;have hoo:=lHd (HX.out.ops_ o (lMg ho.out));have hk1:=lHd (show k+1+(g4 - 1)=t.ops.length/\g4 - 1 < g4 by have:=hk.out;omega);obtain⟨f,hf⟩:∃ f,Hid (xXc W n o.pre=f):=⟨_,lHd rfl⟩;obtain⟨f0,f1⟩:=xV1 (vs:=W) (n:=(n:Int)) (by omega) hoo.out.1;rw[hf.out] at f0 f1;have HL1:=lHd hV1.len
       go_wp2_with fail
       refine (zJi (HX.out.below bch) _ _ _ (hm.pre.below bch) hm.lpre hoo.out.1 f hf.out).mono ?_;rintro e w6 ⟨rfl,hB6⟩;have D6:=xJ4 w hB6 bch;have C6:=Cls.below (l:=[(w4.heap.size,0,.slice A0 o.pre.length c0),(w4.heap.size,1,.slice A1 o.add.length c1'),(w4.heap.size,2,.slice A2 o.del.length c2),(w4.heap.size,3,.int .i64 o.cost)]) hB6 (by simp[Cls,go_sem]);have F6:=C6;simp only[Cls,and_true] at F6;have y6w40:w4.heap.size < w6.heap.size:=C6.blk (b:=w4.heap.size) (k:=0) (v:=.slice A0 o.pre.length c0) (by simp);have E6:=xJ4 w4 hB6 bch;clear k0 k1 k2 k3 k4 k5 k6 kb;obtain⟨k0,k1,k2,k3,k4,k5,k6⟩:=SBox.cells (HX.out.below D6);have kb:=World.block_lt_of_cell? _ _ k0;have hA6:=hA1.below E6;obtain⟨yf,hyf,hyc,hyw⟩:=hA6.cell (i:=f.toNat) (by have:=HL1.out;omega)
       cases yf with
       | false=>
        go_wp2
        go_roundg (g4 - 1)
        case measure=>exact hk1.out.2
        case rel=>
         refine⟨V1,c1,k+1,rfl,by go_num,lHd hk1.out.1,hA6,hV1,ht1,lHd (fun h=>⟨(hf1.out h).1,xZ0 (hf1.out h).2 (fun p q hE hp=>by obtain⟨o',ho',e,_⟩:=hE;rw[ho.out] at ho';injection ho' with ho';subst ho';rw[e,hf.out,hyf.out] at hp;cases hp)⟩),bch⟩
       | true=>
        have hlc':=hm.ladd.le;have hfr:=lHd (show GR (BS n st) (BE n W t.ops Z) f from by
         have h3:=hV1.sound _ hyf.out
         rwa [Int.toNat_of_nonneg f0] at h3)
        go_wp2_with fail
        go_loopg [8,62] (o.add.length) (fun gk ch i wr=>∃ (V:List Bool) (c:Bool) (j:Nat),ch=.bool c/\i=.int .i64 j/\Hid (j+gk=o.add.length)/\BArr wr w.heap.size V/\SoundG (n+1) (BS n st) (BE n W t.ops Z) V/\Hid (c=true->xJy V < xJy V0)/\Hid (c=false->xJy V<=xJy V0/\xZr (BE n W t.ops Z) k V/\∀ p∈o.add.take j,V[p.toNat]? = some true\/Z[p.toNat]? = some true)/\Below w.heap.size w wr)
        case atStart=>exact⟨V1,c1,0,rfl,rfl,lHd (by omega),hA6,hV1,ht1,lHd (fun h=>⟨(hf1.out h).1,(hf1.out h).2,by simp⟩),bch⟩
        case round=>
         obtain⟨V2,c2',j,rfl,rfl,hj,hA2,hV2,ht2,hf2,hBu⟩:=hrel;obtain⟨w8,rfl⟩:∃ wo:World,wo=wr:=⟨_,rfl⟩
         by_cases hlj:j < o.add.length
         ·obtain⟨pd,p,rfl,hp,hpc⟩:=(hm.add.below hBu).at_ hlj;obtain⟨p0,p1⟩:=hoo.out.2 p (lMg hp.out);have hl2:=hV2.len;obtain⟨y2,hy2,hyc2,hyw2⟩:=hA2.cell (i:=p.toNat) (by omega);obtain⟨zd,z2,rfl,hz2,hzc2⟩:=(hZ.below hBu).at_ (k:=p.toNat) (by have:=HZL.out;omega);have hj1:=lHd (show j+1+(gk - 1)=o.add.length/\gk - 1 < gk by have:=hj.out;omega);have HV2:=lHd hV2;clear hV2 hl2
          cases y2 with
          | true=>
           go_wp2
           go_roundg (gk - 1)
           case measure=>exact hj1.out.2
           case rel=>
            exact⟨V2,c2',j+1,rfl,by go_num,lHd hj1.out.1,hA2,HV2.out,ht2,lHd (fun h=>⟨(hf2.out h).1,(hf2.out h).2.1,xJo (P:=fun p:Int=>V2[p.toNat]? = some true\/Z[p.toNat]? = some true) hp.out (hf2.out h).2.2 (.inl hy2.out)⟩),bch⟩
          | false=>
           cases z2 with
           | true=>
            go_wp2
            go_roundg (gk - 1)
            case measure=>exact hj1.out.2
            case rel=>
             exact⟨V2,c2',j+1,rfl,by go_num,lHd hj1.out.1,hA2,HV2.out,ht2,lHd (fun h=>⟨(hf2.out h).1,(hf2.out h).2.1,xJo (P:=fun p:Int=>V2[p.toNat]? = some true\/Z[p.toNat]? = some true) hp.out (hf2.out h).2.2 (.inr hz2.out)⟩),bch⟩
           | false=>
            have hz:=lHd (show GR (BS n st) (BE n W t.ops Z) p from .step hfr.out ⟨o,ho.out,hf.out.symm,lMg hp.out,hz2.out⟩);go_wp2
            go_roundg (gk - 1)
            case measure=>exact hj1.out.2
            case rel=>
             refine⟨V2.set p.toNat true,true,j+1,rfl,by go_num,lHd hj1.out.1,hA2.set_ _ _,HV2.out.set_ hz.out p0 (by omega),lHd (fun _=>?_),lHd (fun h=>by cases h),bch⟩;have h3:=zJ7 hy2.out
             cases c2' with
             | true=>have h2:=ht2.out (by simp);omega
             | false=>have h2:=hf2.out (by simp);omega
         ·go_wp2
          go_roundg (g4 - 1)
          case measure=>exact hk1.out.2
          case rel=>
           refine⟨V2,c2',k+1,rfl,by go_num,lHd hk1.out.1,hA2,hV2,ht2,lHd (fun h=>⟨(hf2.out h).1,xZ0 (hf2.out h).2.1 (fun p q hE hp=>?_)⟩),bch⟩;obtain⟨o',ho',_,hpm,hzf⟩:=hE;rw[ho.out] at ho';injection ho' with ho';subst ho'
           rcases xX4 hlj (hf2.out h).2.2 q hpm with h3 | h3
           ·exact h3
           ·rw[h3] at hzf;cases hzf
      ·have hkk:=lHd (show k=t.ops.length by have:=hk.out;omega);go_wp2
       go_roundg (2 * xJy V1+c1.toNat)
       case measure=>
        rw[hgk.out]
        cases c1 with
        | true=>have:=ht1.out rfl;simp;omega
        | false=>have:=(hf1.out rfl).1;simp;omega
       case rel=>exact⟨V1,c1,rfl,lHd rfl,hA1,hV1,lHd (fun h=>by rw[<- hkk.out];exact (hf1.out h).2),bch⟩
theorem zVz{n:Nat}{start:Int->Prop}{E:Nat->Int->Int->Prop}{Z:List Bool}(h:grV (n+1) start E=Z):Z.length=n+1:=by rw[<- h,zQs]
theorem OwnI.drew'{base:Nat}{w:World}{v:Value}{xs:List Int}(h:OwnI base w v xs):OwnI base w.drew v xs:=h.below (xKx (Below.refl _ _))
theorem zKf{n:Nat}{W left:List Int}{ops:List OpV}{Z B:List Bool}:xQc left (xZ1 n W ops Z B 0)=1000000000:=rfl
theorem zY0{n k:Nat}{W:List Int}{ops:List OpV}{Z B:List Bool}{o:OpV}{f:Int}(ho:ops[k]? = some o)(hf:xXc W n o.pre=f)(h:B[f.toNat]? = some false\/∀ p∈o.add,Z[p.toNat]? = some false):xZ1 n W ops Z B (k+1)=xZ1 n W ops Z B k:=by
 refine vQq ?_;rintro ⟨o',ho',hb,p,hp,hz⟩;rw[ho] at ho';injection ho' with ho';subst ho'
 rw[hf] at hb;rcases h with h | h
 ·rw[h] at hb;cases hb
 ·rw[h p hp] at hz;cases hz
theorem vQt{n k:Nat}{W:List Int}{ops:List OpV}{Z B:List Bool}{o:OpV}{f p:Int}(ho:ops[k]? = some o)(hf:xXc W n o.pre=f)(hb:B[f.toNat]? = some true)(hp:p∈o.add)(hz:Z[p.toNat]? = some true):xZ1 n W ops Z B k ++ [(k:Int)]=xZ1 n W ops Z B (k+1):=by
 refine (vJ8 ⟨o,ho,?_,p,hp,hz⟩).symm;rw[hf];exact hb
theorem vYx(w:World)(b:Nat)(n:Nat)(t:TaskV)(Ai Ag Ao S C Q:Option Addr)(ci cg co cs cc cq:Nat)(st left W:List Int)(hX:SBox w b n t Ai Ag Ao S C Q ci cg co cs cc cq st left W)(h40:t.ops.length<=100000000) :
  Calls Tryz.prog 176 #[.pointer (some ⟨b,0,none⟩)] w fun e w'=>∃ v,e=.returned (.agg #[v,.int .i64 (xQc left (vQ8 n W t.ops (xVk n W t.ops left t.goal) (vW4 n W t.ops st (xVk n W t.ops left t.goal))))])/\OwnI w.heap.size w' v (vQ8 n W t.ops (xVk n W t.ops left t.goal) (vW4 n W t.ops st (xVk n W t.ops left t.goal)))/\Below w.heap.size w w':=by
 have hn9:=hX.n9;have HX:=lHd hX;obtain⟨Z,hZe⟩:∃ Z,Hid (xVk n W t.ops left t.goal=Z):=⟨_,lHd rfl⟩;obtain⟨Bf,hBe⟩:∃ Bf,Hid (vW4 n W t.ops st Z=Bf):=⟨_,lHd rfl⟩;have HZL:=lHd (zVz hZe.out);have HBL:=lHd (zVz hBe.out);obtain⟨k0,k1,k2,k3,k4,k5,k6⟩:=SBox.cells (HX.out);have kb:=World.block_lt_of_cell? _ _ k0;clear hX;go_enter Tryz.func176,Tryz.ntmps176
 go_wp2_with fail
 refine (vQs _ b n t Ai Ag Ao S C Q ci cg co cs cc cq st left W (HX.out.below bch)).mono ?_;rintro e w1 ⟨g1,rfl,hg1,hA1,hB1⟩;have D1:=xJ4 w hB1 bch;have C1:=Cls.below (l:=[(w.heap.size,0,.slice none 0 0),(w.heap.size,1,.int .i64 0)]) hB1 (by simp[Cls,go_sem]);have F1:=C1;simp only[Cls,and_true] at F1;have y1w0:w.heap.size < w1.heap.size:=C1.blk (b:=w.heap.size) (k:=0) (v:=.slice none 0 0) (by simp);rw[hZe.out] at hA1;clear k0 k1 k2 k3 k4 k5 k6 kb;obtain⟨k0,k1,k2,k3,k4,k5,k6⟩:=SBox.cells (HX.out.below bch);have kb:=World.block_lt_of_cell? _ _ k0
 go_wp2_with fail
 refine (zKe _ b n t Ai Ag Ao S C Q ci cg co cs cc cq st left W (HX.out.below bch) _ _ Z hA1.bools HZL.out).mono ?_;rintro e w2 ⟨g2,rfl,hg2,hA2,hB2⟩;have D2:=xJ4 w hB2 bch;have d2s:=D2.size;have C2:=Cls.below (l:=[(w.heap.size,0,.slice none 0 0),(w.heap.size,1,.int .i64 0)]) hB2 (by simp[Cls,go_sem,F1,y1w0]);have F2:=C2;simp only[Cls,and_true] at F2;have y2w0:w.heap.size < w2.heap.size:=C2.blk (b:=w.heap.size) (k:=0) (v:=.slice none 0 0) (by simp);have y2wp1:w.heap.size < w2.heap.size+1:=(by omega);rw[hBe.out] at hA2;have hA1':=hA1.below bch;clear k0 k1 k2 k3 k4 k5 k6 kb;obtain⟨k0,k1,k2,k3,k4,k5,k6⟩:=SBox.cells (HX.out.below bch);have kb:=World.block_lt_of_cell? _ _ k0
 go_wp2_with fail
 go_loopg [22] (t.ops.length) (fun gk i wr=>∃ (k:Nat) (v:Value),i=.int .i64 k/\Hid (k+gk=t.ops.length)/\OwnI (w2.heap.size+1) wr v (xZ1 n W t.ops Z Bf k)/\Below w2.heap.size w2 wr/\Cls wr [(w.heap.size,0,.slice none 0 0),(w.heap.size,1,.int .i64 0),(w2.heap.size,0,v),(w2.heap.size,1,.int .i64 (xQc left (xZ1 n W t.ops Z Bf k)))])
 case atStart=>
  refine⟨0,.slice none 0 0,rfl,lHd (by omega),OwnI.nil _ _,?_⟩;rw[zKf];exact⟨bch,(by simp[Cls,go_sem,F2,y2w0,y2wp1])⟩
 case round=>
  obtain⟨k,v,rfl,hk,hown,hBs,hCs⟩:=hrel;obtain⟨g4,rfl⟩:∃ g:Nat,g=gk:=⟨_,rfl⟩;obtain⟨w4,rfl⟩:∃ wo:World,wo=wr:=⟨_,rfl⟩;obtain⟨mk,hmk⟩:∃ mk,Hid (xQc left (xZ1 n W t.ops Z Bf k)=mk):=⟨_,lHd rfl⟩;rw[hmk.out] at hCs;have DW:=D2.trans (hBs.mono D2.size);clear k0 k1 k2 k3 k4 k5 k6 kb;obtain⟨k0,k1,k2,k3,k4,k5,k6⟩:=SBox.cells (HX.out.below DW);have kb:=World.block_lt_of_cell? _ _ k0;have Fs:=hCs;simp only[Cls,and_true] at Fs;have ysw0:w.heap.size < w4.heap.size:=hCs.blk (b:=w.heap.size) (k:=0) (v:=.slice none 0 0) (by simp);have ysw20:w2.heap.size < w4.heap.size:=hCs.blk (b:=w2.heap.size) (k:=0) (v:=v) (by simp)
  by_cases hlt:k < t.ops.length
  ·obtain⟨ad,o,A0,c0,A1,c1',A2,c2,rfl,ho,hc0,hc1,hc2,hc3,hm⟩:=HX.out.mem.ops.at2 DW hlt;have hoo:=lHd (HX.out.ops_ o (lMg ho.out));have hk1:=lHd (show k+1+(g4 - 1)=t.ops.length/\g4 - 1 < g4 by have:=hk.out;omega);obtain⟨f,hf⟩:∃ f,Hid (xXc W n o.pre=f):=⟨_,lHd rfl⟩;obtain⟨f0,f1⟩:=xV1 (vs:=W) (n:=(n:Int)) (by omega) hoo.out.1;rw[hf.out] at f0 f1;have hlk:k < left.length:=by have:=HX.out.lc;omega
   obtain⟨cd,cv,rfl,hcv,hcc0⟩:=HX.out.ic.at_ hlk;have hcbl:=World.block_lt_of_cell? w _ hcc0
   go_wp2_with fail
   refine (zJi (HX.out.below bch) _ _ _ (hm.pre.below bch) hm.lpre hoo.out.1 f hf.out).mono ?_;rintro e w6 ⟨rfl,hB6⟩;have D6:=xJ4 w2 hB6 bch;have d6s:=D6.size;have C6:=Cls.below (l:=[(w.heap.size,0,.slice none 0 0),(w.heap.size,1,.int .i64 0),(w2.heap.size,0,v),(w2.heap.size,1,.int .i64 mk),(w4.heap.size,0,.slice A0 o.pre.length c0),(w4.heap.size,1,.slice A1 o.add.length c1'),(w4.heap.size,2,.slice A2 o.del.length c2),(w4.heap.size,3,.int .i64 o.cost)]) hB6 (by simp[Cls,go_sem,Fs,ysw0,ysw20]);have F6:=C6;simp only[Cls,and_true] at F6;have y6w0:w.heap.size < w6.heap.size:=C6.blk (b:=w.heap.size) (k:=0) (v:=.slice none 0 0) (by simp);have y6w20:w2.heap.size < w6.heap.size:=C6.blk (b:=w2.heap.size) (k:=0) (v:=v) (by simp);have y6w40:w4.heap.size < w6.heap.size:=C6.blk (b:=w4.heap.size) (k:=0) (v:=.slice A0 o.pre.length c0) (by simp);have E6:=xJ4 w4 hB6 bch;clear k0 k1 k2 k3 k4 k5 k6 kb;obtain⟨k0,k1,k2,k3,k4,k5,k6⟩:=SBox.cells (HX.out.below (DW.trans (E6.mono DW.size)));have kb:=World.block_lt_of_cell? _ _ k0;have hown6:=hown.below E6;have hA16:=hA1'.below D6;have hA26:=hA2.below D6;obtain⟨yf,hyf,hyc,hyw⟩:=hA26.cell (i:=f.toNat) (by have:=HBL.out;omega)
   cases yf with
   | false=>
    have HS:=lHd (zY0 (Z:=Z) ho.out hf.out (.inl hyf.out));go_wp2
    go_roundg (g4 - 1)
    case measure=>exact hk1.out.2
    case rel=>
     refine⟨k+1,v,by go_num,lHd hk1.out.1,?_,?_⟩
     ·rw[HS.out];exact hown6
     ·rw[HS.out,hmk.out];exact⟨bch,(by simp[Cls,go_sem,F6,y6w0,y6w20,y6w40])⟩
   | true=>
    have hlc':=hm.ladd.le;have hadd6:=hm.add.below (DW.trans (E6.mono DW.size))
    go_wp2_with fail
    go_loop [38] (fun i=>∃ j:Nat,j<=o.add.length/\i=.int .i64 j/\Hid (∀ p∈o.add.take j,Z[p.toNat]? = some false)) (fun i=>o.add.length - (intOf i).toNat)
    case atStart=>exact⟨0,Nat.zero_le _,rfl,lHd (by simp)⟩
    case round=>
     obtain⟨j,hj,rfl,hno⟩:=hrel
     by_cases hlj:j < o.add.length
     ·obtain⟨pd,p,rfl,hp,hpc⟩:=hadd6.at_ hlj;obtain⟨p0,p1⟩:=hoo.out.2 p (lMg hp.out);obtain⟨z2,hz2,hzc2,hzw2⟩:=hA16.cell (i:=p.toNat) (by have:=HZL.out;omega)
      cases z2 with
      | false=>
       go_wp2
       go_round
       case rel=>exact⟨j+1,by omega,by go_num,lHd (xJo (P:=fun p:Int=>Z[p.toNat]? = some false) hp.out hno.out hz2.out)⟩
       case measure=>simp[intOf];omega
      | true=>
       have HT:=lHd (vQt ho.out hf.out hyf.out (lMg hp.out) hz2.out);have HM:=lHd (show min mk cv=xQc left (xZ1 n W t.ops Z Bf (k+1)) by rw[<- HT.out,zK9 (by simpa using hcv.out),hmk.out]);have hlen:(xZ1 n W t.ops Z Bf k).length < 1000000000000:=by have:=vJ9 (n:=n) (W:=W) (ops:=t.ops) (Z:=Z) (B:=Bf) k;omega
       obtain⟨mn,hmn⟩:∃ mn,Hid (min mk cv=mn):=⟨_,lHd rfl⟩
       go_wp2_with (at_builtin;go_must (refine xZk rfl (.tmp 47) (.tmp 49) rfl w2 [(w.heap.size,0,.slice none 0 0),(w.heap.size,1,.int .i64 0),(w2.heap.size,0,v),(w2.heap.size,1,.int .i64 mk)] (w2.heap.size+1) v _ ((k:Int)) rfl (OwnI.below hown6 ?p1) ⟨w6.heap.size,0,none⟩ 1 rfl ?p2 hlen ?p3 ?p4 ?p5 ?p6 ?p7 ?_;(case p1=>exact bch);(case p2=>simp[Cls,go_sem,F6,y6w0,y6w20,y6w40]);(case p3=>(first | omega | (simp <;> omega)));(case p4=>(first | omega | (simp <;> omega)));(case p5=>exact bch);(case p6=>simp[Cls,go_sem,F6,y6w0,y6w20,y6w40]);(case p7=>(simp <;> omega));intro v7 w7 o7 D7 C7 sz7;have d7s:=D7.size;have F7:=C7;simp only[Cls,and_true] at F7;have y7w0:w.heap.size < w7.heap.size:=C7.blk (b:=w.heap.size) (k:=0) (v:=.slice none 0 0) (by simp);have y7wp1:w.heap.size < w7.heap.size+1:=(by omega);have y7wp2:w.heap.size < w7.heap.size+1+1:=(by omega);have y7w20:w2.heap.size < w7.heap.size:=C7.blk (b:=w2.heap.size) (k:=0) (v:=v) (by simp);have y7w2p1:w2.heap.size < w7.heap.size+1:=(by omega);have y7w2p2:w2.heap.size < w7.heap.size+1+1:=(by omega);obtain⟨n7,hn7⟩:∃ n7:Nat,Hid ((xZ1 n W t.ops Z Bf k ++ [(k:Int)]).length=n7):=⟨_,lHd rfl⟩;obtain⟨A7,c7,e7,-⟩:=o7.form_at hn7.out;subst e7;have DZ:Below w.heap.size w (w7.setCell ⟨w2.heap.size,0,none⟩ (.slice A7 n7 c7)):=(by repeat (first | with_reducible exact (D2.trans (D7.mono D2.size)) | with_reducible apply xKx | with_reducible apply xYv | with_reducible apply xYw | ((with_reducible refine yJ1 ?_ ?_ _);rotate_left;(first | omega | (simp <;> omega)))));clear k0 k1 k2 k3 k4 k5 k6 kb;obtain⟨k0,k1,k2,k3,k4,k5,k6⟩:=SBox.cells (HX.out.below DZ);have hccZ:=(DZ.cell hcbl).trans hcc0))
       refine xJa 11 (by kernel_rfl) (by kernel_rfl) ?_;simp only[List.take_succ_cons,List.take_zero,List.drop_succ_cons,List.drop_zero]
       repeat still_step
       refine wpStill_nil ?_;go_wp2
       all_goals
        go_roundg (g4 - 1)
        case measure=>exact hk1.out.2
        case rel=>
         refine⟨k+1,.slice A7 n7 c7,by go_num,lHd hk1.out.1,?_,?_⟩
         ·rw[<- HT.out]
          repeat (first | with_reducible exact o7 | (with_reducible refine OwnI.far ?_ ?_ _;rotate_left;(first | omega | (simp <;> omega))) | with_reducible refine OwnI.drew' ?_)
         ·first | rw[show xQc left (xZ1 n W t.ops Z Bf (k+1))=mk by rw[<- HM.out];omega] | rw[show xQc left (xZ1 n W t.ops Z Bf (k+1))=cv by rw[<- HM.out];omega]
          exact⟨bch,(by simp[Cls,go_sem,F7,y7w0,y7wp1,y7wp2,y7w20,y7w2p1,y7w2p2])⟩
     ·have HF:=lHd (xX4 hlj hno.out);have HS:=lHd (zY0 (B:=Bf) ho.out hf.out (.inr HF.out));go_wp2
      go_roundg (g4 - 1)
      case measure=>exact hk1.out.2
      case rel=>
       refine⟨k+1,v,by go_num,lHd hk1.out.1,?_,?_⟩
       ·rw[HS.out];exact hown6
       ·rw[HS.out,hmk.out];exact⟨bch,(by simp[Cls,go_sem,F6,y6w0,y6w20,y6w40])⟩
  ·have hkk:=lHd (show xZ1 n W t.ops Z Bf k=vQ8 n W t.ops Z Bf by unfold vQ8;rw[show k=t.ops.length by have:=hk.out;omega]);rw[hkk.out] at hown;have hmk2:=lHd (show xQc left (vQ8 n W t.ops Z Bf)=mk by rw[<- hmk.out,hkk.out]);obtain⟨A5,c5,rfl,-⟩:=hown.form_at rfl;go_wp2;refine bodyPost_ret (v:=.agg #[.slice A5 (vQ8 n W t.ops Z Bf).length c5,.int .i64 mk]) ?_ rfl ⟨_,by rw[hZe.out,hBe.out,hmk2.out],?_,bch⟩
   ·simp[results,Tryz.results176,go_sem,Fs,ysw0,ysw20]
   ·rw[hZe.out,hBe.out];refine OwnI.mono (base:=w2.heap.size+1) ?_ (by omega)
    repeat (first | with_reducible exact hown | (with_reducible refine OwnI.far ?_ ?_ _;rotate_left;(first | omega | (simp <;> omega))) | with_reducible refine OwnI.drew' ?_)
end
section
inductive Arc(o:OpV)(p q:Int):List Int->Prop
 | both:p∈o.add->q∈o.add->Arc o p q o.pre
 | left {l:List Int}:p∈o.add->q∉o.add->q∉o.del->(∀ x,x∈l↔x=q\/x∈o.pre)->Arc o p q l
 | right {l:List Int}:q∈o.add->p∉o.add->p∉o.del->(∀ x,x∈l↔x=p\/x∈o.pre)->Arc o p q l
theorem Arc.symm{o:OpV}{p q:Int}{l:List Int}(h:Arc o p q l):Arc o q p l:=by
 cases h with
 | both h1 h2=>exact .both h2 h1
 | left h1 h2 h3 h4=>exact .right h1 h2 h3 h4
 | right h1 h2 h3 h4=>exact .left h1 h2 h3 h4
def Rng(n:Nat)(p:Int):Prop:=0<=p/\p < (n:Int)
def vQ9(V:Int->Int->Int)(l:List Int):Int:=l.foldl (fun o p=>l.foldl (fun o q=>max o (V p q)) o) 0
theorem vWf{f:Int->Int}:∀ (l:List Int) (o:Int),o<=l.foldl (fun o q=>max o (f q)) o/\(∀ q∈l,f q<=l.foldl (fun o q=>max o (f q)) o)/\∀ z,o<=z->(∀ q∈l,f q<=z)->l.foldl (fun o q=>max o (f q)) o<=z:=by
 intro l
 induction l with
 | nil=>intro o;exact⟨Int.le_refl _,by simp,fun z h _=>h⟩
 | cons x l ih=>
  intro o;obtain⟨h1,h2,h3⟩:=ih (max o (f x));simp only[List.foldl_cons];refine⟨by omega,fun q hq=>?_,fun z hz hx=>h3 z ?_ (fun q hq=>hx q (List.mem_cons_of_mem _ hq))⟩
  ·rcases List.mem_cons.1 hq with e | e
   ·subst e;omega
   ·exact h2 q e
  ·have:=hx x (List.mem_cons_self ..);omega
theorem vJh{V:Int->Int->Int}(m:List Int):∀ (l:List Int) (o:Int),o<=l.foldl (fun o p=>m.foldl (fun o q=>max o (V p q)) o) o/\(∀ p∈l,∀ q∈m,V p q<=l.foldl (fun o p=>m.foldl (fun o q=>max o (V p q)) o) o)/\∀ z,o<=z->(∀ p∈l,∀ q∈m,V p q<=z)->l.foldl (fun o p=>m.foldl (fun o q=>max o (V p q)) o) o<=z:=by
 intro l
 induction l with
 | nil=>intro o;exact⟨Int.le_refl _,by simp,fun z h _=>h⟩
 | cons x l ih=>
  intro o;obtain⟨k1,k2,k3⟩:=vWf (f:=V x) m o;obtain⟨h1,h2,h3⟩:=ih (m.foldl (fun o q=>max o (V x q)) o);simp only[List.foldl_cons];refine⟨by omega,fun p hp q hq=>?_,fun z hz hx=>h3 z (k3 z hz (fun q hq=>hx x (List.mem_cons_self ..) q hq)) (fun p hp q hq=>hx p (List.mem_cons_of_mem _ hp) q hq)⟩;rcases List.mem_cons.1 hp with e | e
  ·subst e;have:=k2 q hq;omega
  ·exact h2 p e q hq
section
variable {V U:Int->Int->Int}{l m:List Int}
theorem vJi:0<=vQ9 V l:=(vJh l l 0).1
theorem zQy{z:Int}(hz:0<=z)(h:∀ p∈l,∀ q∈l,V p q<=z):vQ9 V l<=z:=(vJh l l 0).2.2 z hz h
theorem vYz{n:Nat}(hV:∀ p q,Rng n p->Rng n q->InV (V p q))(hl:∀ p∈l,Rng n p):InV (vQ9 V l):=⟨vJi,zQy (by omega) fun p hp q hq=>(hV p q (hl p hp) (hl q hq)).2⟩
theorem vQw(h:vQ9 V l=1000000000)(hV:∀ p∈l,∀ q∈l,V p q<=1000000000):∃ p∈l,∃ q∈l,V p q=1000000000:=by
 refine Classical.byContradiction fun hn=>?_
 have:vQ9 V l<=999999999:=zQy (by omega) fun p hp q hq=>by
  have h1:=hV p hp q hq;have h2:V p q≠1000000000:=fun e=>hn ⟨p,hp,q,hq,e⟩
  omega
 omega
end
def vK0(n:Nat)(ops:List OpV):Prop:=∀ o∈ops,(∀ p∈o.pre,Rng n p)/\(∀ p∈o.add,Rng n p)/\0<=o.cost/\o.cost<=100
theorem Arc.rng{n:Nat}{o:OpV}{p q:Int}{l:List Int}(h:Arc o p q l)(hpre:∀ p∈o.pre,Rng n p)(hp:Rng n p)(hq:Rng n q):∀ x∈l,Rng n x:=by
 intro x hx
 cases h with
 | both h1 h2=>exact hpre x hx
 | left h1 h2 h3 h4=>rcases (h4 x).1 hx with e | e;(rw[e];exact hq);exact hpre x e
 | right h1 h2 h3 h4=>rcases (h4 x).1 hx with e | e;(rw[e];exact hp);exact hpre x e
theorem Arc.sub{o:OpV}{p q:Int}{l:List Int}(h:Arc o p q l):∀ x∈o.pre,x∈l:=by
 intro x hx
 cases h with
 | both h1 h2=>exact hx
 | left h1 h2 h3 h4=>exact (h4 x).2 (.inr hx)
 | right h1 h2 h3 h4=>exact (h4 x).2 (.inr hx)
structure PFix(n:Nat)(st:List Int)(ops:List OpV)(V:Int->Int->Int):Prop where
 all:∀ p q,Rng n p->Rng n q->InV (V p q)
 zero:∀ p∈st,∀ q∈st,V p q=0
 closed:∀ o∈ops,∀ p q l,Rng n p->Rng n q->Arc o p q l->V p q<=xXa (vQ9 V l) o.cost
structure PBest(n:Nat)(st:List Int)(ops:List OpV)(V:Int->Int->Int):Prop where
 fix:PFix n st ops V
 great:∀ U,PFix n st ops U->∀ p q,Rng n p->Rng n q->U p q<=V p q
section
variable {n:Nat}{st st':List Int}{ops:List OpV}{V V':Int->Int->Int}
theorem vJj{o:OpV}(h:vK0 n ops)(ho:o∈ops):InV o.cost:=by have:=h o ho;unfold InV;omega
theorem PBest.same(h:PBest n st ops V)(h':PBest n st ops V'){p q:Int}(hp:Rng n p)(hq:Rng n q):V p q=V' p q:=
 Int.le_antisymm (h'.great V h.fix p q hp hq) (h.great V' h'.fix p q hp hq)
theorem PFix.next(h:PFix n st ops V)(hops:vK0 n ops){o:OpV}(ho:o∈ops)(hpre:∀ q∈o.pre,q∈st)(hst':∀ q∈st',Rng n q/\(q∈o.add\/(q∈st/\q∉o.del))){p q:Int}(hp:p∈st')(hq:q∈st'):V p q<=o.cost:=by
 have hc:=vJj hops ho;have h0:∀ l,(∀ x∈l,x∈st)->Arc o p q l->V p q<=o.cost:=fun l hl ha=>by
  have h1:=h.closed o ho p q l (hst' p hp).1 (hst' q hq).1 ha;have h2:vQ9 V l<=0:=zQy (Int.le_refl _) fun x hx y hy=>by rw[h.zero x (hl x hx) y (hl y hy)];omega
  have h3:=vJi (V:=V) (l:=l);have h4:=zJh (a:=vQ9 V l) (by unfold InV;omega) hc;omega
 have hq2:=hst' q hq;have hp2:=hst' p hp
 by_cases a:p∈o.add
 ·by_cases b:q∈o.add
  ·exact h0 _ hpre (.both a b)
  ·have hqs:q∈st/\q∉o.del:=by rcases hq2.2 with e | e;(exact absurd e b);exact e
   exact h0 (q :: o.pre) (fun x hx=>by rcases List.mem_cons.1 hx with e | e;(rw[e];exact hqs.1);exact hpre x e) (.left a b hqs.2 (fun x=>List.mem_cons))
 ·have hps:p∈st/\p∉o.del:=by rcases hp2.2 with e | e;(exact absurd e a);exact e
  by_cases b:q∈o.add
  ·exact h0 (p :: o.pre) (fun x hx=>by rcases List.mem_cons.1 hx with e | e;(rw[e];exact hps.1);exact hpre x e) (.right b a hps.2 (fun x=>List.mem_cons))
  ·have hqs:q∈st:=by rcases hq2.2 with e | e;(exact absurd e b);exact e.1
   rw[h.zero p hps.1 q hqs];exact (vJj hops ho).1
theorem PBest.together(h:PBest n st ops V)(hops:vK0 n ops)(hst:∀ q∈st,Rng n q){plan:List Int}:∀ (i:Nat) (r:List Int),(zWs n ops st plan)[i]? = some r->∀ p∈r,∀ q∈r,V p q < 1000000000:=by
 intro i
 induction i with
 | zero=>
  intro r hr p hp q hq;rw[zQd] at hr;injection hr with hr
  subst hr;rw[h.fix.zero p hp q hq];omega
 | succ i ih=>
  intro r hr p hp q hq;obtain⟨op,r0,h1,h2,⟨o,ho,hpre⟩,rfl⟩:=zQe plan st i r hr;have ih':=ih r0 h2;rw[zVj ho] at hp hq;have hom:=lMg ho;have hoo:=hops o hom;have hc:=vJj hops hom;obtain⟨hpr,hp2⟩:=xJn.1 hp;obtain⟨hqr,hq2⟩:=xJn.1 hq;have h0:∀ l,(∀ x∈l,x∈r0)->Arc o p q l->V p q < 1000000000:=fun l hl ha=>by
   have hlr:=ha.rng hoo.1 hpr hqr;have h1:=h.fix.closed o hom p q l hpr hqr ha;have hin:=vYz h.fix.all hlr;have hnl:vQ9 V l≠1000000000:=fun e=>by
    obtain⟨x,hx,y,hy,e⟩:=vQw e (fun p hp q hq=>(h.fix.all p q (hlr p hp) (hlr q hq)).2);have:=ih' x (hl x hx) y (hl y hy);omega
   have h3:xXa (vQ9 V l) o.cost≠1000000000:=fun e=>by
    rcases (xQa hin hc).1 e with e | e
    ·exact hnl e
    ·omega
   have h4:=zXf hin hc;unfold InV at h4;omega
  by_cases a:p∈o.add
  ·by_cases b:q∈o.add
   ·exact h0 _ hpre (.both a b)
   ·have hqs:q∈r0/\q∉o.del:=by rcases hq2 with e | e;(exact absurd e b);exact e
    exact h0 (q :: o.pre) (fun x hx=>by rcases List.mem_cons.1 hx with e | e;(rw[e];exact hqs.1);exact hpre x e) (.left a b hqs.2 (fun x=>List.mem_cons))
  ·have hps:p∈r0/\p∉o.del:=by rcases hp2 with e | e;(exact absurd e a);exact e
   by_cases b:q∈o.add
   ·exact h0 (p :: o.pre) (fun x hx=>by rcases List.mem_cons.1 hx with e | e;(rw[e];exact hps.1);exact hpre x e) (.right b a hps.2 (fun x=>List.mem_cons))
   ·have hqs:q∈r0:=by rcases hq2 with e | e;(exact absurd e b);exact e.1
    exact ih' p hps.1 q hqs
end
end
def xY4(sizes:List Int):Nat->List (List Int)
 | 0=>[[]]
 | k+1=>(xY4 sizes k).flatMap fun s=>(List.range (xJ2 sizes (k:Int)).toNat).map fun (v:Nat)=>s ++ [(v:Int)]
def rkV(sizes s:List Int):Nat->Int
 | 0=>0
 | k+1=>rkV sizes s k * xJ2 sizes (k:Int)+xJ2 s (k:Int)
theorem zVu{α β:Type}{f:α->List β}{c:Nat}:∀ {l:List α},(∀ x∈l,(f x).length=c)->(l.flatMap f).length=l.length * c:=by
 intro l
 induction l with
 | nil=>intro _;simp
 | cons a l ih=>
  intro h;rw[List.flatMap_cons,List.length_append,ih (fun x hx=>h x (List.mem_cons_of_mem _ hx)),h a (List.mem_cons_self ..),List.length_cons,Nat.succ_mul];omega
theorem vWc{α β:Type}{f:α->List β}{c:Nat}:∀ {l:List α},(∀ x∈l,(f x).length=c)->∀ {i j:Nat} {a:α},l[i]? = some a->j < c->(l.flatMap f)[i * c+j]? = (f a)[j]?:=by
 intro l
 induction l with
 | nil=>intro _ i j a ha;simp at ha
 | cons b l ih=>
  intro h i j a ha hj;have hb:=h b (List.mem_cons_self ..);rw[List.flatMap_cons]
  cases i with
  | zero=>
   simp at ha;subst ha;rw[Nat.zero_mul,Nat.zero_add,List.getElem?_append_left (by omega)]
  | succ i=>
   rw[List.getElem?_append_right (by rw[hb,Nat.succ_mul];omega),hb];have e:(i+1) * c+j - c=i * c+j:=by rw[Nat.succ_mul];omega
   rw[e];exact ih (fun x hx=>h x (List.mem_cons_of_mem _ hx)) (by simpa using ha) hj
theorem vJ1{c x:Nat}(hc:0 < c):x=x / c * c+x % c:=by
 have:=Nat.div_add_mod x c;rw[Nat.mul_comm] at this;omega
theorem xWo{s:List Int}{v:Int}{i:Nat}(h:i < s.length):xJ2 (s ++ [v]) (i:Int)=xJ2 s (i:Int):=by
 unfold xJ2;rw[Int.toNat_natCast,List.getElem?_append_left h]
theorem xWp{s:List Int}{v:Int}:xJ2 (s ++ [v]) (s.length:Int)=v:=by
 unfold xJ2;rw[Int.toNat_natCast,List.getElem?_append_right (Nat.le_refl _)];simp
theorem vWd{sizes s:List Int}{v:Int}:∀ {k:Nat},k<=s.length->rkV sizes (s ++ [v]) k=rkV sizes s k:=by
 intro k
 induction k with
 | zero=>intro _;rfl
 | succ k ih=>intro h;rw[rkV,rkV,ih (by omega),xWo (by omega)]
theorem xKf(sizes:List Int)(k:Nat):∀ x∈xY4 sizes k,((List.range (xJ2 sizes (k:Int)).toNat).map fun (v:Nat)=>x ++ [(v:Int)]).length=(xJ2 sizes (k:Int)).toNat:=fun x _=>by simp
theorem vYa{sizes:List Int}:∀ {k:Nat},(∀ j:Nat,j < k->1<=xJ2 sizes (j:Int))->∀ {i:Nat} {s:List Int},(xY4 sizes k)[i]? = some s->s.length=k/\(∀ j:Nat,j < k->0<=xJ2 s (j:Int)/\xJ2 s (j:Int) < xJ2 sizes (j:Int))/\rkV sizes s k=(i:Int):=by
 intro k
 induction k with
 | zero=>
  intro _ i s h
  match i,h with
  | 0,h=>simp[xY4] at h;subst h;exact⟨rfl,fun j hj=>by omega,rfl⟩
  | i+1,h=>simp[xY4] at h
 | succ k ih=>
  intro h1 i s h;rw[xY4] at h;have hc:=h1 k (by omega);have hl:=zVu (xKf sizes k);have hi:=(List.getElem?_eq_some_iff.1 h).1;rw[hl] at hi;have hcp:0 < (xJ2 sizes (k:Int)).toNat:=by omega
  have hq:i / (xJ2 sizes (k:Int)).toNat < (xY4 sizes k).length:=Nat.div_lt_of_lt_mul (by rw[Nat.mul_comm];exact hi);have hr:i % (xJ2 sizes (k:Int)).toNat < (xJ2 sizes (k:Int)).toNat:=Nat.mod_lt _ hcp;obtain⟨t,ht⟩:∃ t,(xY4 sizes k)[i / (xJ2 sizes (k:Int)).toNat]? = some t:=⟨_,lGe hq⟩;have hsp:=vJ1 (x:=i) hcp;have h2:=vWc (xKf sizes k) ht hr;rw[<- hsp,h,List.getElem?_map,List.getElem?_range hr] at h2;have h3:s=t ++ [((i % (xJ2 sizes (k:Int)).toNat:Nat):Int)]:=by
   have:=Option.some.inj h2;exact this
  subst h3;obtain⟨i1,i2,i3⟩:=ih (fun j hj=>h1 j (by omega)) ht;refine⟨by rw[List.length_append,i1];rfl,fun j hj=>?_,?_⟩
  ·rcases Nat.lt_or_ge j k with e | e
   ·rw[xWo (by omega)];exact i2 j e
   ·have:j=k:=by omega
    subst this;have e2:=xWp (s:=t) (v:=((i % (xJ2 sizes (j:Int)).toNat:Nat):Int));rw[i1] at e2;rw[e2];omega
  ·have e2:=xWp (s:=t) (v:=((i % (xJ2 sizes (k:Int)).toNat:Nat):Int));rw[i1] at e2;rw[rkV,vWd (by omega),i3,e2];have e3:xJ2 sizes (k:Int)=(((xJ2 sizes (k:Int)).toNat:Nat):Int):=by omega
   have e4:(i:Int)=((i / (xJ2 sizes (k:Int)).toNat * (xJ2 sizes (k:Int)).toNat+i % (xJ2 sizes (k:Int)).toNat:Nat):Int):=by rw[<- hsp]
   rw[e4,Int.natCast_add,Int.natCast_mul,<- e3]
theorem vYb{sizes s:List Int}:∀ {k:Nat},(∀ j:Nat,j < k->0<=xJ2 s (j:Int)/\xJ2 s (j:Int) < xJ2 sizes (j:Int))->0<=rkV sizes s k/\rkV sizes s k < ((xY4 sizes k).length:Int):=by
 intro k
 induction k with
 | zero=>intro _;exact⟨Int.le_refl _,by simp[rkV,xY4]⟩
 | succ k ih=>
  intro h;obtain⟨i1,i2⟩:=ih (fun j hj=>h j (by omega));have hk:=h k (by omega);rw[rkV,xY4,zVu (xKf sizes k),Int.natCast_mul];have e3:((xJ2 sizes (k:Int)).toNat:Int)=xJ2 sizes (k:Int):=by omega
  rw[e3];have h1:0<=rkV sizes s k * xJ2 sizes (k:Int):=Int.mul_nonneg i1 (by omega);refine⟨by omega,?_⟩;have h2:(rkV sizes s k+1) * xJ2 sizes (k:Int)<=((xY4 sizes k).length:Int) * xJ2 sizes (k:Int):=Int.mul_le_mul_of_nonneg_right (by omega) (by omega);rw[Int.add_mul,Int.one_mul] at h2;omega
theorem at_rk{sizes s:List Int}:∀ {k:Nat},(∀ j:Nat,j < k->0<=xJ2 s (j:Int)/\xJ2 s (j:Int) < xJ2 sizes (j:Int))->k<=s.length->(xY4 sizes k)[(rkV sizes s k).toNat]? = some (s.take k):=by
 intro k
 induction k with
 | zero=>intro _ _;simp[rkV,xY4]
 | succ k ih=>
  intro h hl;have h1:=ih (fun j hj=>h j (by omega)) (by omega);have hk:=h k (by omega);have hr:=(vYb (sizes:=sizes) (s:=s) (k:=k) (fun j hj=>h j (by omega))).1;have h2:=vWc (xKf sizes k) (j:=(xJ2 s (k:Int)).toNat) h1 (by omega);have e:(rkV sizes s (k+1)).toNat=(rkV sizes s k).toNat * (xJ2 sizes (k:Int)).toNat+(xJ2 s (k:Int)).toNat:=by
   have e1:rkV sizes s (k+1)=(((rkV sizes s k).toNat * (xJ2 sizes (k:Int)).toNat+(xJ2 s (k:Int)).toNat:Nat):Int):=by
    rw[rkV,Int.natCast_add,Int.natCast_mul,Int.toNat_of_nonneg hr,Int.toNat_of_nonneg (by omega),Int.toNat_of_nonneg hk.1]
   rw[e1,Int.toNat_natCast]
  rw[e,xY4,h2,List.getElem?_map,List.getElem?_range (by omega)];show some (s.take k ++ [(((xJ2 s (k:Int)).toNat:Nat):Int)])=_;rw[Int.toNat_of_nonneg hk.1,List.take_add_one];have:s[k]? = some s[k]:=lGe (by omega);rw[this];have e5:xJ2 s (k:Int)=s[k]:=xJ5 (by rw[Int.toNat_natCast];exact this);rw[e5];rfl
def xWg(sizes:List Int):List (List Int):=xY4 sizes sizes.length
def rkA(sizes s:List Int):Int:=rkV sizes s sizes.length
theorem StM.rk{sizes s:List Int}(h:StM sizes s):(0<=rkA sizes s/\rkA sizes s < ((xWg sizes).length:Int))/\(xWg sizes)[(rkA sizes s).toNat]? = some s:=by
 refine⟨vYb h.rng,?_⟩;have h1:=at_rk (sizes:=sizes) (s:=s) (k:=sizes.length) h.rng (by rw[h.len];exact Nat.le_refl _);rw[List.take_of_length_le (by rw[h.len];exact Nat.le_refl _)] at h1;exact h1
theorem vQg{sizes:List Int}(h:∀ n∈sizes,1<=n):∀ j:Nat,j < sizes.length->1<=xJ2 sizes (j:Int):=fun j hj=>by
 rw[xJ5 (v:=sizes[j]) (by rw[Int.toNat_natCast];exact lGe hj)];exact h _ (List.getElem_mem hj)
theorem vYc{sizes:List Int}(h:∀ n∈sizes,1<=n){i:Nat}{s:List Int}(hi:(xWg sizes)[i]? = some s):StM sizes s/\rkA sizes s=(i:Int):=by
 obtain⟨h1,h2,h3⟩:=vYa (vQg h) hi;exact⟨⟨h1,h2⟩,h3⟩
structure RD(p:MtV)(out:List Int):Prop where
 len:out.length=(xWg p.sizes).length
 rng:∀ v∈out,0<=v/\v<=1000000000
 goal:∀ s,StM p.sizes s->HoldsV s p.goal->xJ2 out (rkA p.sizes s)=0
 att:∀ s,StM p.sizes s->xJ2 out (rkA p.sizes s) < 1000000000->∃ ps,MP p.goal p.ops s ps/\xQo p.ops ps=xJ2 out (rkA p.sizes s)
def zXt(p:MtV)(out:List Int)(s:List Int)(o:MopV):Prop:=HoldsV s o.pre->xJ2 out (rkA p.sizes (xXh s o.post))≠1000000000->xJ2 out (rkA p.sizes s)<=xJ2 out (rkA p.sizes (xXh s o.post))+o.cost
theorem RD.val{p:MtV}{out:List Int}(h:RD p out){s:List Int}(hs:StM p.sizes s):∃ v,out[(rkA p.sizes s).toNat]? = some v/\xJ2 out (rkA p.sizes s)=v/\0<=v/\v<=1000000000:=by
 have h1:=hs.rk;have h2:(rkA p.sizes s).toNat < out.length:=by have:=h.len;omega
 exact⟨_,lGe h2,xJ5 (lGe h2),h.rng _ (List.getElem_mem h2)⟩
theorem RD.done{p:MtV}{out:List Int}(h:RD p out)(hst:∀ s,StM p.sizes s->∀ o∈p.ops,zXt p out s o):DistOk p (fun s=>xJ2 out (rkA p.sizes s)):=
 ⟨h.goal,fun s hs=>by obtain⟨v,_,e,r⟩:=h.val hs;show 0<=xJ2 out _/\xJ2 out _<=_;rw[e];exact r,fun s hs o ho hp hne=>hst s hs o ho hp hne,h.att⟩
theorem RD.upd{p:MtV}{out:List Int}(h:RD p out)(hz:∀ n∈p.sizes,1<=n){i q:Nat}{s:List Int}{o:MopV}(hi:(xWg p.sizes)[i]? = some s)(ho:p.ops[q]? = some o)(hp:HoldsV s o.pre)(hn:StM p.sizes (xXh s o.post))(hc:0<=o.cost){d v:Int}(hd:xJ2 out (rkA p.sizes (xXh s o.post))=d)(hdi:d≠1000000000)
  (hv:xJ2 out (i:Int)=v) (hlt:d+o.cost < v):RD p (out.set i (d+o.cost)):=by
 obtain⟨hs,hr⟩:=vYc hz hi;have hil:i < out.length:=by rw[h.len];exact (List.getElem?_eq_some_iff.1 hi).1
 have other:∀ {t},StM p.sizes t->t≠s->xJ2 (out.set i (d+o.cost)) (rkA p.sizes t)=xJ2 out (rkA p.sizes t):=fun {t} ht hne=>by
  obtain⟨⟨r0,r1⟩,r2⟩:=ht.rk;obtain⟨k,hk⟩:=Int.eq_ofNat_of_zero_le r0;rw[hk] at r2 ⊢;rw[Int.toNat_natCast] at r2;exact xQm (fun e=>hne (by subst e;rw[hi] at r2;exact (Option.some.inj r2).symm))
 have same:xJ2 (out.set i (d+o.cost)) (rkA p.sizes s)=d+o.cost:=by rw[hr];exact xVh hil
 obtain⟨v1,_,e1,r1⟩:=h.val hn;obtain⟨v2,_,e2,r2⟩:=h.val hs;rw[hr,hv] at e2;rw[hd] at e1;refine⟨by rw[List.length_set];exact h.len,fun x hx=>?_,fun t ht hg=>?_,fun t ht hl=>?_⟩
 ·rcases List.mem_or_eq_of_mem_set hx with hx | hx
  ·exact h.rng x hx
  ·omega
 ·by_cases e:t=s
  ·subst e;have:=h.goal t ht hg;rw[hr,hv] at this;omega
  ·rw[other ht e];exact h.goal t ht hg
 ·by_cases e:t=s
  ·subst e;rw[same];obtain⟨ps,p1,p2⟩:=h.att _ hn (by rw[hd];omega);exact⟨q :: ps,.cons ho hp p1,by rw[xV6,xK4 ho,p2,hd];omega⟩
  ·rw[other ht e] at hl ⊢;exact h.att t ht hl
noncomputable def d0V(p:MtV):List Int:=(xWg p.sizes).map fun s=>@ite _ (HoldsV s p.goal) (Classical.propDecidable _) 0 1000000000
theorem RD.start{p:MtV}:RD p (d0V p):=by
 have hat:∀ s,StM p.sizes s->xJ2 (d0V p) (rkA p.sizes s)=@ite _ (HoldsV s p.goal) (Classical.propDecidable _) 0 1000000000:=fun s hs=>by
  refine xJ5 ?_;unfold d0V;rw[List.getElem?_map,hs.rk.2];rfl
 refine⟨by unfold d0V;simp,fun v hv=>?_,fun s hs hg=>?_,fun s hs hl=>?_⟩
 ·unfold d0V at hv;obtain⟨s,_,rfl⟩:=List.mem_map.1 hv
  split <;> omega
 ·rw[hat s hs,if_pos hg]
 ·rw[hat s hs] at hl ⊢
  split at hl
  ·rename_i hg
   rw[if_pos hg];exact⟨[],.nil hg,by simp[xQo]⟩
  ·omega
end Go.Proofs.YtpeipeljmapkmaaGreat
