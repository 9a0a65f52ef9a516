/-
  Lemmas for the law: MI, ML, Pja, Mu1.
-/
import Derived.Test.YtpeipeljmapkmaaGreatU4
import Derived.Test.YtpeipeljmapkmaaGreatU3
import Derived.Test.YtpeipeljmapkmaaGreatU1
set_option linter.unusedVariables false
set_option linter.unusedSimpArgs false
set_option maxRecDepth 100000
set_option maxHeartbeats 4000000
namespace Go.Proofs.YtpeipeljmapkmaaGreat
open Go.RowKit
section
def xJv(vs:List Int)(n:Int)(b p:Int):Int:=if b=n\/xJ2 vs b < xJ2 vs p then p else b
def xX6(vs:List Int)(n:Int)(xs:List Int):Int:=xs.foldl (xJv vs n) n
theorem zY2{vs xs:List Int}{n x:Int}{k:Nat}(h:xs[k]? = some x):xX6 vs n (xs.take (k+1))=xJv vs n (xX6 vs n (xs.take k)) x:=by
 unfold xX6;rw[List.take_add_one,h];simp only[Option.toList,List.foldl_append,List.foldl_cons,List.foldl_nil]
theorem xQg{vs:List Int}{n:Int}(h0:0<=n):∀ {xs:List Int},(∀ x∈xs,0<=x/\x < n)->0<=xX6 vs n xs/\xX6 vs n xs<=n:=by
 have key:∀ (xs:List Int) (b:Int),0<=b/\b<=n->(∀ x∈xs,0<=x/\x < n)->0<=xs.foldl (xJv vs n) b/\xs.foldl (xJv vs n) b<=n:=by
  intro xs
  induction xs with
  | nil=>intro b hb _;exact hb
  | cons x xs ih=>
   intro b hb h;refine ih _ ?_ (fun y hy=>h y (List.mem_cons_of_mem _ hy));have:=h x (List.mem_cons_self ..);unfold xJv
   split <;> omega
 intro xs h;exact key xs n ⟨h0,Int.le_refl _⟩ h
theorem zZx(w:World)(b n c d:Nat)(V X:Option Addr)(vs xs:List Int)(h0:w.cell? ⟨b,0,none⟩=some (.int .i64 (n:Int)))(h6:w.cell? ⟨b,6,none⟩=some (.slice V (n+1) c))(hI:Ints w V vs)(hvl:vs.length=n+1)(hn:n<=1000000000)(hJ:Ints w X xs)(hl:xs.length<=9223372036854775807)(hxs:∀ x∈xs,0<=x/\x < (n:Int)) :
  Calls Tryz.prog 182 #[.pointer (some ⟨b,0,none⟩),.slice X xs.length d] w fun e w'=>e=.returned (.int .i64 (xX6 vs n xs))/\Below w.heap.size w w':=by
 go_enter Tryz.func182,Tryz.ntmps182
 go_wp2_with fail
 go_loopw [5,15] (fun v i wr=>∃ k:Nat,k<=xs.length/\i=.int .i64 k/\(∃ h:Int,Hid (h=xX6 vs n (xs.take k))/\v=.int .i64 h)/\Below w.heap.size w wr) (fun _ i _=>xs.length - (intOf i).toNat)
 case atStart=>exact⟨0,Nat.zero_le _,rfl,⟨(n:Int),lHd rfl,rfl⟩,Below.refl _ _⟩
 case round=>
  obtain⟨k,hk,rfl,⟨h,hh,rfl⟩,hBr⟩:=hrel;have hc0:=(hBr.cell (World.block_lt_of_cell? w _ h0)).trans h0;have hc6:=(hBr.cell (World.block_lt_of_cell? w _ h6)).trans h6
  by_cases hlt:k < xs.length
  ·obtain⟨ad,x,rfl,hx,hc⟩:=(hJ.below hBr).at_ hlt;obtain⟨x0,x1⟩:=hxs x (lMg hx.out);obtain⟨b0,b1⟩:=xQg (vs:=vs) (n:=(n:Int)) (by omega) (xs:=xs.take k) (fun y hy=>hxs y (List.mem_of_mem_take hy));rw[<- hh.out] at b0 b1;have HS:=lHd (zY2 (vs:=vs) (n:=(n:Int)) hx.out);rw[<- hh.out] at HS
   by_cases hb:h=(n:Int)
   ·subst hb;have HE:=lHd (show x=xX6 vs n (xs.take (k+1)) by rw[HS.out];unfold xJv;rw[if_pos (.inl rfl)])
    go_wp2_with fail
    go_quiet (fail)
    go_wp2
    go_roundw
    case rel=>exact⟨k+1,by omega,by go_num,⟨x,HE,rfl⟩,bch⟩
    case measure=>simp[intOf];omega
   ·have hbb:(h == (n:Int))=false:=by simpa using hb
    obtain⟨vd,vx,rfl,hvx,hcx⟩:=(hI.below hBr).at_ (k:=x.toNat) (by omega);obtain⟨vd',vh,e,hvh,hch⟩:=(hI.below hBr).at_ (k:=h.toNat) (by omega);injection e with e
    subst e;have e1:=xJ9 hvx.out;have e2:=xJ9 hvh.out;have HB:=lHd hb
    by_cases hg:vh < vx
    ·have HE:=lHd (show x=xX6 vs n (xs.take (k+1)) by rw[HS.out];unfold xJv;rw[e1,e2,if_pos (.inr hg)]);have hgd:decide (vh < vx)=true:=by simpa using hg
     clear e1 e2
     go_wp2_with fail
     go_quiet (fail)
     go_wp2
     go_roundw
     case rel=>exact⟨k+1,by omega,by go_num,⟨x,HE,rfl⟩,bch⟩
     case measure=>simp[intOf];omega
    ·have HE:=lHd (show h=xX6 vs n (xs.take (k+1)) by rw[HS.out];unfold xJv;rw[e1,e2,if_neg (by have:=HB.out;omega)]);have hgd:decide (vh < vx)=false:=by simpa using hg
     clear e1 e2
     go_wp2_with fail
     go_quiet (fail)
     go_wp2
     go_roundw
     case rel=>exact⟨k+1,by omega,by go_num,⟨h,HE,rfl⟩,bch⟩
     case measure=>simp[intOf];omega
  ·rw[List.take_of_length_le (by omega)] at hh;go_wp2;go_ret;exact⟨xKg hh.out,hBr⟩
inductive GR(start:Int->Prop)(E:Nat->Int->Int->Prop):Int->Prop
 | start {p:Int}:start p->GR start E p
 | step {i:Nat} {p q:Int}:GR start E p->E i p q->GR start E q
open Classical in
noncomputable def grV(N:Nat)(start:Int->Prop)(E:Nat->Int->Int->Prop):List Bool:=(List.range N).map fun (p:Nat)=>decide (GR start E (p:Int))
theorem zZy(N:Nat)(start:Int->Prop)(E:Nat->Int->Int->Prop):(grV N start E).length=N:=by simp[grV]
theorem zZz{N p:Nat}{start:Int->Prop}{E:Nat->Int->Int->Prop}(h:p < N):(grV N start E)[p]? = some true↔GR start E (p:Int):=by simp[grV,h]
theorem vYy{N p:Nat}{start:Int->Prop}{E:Nat->Int->Int->Prop}(h:p < N):(grV N start E)[p]? = some false↔¬ GR start E (p:Int):=by simp[grV,h]
structure SoundG(N:Nat)(start:Int->Prop)(E:Nat->Int->Int->Prop)(bs:List Bool):Prop where
 len:bs.length=N
 init:∀ p,start p->bs[p.toNat]? = some true
 sound:∀ p:Nat,bs[p]? = some true->GR start E (p:Int)
def xZa(E:Nat->Int->Int->Prop)(k:Nat)(bs:List Bool):Prop:=∀ i p q,i < k->E i p q->bs[p.toNat]? = some true->bs[q.toNat]? = some true
section
variable {N:Nat}{start:Int->Prop}{E:Nat->Int->Int->Prop}{bs:List Bool}
theorem xY3:xZa E 0 bs:=fun i p q hi=>absurd hi (by omega)
theorem xXr{k:Nat}(h:xZa E k bs)(h2:∀ p q,E k p q->bs[p.toNat]? = some true->bs[q.toNat]? = some true):xZa E (k+1) bs:=fun i p q hi hE hp=>by
 by_cases e:i=k
 ·subst e;exact h2 p q hE hp
 ·exact h i p q (by omega) hE hp
theorem vZ3{bs:List Bool}{i j:Nat}(h:bs[i]? = some true)(hj:j < bs.length):(bs.set j true)[i]? = some true:=by
 rw[List.getElem?_set]
 split
 ·rename_i e;subst e;simp[hj]
 ·exact h
theorem SoundG.set_(h:SoundG N start E bs){q:Int}(hq:GR start E q)(q0:0<=q)(hN:q < (N:Int)):SoundG N start E (bs.set q.toNat true):=by
 have hl:q.toNat < bs.length:=by rw[h.len];omega
 refine⟨by rw[List.length_set];exact h.len,fun p hp=>vZ3 (h.init p hp) hl,fun p hp=>?_⟩;rw[List.getElem?_set] at hp
 split at hp
 ·rename_i e
  subst e;rw[Int.toNat_of_nonneg q0];exact hq
 ·exact h.sound p hp
theorem SoundG.eq{m:Nat}(h:SoundG N start E bs)(hc:xZa E m bs)(hE:∀ i p q,E i p q->i < m):bs=grV N start E:=by
 have key:∀ p,GR start E p->bs[p.toNat]? = some true:=fun p hp=>by
  induction hp with
  | start h1=>exact h.init _ h1
  | step _ h2 ih=>exact hc _ _ _ (hE _ _ _ h2) h2 ih
 apply List.ext_getElem?;intro p;rcases Nat.lt_or_ge p N with hp | hp
 ·have h1:bs[p]? = some true↔(grV N start E)[p]? = some true:=by
   rw[zZz hp];exact⟨h.sound p,fun hr=>by have:=key _ hr;simpa using this⟩
  obtain⟨a,ha⟩:∃ a,bs[p]? = some a:=⟨_,lGe (by rw[h.len];exact hp)⟩;obtain⟨b,hb⟩:∃ b,(grV N start E)[p]? = some b:=⟨_,lGe (by rw[zZy];exact hp)⟩;rw[ha,hb] at h1 ⊢
  cases a <;> cases b <;> simp_all
 ·rw[List.getElem?_eq_none (by rw[h.len];exact hp),List.getElem?_eq_none (by rw[zZy];exact hp)]
end
def ZE(n:Nat)(W:List Int)(ops:List OpV)(cost:List Int)(i:Nat)(p q:Int):Prop:=∃ o c,ops[i]? = some o/\cost[i]? = some c/\¬ 0 < c/\p∈o.add/\q=xX6 W n o.pre
def ZS(n:Nat)(W:List Int)(goal:List Int)(p:Int):Prop:=p=xX6 W n goal
noncomputable def xQw(n:Nat)(W:List Int)(ops:List OpV)(cost goal:List Int):List Bool:=grV (n+1) (ZS n W goal) (ZE n W ops cost)
def BE(n:Nat)(W:List Int)(ops:List OpV)(Z:List Bool)(i:Nat)(p q:Int):Prop:=∃ o,ops[i]? = some o/\p=xX6 W n o.pre/\q∈o.add/\Z[q.toNat]? = some false
def BS(n:Nat)(st:List Int)(p:Int):Prop:=p=(n:Int)\/p∈st
noncomputable def vYj(n:Nat)(W:List Int)(ops:List OpV)(st:List Int)(Z:List Bool):List Bool:=grV (n+1) (BS n st) (BE n W ops Z)
def vZ4(n:Nat)(W:List Int)(ops:List OpV)(Z B:List Bool)(i:Nat):Prop:=∃ o,ops[i]? = some o/\B[(xX6 W n o.pre).toNat]? = some true/\∃ p∈o.add,Z[p.toNat]? = some true
open Classical in
noncomputable def xXs(n:Nat)(W:List Int)(ops:List OpV)(Z B:List Bool)(k:Nat):List Int:=((List.range k).filter fun i=>decide (vZ4 n W ops Z B i)).map fun (i:Nat)=>(i:Int)
noncomputable def vXl(n:Nat)(W:List Int)(ops:List OpV)(Z B:List Bool):List Int:=xXs n W ops Z B ops.length
def xZp(cost:List Int)(l:List Int):Int:=l.foldl (fun m i=>min m (xJ2 cost i)) 1000000000
section
variable {n:Nat}{W:List Int}{ops:List OpV}{Z B:List Bool}
theorem zKy{k:Nat}(h:vZ4 n W ops Z B k):xXs n W ops Z B (k+1)=xXs n W ops Z B k ++ [(k:Int)]:=by
 unfold xXs;rw[List.range_succ,List.filter_append];simp[h]
theorem vZ5{k:Nat}(h:¬ vZ4 n W ops Z B k):xXs n W ops Z B (k+1)=xXs n W ops Z B k:=by
 unfold xXs;rw[List.range_succ,List.filter_append];simp[h]
theorem zKz(k:Nat):(xXs n W ops Z B k).length<=k:=by
 unfold xXs;rw[List.length_map];exact Nat.le_trans (List.length_filter_le _ _) (by simp)
theorem xYx{k:Nat}{x:Int}:x∈xXs n W ops Z B k↔∃ i:Nat,x=(i:Int)/\i < k/\vZ4 n W ops Z B i:=by
 unfold xXs;simp only[List.mem_map,List.mem_filter,List.mem_range,decide_eq_true_eq];exact⟨fun ⟨i,⟨h1,h2⟩,h3⟩=>⟨i,h3.symm,h1,h2⟩,fun ⟨i,h1,h2,h3⟩=>⟨i,⟨h2,h3⟩,h1.symm⟩⟩
theorem zQy:SetP (vXl n W ops Z B) (ops.length:Int):=by
 refine SetP.of_pairwise (fun x hx=>?_) ?_
 ·obtain⟨i,rfl,hi,_⟩:=xYx.1 hx;omega
 ·unfold vXl xXs;rw[List.pairwise_map];refine List.Pairwise.imp (fun h=>?_) (List.Pairwise.filter _ List.pairwise_lt_range);omega
end
theorem zY3{cost l:List Int}{i c:Int}(h:cost[i.toNat]? = some c):xZp cost (l ++ [i])=min (xZp cost l) c:=by
 unfold xZp;rw[List.foldl_append,List.foldl_cons,List.foldl_nil,xJ9 h]
theorem vVa{cost:List Int}:∀ (l:List Int) (m:Int),l.foldl (fun m i=>min m (xJ2 cost i)) m<=m/\(∀ i∈l,l.foldl (fun m i=>min m (xJ2 cost i)) m<=xJ2 cost i)/\(l.foldl (fun m i=>min m (xJ2 cost i)) m=m\/∃ i∈l,l.foldl (fun m i=>min m (xJ2 cost i)) m=xJ2 cost i):=by
 intro l
 induction l with
 | nil=>intro m;exact⟨Int.le_refl _,by simp,.inl rfl⟩
 | cons x l ih=>
  intro m;obtain⟨h1,h2,h3⟩:=ih (min m (xJ2 cost x));refine⟨Int.le_trans h1 (Int.min_le_left _ _),fun i hi=>?_,?_⟩
  ·rcases List.mem_cons.1 hi with e | e
   ·subst e;exact Int.le_trans h1 (Int.min_le_right _ _)
   ·exact h2 i e
  ·rcases h3 with h3 | ⟨i,hi,h3⟩
   ·rcases Int.le_total m (xJ2 cost x) with h4 | h4
    ·left;rw[List.foldl_cons,h3];omega
    ·right;exact⟨x,List.mem_cons_self ..,by rw[List.foldl_cons,h3];omega⟩
   ·right;exact⟨i,List.mem_cons_of_mem _ hi,h3⟩
theorem xYy{V:List Int}{n:Nat}(hl:V.length=n){p:Int}(h0:0<=p)(h1:p < (n:Int)):xJ2 (V ++ [0]) p=xJ2 V p:=by
 unfold xJ2;rw[List.getElem?_append_left (by omega)]
theorem zW0{V:List Int}{n:Nat}(hl:V.length=n):xJ2 (V ++ [0]) (n:Int)=0:=by
 unfold xJ2;rw[List.getElem?_append_right (by simp;omega)];simp[hl]
theorem zW1{V:List Int}{n:Nat}(hl:V.length=n)(hV:xZr V){xs:List Int}(hx:∀ x∈xs,0<=x/\x < (n:Int)) :
  (xX6 (V ++ [0]) n xs=(n:Int)/\xs=[]\/xX6 (V ++ [0]) n xs∈xs)/\xJ2 (V ++ [0]) (xX6 (V ++ [0]) n xs)=xJp false V xs:=by
 have key:∀ (ys:List Int) (b o:Int),(∀ x∈ys,0<=x/\x < (n:Int))->(b=(n:Int)->o=0)->xJ2 (V ++ [0]) b=o->0<=o ->
   (ys.foldl (xJv (V ++ [0]) n) b=b/\(b=(n:Int)->ys=[])\/ys.foldl (xJv (V ++ [0]) n) b∈ys)/\xJ2 (V ++ [0]) (ys.foldl (xJv (V ++ [0]) n) b)=ys.foldl (fun o p=>xXg false o (xJ2 V p)) o:=by
  intro ys
  induction ys with
  | nil=>intro b o _ _ h _;exact⟨.inl ⟨rfl,fun _=>rfl⟩,h⟩
  | cons y ys ih=>
   intro b o hy hb he ho;have hy0:=hy y (List.mem_cons_self ..);have ev:=xYy hl hy0.1 hy0.2;have hin:=xX3 hV y;unfold InV at hin;have hstep:xJ2 (V ++ [0]) (xJv (V ++ [0]) n b y)=xXg false o (xJ2 V y):=by
    unfold xJv xXg;dsimp only;rw[he,ev]
    by_cases e:b=(n:Int)
    ·have:=hb e;rw[if_pos (.inl e),ev]
     split <;> omega
    ·by_cases e2:o < xJ2 V y
     ·rw[if_pos (.inr e2),if_pos e2,ev]
     ·rw[if_neg (fun h=>h.elim e e2),if_neg e2,he]
   have hne:¬ xJv (V ++ [0]) n b y=(n:Int):=by
    unfold xJv
    split
    ·omega
    ·rename_i h;exact fun e=>h (.inl e)
   obtain⟨h1,h2⟩:=ih (xJv (V ++ [0]) n b y) (xXg false o (xJ2 V y)) (fun x hx=>hy x (List.mem_cons_of_mem _ hx)) (fun e=>absurd e hne) hstep (by unfold xXg;dsimp only;split <;> omega);rw[List.foldl_cons,List.foldl_cons];refine⟨?_,h2⟩;rcases h1 with ⟨h1,_⟩ | h1
   ·rw[h1];unfold xJv
    split
    ·right;exact List.mem_cons_self ..
    ·rename_i h3
     left;exact⟨rfl,fun e=>absurd (.inl e) h3⟩
   ·right;exact List.mem_cons_of_mem _ h1
 obtain⟨h1,h2⟩:=key xs n 0 hx (fun _=>rfl) (zW0 hl) (Int.le_refl _);refine⟨?_,h2⟩;rcases h1 with ⟨h1,h3⟩ | h1
 ·left;exact⟨h1,h3 rfl⟩
 ·right;exact h1
theorem zW2{V:List Int}:∀ (xs:List Int) (o:Int),o<=xs.foldl (fun o p=>xXg false o (xJ2 V p)) o/\(∀ x∈xs,xJ2 V x<=xs.foldl (fun o p=>xXg false o (xJ2 V p)) o)/\∀ z,o<=z->(∀ x∈xs,xJ2 V x<=z)->xs.foldl (fun o p=>xXg false o (xJ2 V p)) o<=z:=by
 intro xs
 induction xs with
 | nil=>intro o;exact⟨Int.le_refl _,by simp,fun z h _=>h⟩
 | cons x xs ih=>
  intro o;have hs:o<=xXg false o (xJ2 V x)/\xJ2 V x<=xXg false o (xJ2 V x)/\(xXg false o (xJ2 V x)=o\/xXg false o (xJ2 V x)=xJ2 V x):=by unfold xXg;dsimp only;split <;> omega
  obtain⟨h1,h2,h3⟩:=ih (xXg false o (xJ2 V x));refine⟨Int.le_trans hs.1 h1,fun y hy=>?_,fun z hz hx=>h3 z ?_ (fun y hy=>hx y (List.mem_cons_of_mem _ hy))⟩
  ·rcases List.mem_cons.1 hy with e | e
   ·subst e;exact Int.le_trans hs.2.1 h1
   ·exact h2 y e
  ·have:=hx x (List.mem_cons_self ..);omega
theorem xWx{V xs:List Int}{x:Int}(h:x∈xs):xJ2 V x<=xJp false V xs:=(zW2 xs 0).2.1 x h
theorem zQ0{V xs:List Int}:0<=xJp false V xs:=(zW2 xs 0).1
theorem xWy{a b:Int}(ha:InV a)(hb:InV b):xZ7 a b<=a+b:=by unfold InV at *;unfold xZ7;(repeat split) <;> omega
theorem vZ6{a b z:Int}(ha:InV a)(hb:InV b)(h:z<=a+b)(h2:z<=999999999):z<=xZ7 a b:=by unfold InV at *;unfold xZ7;(repeat split) <;> omega
theorem zX8{s:Bool}{n:Nat}{st:List Int}{ops:List OpV}{cs V:List Int}(hV:Best s n st ops cs V)(hlc:cs.length=ops.length)(hc:xZr cs)(hc2:∀ c∈cs,c < 1000000000)
  (hst:∀ p∈st,0<=p) (hops:∀ o∈ops,(∀ p∈o.pre,0<=p/\p < (n:Int))/\∀ p∈o.add,0<=p/\p < (n:Int)) {p:Int} (h0:0<=p) (h1:p < (n:Int)):xJ2 V p=1000000000↔¬ Reach st ops (fun _=>true) p:=by
 have hVall:=hV.fix.shape.all;have fin:∀ p,Reach st ops (fun _=>true) p->¬ xJ2 V p=1000000000:=fun p hp=>by
  induction hp with
  | init h=>rw[hV.fix.shape.zero _ h];omega
  | @step p i o ho hu hq hp ih=>
   have hi:=(List.getElem?_eq_some_iff.1 ho).1;have hcs:cs[i]? = some cs[i]:=lGe (by omega);have hcm:=lMg hcs;have h2:=hV.fix.closed i o _ hi ho hcs p hp;have h3:=zVk (s:=s) hVall o (hc _ hcm);have h4:¬ opV s V o cs[i]=1000000000:=fun e=>by
    rcases (xVl (xXc hVall _) (hc _ hcm)).1 e with e | e
    ·obtain⟨x,hx,e⟩:=(xKs hVall _).1 e;exact ih x hx e
    ·have:=hc2 _ hcm;omega
   unfold InV at h3;omega
 constructor
 ·intro h hr;exact fin p hr h
 ·intro h
  let U:List Int:=(List.range n).map fun (q:Nat)=>@ite _ (Reach st ops (fun _=>true) (q:Int)) (Classical.propDecidable _) (xJ2 V (q:Int)) 1000000000
  have hU:∀ q,0<=q->q < (n:Int)->xJ2 U q=@ite _ (Reach st ops (fun _=>true) q) (Classical.propDecidable _) (xJ2 V q) 1000000000:=fun q q0 q1=>by
   obtain⟨k,rfl⟩:=Int.eq_ofNat_of_zero_le q0;refine xJ9 ?_;show ((List.range n).map _)[k]? = _;rw[List.getElem?_map,List.getElem?_range (by omega)];rfl
  have hUall:xZr U:=fun v hv=>by
   obtain⟨q,_,rfl⟩:=List.mem_map.1 hv
   split
   ·exact xX3 hVall _
   ·exact InV.inf
  have hle:∀ q,0<=q->q < (n:Int)->xJ2 V q<=xJ2 U q:=fun q q0 q1=>by
   rw[hU q q0 q1];have:=xX3 hVall q;unfold InV at this
   split <;> omega
  have hleV:LeV V U:=fun q=>by
   by_cases e:q.toNat < n
   ·have h1:xJ2 V q=xJ2 V (q.toNat:Int):=by unfold xJ2;rw[Int.toNat_natCast]
    have h2:xJ2 U q=xJ2 U (q.toNat:Int):=by unfold xJ2;rw[Int.toNat_natCast]
    rw[h1,h2];exact hle _ (by omega) (by omega)
   ·have:xJ2 V q=0:=by unfold xJ2;rw[List.getElem?_eq_none (by rw[hV.fix.shape.len];omega)];rfl
    rw[this];have:=xX3 hUall q;exact this.1
  have hfix:Fix s n st ops cs U:=by
   refine⟨⟨by simp[U],hUall,fun q hq=>?_⟩,fun i o c hi ho hcs q hq=>?_⟩
   ·have q0:=hst q hq
    by_cases q1:q < (n:Int)
    ·rw[hU q q0 q1,if_pos (.init hq)];exact hV.fix.shape.zero q hq
    ·unfold xJ2;rw[List.getElem?_eq_none (by simp[U];omega)];rfl
   ·have hcm:=lMg hcs;have hoo:=hops o (lMg ho);obtain⟨q0,q1⟩:=hoo.2 q hq
    by_cases hall:∀ x∈o.pre,Reach st ops (fun _=>true) x
    ·rw[hU q q0 q1,if_pos (.step ho rfl hall hq)];exact Int.le_trans (hV.fix.closed i o c hi ho hcs q hq) (zVl hVall hUall hleV o (hc c hcm))
    ·have:∃ x∈o.pre,¬ Reach st ops (fun _=>true) x:=Classical.byContradiction fun hn=>hall fun x hx=>Classical.byContradiction fun hr=>hn ⟨x,hx,hr⟩
     obtain⟨x,hx,hr⟩:=this;have h5:xJp s U o.pre=1000000000:=(xKs hUall _).2 ⟨x,hx,by rw[hU x (hoo.1 x hx).1 (hoo.1 x hx).2,if_neg hr]⟩;have h6:opV s U o c=1000000000:=by unfold opV;exact xKj (.inl h5)
     have:=xX3 hUall q;unfold InV at this;omega
  have h2:=hV.great _ hfix p;rw[hU p h0 h1,if_neg h] at h2;have h3:=xX3 hVall p;unfold InV at h3;omega
structure AtCut(n:Nat)(st goal:List Int)(ops:List OpV)(left V:List Int):Prop where
 best:Best false n st ops left V
 lc:left.length=ops.length
 lv:∀ c∈left,0<=c/\c<=100
 st_:∀ p∈st,0<=p/\p < (n:Int)
 goal_:∀ p∈goal,0<=p/\p < (n:Int)
 ops_:∀ o∈ops,(∀ p∈o.pre,0<=p/\p < (n:Int))/\∀ p∈o.add,0<=p/\p < (n:Int)
 pos:¬ xJp false V goal=0
 fin:¬ xJp false V goal=1000000000
def xXd(left C:List Int)(c:Int):List Int:=C.foldl (fun l i=>l.set i.toNat (xJ2 l i - c)) left
theorem xYz(C:List Int)(c:Int):∀ (left:List Int),(xXd left C c).length=left.length:=by
 induction C with
 | nil=>intro left;rfl
 | cons x C ih=>intro left;show (xXd (left.set x.toNat (xJ2 left x - c)) C c).length=_;rw[ih,List.length_set]
theorem zY4{left C:List Int}{c x:Int}{k:Nat}(h:C[k]? = some x):xXd left (C.take (k+1)) c=(xXd left (C.take k) c).set x.toNat (xJ2 (xXd left (C.take k) c) x - c):=by
 unfold xXd;rw[List.take_add_one,h];simp only[Option.toList,List.foldl_append,List.foldl_cons,List.foldl_nil]
theorem xYk{c:Int}:∀ (C left:List Int),C.Pairwise (· < ·)->(∀ x∈C,0<=x/\x < (left.length:Int))->∀ i:Int,0<=i->xJ2 (xXd left C c) i=if i∈C then xJ2 left i - c else xJ2 left i:=by
 intro C
 induction C with
 | nil=>intro left _ _ i _;rfl
 | cons x C ih=>
  intro left hp hx i hi;show xJ2 (xXd (left.set x.toNat (xJ2 left x - c)) C c) i=_;have h0:=hx x (List.mem_cons_self ..);rw[List.pairwise_cons] at hp;rw[ih _ hp.2 (fun y hy=>by rw[List.length_set];exact hx y (List.mem_cons_of_mem _ hy)) i hi,xQe (by omega)]
  by_cases e:i=x
  ·subst e;have:¬ i∈C:=fun h=>by have:=hp.1 i h;omega
   rw[if_neg this,if_pos rfl,if_pos (List.mem_cons_self ..)]
  ·rw[if_neg (show ¬ i.toNat=x.toNat by omega)]
   by_cases h:i∈C
   ·rw[if_pos h,if_pos (List.mem_cons_of_mem _ h)]
   ·rw[if_neg h,if_neg (fun k=>(List.mem_cons.1 k).elim e h)]
theorem zW3{l:List Int}{v:Int}(h:v∈l):∃ i:Int,0<=i/\i < (l.length:Int)/\xJ2 l i=v:=by
 obtain⟨i,hi,rfl⟩:=List.mem_iff_getElem.1 h;exact⟨i,by omega,by omega,xXj hi⟩
theorem zX9{l:List Int}{i:Int}(h0:0<=i)(h1:i < (l.length:Int)):xJ2 l i∈l:=by
 have hi:i.toNat < l.length:=by omega
 have:xJ2 l i=l[i.toNat]:=xJ9 (lGe hi);rw[this];exact List.getElem_mem _
theorem zY5{V:List Int}:∀ {i:Nat} {x y:Int},V[i]? = some y->0<=x->x<=y->xZg (V.set i x)+(y - x).toNat=xZg V:=by
 induction V with
 | nil=>intro i x y h;simp at h
 | cons a V ih=>
  intro i x y h h0 hlt
  cases i with
  | zero=>simp at h;subst h;simp[xZg];omega
  | succ i=>have:=ih (by simpa using h) h0 hlt;simp only[xZg,List.set_cons_succ,List.map_cons,List.sum_cons] at *;omega
theorem xY4{c:Int}(hc:0<=c):∀ (C left:List Int),C.Pairwise (· < ·)->(∀ x∈C,0<=x/\x < (left.length:Int))->(∀ i∈C,c<=xJ2 left i)->xZg (xXd left C c)+C.length * c.toNat=xZg left:=by
 intro C
 induction C with
 | nil=>intro left _ _ _;simp[xXd]
 | cons x C ih=>
  intro left hp hx hf;show xZg (xXd (left.set x.toNat (xJ2 left x - c)) C c)+_=_;have h0:=hx x (List.mem_cons_self ..);have hfx:=hf x (List.mem_cons_self ..);rw[List.pairwise_cons] at hp;have hi:x.toNat < left.length:=by omega
  have hv:left[x.toNat]? = some (xJ2 left x):=by rw[lGe hi,xJ9 (lGe hi)]
  have h1:=zY5 hv (show 0<=xJ2 left x - c by omega) (by omega);have h2:=ih (left.set x.toNat (xJ2 left x - c)) hp.2 (fun y hy=>by rw[List.length_set];exact hx y (List.mem_cons_of_mem _ hy)) (fun i hi2=>by
   have:=hp.1 i hi2;rw[xQe hi,if_neg (show ¬ i.toNat=x.toNat by omega)];exact hf i (List.mem_cons_of_mem _ hi2))
  rw[List.length_cons,Nat.succ_mul];omega
noncomputable def xZ5(n:Nat)(st goal:List Int)(ops:List OpV)(left V:List Int):List Int:=
 vXl n (V ++ [0]) ops (xQw n (V ++ [0]) ops left goal) (vYj n (V ++ [0]) ops st (xQw n (V ++ [0]) ops left goal))
structure CutP(n:Nat)(st goal:List Int)(ops:List OpV)(left C:List Int)(c:Int):Prop where
 set:SetP C (ops.length:Int)
 ne:C≠[]
 pos:0 < c
 le:c<=100
 fit:∀ i∈C,c<=xJ2 left i
 cut:¬ ∀ q∈goal,Reach st ops (xK3 C) q
 drop:∀ V V',Best false n st ops left V->Best false n st ops (xXd left C c) V'->xJp false V goal<=c+xJp false V' goal
 ex:∃ V,AtCut n st goal ops left V/\C=xZ5 n st goal ops left V/\c=xZp left C
theorem CutP.lower_in{n:Nat}{st goal:List Int}{ops:List OpV}{left C:List Int}{c:Int}(h:CutP n st goal ops left C c)(hl:left.length=ops.length)(hv:∀ c∈left,0<=c/\c<=100)(k:Nat):∀ v∈xXd left (C.take k) c,0<=v/\v<=100:=fun v hvm=>by
 obtain⟨i,h0,h1,rfl⟩:=zW3 hvm;rw[xYz] at h1;have hx:∀ x∈C.take k,0<=x/\x < (left.length:Int):=fun x hx=>by rw[hl];exact h.set.1 x (List.mem_of_mem_take hx)
 rw[xYk _ _ (h.set.pairwise.sublist (List.take_sublist _ _)) hx i h0];have h2:=hv _ (zX9 h0 h1);have h3:=h.pos
 split
 ·rename_i hm
  have:=h.fit i (List.mem_of_mem_take hm);omega
 ·exact h2
theorem CutP.not_yet{n:Nat}{st goal:List Int}{ops:List OpV}{left C:List Int}{c x:Int}{k:Nat}(h:CutP n st goal ops left C c)(hl:left.length=ops.length)(hx:C[k]? = some x):xJ2 (xXd left (C.take k) c) x=xJ2 left x/\c<=xJ2 left x:=by
 have hm:=lMg hx;have hy:∀ y∈C.take k,0<=y/\y < (left.length:Int):=fun y hy=>by rw[hl];exact h.set.1 y (List.mem_of_mem_take hy)
 rw[xYk _ _ (h.set.pairwise.sublist (List.take_sublist _ _)) hy x (h.set.1 x hm).1,if_neg]
 ·exact⟨rfl,h.fit x hm⟩
 ·intro hin;obtain⟨j,hj,e⟩:=List.mem_iff_getElem.1 hin;rw[List.length_take] at hj;rw[List.getElem_take] at e;have:=h.set.inj (i:=j) (j:=k) (x:=x) (by rw[<- e];exact lGe (by omega)) hx;omega
section
variable {n:Nat}{st goal:List Int}{ops:List OpV}{left V:List Int}
theorem AtCut.all(h:AtCut n st goal ops left V):xZr V:=h.best.fix.shape.all
theorem AtCut.len(h:AtCut n st goal ops left V):V.length=n:=h.best.fix.shape.len
theorem AtCut.costs(h:AtCut n st goal ops left V):xZr left:=fun v hv=>by have:=h.lv v hv;unfold InV;omega
theorem AtCut.g0(h:AtCut n st goal ops left V):0 < xJp false V goal/\xJp false V goal < 1000000000:=by
 have h1:=xXc (s:=false) h.all goal;have h2:=h.pos;have h3:=h.fin;unfold InV at h1;omega
theorem AtCut.hard(h:AtCut n st goal ops left V){xs:List Int}(hx:∀ x∈xs,0<=x/\x < (n:Int)) :
  (xX6 (V ++ [0]) n xs=(n:Int)/\xs=[]\/xX6 (V ++ [0]) n xs∈xs/\xJ2 V (xX6 (V ++ [0]) n xs)=xJp false V xs):=by
 obtain⟨h1,h2⟩:=zW1 h.len h.all hx;rcases h1 with h1 | h1
 ·exact .inl h1
 ·have:=hx _ h1;rw[xYy h.len this.1 this.2] at h2;exact .inr ⟨h1,h2⟩
theorem AtCut.zone_in(h:AtCut n st goal ops left V){p:Int}(hp:GR (ZS n (V ++ [0]) goal) (ZE n (V ++ [0]) ops left) p):(0<=p/\p < (n:Int))/\xJp false V goal<=xJ2 V p:=by
 have hg:=h.g0
 induction hp with
 | start e=>
  rw[show _=_ from e];rcases h.hard h.goal_ with ⟨_,e2⟩ | ⟨h1,h2⟩
  ·rw[e2] at hg;simp[xQd] at hg
  ·exact⟨h.goal_ _ h1,by rw[h2];exact Int.le_refl _⟩
 | @step i p q _ hE ih=>
  obtain⟨o,c,ho,hc,hc0,hp,rfl⟩:=hE;have hcm:=lMg hc;have hoo:=h.ops_ o (lMg ho);have h1:=h.best.fix.closed i o c (List.getElem?_eq_some_iff.1 ho).1 ho hc p hp;have h2:=xWy (xXc (s:=false) h.all o.pre) (h.costs c hcm);unfold opV at h1;rcases h.hard hoo.1 with ⟨_,e2⟩ | ⟨h3,h4⟩
  ·rw[e2,xQd] at h1 h2;omega
  ·exact⟨hoo.1 _ h3,by rw[h4];omega⟩
theorem AtCut.zone(h:AtCut n st goal ops left V){p:Int}(h0:0<=p)(h1:p < (n:Int)):(xQw n (V ++ [0]) ops left goal)[p.toNat]? = some true↔GR (ZS n (V ++ [0]) goal) (ZE n (V ++ [0]) ops left) p:=by
 have:=zZz (N:=n+1) (p:=p.toNat) (start:=ZS n (V ++ [0]) goal) (E:=ZE n (V ++ [0]) ops left) (by omega);rw[Int.toNat_of_nonneg h0] at this;exact this
theorem AtCut.zone_no(h:AtCut n st goal ops left V){p:Int}(h0:0<=p)(h1:p < (n:Int)):(xQw n (V ++ [0]) ops left goal)[p.toNat]? = some false↔¬ GR (ZS n (V ++ [0]) goal) (ZE n (V ++ [0]) ops left) p:=by
 have:=vYy (N:=n+1) (p:=p.toNat) (start:=ZS n (V ++ [0]) goal) (E:=ZE n (V ++ [0]) ops left) (by omega);rw[Int.toNat_of_nonneg h0] at this;exact this
theorem AtCut.bef_in(h:AtCut n st goal ops left V){p:Int}(hp:GR (BS n st) (BE n (V ++ [0]) ops (xQw n (V ++ [0]) ops left goal)) p):(0<=p/\p<=(n:Int))/\¬ GR (ZS n (V ++ [0]) goal) (ZE n (V ++ [0]) ops left) p:=by
 have hg:=h.g0
 cases hp with
 | start e=>
  rcases e with e | e
  ·subst e;exact⟨by omega,fun hz=>by have:=h.zone_in hz;omega⟩
  ·have:=h.st_ p e;exact⟨by omega,fun hz=>by have:=h.zone_in hz;have:=h.best.fix.shape.zero p e;omega⟩
 | step _ hE=>
  obtain⟨o,ho,_,hq,hz⟩:=hE;have:=(h.ops_ o (lMg ho)).2 p hq;exact⟨by omega,(h.zone_no this.1 this.2).1 hz⟩
theorem AtCut.bef(h:AtCut n st goal ops left V)(Z:List Bool){p:Int}(h0:0<=p)(h1:p<=(n:Int)):(vYj n (V ++ [0]) ops st Z)[p.toNat]? = some true↔GR (BS n st) (BE n (V ++ [0]) ops Z) p:=by
 have:=zZz (N:=n+1) (p:=p.toNat) (start:=BS n st) (E:=BE n (V ++ [0]) ops Z) (by omega);rw[Int.toNat_of_nonneg h0] at this;exact this
theorem AtCut.hard_le(h:AtCut n st goal ops left V){xs:List Int}(hx:∀ x∈xs,0<=x/\x < (n:Int)):0<=xX6 (V ++ [0]) n xs/\xX6 (V ++ [0]) n xs<=(n:Int):=xQg (by omega) hx
theorem AtCut.mem(h:AtCut n st goal ops left V){i:Nat}:(i:Int)∈xZ5 n st goal ops left V↔∃ o,ops[i]? = some o/\GR (BS n st) (BE n (V ++ [0]) ops (xQw n (V ++ [0]) ops left goal)) (xX6 (V ++ [0]) n o.pre)/\∃ p∈o.add,GR (ZS n (V ++ [0]) goal) (ZE n (V ++ [0]) ops left) p:=by
 unfold xZ5 vXl;rw[xYx];constructor
 ·rintro ⟨j,e,hj,o,ho,hb,p,hp,hz⟩;obtain rfl:i=j:=by omega
  have hoo:=h.ops_ o (lMg ho);have hh:=h.hard_le hoo.1;exact⟨o,ho,(h.bef _ hh.1 hh.2).1 hb,p,hp,(h.zone (hoo.2 p hp).1 (hoo.2 p hp).2).1 hz⟩
 ·rintro ⟨o,ho,hb,p,hp,hz⟩;have hoo:=h.ops_ o (lMg ho);have hh:=h.hard_le hoo.1;exact⟨i,rfl,(List.getElem?_eq_some_iff.1 ho).1,o,ho,(h.bef _ hh.1 hh.2).2 hb,p,hp,(h.zone (hoo.2 p hp).1 (hoo.2 p hp).2).2 hz⟩
theorem AtCut.cut_pos(h:AtCut n st goal ops left V){i:Int}(hi:i∈xZ5 n st goal ops left V):0 < xJ2 left i/\xJ2 left i<=100:=by
 obtain⟨j,rfl,hj,_⟩:=xYx.1 hi;obtain⟨o,ho,hb,p,hp,hz⟩:=h.mem.1 hi;have hjl:j < left.length:=by rw[h.lc];exact hj
 have hc:left[j]? = some left[j]:=lGe hjl;have e:xJ2 left (j:Int)=left[j]:=xXj hjl;have h1:=h.lv _ (lMg hc);rw[e];refine⟨Classical.byContradiction fun hn=>?_,h1.2⟩;exact (h.bef_in hb).2 (.step hz ⟨o,_,ho,hc,hn,hp,rfl⟩)
theorem AtCut.reach_bef(h:AtCut n st goal ops left V){p:Int}(hp:Reach st ops (xK3 (xZ5 n st goal ops left V)) p):GR (BS n st) (BE n (V ++ [0]) ops (xQw n (V ++ [0]) ops left goal)) p:=by
 induction hp with
 | init hp=>exact .start (.inr hp)
 | @step p i o ho hu hq hp ih=>
  have hoo:=h.ops_ o (lMg ho);have hb:GR (BS n st) (BE n (V ++ [0]) ops (xQw n (V ++ [0]) ops left goal)) (xX6 (V ++ [0]) n o.pre):=by
   rcases h.hard hoo.1 with ⟨e,_⟩ | ⟨h3,_⟩
   ·rw[e];exact .start (.inl rfl)
   ·exact ih _ h3
  have hnz:¬ GR (ZS n (V ++ [0]) goal) (ZE n (V ++ [0]) ops left) p:=fun hz=>by
   have:=h.mem.2 ⟨o,ho,hb,p,hp,hz⟩;unfold xK3 at hu;simp[this] at hu
  exact .step hb ⟨o,ho,rfl,hp,(h.zone_no (hoo.2 p hp).1 (hoo.2 p hp).2).2 hnz⟩
theorem AtCut.goal_zone(h:AtCut n st goal ops left V):xX6 (V ++ [0]) n goal∈goal/\GR (ZS n (V ++ [0]) goal) (ZE n (V ++ [0]) ops left) (xX6 (V ++ [0]) n goal):=by
 have hg:=h.g0;rcases h.hard h.goal_ with ⟨_,e2⟩ | ⟨h1,_⟩
 ·rw[e2] at hg;simp[xQd] at hg
 ·exact⟨h1,.start rfl⟩
theorem AtCut.cut_no(h:AtCut n st goal ops left V):¬ ∀ q∈goal,Reach st ops (xK3 (xZ5 n st goal ops left V)) q:=fun hall=>by
 obtain⟨h1,h2⟩:=h.goal_zone;exact (h.bef_in (h.reach_bef (hall _ h1))).2 h2
theorem AtCut.cut_ne(h:AtCut n st goal ops left V):xZ5 n st goal ops left V≠[]:=fun e=>by
 refine h.cut_no fun q hq=>?_
 have hg:=h.g0;have hr:=h.goal_ q hq;have h1:=xWx (V:=V) hq;have h2:=zX8 h.best h.lc h.costs (fun c hc=>by have:=h.lv c hc;omega) (fun p hp=>(h.st_ p hp).1) h.ops_ hr.1 hr.2;have h3:Reach st ops (fun _=>true) q:=Classical.byContradiction fun hn=>by have:=h2.2 hn;omega
 exact h3.mono (fun _ h=>h) (fun i _=>by rw[e];simp[xK3])
theorem AtCut.drop(h:AtCut n st goal ops left V){c:Int}(hc:0 < c)(hcf:∀ i∈xZ5 n st goal ops left V,c<=xJ2 left i){V':List Int}(hV':Best false n st ops (xXd left (xZ5 n st goal ops left V) c) V'):xJp false V goal<=c+xJp false V' goal:=by
 have hg:=h.g0;obtain⟨M,hM⟩:∃ M,M=max 0 (xJp false V goal - c):=⟨_,rfl⟩;have hM0:0<=M/\M<=999999999/\xJp false V goal - c<=M/\(M=0\/M=xJp false V goal - c):=by omega
 clear hM;have hset:SetP (xZ5 n st goal ops left V) (ops.length:Int):=zQy;have hlow:∀ i:Nat,i < ops.length->xJ2 (xXd left (xZ5 n st goal ops left V) c) (i:Int)=if (i:Int)∈xZ5 n st goal ops left V then xJ2 left i - c else xJ2 left i:=fun i hi=>
  xYk _ _ hset.pairwise (fun x hx=>by rw[h.lc];exact hset.1 x hx) i (by omega)
 let Bf:=GR (BS n st) (BE n (V ++ [0]) ops (xQw n (V ++ [0]) ops left goal))
 let U:List Int:=(List.range n).map fun (q:Nat)=>@ite _ (Bf (q:Int)) (Classical.propDecidable _) (min (xJ2 V (q:Int)) M) M
 have hU:∀ q,0<=q->q < (n:Int)->xJ2 U q=@ite _ (Bf q) (Classical.propDecidable _) (min (xJ2 V q) M) M:=fun q q0 q1=>by
  obtain⟨k,rfl⟩:=Int.eq_ofNat_of_zero_le q0;refine xJ9 ?_;show ((List.range n).map _)[k]? = _;rw[List.getElem?_map,List.getElem?_range (by omega)];rfl
 have hVin:=fun q=>xX3 h.all q
 unfold InV at hVin;have hUM:∀ q,0<=q->q < (n:Int)->xJ2 U q<=M:=fun q q0 q1=>by
  rw[hU q q0 q1];split <;> omega
 have hUall:xZr U:=fun v hv=>by
  obtain⟨q,_,rfl⟩:=List.mem_map.1 hv;have:=hVin (q:Int);unfold InV
  split <;> omega
 have hfix:Fix false n st ops (xXd left (xZ5 n st goal ops left V) c) U:=by
  refine⟨⟨by simp[U],hUall,fun q hq=>?_⟩,fun i o c' hi ho hcs q hq=>?_⟩
  ·have q0:=h.st_ q hq;rw[hU q q0.1 q0.2,if_pos (show Bf q from .start (.inr hq)),h.best.fix.shape.zero q hq];omega
  ·have hoo:=h.ops_ o (lMg ho);obtain⟨q0,q1⟩:=hoo.2 q hq;have hil:i < left.length:=by rw[h.lc];exact hi
   have hl:left[i]? = some left[i]:=lGe hil;have el:xJ2 left (i:Int)=left[i]:=xXj hil;have ec:xJ2 (xXd left (xZ5 n st goal ops left V) c) (i:Int)=c':=xJ9 (by simpa using hcs);rw[hlow i hi,el] at ec;have hl2:=h.lv _ (lMg hl);have hcin:InV c':=by
    unfold InV
    split at ec
    ·rename_i hm;have:=hcf _ hm;rw[el] at this;omega
    ·omega
   have hcl:=h.best.fix.closed i o _ hi ho hl;have hple:=xWy (xXc (s:=false) h.all o.pre) (h.costs _ (lMg hl));have hUq:=hUM q q0 q1;unfold opV at hcl ⊢;have hcn:=zQ0 (V:=V) (xs:=o.pre);refine vZ6 (xXc hUall _) hcin ?_ (by omega)
   by_cases hb:Bf (xX6 (V ++ [0]) n o.pre)
   ·have hx:min (xJp false V o.pre) M<=xJp false U o.pre:=by
     rcases h.hard hoo.1 with ⟨_,e⟩ | ⟨h3,h4⟩
     ·rw[e,xQd,xQd];omega
     ·have h5:=xWx (V:=U) h3;have h6:=hoo.1 _ h3;rw[hU _ h6.1 h6.2,if_pos hb,h4] at h5;exact h5
    by_cases hi2:(i:Int)∈xZ5 n st goal ops left V
    ·rw[if_pos hi2] at ec;have h7:=hcf _ hi2;rw[el] at h7;obtain⟨o',ho',_,p1,hp1,hz1⟩:=h.mem.1 hi2;rw[ho] at ho';injection ho' with ho'
     subst ho';have h8:=(h.zone_in hz1).2;have h9:=hcl p1 hp1;omega
    ·rw[if_neg hi2] at ec;have hnz:¬ GR (ZS n (V ++ [0]) goal) (ZE n (V ++ [0]) ops left) q:=fun hz=>hi2 (h.mem.2 ⟨o,ho,hb,q,hq,hz⟩)
     have hbq:Bf q:=.step hb ⟨o,ho,rfl,hq,(h.zone_no q0 q1).2 hnz⟩;have h9:=hcl q hq;rw[hU q q0 q1,if_pos hbq];omega
   ·rcases h.hard hoo.1 with ⟨e,_⟩ | ⟨h3,_⟩
    ·exact absurd (show Bf _ by rw[e];exact .start (.inl rfl)) hb
    ·have h5:=xWx (V:=U) h3;have h6:=hoo.1 _ h3;rw[hU _ h6.1 h6.2,if_neg hb] at h5;unfold InV at hcin;omega
 obtain⟨h1,h2⟩:=h.goal_zone;have h3:=h.goal_ _ h1;have h4:=hV'.great U hfix (xX6 (V ++ [0]) n goal);rw[hU _ h3.1 h3.2,if_neg (fun hb=>(h.bef_in hb).2 h2)] at h4;have h5:=xWx (V:=V') h1;omega
theorem AtCut.proper(h:AtCut n st goal ops left V):CutP n st goal ops left (xZ5 n st goal ops left V) (xZp left (xZ5 n st goal ops left V)):=by
 obtain⟨h1,h2,h3⟩:=vVa (cost:=left) (xZ5 n st goal ops left V) 1000000000;have hc:0 < xZp left (xZ5 n st goal ops left V)/\xZp left (xZ5 n st goal ops left V)<=100:=by
  unfold xZp;rcases h3 with h3 | ⟨i,hi,h3⟩
  ·obtain⟨i,hi⟩:=List.exists_mem_of_ne_nil _ h.cut_ne;have h4:=h2 i hi;have h5:=h.cut_pos hi;omega
  ·have h5:=h.cut_pos hi;omega
 refine⟨zQy,h.cut_ne,hc.1,hc.2,h2,h.cut_no,fun V2 V' hb hb'=>?_,⟨V,h,rfl,rfl⟩⟩;rw[show V2=V from (zJs hb).trans (zJs h.best).symm];exact h.drop hc.1 h2 hb'
end
def xJo(c0:List Int)(cs:List (List Int×Int)):List Int:=cs.foldl (fun l x=>xXd l x.1 x.2) c0
theorem xK0(c0:List Int)(cs:List (List Int×Int))(x:List Int×Int):xJo c0 (cs ++ [x])=xXd (xJo c0 cs) x.1 x.2:=by
 unfold xJo;rw[List.foldl_append];rfl
theorem xXz{c0:List Int}{cs:List (List Int×Int)}{x:List Int×Int}{k:Nat}(h:cs[k]? = some x):xJo c0 (cs.take (k+1))=xXd (xJo c0 (cs.take k)) x.1 x.2:=by
 rw[List.take_add_one,h];exact xK0 _ _ _
theorem xXk(c0:List Int)(cs:List (List Int×Int)):(xJo c0 cs).length=c0.length:=by
 have:∀ (cs:List (List Int×Int)) (l:List Int),(cs.foldl (fun l x=>xXd l x.1 x.2) l).length=l.length:=by
  intro cs
  induction cs with
  | nil=>intro l;rfl
  | cons x cs ih=>intro l;rw[List.foldl_cons,ih,xYz]
 exact this cs c0
def xJr(cs:List (List Int×Int)):Int:=(cs.map (·.2)).sum
theorem xY5(cs:List (List Int×Int))(x:List Int×Int):xJr (cs ++ [x])=xJr cs+x.2:=by
 unfold xJr;rw[List.map_append,List.sum_append];simp
theorem xZu{cs:List (List Int×Int)}{x:List Int×Int}{k:Nat}(h:cs[k]? = some x):xJr (cs.take (k+1))=xJr (cs.take k)+x.2:=by
 rw[List.take_add_one,h];exact xY5 _ _
def CutsOk(n:Nat)(st goal:List Int)(ops:List OpV)(c0:List Int)(cs:List (List Int×Int)):Prop:=∀ i x,cs[i]? = some x->CutP n st goal ops (xJo c0 (cs.take i)) x.1 x.2
section
variable {n:Nat}{st goal:List Int}{ops:List OpV}{c0:List Int}{cs:List (List Int×Int)}
theorem CutsOk.nil:CutsOk n st goal ops c0 []:=fun i x h=>by simp at h
theorem CutsOk.snoc(h:CutsOk n st goal ops c0 cs){x:List Int×Int}(hx:CutP n st goal ops (xJo c0 cs) x.1 x.2):CutsOk n st goal ops c0 (cs ++ [x]):=fun i y hy=>by
 rcases Nat.lt_or_ge i cs.length with hi | hi
 ·rw[List.getElem?_append_left hi] at hy;rw[List.take_append_of_le_length (by omega)];exact h i y hy
 ·have:i=cs.length:=by
   have:=(List.getElem?_eq_some_iff.1 hy).1;rw[List.length_append] at this;simp at this;omega
  subst this;rw[List.getElem?_append_right (Nat.le_refl _)] at hy;simp at hy;subst hy;rw[List.take_left];exact hx
theorem CutsOk.left_in(h:CutsOk n st goal ops c0 cs)(hl:c0.length=ops.length)(hv:∀ c∈c0,0<=c/\c<=100):∀ k,∀ c∈xJo c0 (cs.take k),0<=c/\c<=100:=by
 intro k
 induction k with
 | zero=>exact hv
 | succ k ih=>
  rcases Nat.lt_or_ge k cs.length with hk | hk
  ·have hx:=lGe hk;have hp:=h k _ hx;rw[xXz hx];have:=hp.lower_in (by rw[xXk];exact hl) ih cs[k].1.length
   rwa [List.take_length] at this
  ·rw[List.take_of_length_le (by omega)];rw[List.take_of_length_le hk] at ih;exact ih
theorem CutsOk.total(h:CutsOk n st goal ops c0 cs)(hl:c0.length=ops.length):∀ k,k<=cs.length->0<=xJr (cs.take k)/\xJr (cs.take k)+xZg (xJo c0 (cs.take k))<=xZg c0/\(k:Int)+xZg (xJo c0 (cs.take k))<=xZg c0:=by
 intro k
 induction k with
 | zero=>intro _;simp[xJr,xJo]
 | succ k ih=>
  intro hk;have hx:=lGe (show k < cs.length by omega);have hp:=h k _ hx;have h1:=ih (by omega);rw[xXz hx,xZu hx];have h2:=xY4 (c:=cs[k].2) (by have:=hp.pos;omega) cs[k].1 (xJo c0 (cs.take k)) hp.set.pairwise (fun x hx=>by rw[xXk,hl];exact hp.set.1 x hx) hp.fit;have h3:0 < cs[k].1.length:=List.length_pos_iff.2 hp.ne;have h4:=hp.pos;have h5:cs[k].2.toNat<=cs[k].1.length * cs[k].2.toNat:=Nat.le_mul_of_pos_left _ h3;omega
end
theorem zQ1{V:List Int}(h:∀ v∈V,0<=v/\v<=100):xZg V<=100 * V.length:=by
 induction V with
 | nil=>simp[xZg]
 | cons v V ih=>
  have h1:=ih (fun x hx=>h x (List.mem_cons_of_mem _ hx));have h2:=h v (List.mem_cons_self ..);simp only[xZg,List.map_cons,List.sum_cons,List.length_cons] at *;omega
structure SBox(w:World)(b n:Nat)(t:TaskV)(Ai Ag Ao S C Q:Option Addr)(ci cg co cs cc cq:Nat)(st left W:List Int):Prop where
 k0:w.cell? ⟨b,0,none⟩=some (.int .i64 (n:Int))
 k1:w.cell? ⟨b,1,none⟩=some (.slice Ai t.init.length ci)
 k2:w.cell? ⟨b,2,none⟩=some (.slice Ag t.goal.length cg)
 k3:w.cell? ⟨b,3,none⟩=some (.slice Ao t.ops.length co)
 k4:w.cell? ⟨b,4,none⟩=some (.slice S st.length cs)
 k5:w.cell? ⟨b,5,none⟩=some (.slice C left.length cc)
 k6:w.cell? ⟨b,6,none⟩=some (.slice Q (n+1) cq)
 mem:TaskMem w Ai Ag Ao t
 is:Ints w S st
 ic:Ints w C left
 iw:Ints w Q W
 lw:W.length=n+1
 n9:n<=1000000
 lc:left.length=t.ops.length
 ls:lenOk st.length
 st_:∀ p∈st,0<=p/\p < (n:Int)
 goal_:∀ p∈t.goal,0<=p/\p < (n:Int)
 ops_:∀ o∈t.ops,(∀ p∈o.pre,0<=p/\p < (n:Int))/\∀ p∈o.add,0<=p/\p < (n:Int)
section
variable {w w':World}{b n:Nat}{t:TaskV}{Ai Ag Ao S C Q:Option Addr}{ci cg co cs cc cq:Nat}{st left W:List Int}
theorem SBox.below(h:SBox w b n t Ai Ag Ao S C Q ci cg co cs cc cq st left W)(hb:Below w.heap.size w w'):SBox w' b n t Ai Ag Ao S C Q ci cg co cs cc cq st left W:=by
 have k:∀ {o:Nat} {v:Value},w.cell? ⟨b,o,none⟩=some v->w'.cell? ⟨b,o,none⟩=some v:=fun h=>(hb.cell (World.block_lt_of_cell? w _ h)).trans h
 exact⟨k h.k0,k h.k1,k h.k2,k h.k3,k h.k4,k h.k5,k h.k6,h.mem.below hb,h.is.below hb,h.ic.below hb,h.iw.below hb,h.lw,h.n9,h.lc,h.ls,h.st_,h.goal_,h.ops_⟩
theorem SBox.cells(h:SBox w b n t Ai Ag Ao S C Q ci cg co cs cc cq st left W):w.cell? ⟨b,0,none⟩=some (.int .i64 (n:Int))/\w.cell? ⟨b,1,none⟩=some (.slice Ai t.init.length ci)/\w.cell? ⟨b,2,none⟩=some (.slice Ag t.goal.length cg)/\w.cell? ⟨b,3,none⟩=some (.slice Ao t.ops.length co) /\
  w.cell? ⟨b,4,none⟩=some (.slice S st.length cs)/\w.cell? ⟨b,5,none⟩=some (.slice C left.length cc)/\w.cell? ⟨b,6,none⟩=some (.slice Q (n+1) cq):=⟨h.k0,h.k1,h.k2,h.k3,h.k4,h.k5,h.k6⟩
theorem xWz(h:SBox w b n t Ai Ag Ao S C Q ci cg co cs cc cq st left W)(X:Option Addr)(d:Nat)(xs:List Int)(hJ:Ints w X xs)(hl:lenOk xs.length)(hxs:∀ x∈xs,0<=x/\x < (n:Int))(v:Int)(hv:xX6 W n xs=v) :
  Calls Tryz.prog 182 #[.pointer (some ⟨b,0,none⟩),.slice X xs.length d] w fun e w'=>e=.returned (.int .i64 v)/\Below w.heap.size w w':=by
 subst hv;exact zZx w b n cq d Q X W xs h.k0 h.k6 h.iw h.lw (by have:=h.n9;omega) hJ hl.le hxs
end
theorem zJ0{bs:List Bool}{i:Nat}:xJu (bs.set i true)<=xJu bs:=by
 induction bs generalizing i with
 | nil=>simp
 | cons b bs ih=>
  cases i with
  | zero=>simp[xJu]
  | succ i=>have:=ih (i:=i);simp only[xJu,List.set_cons_succ,List.map_cons,List.sum_cons] at *;omega
theorem zXa{N i:Nat}{b:Bool}(h:(List.replicate N false)[i]? = some b):b=false:=by
 rw[List.getElem?_replicate] at h
 split at h <;> simp_all
theorem zW4(n:Nat)(hn:n<=1000000)(w:World) :
  (Instr.makeSlice 200 (.int .i64 ((n:Int)+1)) (.int .i64 ((n:Int)+1))).run Tryz.prog w=.ok (.slice (some ⟨w.heap.size,0,none⟩) (n+1) (n+1)) (w.alloc (.cells (List.replicate (n+1) (Value.bool false)).toArray 4)):=xWk (n+1) (by omega) w
theorem zY6{n:Nat}{W goal:List Int}{E:Nat->Int->Int->Prop}{h:Int}(hh:xX6 W n goal=h)(h0:0<=h)(h1:h<=(n:Int)):SoundG (n+1) (ZS n W goal) E ((List.replicate (n+1) false).set h.toNat true):=by
 refine⟨by simp,fun p hp=>?_,fun p hp=>?_⟩
 ·have:p=h:=by rw[<- hh];exact hp
  subst this;rw[List.getElem?_set_self (by simp;omega)]
 ·rw[List.getElem?_set] at hp
  split at hp
  ·rename_i e
   subst e;rw[Int.toNat_of_nonneg h0];exact .start hh.symm
  ·have:=zXa hp;cases this
theorem zW5{n:Nat}{st:List Int}{E:Nat->Int->Int->Prop}(h:∀ p∈st,0<=p/\p < (n:Int)):SoundG (n+1) (BS n st) E (xV3 (n+1) ((n:Int) :: st)):=by
 have hx:∀ x∈(n:Int) :: st,0<=x/\x < ((n+1:Nat):Int):=fun x hx=>by
  rcases List.mem_cons.1 hx with e | e
  ·omega
  ·have:=h x e;omega
 have hs:=zQl (n:=n+1) (ops:=[]) (use:=fun _=>true) hx;refine⟨hs.len,fun p hp=>hs.init p ?_,fun p hp=>?_⟩
 ·rcases hp with e | e
  ·rw[e];exact List.mem_cons_self ..
  ·exact List.mem_cons_of_mem _ e
 ·have hr:=hs.sound p hp
  cases hr with
  | init hm=>
   rcases List.mem_cons.1 hm with e | e
   ·exact .start (.inl e)
   ·exact .start (.inr e)
  | step ho=>simp at ho
theorem zQ2(n:Nat):xV3 (n+1) [(n:Int)]=(List.replicate (n+1) false).set n true:=by
 unfold xV3;simp
theorem zY7{n k:Nat}{l:List Int}{x:Int}(h:l[k]? = some x):xV3 (n+1) ((n:Int) :: l.take (k+1))=(xV3 (n+1) ((n:Int) :: l.take k)).set x.toNat true:=by
 have h2:((n:Int) :: l)[k+1]? = some x:=by simpa using h
 have:=zKk (n:=n+1) h2;simpa[List.take_succ_cons] using this
theorem vZ7(w:World)(b:Nat)(n:Nat)(t:TaskV)(Ai Ag Ao S C Q:Option Addr)(ci cg co cs cc cq:Nat)(st left W:List Int)(hX:SBox w b n t Ai Ag Ao S C Q ci cg co cs cc cq st left W) :
  Calls Tryz.prog 180 #[.pointer (some ⟨b,0,none⟩)] w fun e w'=>∃ g,e=.returned (.slice (some ⟨g,0,none⟩) (n+1) (n+1))/\w.heap.size<=g/\BArr w' g (xQw n W t.ops left t.goal)/\Below w.heap.size w w':=by
 have hmk:=zW4 n hX.n9;have hn9:=hX.n9;obtain⟨h,hh⟩:∃ h,Hid (xX6 W n t.goal=h):=⟨_,lHd rfl⟩;obtain⟨h0,h1⟩:=xQg (vs:=W) (n:=(n:Int)) (by omega) hX.goal_;rw[hh.out] at h0 h1;have hlo:=hX.mem.lops.le;have HX:=lHd hX;obtain⟨k0,k1,k2,k3,k4,k5,k6⟩:=SBox.cells (HX.out);have kb:=World.block_lt_of_cell? _ _ k0;clear hX;go_enter Tryz.func180,Tryz.ntmps180
 go_wp2_with fail
 refine (xWz (HX.out.below bch) _ _ _ (HX.out.mem.goal.below bch) HX.out.mem.lgoal HX.out.goal_ h hh.out).mono ?_;rintro e w1 ⟨rfl,hB1⟩;have D1:=xJ3 w hB1 bch;have hA1:BArr w1 w.heap.size (List.replicate (n+1) false):=(BArr.made w (n+1) _ rfl).below hB1;obtain⟨y,hy,hd,hf⟩:=hA1.cell (i:=h.toNat) (by simp;omega)
 go_wp2_with fail
 go_loopg [4] (2 * xJu ((List.replicate (n+1) false).set h.toNat true)+1) (fun gk ch wr=>∃ (V:List Bool) (c:Bool),ch=.bool c/\Hid (gk=2 * xJu V+c.toNat)/\BArr wr w.heap.size V/\SoundG (n+1) (ZS n W t.goal) (ZE n W t.ops left) V/\Hid (c=false->xZa (ZE n W t.ops left) t.ops.length V)/\Below w.heap.size w wr)
 case atStart=>exact⟨_,true,rfl,lHd rfl,hA1.set_ _ _,zY6 hh.out h0 h1,lHd (fun h=>by cases h),bch⟩
 case round=>
  obtain⟨V0,c,rfl,hgk,hA0,hV0,hcl,hBp⟩:=hrel;obtain⟨g3,rfl⟩:∃ g:Nat,g=gk:=⟨_,rfl⟩;obtain⟨w3,rfl⟩:∃ wo:World,wo=wr:=⟨_,rfl⟩
  cases c with
  | false=>
   have e:=hV0.eq (hcl.out rfl) (fun i p q h=>by obtain⟨o,c,ho,_⟩:=h;exact (List.getElem?_eq_some_iff.1 ho).1);rw[e] at hA0;clear e hV0 hcl;go_wp2;go_ret;exact⟨_,rfl,by omega,hA0,hBp⟩
  | true=>
   clear k0 k1 k2 k3 k4 k5 k6 kb;obtain⟨k0,k1,k2,k3,k4,k5,k6⟩:=SBox.cells (HX.out.below hBp);have kb:=World.block_lt_of_cell? _ _ k0
   go_wp2_with fail
   go_loopg [4,33] (t.ops.length) (fun gk ch i wr=>∃ (V:List Bool) (c:Bool) (k:Nat),ch=.bool c/\i=.int .i64 k/\Hid (k+gk=t.ops.length)/\BArr wr w.heap.size V/\SoundG (n+1) (ZS n W t.goal) (ZE n W t.ops left) V/\Hid (c=true->xJu V < xJu V0)/\Hid (c=false->xJu V<=xJu V0/\xZa (ZE n W t.ops left) k V)/\Below w.heap.size w wr)
   case atStart=>exact⟨V0,false,0,rfl,rfl,lHd (by omega),hA0,hV0,lHd (fun h=>by cases h),lHd (fun _=>⟨Nat.le_refl _,xY3⟩),bch⟩
   case round=>
    obtain⟨V1,c1,k,rfl,rfl,hk,hA1,hV1,ht1,hf1,hBs⟩:=hrel;obtain⟨g4,rfl⟩:∃ g:Nat,g=gk:=⟨_,rfl⟩;obtain⟨w4,rfl⟩:∃ wo:World,wo=wr:=⟨_,rfl⟩;clear k0 k1 k2 k3 k4 k5 k6 kb;obtain⟨k0,k1,k2,k3,k4,k5,k6⟩:=SBox.cells (HX.out.below hBs);have kb:=World.block_lt_of_cell? _ _ k0
    by_cases hlt:k < t.ops.length
    ·obtain⟨ad,o,A0,c0,A1,c1',A2,c2,rfl,ho,hc0,hc1,hc2,hc3,hm⟩:=HX.out.mem.ops.at2 hBs hlt;have hoo:=lHd (HX.out.ops_ o (lMg ho.out));have hk1:=lHd (show k+1+(g4 - 1)=t.ops.length/\g4 - 1 < g4 by have:=hk.out;omega);have hlk:k < left.length:=by have:=HX.out.lc;omega
     obtain⟨cd,cv,rfl,hcv,hcc⟩:=(HX.out.ic.below hBs).at_ hlk;obtain⟨f,hf⟩:∃ f,Hid (xX6 W n o.pre=f):=⟨_,lHd rfl⟩;obtain⟨f0,f1⟩:=xQg (vs:=W) (n:=(n:Int)) (by omega) hoo.out.1;rw[hf.out] at f0 f1
     go_wp2_with fail
     refine (xWz (HX.out.below bch) _ _ _ (hm.pre.below bch) hm.lpre hoo.out.1 f hf.out).mono ?_;rintro e w6 ⟨rfl,hB6⟩;have D6:=xJ3 w hB6 bch;have C6:=Cls.below (l:=[(w4.heap.size,0,.slice A0 o.pre.length c0),(w4.heap.size,1,.slice A1 o.add.length c1'),(w4.heap.size,2,.slice A2 o.del.length c2),(w4.heap.size,3,.int .i64 o.cost)]) hB6 (by simp[Cls,go_sem]);have F6:=C6;simp only[Cls,and_true] at F6;have y6w40:w4.heap.size < w6.heap.size:=C6.blk (b:=w4.heap.size) (k:=0) (v:=.slice A0 o.pre.length c0) (by simp);have E6:=xJ3 w4 hB6 bch;clear k0 k1 k2 k3 k4 k5 k6 kb;obtain⟨k0,k1,k2,k3,k4,k5,k6⟩:=SBox.cells (HX.out.below D6);have kb:=World.block_lt_of_cell? _ _ k0;have hcc6:=(E6.cell (World.block_lt_of_cell? w4 _ hcc)).trans hcc;clear hcc;have hA6:=hA1.below E6
     by_cases hpos:0 < cv
     ·have hpd:decide (0 < cv)=true:=by simpa using hpos
      have HP:=lHd hpos;clear hpos;go_wp2
      go_roundg (g4 - 1)
      case measure=>exact hk1.out.2
      case rel=>
       refine⟨V1,c1,k+1,rfl,by go_num,lHd hk1.out.1,hA6,hV1,ht1,lHd (fun h=>⟨(hf1.out h).1,xXr (hf1.out h).2 (fun p q hE hp=>by obtain⟨o',c',_,hc',hn',_⟩:=hE;rw[hcv.out] at hc';injection hc' with hc';subst hc';exact absurd HP.out hn')⟩),bch⟩
     ·have hpd:decide (0 < cv)=false:=by simpa using hpos
      have HP:=lHd hpos;clear hpos;have hl1:=hV1.len;obtain⟨yf,hyf,hyc,hyw⟩:=hA6.cell (i:=f.toNat) (by omega);clear hl1
      cases yf with
      | true=>
       go_wp2
       go_roundg (g4 - 1)
       case measure=>exact hk1.out.2
       case rel=>
        refine⟨V1,c1,k+1,rfl,by go_num,lHd hk1.out.1,hA6,hV1,ht1,lHd (fun h=>⟨(hf1.out h).1,xXr (hf1.out h).2 (fun p q hE hp=>by obtain⟨o',c',ho',_,_,_,e⟩:=hE;rw[ho.out] at ho';injection ho' with ho';subst ho';rw[e,hf.out];exact hyf.out)⟩),bch⟩
      | false=>
       have hlc':=hm.ladd.le
       go_wp2_with fail
       go_loopg [4,59] (o.add.length) (fun gk ch i wr=>∃ (V:List Bool) (c:Bool) (j:Nat),ch=.bool c/\i=.int .i64 j/\Hid (j+gk=o.add.length)/\BArr wr w.heap.size V/\SoundG (n+1) (ZS n W t.goal) (ZE n W t.ops left) V/\Hid (c=true->xJu V < xJu V0)/\Hid (c=false->xJu V<=xJu V0/\xZa (ZE n W t.ops left) k V/\V[f.toNat]? = some false/\∀ p∈o.add.take j,V[p.toNat]? = some false)/\Below w.heap.size w wr)
       case atStart=>exact⟨V1,c1,0,rfl,rfl,lHd (by omega),hA6,hV1,ht1,lHd (fun h=>⟨(hf1.out h).1,(hf1.out h).2,hyf.out,by simp⟩),bch⟩
       case round=>
        obtain⟨V2,c2',j,rfl,rfl,hj,hA2,hV2,ht2,hf2,hBu⟩:=hrel;obtain⟨w8,rfl⟩:∃ wo:World,wo=wr:=⟨_,rfl⟩
        by_cases hlj:j < o.add.length
        ·obtain⟨pd,p,rfl,hp,hpc⟩:=(hm.add.below hBu).at_ hlj;obtain⟨p0,p1⟩:=hoo.out.2 p (lMg hp.out);have hl2:=hV2.len;obtain⟨y2,hy2,hyc2,hyw2⟩:=hA2.cell (i:=p.toNat) (by omega);obtain⟨yf,hyf2,hyfc,hyfw⟩:=hA2.cell (i:=f.toNat) (by omega);have hj1:=lHd (show j+1+(gk - 1)=o.add.length/\gk - 1 < gk by have:=hj.out;omega);have HV2:=lHd hV2;clear hV2 hl2
         cases y2 with
         | true=>
          have hz:=lHd (show GR (ZS n W t.goal) (ZE n W t.ops left) f from by
           have h3:=HV2.out.sound _ hy2.out;rw[Int.toNat_of_nonneg p0] at h3;exact .step h3 ⟨o,cv,ho.out,hcv.out,(by have:=HP.out;omega),lMg hp.out,hf.out.symm⟩)
          go_wp2
          go_roundg (gk - 1)
          case measure=>exact hj1.out.2
          case rel=>
           refine⟨V2.set f.toNat true,true,j+1,rfl,by go_num,lHd hj1.out.1,hA2.set_ _ _,HV2.out.set_ hz.out f0 (by omega),lHd (fun _=>?_),lHd (fun h=>by cases h),bch⟩
           cases c2' with
           | true=>have h2:=ht2.out (by simp);have h3:=zJ0 (bs:=V2) (i:=f.toNat);omega
           | false=>have h2:=hf2.out (by simp);have h3:=xWn h2.2.2.1;omega
         | false=>
          go_wp2
          go_roundg (gk - 1)
          case measure=>exact hj1.out.2
          case rel=>
           exact⟨V2,c2',j+1,rfl,by go_num,lHd hj1.out.1,hA2,HV2.out,ht2,lHd (fun h=>⟨(hf2.out h).1,(hf2.out h).2.1,(hf2.out h).2.2.1,xJh (P:=fun p:Int=>V2[p.toNat]? = some false) hp.out (hf2.out h).2.2.2 hy2.out⟩),bch⟩
        ·go_wp2
         go_roundg (g4 - 1)
         case measure=>exact hk1.out.2
         case rel=>
          refine⟨V2,c2',k+1,rfl,by go_num,lHd hk1.out.1,hA2,hV2,ht2,lHd (fun h=>⟨(hf2.out h).1,xXr (hf2.out h).2.1 (fun p q hE hp=>?_)⟩),bch⟩;obtain⟨o',c',ho',_,_,hpm,_⟩:=hE;rw[ho.out] at ho';injection ho' with ho';subst ho'
          have h3:=xJy hlj (hf2.out h).2.2.2 p hpm;rw[h3] at hp;cases hp
    ·have hkk:=lHd (show k=t.ops.length by have:=hk.out;omega);go_wp2
     go_roundg (2 * xJu V1+c1.toNat)
     case measure=>
      rw[hgk.out]
      cases c1 with
      | true=>have:=ht1.out rfl;simp;omega
      | false=>have:=(hf1.out rfl).1;simp;omega
     case rel=>exact⟨V1,c1,rfl,lHd rfl,hA1,hV1,lHd (fun h=>by rw[<- hkk.out];exact (hf1.out h).2),bch⟩
theorem BArr.made_set(w:World)(n i:Nat)(b:Bool):BArr (w.alloc (.cells ((Array.replicate n (Value.bool false)).setIfInBounds i (.bool b)) 4)) w.heap.size ((List.replicate n false).set i b):=by
 have h:=Arr.new w 4 (((List.replicate n false).set i b).map Value.bool);unfold BArr;rw[List.map_set,List.map_replicate] at h ⊢;rw[<- List.toArray_replicate,List.setIfInBounds_toArray];exact h
theorem zY8(w:World)(b:Nat)(n:Nat)(t:TaskV)(Ai Ag Ao S C Q:Option Addr)(ci cg co cs cc cq:Nat)(st left W:List Int)(hX:SBox w b n t Ai Ag Ao S C Q ci cg co cs cc cq st left W)(Zp:Option Addr)(cz:Nat)(Z:List Bool)(hZ:Bools w Zp Z)(hzl:Z.length=n+1) :
  Calls Tryz.prog 181 #[.pointer (some ⟨b,0,none⟩),.slice Zp (n+1) cz] w fun e w'=>∃ g,e=.returned (.slice (some ⟨g,0,none⟩) (n+1) (n+1))/\w.heap.size<=g/\BArr w' g (vYj n W t.ops st Z)/\Below w.heap.size w w':=by
 have hmk:=zW4 n hX.n9;have hn9:=hX.n9;have hlo:=hX.mem.lops.le;have hls:=hX.ls.le;have HST:=lHd hX.st_;have hS:=hX.is;have HZL:=lHd hzl;clear hzl;have HX:=lHd hX;obtain⟨k0,k1,k2,k3,k4,k5,k6⟩:=SBox.cells (HX.out);have kb:=World.block_lt_of_cell? _ _ k0;clear hX;have hA0:=BArr.made w (n+1) _ rfl;obtain⟨y,hy,hd,hf⟩:=hA0.cell (i:=n) (by simp);go_enter Tryz.func181,Tryz.ntmps181
 go_wp2_with fail
 go_loopg [32] (st.length) (fun gk i wr=>∃ k:Nat,Hid (k+gk=st.length)/\i=.int .i64 k/\BArr wr w.heap.size (xV3 (n+1) ((n:Int) :: st.take k))/\Below w.heap.size w wr)
 case atStart=>
  refine⟨0,lHd (by omega),rfl,?_,bch⟩;rw[List.take_zero,zQ2];exact BArr.made_set w (n+1) n true
 case round=>
  obtain⟨k,hk,rfl,hA,hBq⟩:=hrel;have dqs:=hBq.size
  by_cases hlt:k < st.length
  ·obtain⟨sd,x,rfl,hx,hc⟩:=(hS.below hBq).at_ hlt;obtain⟨x0,x1⟩:=HST.out x (lMg hx.out);have hlen:=xKp (n+1) ((n:Int) :: st.take k);obtain⟨y1,hy1,hd1,hf1⟩:=hA.cell (i:=x.toNat) (by omega);have hk1:=lHd (show k+1+(gk - 1)=st.length/\gk - 1 < gk by have:=hk.out;omega);go_wp2
   go_roundg (gk - 1)
   case measure=>exact hk1.out.2
   case rel=>
    refine⟨k+1,lHd hk1.out.1,by go_num,?_,bch⟩;rw[zY7 hx.out];exact hA.set_ _ _
  ·rw[List.take_of_length_le (by omega)] at hA;obtain⟨w2,rfl⟩:∃ wo:World,wo=wr:=⟨_,rfl⟩;clear k0 k1 k2 k3 k4 k5 k6 kb;obtain⟨k0,k1,k2,k3,k4,k5,k6⟩:=SBox.cells (HX.out.below hBq);have kb:=World.block_lt_of_cell? _ _ k0
   go_wp2_with fail
   go_loopg [8] (2 * xJu (xV3 (n+1) ((n:Int) :: st))+1) (fun gk ch wr=>∃ (V:List Bool) (c:Bool),ch=.bool c/\Hid (gk=2 * xJu V+c.toNat)/\BArr wr w.heap.size V/\SoundG (n+1) (BS n st) (BE n W t.ops Z) V/\Hid (c=false->xZa (BE n W t.ops Z) t.ops.length V)/\Below w.heap.size w wr)
   case atStart=>exact⟨_,true,rfl,lHd rfl,hA,zW5 HST.out,lHd (fun h=>by cases h),bch⟩
   case round=>
    obtain⟨V0,c,rfl,hgk,hA0,hV0,hcl,hBp⟩:=hrel;obtain⟨g3,rfl⟩:∃ g:Nat,g=gk:=⟨_,rfl⟩;obtain⟨w3,rfl⟩:∃ wo:World,wo=wr:=⟨_,rfl⟩
    cases c with
    | false=>
     have e:=hV0.eq (hcl.out rfl) (fun i p q h=>by obtain⟨o,ho,_⟩:=h;exact (List.getElem?_eq_some_iff.1 ho).1);rw[e] at hA0;clear e hV0 hcl;go_wp2;go_ret;exact⟨_,rfl,by omega,hA0,hBp⟩
    | true=>
     clear k0 k1 k2 k3 k4 k5 k6 kb;obtain⟨k0,k1,k2,k3,k4,k5,k6⟩:=SBox.cells (HX.out.below hBp);have kb:=World.block_lt_of_cell? _ _ k0
     go_wp2_with fail
     go_loopg [8,47] (t.ops.length) (fun gk ch i wr=>∃ (V:List Bool) (c:Bool) (k:Nat),ch=.bool c/\i=.int .i64 k/\Hid (k+gk=t.ops.length)/\BArr wr w.heap.size V/\SoundG (n+1) (BS n st) (BE n W t.ops Z) V/\Hid (c=true->xJu V < xJu V0)/\Hid (c=false->xJu V<=xJu V0/\xZa (BE n W t.ops Z) k V)/\Below w.heap.size w wr)
     case atStart=>exact⟨V0,false,0,rfl,rfl,lHd (by omega),hA0,hV0,lHd (fun h=>by cases h),lHd (fun _=>⟨Nat.le_refl _,xY3⟩),bch⟩
     case round=>
      obtain⟨V1,c1,k,rfl,rfl,hk,hA1,hV1,ht1,hf1,hBs⟩:=hrel;obtain⟨g4,rfl⟩:∃ g:Nat,g=gk:=⟨_,rfl⟩;obtain⟨w4,rfl⟩:∃ wo:World,wo=wr:=⟨_,rfl⟩;clear k0 k1 k2 k3 k4 k5 k6 kb;obtain⟨k0,k1,k2,k3,k4,k5,k6⟩:=SBox.cells (HX.out.below hBs);have kb:=World.block_lt_of_cell? _ _ k0
      by_cases hlt:k < t.ops.length
      ·obtain⟨ad,o,A0,c0,A1,c1',A2,c2,rfl,ho,hc0,hc1,hc2,hc3,hm⟩:=HX.out.mem.ops.at2 hBs hlt;have hoo:=lHd (HX.out.ops_ o (lMg ho.out));have hk1:=lHd (show k+1+(g4 - 1)=t.ops.length/\g4 - 1 < g4 by have:=hk.out;omega);obtain⟨f,hf⟩:∃ f,Hid (xX6 W n o.pre=f):=⟨_,lHd rfl⟩;obtain⟨f0,f1⟩:=xQg (vs:=W) (n:=(n:Int)) (by omega) hoo.out.1;rw[hf.out] at f0 f1;have HL1:=lHd hV1.len
       go_wp2_with fail
       refine (xWz (HX.out.below bch) _ _ _ (hm.pre.below bch) hm.lpre hoo.out.1 f hf.out).mono ?_;rintro e w6 ⟨rfl,hB6⟩;have D6:=xJ3 w hB6 bch;have C6:=Cls.below (l:=[(w4.heap.size,0,.slice A0 o.pre.length c0),(w4.heap.size,1,.slice A1 o.add.length c1'),(w4.heap.size,2,.slice A2 o.del.length c2),(w4.heap.size,3,.int .i64 o.cost)]) hB6 (by simp[Cls,go_sem]);have F6:=C6;simp only[Cls,and_true] at F6;have y6w40:w4.heap.size < w6.heap.size:=C6.blk (b:=w4.heap.size) (k:=0) (v:=.slice A0 o.pre.length c0) (by simp);have E6:=xJ3 w4 hB6 bch;clear k0 k1 k2 k3 k4 k5 k6 kb;obtain⟨k0,k1,k2,k3,k4,k5,k6⟩:=SBox.cells (HX.out.below D6);have kb:=World.block_lt_of_cell? _ _ k0;have hA6:=hA1.below E6;obtain⟨yf,hyf,hyc,hyw⟩:=hA6.cell (i:=f.toNat) (by have:=HL1.out;omega)
       cases yf with
       | false=>
        go_wp2
        go_roundg (g4 - 1)
        case measure=>exact hk1.out.2
        case rel=>
         refine⟨V1,c1,k+1,rfl,by go_num,lHd hk1.out.1,hA6,hV1,ht1,lHd (fun h=>⟨(hf1.out h).1,xXr (hf1.out h).2 (fun p q hE hp=>by obtain⟨o',ho',e,_⟩:=hE;rw[ho.out] at ho';injection ho' with ho';subst ho';rw[e,hf.out,hyf.out] at hp;cases hp)⟩),bch⟩
       | true=>
        have hlc':=hm.ladd.le;have hfr:=lHd (show GR (BS n st) (BE n W t.ops Z) f from by
         have h3:=hV1.sound _ hyf.out
         rwa [Int.toNat_of_nonneg f0] at h3)
        go_wp2_with fail
        go_loopg [8,62] (o.add.length) (fun gk ch i wr=>∃ (V:List Bool) (c:Bool) (j:Nat),ch=.bool c/\i=.int .i64 j/\Hid (j+gk=o.add.length)/\BArr wr w.heap.size V/\SoundG (n+1) (BS n st) (BE n W t.ops Z) V/\Hid (c=true->xJu V < xJu V0)/\Hid (c=false->xJu V<=xJu V0/\xZa (BE n W t.ops Z) k V/\∀ p∈o.add.take j,V[p.toNat]? = some true\/Z[p.toNat]? = some true)/\Below w.heap.size w wr)
        case atStart=>exact⟨V1,c1,0,rfl,rfl,lHd (by omega),hA6,hV1,ht1,lHd (fun h=>⟨(hf1.out h).1,(hf1.out h).2,by simp⟩),bch⟩
        case round=>
         obtain⟨V2,c2',j,rfl,rfl,hj,hA2,hV2,ht2,hf2,hBu⟩:=hrel;obtain⟨w8,rfl⟩:∃ wo:World,wo=wr:=⟨_,rfl⟩
         by_cases hlj:j < o.add.length
         ·obtain⟨pd,p,rfl,hp,hpc⟩:=(hm.add.below hBu).at_ hlj;obtain⟨p0,p1⟩:=hoo.out.2 p (lMg hp.out);have hl2:=hV2.len;obtain⟨y2,hy2,hyc2,hyw2⟩:=hA2.cell (i:=p.toNat) (by omega);obtain⟨zd,z2,rfl,hz2,hzc2⟩:=(hZ.below hBu).at_ (k:=p.toNat) (by have:=HZL.out;omega);have hj1:=lHd (show j+1+(gk - 1)=o.add.length/\gk - 1 < gk by have:=hj.out;omega);have HV2:=lHd hV2;clear hV2 hl2
          cases y2 with
          | true=>
           go_wp2
           go_roundg (gk - 1)
           case measure=>exact hj1.out.2
           case rel=>
            exact⟨V2,c2',j+1,rfl,by go_num,lHd hj1.out.1,hA2,HV2.out,ht2,lHd (fun h=>⟨(hf2.out h).1,(hf2.out h).2.1,xJh (P:=fun p:Int=>V2[p.toNat]? = some true\/Z[p.toNat]? = some true) hp.out (hf2.out h).2.2 (.inl hy2.out)⟩),bch⟩
          | false=>
           cases z2 with
           | true=>
            go_wp2
            go_roundg (gk - 1)
            case measure=>exact hj1.out.2
            case rel=>
             exact⟨V2,c2',j+1,rfl,by go_num,lHd hj1.out.1,hA2,HV2.out,ht2,lHd (fun h=>⟨(hf2.out h).1,(hf2.out h).2.1,xJh (P:=fun p:Int=>V2[p.toNat]? = some true\/Z[p.toNat]? = some true) hp.out (hf2.out h).2.2 (.inr hz2.out)⟩),bch⟩
           | false=>
            have hz:=lHd (show GR (BS n st) (BE n W t.ops Z) p from .step hfr.out ⟨o,ho.out,hf.out.symm,lMg hp.out,hz2.out⟩);go_wp2
            go_roundg (gk - 1)
            case measure=>exact hj1.out.2
            case rel=>
             refine⟨V2.set p.toNat true,true,j+1,rfl,by go_num,lHd hj1.out.1,hA2.set_ _ _,HV2.out.set_ hz.out p0 (by omega),lHd (fun _=>?_),lHd (fun h=>by cases h),bch⟩;have h3:=xWn hy2.out
             cases c2' with
             | true=>have h2:=ht2.out (by simp);omega
             | false=>have h2:=hf2.out (by simp);omega
         ·go_wp2
          go_roundg (g4 - 1)
          case measure=>exact hk1.out.2
          case rel=>
           refine⟨V2,c2',k+1,rfl,by go_num,lHd hk1.out.1,hA2,hV2,ht2,lHd (fun h=>⟨(hf2.out h).1,xXr (hf2.out h).2.1 (fun p q hE hp=>?_)⟩),bch⟩;obtain⟨o',ho',_,hpm,hzf⟩:=hE;rw[ho.out] at ho';injection ho' with ho';subst ho'
           rcases xJy hlj (hf2.out h).2.2 q hpm with h3 | h3
           ·exact h3
           ·rw[h3] at hzf;cases hzf
      ·have hkk:=lHd (show k=t.ops.length by have:=hk.out;omega);go_wp2
       go_roundg (2 * xJu V1+c1.toNat)
       case measure=>
        rw[hgk.out]
        cases c1 with
        | true=>have:=ht1.out rfl;simp;omega
        | false=>have:=(hf1.out rfl).1;simp;omega
       case rel=>exact⟨V1,c1,rfl,lHd rfl,hA1,hV1,lHd (fun h=>by rw[<- hkk.out];exact (hf1.out h).2),bch⟩
theorem zQz{n:Nat}{start:Int->Prop}{E:Nat->Int->Int->Prop}{Z:List Bool}(h:grV (n+1) start E=Z):Z.length=n+1:=by rw[<- h,zZy]
theorem OwnI.drew'{base:Nat}{w:World}{v:Value}{xs:List Int}(h:OwnI base w v xs):OwnI base w.drew v xs:=h.below (xKh (Below.refl _ _))
theorem zY9{n:Nat}{W left:List Int}{ops:List OpV}{Z B:List Bool}:xZp left (xXs n W ops Z B 0)=1000000000:=rfl
theorem zV0{n k:Nat}{W:List Int}{ops:List OpV}{Z B:List Bool}{o:OpV}{f:Int}(ho:ops[k]? = some o)(hf:xX6 W n o.pre=f)(h:B[f.toNat]? = some false\/∀ p∈o.add,Z[p.toNat]? = some false):xXs n W ops Z B (k+1)=xXs n W ops Z B k:=by
 refine vZ5 ?_;rintro ⟨o',ho',hb,p,hp,hz⟩;rw[ho] at ho';injection ho' with ho';subst ho'
 rw[hf] at hb;rcases h with h | h
 ·rw[h] at hb;cases hb
 ·rw[h p hp] at hz;cases hz
theorem vZ8{n k:Nat}{W:List Int}{ops:List OpV}{Z B:List Bool}{o:OpV}{f p:Int}(ho:ops[k]? = some o)(hf:xX6 W n o.pre=f)(hb:B[f.toNat]? = some true)(hp:p∈o.add)(hz:Z[p.toNat]? = some true):xXs n W ops Z B k ++ [(k:Int)]=xXs n W ops Z B (k+1):=by
 refine (zKy ⟨o,ho,?_,p,hp,hz⟩).symm;rw[hf];exact hb
theorem vVb(w:World)(b:Nat)(n:Nat)(t:TaskV)(Ai Ag Ao S C Q:Option Addr)(ci cg co cs cc cq:Nat)(st left W:List Int)(hX:SBox w b n t Ai Ag Ao S C Q ci cg co cs cc cq st left W)(h40:t.ops.length<=100000000) :
  Calls Tryz.prog 176 #[.pointer (some ⟨b,0,none⟩)] w fun e w'=>∃ v,e=.returned (.agg #[v,.int .i64 (xZp left (vXl n W t.ops (xQw n W t.ops left t.goal) (vYj n W t.ops st (xQw n W t.ops left t.goal))))])/\OwnI w.heap.size w' v (vXl n W t.ops (xQw n W t.ops left t.goal) (vYj n W t.ops st (xQw n W t.ops left t.goal)))/\Below w.heap.size w w':=by
 have hn9:=hX.n9;have HX:=lHd hX;obtain⟨Z,hZe⟩:∃ Z,Hid (xQw n W t.ops left t.goal=Z):=⟨_,lHd rfl⟩;obtain⟨Bf,hBe⟩:∃ Bf,Hid (vYj n W t.ops st Z=Bf):=⟨_,lHd rfl⟩;have HZL:=lHd (zQz hZe.out);have HBL:=lHd (zQz hBe.out);obtain⟨k0,k1,k2,k3,k4,k5,k6⟩:=SBox.cells (HX.out);have kb:=World.block_lt_of_cell? _ _ k0;clear hX;go_enter Tryz.func176,Tryz.ntmps176
 go_wp2_with fail
 refine (vZ7 _ b n t Ai Ag Ao S C Q ci cg co cs cc cq st left W (HX.out.below bch)).mono ?_;rintro e w1 ⟨g1,rfl,hg1,hA1,hB1⟩;have D1:=xJ3 w hB1 bch;have C1:=Cls.below (l:=[(w.heap.size,0,.slice none 0 0),(w.heap.size,1,.int .i64 0)]) hB1 (by simp[Cls,go_sem]);have F1:=C1;simp only[Cls,and_true] at F1;have y1w0:w.heap.size < w1.heap.size:=C1.blk (b:=w.heap.size) (k:=0) (v:=.slice none 0 0) (by simp);rw[hZe.out] at hA1;clear k0 k1 k2 k3 k4 k5 k6 kb;obtain⟨k0,k1,k2,k3,k4,k5,k6⟩:=SBox.cells (HX.out.below bch);have kb:=World.block_lt_of_cell? _ _ k0
 go_wp2_with fail
 refine (zY8 _ b n t Ai Ag Ao S C Q ci cg co cs cc cq st left W (HX.out.below bch) _ _ Z hA1.bools HZL.out).mono ?_;rintro e w2 ⟨g2,rfl,hg2,hA2,hB2⟩;have D2:=xJ3 w hB2 bch;have d2s:=D2.size;have C2:=Cls.below (l:=[(w.heap.size,0,.slice none 0 0),(w.heap.size,1,.int .i64 0)]) hB2 (by simp[Cls,go_sem,F1,y1w0]);have F2:=C2;simp only[Cls,and_true] at F2;have y2w0:w.heap.size < w2.heap.size:=C2.blk (b:=w.heap.size) (k:=0) (v:=.slice none 0 0) (by simp);have y2wp1:w.heap.size < w2.heap.size+1:=(by omega);rw[hBe.out] at hA2;have hA1':=hA1.below bch;clear k0 k1 k2 k3 k4 k5 k6 kb;obtain⟨k0,k1,k2,k3,k4,k5,k6⟩:=SBox.cells (HX.out.below bch);have kb:=World.block_lt_of_cell? _ _ k0
 go_wp2_with fail
 go_loopg [22] (t.ops.length) (fun gk i wr=>∃ (k:Nat) (v:Value),i=.int .i64 k/\Hid (k+gk=t.ops.length)/\OwnI (w2.heap.size+1) wr v (xXs n W t.ops Z Bf k)/\Below w2.heap.size w2 wr/\Cls wr [(w.heap.size,0,.slice none 0 0),(w.heap.size,1,.int .i64 0),(w2.heap.size,0,v),(w2.heap.size,1,.int .i64 (xZp left (xXs n W t.ops Z Bf k)))])
 case atStart=>
  refine⟨0,.slice none 0 0,rfl,lHd (by omega),OwnI.nil _ _,?_⟩;rw[zY9];exact⟨bch,(by simp[Cls,go_sem,F2,y2w0,y2wp1])⟩
 case round=>
  obtain⟨k,v,rfl,hk,hown,hBs,hCs⟩:=hrel;obtain⟨g4,rfl⟩:∃ g:Nat,g=gk:=⟨_,rfl⟩;obtain⟨w4,rfl⟩:∃ wo:World,wo=wr:=⟨_,rfl⟩;obtain⟨mk,hmk⟩:∃ mk,Hid (xZp left (xXs n W t.ops Z Bf k)=mk):=⟨_,lHd rfl⟩;rw[hmk.out] at hCs;have DW:=D2.trans (hBs.mono D2.size);clear k0 k1 k2 k3 k4 k5 k6 kb;obtain⟨k0,k1,k2,k3,k4,k5,k6⟩:=SBox.cells (HX.out.below DW);have kb:=World.block_lt_of_cell? _ _ k0;have Fs:=hCs;simp only[Cls,and_true] at Fs;have ysw0:w.heap.size < w4.heap.size:=hCs.blk (b:=w.heap.size) (k:=0) (v:=.slice none 0 0) (by simp);have ysw20:w2.heap.size < w4.heap.size:=hCs.blk (b:=w2.heap.size) (k:=0) (v:=v) (by simp)
  by_cases hlt:k < t.ops.length
  ·obtain⟨ad,o,A0,c0,A1,c1',A2,c2,rfl,ho,hc0,hc1,hc2,hc3,hm⟩:=HX.out.mem.ops.at2 DW hlt;have hoo:=lHd (HX.out.ops_ o (lMg ho.out));have hk1:=lHd (show k+1+(g4 - 1)=t.ops.length/\g4 - 1 < g4 by have:=hk.out;omega);obtain⟨f,hf⟩:∃ f,Hid (xX6 W n o.pre=f):=⟨_,lHd rfl⟩;obtain⟨f0,f1⟩:=xQg (vs:=W) (n:=(n:Int)) (by omega) hoo.out.1;rw[hf.out] at f0 f1;have hlk:k < left.length:=by have:=HX.out.lc;omega
   obtain⟨cd,cv,rfl,hcv,hcc0⟩:=HX.out.ic.at_ hlk;have hcbl:=World.block_lt_of_cell? w _ hcc0
   go_wp2_with fail
   refine (xWz (HX.out.below bch) _ _ _ (hm.pre.below bch) hm.lpre hoo.out.1 f hf.out).mono ?_;rintro e w6 ⟨rfl,hB6⟩;have D6:=xJ3 w2 hB6 bch;have d6s:=D6.size;have C6:=Cls.below (l:=[(w.heap.size,0,.slice none 0 0),(w.heap.size,1,.int .i64 0),(w2.heap.size,0,v),(w2.heap.size,1,.int .i64 mk),(w4.heap.size,0,.slice A0 o.pre.length c0),(w4.heap.size,1,.slice A1 o.add.length c1'),(w4.heap.size,2,.slice A2 o.del.length c2),(w4.heap.size,3,.int .i64 o.cost)]) hB6 (by simp[Cls,go_sem,Fs,ysw0,ysw20]);have F6:=C6;simp only[Cls,and_true] at F6;have y6w0:w.heap.size < w6.heap.size:=C6.blk (b:=w.heap.size) (k:=0) (v:=.slice none 0 0) (by simp);have y6w20:w2.heap.size < w6.heap.size:=C6.blk (b:=w2.heap.size) (k:=0) (v:=v) (by simp);have y6w40:w4.heap.size < w6.heap.size:=C6.blk (b:=w4.heap.size) (k:=0) (v:=.slice A0 o.pre.length c0) (by simp);have E6:=xJ3 w4 hB6 bch;clear k0 k1 k2 k3 k4 k5 k6 kb;obtain⟨k0,k1,k2,k3,k4,k5,k6⟩:=SBox.cells (HX.out.below (DW.trans (E6.mono DW.size)));have kb:=World.block_lt_of_cell? _ _ k0;have hown6:=hown.below E6;have hA16:=hA1'.below D6;have hA26:=hA2.below D6;obtain⟨yf,hyf,hyc,hyw⟩:=hA26.cell (i:=f.toNat) (by have:=HBL.out;omega)
   cases yf with
   | false=>
    have HS:=lHd (zV0 (Z:=Z) ho.out hf.out (.inl hyf.out));go_wp2
    go_roundg (g4 - 1)
    case measure=>exact hk1.out.2
    case rel=>
     refine⟨k+1,v,by go_num,lHd hk1.out.1,?_,?_⟩
     ·rw[HS.out];exact hown6
     ·rw[HS.out,hmk.out];exact⟨bch,(by simp[Cls,go_sem,F6,y6w0,y6w20,y6w40])⟩
   | true=>
    have hlc':=hm.ladd.le;have hadd6:=hm.add.below (DW.trans (E6.mono DW.size))
    go_wp2_with fail
    go_loop [38] (fun i=>∃ j:Nat,j<=o.add.length/\i=.int .i64 j/\Hid (∀ p∈o.add.take j,Z[p.toNat]? = some false)) (fun i=>o.add.length - (intOf i).toNat)
    case atStart=>exact⟨0,Nat.zero_le _,rfl,lHd (by simp)⟩
    case round=>
     obtain⟨j,hj,rfl,hno⟩:=hrel
     by_cases hlj:j < o.add.length
     ·obtain⟨pd,p,rfl,hp,hpc⟩:=hadd6.at_ hlj;obtain⟨p0,p1⟩:=hoo.out.2 p (lMg hp.out);obtain⟨z2,hz2,hzc2,hzw2⟩:=hA16.cell (i:=p.toNat) (by have:=HZL.out;omega)
      cases z2 with
      | false=>
       go_wp2
       go_round
       case rel=>exact⟨j+1,by omega,by go_num,lHd (xJh (P:=fun p:Int=>Z[p.toNat]? = some false) hp.out hno.out hz2.out)⟩
       case measure=>simp[intOf];omega
      | true=>
       have HT:=lHd (vZ8 ho.out hf.out hyf.out (lMg hp.out) hz2.out);have HM:=lHd (show min mk cv=xZp left (xXs n W t.ops Z Bf (k+1)) by rw[<- HT.out,zY3 (by simpa using hcv.out),hmk.out]);have hlen:(xXs n W t.ops Z Bf k).length < 1000000000000:=by have:=zKz (n:=n) (W:=W) (ops:=t.ops) (Z:=Z) (B:=Bf) k;omega
       obtain⟨mn,hmn⟩:∃ mn,Hid (min mk cv=mn):=⟨_,lHd rfl⟩
       go_wp2_with (at_builtin;go_must (refine xXl rfl (.tmp 47) (.tmp 49) rfl w2 [(w.heap.size,0,.slice none 0 0),(w.heap.size,1,.int .i64 0),(w2.heap.size,0,v),(w2.heap.size,1,.int .i64 mk)] (w2.heap.size+1) v _ ((k:Int)) rfl (OwnI.below hown6 ?p1) ⟨w6.heap.size,0,none⟩ 1 rfl ?p2 hlen ?p3 ?p4 ?p5 ?p6 ?p7 ?_;(case p1=>exact bch);(case p2=>simp[Cls,go_sem,F6,y6w0,y6w20,y6w40]);(case p3=>(first | omega | (simp <;> omega)));(case p4=>(first | omega | (simp <;> omega)));(case p5=>exact bch);(case p6=>simp[Cls,go_sem,F6,y6w0,y6w20,y6w40]);(case p7=>(simp <;> omega));intro v7 w7 o7 D7 C7 sz7;have d7s:=D7.size;have F7:=C7;simp only[Cls,and_true] at F7;have y7w0:w.heap.size < w7.heap.size:=C7.blk (b:=w.heap.size) (k:=0) (v:=.slice none 0 0) (by simp);have y7wp1:w.heap.size < w7.heap.size+1:=(by omega);have y7wp2:w.heap.size < w7.heap.size+1+1:=(by omega);have y7w20:w2.heap.size < w7.heap.size:=C7.blk (b:=w2.heap.size) (k:=0) (v:=v) (by simp);have y7w2p1:w2.heap.size < w7.heap.size+1:=(by omega);have y7w2p2:w2.heap.size < w7.heap.size+1+1:=(by omega);obtain⟨n7,hn7⟩:∃ n7:Nat,Hid ((xXs n W t.ops Z Bf k ++ [(k:Int)]).length=n7):=⟨_,lHd rfl⟩;obtain⟨A7,c7,e7,-⟩:=o7.form_at hn7.out;subst e7;have DZ:Below w.heap.size w (w7.setCell ⟨w2.heap.size,0,none⟩ (.slice A7 n7 c7)):=(by repeat (first | with_reducible exact (D2.trans (D7.mono D2.size)) | with_reducible apply xKh | with_reducible apply xYd | with_reducible apply xVf | ((with_reducible refine vKu ?_ ?_ _);rotate_left;(first | omega | (simp <;> omega)))));clear k0 k1 k2 k3 k4 k5 k6 kb;obtain⟨k0,k1,k2,k3,k4,k5,k6⟩:=SBox.cells (HX.out.below DZ);have hccZ:=(DZ.cell hcbl).trans hcc0))
       refine xJa 11 (by kernel_rfl) (by kernel_rfl) ?_;simp only[List.take_succ_cons,List.take_zero,List.drop_succ_cons,List.drop_zero]
       repeat still_step
       refine wpStill_nil ?_;go_wp2
       all_goals
        go_roundg (g4 - 1)
        case measure=>exact hk1.out.2
        case rel=>
         refine⟨k+1,.slice A7 n7 c7,by go_num,lHd hk1.out.1,?_,?_⟩
         ·rw[<- HT.out]
          repeat (first | with_reducible exact o7 | (with_reducible refine OwnI.far ?_ ?_ _;rotate_left;(first | omega | (simp <;> omega))) | with_reducible refine OwnI.drew' ?_)
         ·first | rw[show xZp left (xXs n W t.ops Z Bf (k+1))=mk by rw[<- HM.out];omega] | rw[show xZp left (xXs n W t.ops Z Bf (k+1))=cv by rw[<- HM.out];omega]
          exact⟨bch,(by simp[Cls,go_sem,F7,y7w0,y7wp1,y7wp2,y7w20,y7w2p1,y7w2p2])⟩
     ·have HF:=lHd (xJy hlj hno.out);have HS:=lHd (zV0 (B:=Bf) ho.out hf.out (.inr HF.out));go_wp2
      go_roundg (g4 - 1)
      case measure=>exact hk1.out.2
      case rel=>
       refine⟨k+1,v,by go_num,lHd hk1.out.1,?_,?_⟩
       ·rw[HS.out];exact hown6
       ·rw[HS.out,hmk.out];exact⟨bch,(by simp[Cls,go_sem,F6,y6w0,y6w20,y6w40])⟩
  ·have hkk:=lHd (show xXs n W t.ops Z Bf k=vXl n W t.ops Z Bf by unfold vXl;rw[show k=t.ops.length by have:=hk.out;omega]);rw[hkk.out] at hown;have hmk2:=lHd (show xZp left (vXl n W t.ops Z Bf)=mk by rw[<- hmk.out,hkk.out]);obtain⟨A5,c5,rfl,-⟩:=hown.form_at rfl;go_wp2;refine bodyPost_ret (v:=.agg #[.slice A5 (vXl n W t.ops Z Bf).length c5,.int .i64 mk]) ?_ rfl ⟨_,by rw[hZe.out,hBe.out,hmk2.out],?_,bch⟩
   ·simp[results,Tryz.results176,go_sem,Fs,ysw0,ysw20]
   ·rw[hZe.out,hBe.out];refine OwnI.mono (base:=w2.heap.size+1) ?_ (by omega)
    repeat (first | with_reducible exact hown | (with_reducible refine OwnI.far ?_ ?_ _;rotate_left;(first | omega | (simp <;> omega))) | with_reducible refine OwnI.drew' ?_)
end
section
inductive Arc(o:OpV)(p q:Int):List Int->Prop
 | both:p∈o.add->q∈o.add->Arc o p q o.pre
 | left {l:List Int}:p∈o.add->q∉o.add->q∉o.del->(∀ x,x∈l↔x=q\/x∈o.pre)->Arc o p q l
 | right {l:List Int}:q∈o.add->p∉o.add->p∉o.del->(∀ x,x∈l↔x=p\/x∈o.pre)->Arc o p q l
theorem Arc.symm{o:OpV}{p q:Int}{l:List Int}(h:Arc o p q l):Arc o q p l:=by
 cases h with
 | both h1 h2=>exact .both h2 h1
 | left h1 h2 h3 h4=>exact .right h1 h2 h3 h4
 | right h1 h2 h3 h4=>exact .left h1 h2 h3 h4
def Rng(n:Nat)(p:Int):Prop:=0<=p/\p < (n:Int)
def vK0(V:Int->Int->Int)(l:List Int):Int:=l.foldl (fun o p=>l.foldl (fun o q=>max o (V p q)) o) 0
theorem vK1{f:Int->Int}:∀ (l:List Int) (o:Int),o<=l.foldl (fun o q=>max o (f q)) o/\(∀ q∈l,f q<=l.foldl (fun o q=>max o (f q)) o)/\∀ z,o<=z->(∀ q∈l,f q<=z)->l.foldl (fun o q=>max o (f q)) o<=z:=by
 intro l
 induction l with
 | nil=>intro o;exact⟨Int.le_refl _,by simp,fun z h _=>h⟩
 | cons x l ih=>
  intro o;obtain⟨h1,h2,h3⟩:=ih (max o (f x));simp only[List.foldl_cons];refine⟨by omega,fun q hq=>?_,fun z hz hx=>h3 z ?_ (fun q hq=>hx q (List.mem_cons_of_mem _ hq))⟩
  ·rcases List.mem_cons.1 hq with e | e
   ·subst e;omega
   ·exact h2 q e
  ·have:=hx x (List.mem_cons_self ..);omega
theorem zW8{V:Int->Int->Int}(m:List Int):∀ (l:List Int) (o:Int),o<=l.foldl (fun o p=>m.foldl (fun o q=>max o (V p q)) o) o/\(∀ p∈l,∀ q∈m,V p q<=l.foldl (fun o p=>m.foldl (fun o q=>max o (V p q)) o) o)/\∀ z,o<=z->(∀ p∈l,∀ q∈m,V p q<=z)->l.foldl (fun o p=>m.foldl (fun o q=>max o (V p q)) o) o<=z:=by
 intro l
 induction l with
 | nil=>intro o;exact⟨Int.le_refl _,by simp,fun z h _=>h⟩
 | cons x l ih=>
  intro o;obtain⟨k1,k2,k3⟩:=vK1 (f:=V x) m o;obtain⟨h1,h2,h3⟩:=ih (m.foldl (fun o q=>max o (V x q)) o);simp only[List.foldl_cons];refine⟨by omega,fun p hp q hq=>?_,fun z hz hx=>h3 z (k3 z hz (fun q hq=>hx x (List.mem_cons_self ..) q hq)) (fun p hp q hq=>hx p (List.mem_cons_of_mem _ hp) q hq)⟩;rcases List.mem_cons.1 hp with e | e
  ·subst e;have:=k2 q hq;omega
  ·exact h2 p e q hq
section
variable {V U:Int->Int->Int}{l m:List Int}
theorem vVc:0<=vK0 V l:=(zW8 l l 0).1
theorem vVd{z:Int}(hz:0<=z)(h:∀ p∈l,∀ q∈l,V p q<=z):vK0 V l<=z:=(zW8 l l 0).2.2 z hz h
end
def vK2(n:Nat)(ops:List OpV):Prop:=∀ o∈ops,(∀ p∈o.pre,Rng n p)/\(∀ p∈o.add,Rng n p)/\0<=o.cost/\o.cost<=100
theorem Arc.rng{n:Nat}{o:OpV}{p q:Int}{l:List Int}(h:Arc o p q l)(hpre:∀ p∈o.pre,Rng n p)(hp:Rng n p)(hq:Rng n q):∀ x∈l,Rng n x:=by
 intro x hx
 cases h with
 | both h1 h2=>exact hpre x hx
 | left h1 h2 h3 h4=>rcases (h4 x).1 hx with e | e;(rw[e];exact hq);exact hpre x e
 | right h1 h2 h3 h4=>rcases (h4 x).1 hx with e | e;(rw[e];exact hp);exact hpre x e
theorem Arc.sub{o:OpV}{p q:Int}{l:List Int}(h:Arc o p q l):∀ x∈o.pre,x∈l:=by
 intro x hx
 cases h with
 | both h1 h2=>exact hx
 | left h1 h2 h3 h4=>exact (h4 x).2 (.inr hx)
 | right h1 h2 h3 h4=>exact (h4 x).2 (.inr hx)
structure PFix(n:Nat)(st:List Int)(ops:List OpV)(V:Int->Int->Int):Prop where
 all:∀ p q,Rng n p->Rng n q->InV (V p q)
 zero:∀ p∈st,∀ q∈st,V p q=0
 closed:∀ o∈ops,∀ p q l,Rng n p->Rng n q->Arc o p q l->V p q<=xZ7 (vK0 V l) o.cost
structure PBest(n:Nat)(st:List Int)(ops:List OpV)(V:Int->Int->Int):Prop where
 fix:PFix n st ops V
 great:∀ U,PFix n st ops U->∀ p q,Rng n p->Rng n q->U p q<=V p q
section
variable {n:Nat}{st st':List Int}{ops:List OpV}{V V':Int->Int->Int}
theorem vQr{o:OpV}(h:vK2 n ops)(ho:o∈ops):InV o.cost:=by have:=h o ho;unfold InV;omega
theorem PBest.same(h:PBest n st ops V)(h':PBest n st ops V'){p q:Int}(hp:Rng n p)(hq:Rng n q):V p q=V' p q:=
 Int.le_antisymm (h'.great V h.fix p q hp hq) (h.great V' h'.fix p q hp hq)
theorem PFix.next(h:PFix n st ops V)(hops:vK2 n ops){o:OpV}(ho:o∈ops)(hpre:∀ q∈o.pre,q∈st)(hst':∀ q∈st',Rng n q/\(q∈o.add\/(q∈st/\q∉o.del))){p q:Int}(hp:p∈st')(hq:q∈st'):V p q<=o.cost:=by
 have hc:=vQr hops ho;have h0:∀ l,(∀ x∈l,x∈st)->Arc o p q l->V p q<=o.cost:=fun l hl ha=>by
  have h1:=h.closed o ho p q l (hst' p hp).1 (hst' q hq).1 ha;have h2:vK0 V l<=0:=vVd (Int.le_refl _) fun x hx y hy=>by rw[h.zero x (hl x hx) y (hl y hy)];omega
  have h3:=vVc (V:=V) (l:=l);have h4:=xWy (a:=vK0 V l) (by unfold InV;omega) hc;omega
 have hq2:=hst' q hq;have hp2:=hst' p hp
 by_cases a:p∈o.add
 ·by_cases b:q∈o.add
  ·exact h0 _ hpre (.both a b)
  ·have hqs:q∈st/\q∉o.del:=by rcases hq2.2 with e | e;(exact absurd e b);exact e
   exact h0 (q :: o.pre) (fun x hx=>by rcases List.mem_cons.1 hx with e | e;(rw[e];exact hqs.1);exact hpre x e) (.left a b hqs.2 (fun x=>List.mem_cons))
 ·have hps:p∈st/\p∉o.del:=by rcases hp2.2 with e | e;(exact absurd e a);exact e
  by_cases b:q∈o.add
  ·exact h0 (p :: o.pre) (fun x hx=>by rcases List.mem_cons.1 hx with e | e;(rw[e];exact hps.1);exact hpre x e) (.right b a hps.2 (fun x=>List.mem_cons))
  ·have hqs:q∈st:=by rcases hq2.2 with e | e;(exact absurd e b);exact e.1
   rw[h.zero p hps.1 q hqs];exact (vQr hops ho).1
end
end
structure MopV where
 pre:List (Int×Int)
 post:List (Int×Int)
 cost:Int
structure MtV where
 sizes:List Int
 init:List Int
 goal:List (Int×Int)
 ops:List MopV
def HoldsV(s:List Int)(l:List (Int×Int)):Prop:=∀ a∈l,xJ2 s a.1=a.2
def xQ0(s:List Int)(l:List (Int×Int)):List Int:=l.foldl (fun s a=>s.set a.1.toNat a.2) s
structure AsOk(sizes:List Int)(l:List (Int×Int)):Prop where
 rng:∀ a∈l,(0<=a.1/\a.1 < sizes.length)/\0<=a.2/\a.2 < xJ2 sizes a.1
 inc:l.Pairwise fun a b=>a.1 < b.1
structure StM(sizes s:List Int):Prop where
 len:s.length=sizes.length
 rng:∀ i:Nat,i < sizes.length->0<=xJ2 s (i:Int)/\xJ2 s (i:Int) < xJ2 sizes (i:Int)
structure MValid(m:MtV):Prop where
 v0:0 < m.sizes.length
 v1:m.sizes.length<=8
 sz:∀ n∈m.sizes,1<=n/\n<=6
 init:StM m.sizes m.init
 goal:AsOk m.sizes m.goal
 nops:m.ops.length<=40
 ops:∀ o∈m.ops,(AsOk m.sizes o.pre/\AsOk m.sizes o.post)/\0<=o.cost/\o.cost<=100
theorem xKw{s:List Int}{i:Nat}{x:Int}(h:i < s.length):xJ2 (s.set i x) (i:Int)=x:=by
 unfold xJ2;simp[h]
theorem xKa{s:List Int}{i j:Nat}{x:Int}(h:i≠j):xJ2 (s.set i x) (j:Int)=xJ2 s (j:Int):=by
 unfold xJ2;simp[h]
theorem xKb(s:List Int)(l:List (Int×Int)):(xQ0 s l).length=s.length:=by
 unfold xQ0
 induction l generalizing s with
 | nil=>rfl
 | cons a l ih=>rw[List.foldl_cons,ih,List.length_set]
theorem xWg(s:List Int)(a:Int×Int)(l:List (Int×Int)):xQ0 s (a :: l)=xQ0 (s.set a.1.toNat a.2) l:=rfl
theorem xQ1{s:List Int}{l:List (Int×Int)}{j:Nat}(h:∀ a∈l,0<=a.1/\a.1≠(j:Int)):xJ2 (xQ0 s l) (j:Int)=xJ2 s (j:Int):=by
 induction l generalizing s with
 | nil=>rfl
 | cons a l ih=>
  rw[xWg,ih (fun b hb=>h b (List.mem_cons_of_mem _ hb))];have:=h a (List.mem_cons_self ..);exact xKa (by omega)
theorem zJn{sizes s:List Int}{l:List (Int×Int)}(hl:s.length=sizes.length)(h:AsOk sizes l){a:Int×Int}(ha:a∈l):xJ2 (xQ0 s l) a.1=a.2:=by
 have hr:=h.rng;have hi:=h.inc;clear h
 induction l generalizing s with
 | nil=>cases ha
 | cons b l ih=>
  have hb:=hr b (List.mem_cons_self ..);obtain⟨p1,p2⟩:=List.pairwise_cons.1 hi;rw[xWg];rcases List.mem_cons.1 ha with e | e
  ·subst e;obtain⟨i,hi⟩:=Int.eq_ofNat_of_zero_le hb.1.1;rw[hi,xQ1 (fun c hc=>by have:=p1 c hc;have:=hr c (List.mem_cons_of_mem _ hc);omega)];exact xKw (by omega)
  ·exact ih (by rw[List.length_set];exact hl) e (fun c hc=>hr c (List.mem_cons_of_mem _ hc)) p2
theorem StM.next{sizes s:List Int}{l:List (Int×Int)}(hs:StM sizes s)(h:AsOk sizes l):StM sizes (xQ0 s l):=by
 refine⟨by rw[xKb];exact hs.len,fun i hi=>?_⟩
 by_cases hx:∃ a∈l,a.1=(i:Int)
 ·obtain⟨a,ha,e⟩:=hx;rw[<- e,zJn hs.len h ha];have:=h.rng a ha;exact⟨this.2.1,this.2.2⟩
 ·rw[xQ1 (fun a ha=>⟨(h.rng a ha).1.1,fun e=>hx ⟨a,ha,e⟩⟩)];exact hs.rng i hi
inductive MP(goal:List (Int×Int))(ops:List MopV):List Int->List Nat->Prop
 | nil {s:List Int}:HoldsV s goal->MP goal ops s []
 | cons {s:List Int} {p:Nat} {o:MopV} {ps:List Nat}:ops[p]? = some o->HoldsV s o.pre->MP goal ops (xQ0 s o.post) ps->MP goal ops s (p :: ps)
def zJo(ops:List MopV)(ps:List Nat):Int:=(ps.map fun (p:Nat)=>xJ2 (ops.map (·.cost)) (p:Int)).sum
theorem zYv(ops:List MopV)(p:Nat)(ps:List Nat):zJo ops (p :: ps)=xJ2 (ops.map (·.cost)) (p:Int)+zJo ops ps:=by
 unfold zJo;rw[List.map_cons,List.sum_cons]
theorem vQ6{ops:List MopV}{p:Nat}{o:MopV}(h:ops[p]? = some o):xJ2 (ops.map (·.cost)) (p:Int)=o.cost:=xJ9 (by simp[h])
def xXf(l:List (Int×Int))(vars:List Int):List (Int×Int):=l.flatMap fun a=>(List.range vars.length).filterMap fun (i:Nat)=>if xJ2 vars (i:Int)=a.1 then some ((i:Int),a.2) else none
def zX0(s vars:List Int):List Int:=vars.map (xJ2 s)
def toV(m:MtV)(vars:List Int):MtV:=⟨zX0 m.sizes vars,zX0 m.init vars,xXf m.goal vars,m.ops.map fun o=>⟨xXf o.pre vars,xXf o.post vars,o.cost⟩⟩
structure VarsOk(m:MtV)(vars:List Int):Prop where
 ne:vars≠[]
 rng:∀ v∈vars,0<=v/\v < m.sizes.length
 inc:vars.Pairwise (· < ·)
theorem xQ2{l:List (Int×Int)}{vars:List Int}{b:Int×Int}:b∈xXf l vars↔(0<=b.1/\b.1 < vars.length)/\(xJ2 vars b.1,b.2)∈l:=by
 unfold xXf;rw[List.mem_flatMap];constructor
 ·rintro ⟨a,ha,hb⟩;rw[List.mem_filterMap] at hb;obtain⟨i,hi,hb⟩:=hb;rw[List.mem_range] at hi
  split at hb
  ·rename_i e
   injection hb with hb
   subst hb;refine⟨by simp;omega,?_⟩;show (xJ2 vars (i:Int),a.2)∈l;rw[e];exact ha
  ·cases hb
 ·rintro ⟨⟨h1,h2⟩,h3⟩;refine⟨_,h3,?_⟩;rw[List.mem_filterMap];refine⟨b.1.toNat,List.mem_range.2 (by omega),?_⟩;have e:((b.1.toNat:Nat):Int)=b.1:=by omega
  rw[e,if_pos rfl]
theorem xQ3(s vars:List Int):(zX0 s vars).length=vars.length:=by unfold zX0;simp
theorem xWh{s vars:List Int}{i:Int}(h0:0<=i)(hi:i < vars.length):xJ2 (zX0 s vars) i=xJ2 s (xJ2 vars i):=by
 obtain⟨k,rfl⟩:=Int.eq_ofNat_of_zero_le h0;unfold zX0;have hk:k < vars.length:=by omega
 show ((vars.map (xJ2 s))[((k:Int)).toNat]?).getD 0=xJ2 s ((vars[((k:Int)).toNat]?).getD 0);rw[Int.toNat_natCast,List.getElem?_map,lGe hk];rfl
theorem vJ8{vars:List Int}{i:Int}(h0:0<=i)(hi:i < vars.length):xJ2 vars i∈vars:=by
 obtain⟨k,rfl⟩:=Int.eq_ofNat_of_zero_le h0;have hk:k < vars.length:=by omega
 rw[xJ9 (v:=vars[k]) (by rw[Int.toNat_natCast];exact lGe hk)];exact List.getElem_mem hk
theorem vKn{vars:List Int}(hv:vars.Pairwise (· < ·)){i j:Int}(h0:0<=i)(hij:i < j)(hj:j < vars.length):xJ2 vars i < xJ2 vars j:=by
 obtain⟨a,rfl⟩:=Int.eq_ofNat_of_zero_le h0;obtain⟨b,rfl⟩:=Int.eq_ofNat_of_zero_le (by omega:0<=j);have hb:b < vars.length:=by omega
 have ha:a < vars.length:=by omega
 rw[xJ9 (v:=vars[a]) (by rw[Int.toNat_natCast];exact lGe ha),xJ9 (v:=vars[b]) (by rw[Int.toNat_natCast];exact lGe hb)];exact List.pairwise_iff_getElem.1 hv a b ha hb (by omega)
theorem HoldsV.restr{s:List Int}{l:List (Int×Int)}{vars:List Int}(h:HoldsV s l):HoldsV (zX0 s vars) (xXf l vars):=fun b hb=>by
 obtain⟨⟨h1,h2⟩,h3⟩:=xQ2.1 hb;rw[xWh h1 h2];exact h _ h3
theorem StM.sel{m:MtV}{s vars:List Int}(hs:StM m.sizes s)(hv:VarsOk m vars):StM (zX0 m.sizes vars) (zX0 s vars):=by
 refine⟨by rw[xQ3,xQ3],fun i hi=>?_⟩;rw[xQ3] at hi;rw[xWh (by omega) (by omega),xWh (by omega) (by omega)];have hr:=hv.rng _ (vJ8 (vars:=vars) (i:=(i:Int)) (by omega) (by omega));obtain⟨k,hk⟩:=Int.eq_ofNat_of_zero_le hr.1;rw[hk] at hr ⊢;exact hs.rng k (by omega)
theorem AsOk.restr{m:MtV}{l:List (Int×Int)}{vars:List Int}(h:AsOk m.sizes l)(hv:VarsOk m vars):AsOk (zX0 m.sizes vars) (xXf l vars):=by
 refine⟨fun b hb=>?_,?_⟩
 ·obtain⟨⟨h1,h2⟩,h3⟩:=xQ2.1 hb;have:=h.rng _ h3;refine⟨⟨h1,by rw[xQ3];exact h2⟩,this.2.1,?_⟩;rw[xWh h1 h2];exact this.2.2
 ·have hi:=h.inc;have:∀ l:List (Int×Int),l.Pairwise (fun a b=>a.1 < b.1)->(xXf l vars).Pairwise (fun a b=>a.1 < b.1):=by
   intro l hl
   induction l with
   | nil=>exact List.Pairwise.nil
   | cons a l ih=>
    obtain⟨p1,p2⟩:=List.pairwise_cons.1 hl;have e:xXf (a :: l) vars=((List.range vars.length).filterMap fun (i:Nat)=>if xJ2 vars (i:Int)=a.1 then some ((i:Int),a.2) else none) ++ xXf l vars:=rfl;rw[e,List.pairwise_append];refine⟨?_,ih p2,fun x hx y hy=>?_⟩
    ·rw[List.pairwise_filterMap];refine List.Pairwise.imp ?_ (List.pairwise_lt_range);intro i j hij x hx y hy
     split at hx
     ·split at hy
      ·injection hx with hx;injection hy with hy
       rw[<- hx,<- hy];simp;omega
      ·cases hy
     ·cases hx
    ·obtain⟨⟨y1,y2⟩,y3⟩:=xQ2.1 hy;rw[List.mem_filterMap] at hx;obtain⟨i,hi,hx⟩:=hx;rw[List.mem_range] at hi
     split at hx
     ·rename_i ei
      injection hx with hx
      have h1:=p1 _ y3;rw[<- hx];show (i:Int) < y.1;apply Classical.byContradiction;intro hn;have h1':a.1 < xJ2 vars y.1:=h1;rw[<- ei] at h1';rcases Int.lt_or_eq_of_le (Int.not_lt.1 hn) with h2 | h2
      ·have:=vKn hv.inc y1 h2 (by omega);omega
      ·rw[h2] at h1';omega
     ·cases hx
  exact this l hi
theorem vQ7{m:MtV}{s vars:List Int}{l:List (Int×Int)}(hs:StM m.sizes s)(h:AsOk m.sizes l)(hv:VarsOk m vars):zX0 (xQ0 s l) vars=xQ0 (zX0 s vars) (xXf l vars):=by
 have hr:=h.restr hv;have hss:=hs.sel hv;apply List.ext_getElem?;intro i
 by_cases hi:i < vars.length
 ·have key:∀ {x y:List Int},x.length=vars.length->y.length=vars.length->xJ2 x (i:Int)=xJ2 y (i:Int)->x[i]? = y[i]?:=fun {x y} hx hy e=>by
   unfold xJ2 at e;rw[Int.toNat_natCast,lGe (by omega),lGe (by omega)] at e;rw[lGe (by omega),lGe (by omega)];exact congrArg some e
  refine key (xQ3 _ _) (by rw[xKb,xQ3]) ?_;rw[xWh (by omega) (by omega)];have hvr:=hv.rng _ (vJ8 (vars:=vars) (i:=(i:Int)) (by omega) (by omega))
  by_cases hx:∃ a∈l,a.1=xJ2 vars (i:Int)
  ·obtain⟨a,ha,e⟩:=hx;have h1:((i:Int),a.2)∈xXf l vars:=xQ2.2 ⟨by simp;omega,by rw[<- e];exact ha⟩;have h2:=zJn hss.len hr h1;rw[h2,<- e,zJn hs.len h ha]
  ·obtain⟨k,hk⟩:=Int.eq_ofNat_of_zero_le hvr.1;rw[xQ1 (j:=i) (fun b hb=>?_),xWh (by omega) (by omega),hk,xQ1 (j:=k) (fun a ha=>⟨(h.rng a ha).1.1,fun e=>hx ⟨a,ha,by rw[hk];exact e⟩⟩)];obtain⟨⟨b1,b2⟩,b3⟩:=xQ2.1 hb;exact⟨b1,fun e=>hx ⟨_,b3,by rw[e]⟩⟩
 ·rw[List.getElem?_eq_none (by rw[xQ3];omega),List.getElem?_eq_none (by rw[xKb,xQ3];omega)]
def vKo(o:MopV)(vars:List Int):Prop:=∃ a∈o.post,a.1∈vars
theorem vQ8{m:MtV}{s vars:List Int}{o:MopV}(h:AsOk m.sizes o.post)(hc:¬ vKo o vars)(hv:VarsOk m vars):zX0 (xQ0 s o.post) vars=zX0 s vars:=by
 unfold zX0;refine List.map_congr_left fun v hvm=>?_
 obtain⟨k,hk⟩:=Int.eq_ofNat_of_zero_le (hv.rng v hvm).1;rw[hk,xQ1 (fun a ha=>⟨(h.rng a ha).1.1,fun e=>hc ⟨a,ha,by rw[e,<- hk];exact hvm⟩⟩)]
structure DistOk(p:MtV)(D:List Int->Int):Prop where
 goal:∀ s,StM p.sizes s->HoldsV s p.goal->D s=0
 lo:∀ s,StM p.sizes s->0<=D s/\D s<=1000000000
 step:∀ s,StM p.sizes s->∀ o∈p.ops,HoldsV s o.pre->D (xQ0 s o.post)≠1000000000->D s<=D (xQ0 s o.post)+o.cost
 att:∀ s,StM p.sizes s->D s < 1000000000->∃ ps,MP p.goal p.ops s ps/\zJo p.ops ps=D s
theorem MP.low{p:MtV}{D:List Int->Int}(h:DistOk p D)(ho:∀ o∈p.ops,AsOk p.sizes o.post/\0<=o.cost){s:List Int}{ps:List Nat}(hp:MP p.goal p.ops s ps):StM p.sizes s->D s<=zJo p.ops ps/\0<=zJo p.ops ps:=by
 induction hp with
 | nil hg=>intro hs;rw[h.goal _ hs hg];simp[zJo]
 | @cons s p' o ps h1 h2 h3 ih=>
  intro hs;have hm:=ho o (lMg h1);have h4:=ih (hs.next hm.1);rw[zYv,vQ6 h1];refine⟨?_,by omega⟩
  by_cases e:D (xQ0 s o.post)=1000000000
  ·have:=h.lo s hs;omega
  ·have:=h.step s hs o (lMg h1) h2 e;omega
def DVal(m:MtV)(vars st:List Int)(d:Int):Prop:=∃ D,DistOk (toV m vars) D/\d=D (zX0 st vars)
theorem DVal.rng{m:MtV}{vars st:List Int}{d:Int}(hv:VarsOk m vars)(hs:StM m.sizes st)(h:DVal m vars st d):0<=d/\d<=1000000000:=by
 obtain⟨D,h1,rfl⟩:=h;exact h1.lo _ (hs.sel hv)
noncomputable def zXz(ops:List MopV)(T:MopV->Prop)(ps:List Nat):Int:=(ps.map fun (p:Nat)=>match ops[p]? with | some o=>(@ite _ (T o) (Classical.propDecidable _) o.cost 0) | none=>0).sum
theorem zYw{ops:List MopV}{T:MopV->Prop}{p:Nat}{o:MopV}{ps:List Nat}(h:ops[p]? = some o):zXz ops T (p :: ps)=(@ite _ (T o) (Classical.propDecidable _) o.cost 0)+zXz ops T ps:=by
 unfold zXz;rw[List.map_cons,List.sum_cons,h]
theorem DVal.low{m:MtV}{vars:List Int}{d:Int}(hm:MValid m)(hv:VarsOk m vars){s:List Int}{ps:List Nat}(hp:MP m.goal m.ops s ps)(hs:StM m.sizes s)(h:DVal m vars s d):d<=zXz m.ops (vKo · vars) ps:=by
 obtain⟨D,h1,rfl⟩:=h;have key:0<=zXz m.ops (vKo · vars) ps/\D (zX0 s vars)<=zXz m.ops (vKo · vars) ps:=by
  induction hp with
  | @nil s hg=>exact⟨by simp[zXz],by rw[h1.goal _ (hs.sel hv) hg.restr];simp[zXz]⟩
  | @cons s p o ps h2 h3 h4 ih=>
   have ho:=hm.ops o (lMg h2);obtain⟨i1,i2⟩:=ih (hs.next ho.1.2);rw[zYw h2]
   by_cases hc:vKo o vars
   ·rw[if_pos hc];refine⟨by omega,?_⟩;rw[vQ7 hs ho.1.2 hv] at i2
    by_cases e:D (xQ0 (zX0 s vars) (xXf o.post vars))=1000000000
    ·have:=(h1.lo _ (hs.sel hv)).2;omega
    ·have:=h1.step _ (hs.sel hv) ⟨xXf o.pre vars,xXf o.post vars,o.cost⟩ (List.mem_map.2 ⟨o,lMg h2,rfl⟩) h3.restr e;have e2:(MopV.mk (xXf o.pre vars) (xXf o.post vars) o.cost).cost=o.cost:=rfl;have e3:(MopV.mk (xXf o.pre vars) (xXf o.post vars) o.cost).post=xXf o.post vars:=rfl;rw[e2,e3] at this;omega
   ·rw[if_neg hc];rw[vQ8 ho.1.2 hc hv] at i2;exact⟨by omega,by omega⟩
 exact key.2
theorem MP.lt{goal:List (Int×Int)}{ops:List MopV}{s:List Int}{ps:List Nat}(h:MP goal ops s ps):∀ p∈ps,p < ops.length:=by
 induction h with
 | nil _=>simp
 | cons h1 _ _ ih=>
  intro p hp;rcases List.mem_cons.1 hp with e | e
  ·rw[e];exact (List.getElem?_eq_some_iff.1 h1).1
  ·exact ih p e
section
open Go.Joins Go.ChangeShapes Go.WideShapes Go.RowKit Go.Deep
def AsAt(w:World)(A:Option Addr)(l:List (Int×Int)):Prop:=
 ∀ (k:Nat) (a:Int×Int),l[k]? = some a->∃ ad,A=some ad/\w.cell? (ad.add (k * 2))=some (.int .i64 a.1)/\w.cell? ⟨(ad.add (k * 2)).block,(ad.add (k * 2)).off+1,none⟩=some (.int .i64 a.2)
theorem AsAt.nil(w:World)(A:Option Addr):AsAt w A []:=fun k a h=>by simp at h
theorem AsAt.below{w w':World}{A:Option Addr}{l:List (Int×Int)}(h:AsAt w A l)(hb:Below w.heap.size w w'):AsAt w' A l:=fun k a hk=>by
 obtain⟨ad,e,h0,h1⟩:=h k a hk;exact⟨ad,e,(hb.cell (World.block_lt_of_cell? w _ h0)).trans h0,(hb.cell (World.block_lt_of_cell? w _ h1)).trans h1⟩
theorem AsAt.at_{w:World}{A:Option Addr}{l:List (Int×Int)}{k:Nat}(h:AsAt w A l)(hk:k < l.length):∃ ad v x,A=some ad/\Hid (l[k]? = some (v,x))/\w.cell? (ad.add (k * 2))=some (.int .i64 v)/\w.cell? ⟨(ad.add (k * 2)).block,(ad.add (k * 2)).off+1,none⟩=some (.int .i64 x):=by
 obtain⟨ad,e,h0,h1⟩:=h k _ (lGe hk);exact⟨ad,l[k].1,l[k].2,e,lHd (lGe hk),h0,h1⟩
def MopsAt(w:World)(A:Option Addr)(ops:List MopV):Prop:=
 ∀ (k:Nat) (o:MopV),ops[k]? = some o->∃ ad A0 c0 A1 c1,A=some ad/\w.cell? (ad.add (k * 3))=some (.slice A0 o.pre.length c0)/\w.cell? ⟨(ad.add (k * 3)).block,(ad.add (k * 3)).off+1,none⟩=some (.slice A1 o.post.length c1) /\
  w.cell? ⟨(ad.add (k * 3)).block,(ad.add (k * 3)).off+2,none⟩=some (.int .i64 o.cost)/\(AsAt w A0 o.pre/\AsAt w A1 o.post)/\lenOk o.pre.length/\lenOk o.post.length
theorem MopsAt.below{w w':World}{A:Option Addr}{ops:List MopV}(h:MopsAt w A ops)(hb:Below w.heap.size w w'):MopsAt w' A ops:=fun k o hk=>by
 obtain⟨ad,A0,c0,A1,c1,e,h0,h1,h2,⟨h3,h4⟩,h5⟩:=h k o hk;exact⟨ad,A0,c0,A1,c1,e,(hb.cell (World.block_lt_of_cell? w _ h0)).trans h0,(hb.cell (World.block_lt_of_cell? w _ h1)).trans h1,(hb.cell (World.block_lt_of_cell? w _ h2)).trans h2,⟨h3.below hb,h4.below hb⟩,h5⟩
theorem MopsAt.at_{w:World}{A:Option Addr}{ops:List MopV}{k:Nat}(h:MopsAt w A ops)(hk:k < ops.length):∃ ad o A0 c0 A1 c1,A=some ad/\Hid (ops[k]? = some o)/\w.cell? (ad.add (k * 3))=some (.slice A0 o.pre.length c0)/\w.cell? ⟨(ad.add (k * 3)).block,(ad.add (k * 3)).off+1,none⟩=some (.slice A1 o.post.length c1) /\
  w.cell? ⟨(ad.add (k * 3)).block,(ad.add (k * 3)).off+2,none⟩=some (.int .i64 o.cost)/\(AsAt w A0 o.pre/\AsAt w A1 o.post)/\lenOk o.pre.length/\lenOk o.post.length:=by
 obtain⟨ad,A0,c0,A1,c1,r⟩:=h k _ (lGe hk);exact⟨ad,ops[k],A0,c0,A1,c1,r.1,lHd (lGe hk),r.2⟩
structure MMem(w:World)(As Ai Ag Ao:Option Addr)(m:MtV):Prop where
 sizes:Ints w As m.sizes
 init:Ints w Ai m.init
 goal:AsAt w Ag m.goal
 ops:MopsAt w Ao m.ops
 lsizes:lenOk m.sizes.length
 linit:lenOk m.init.length
 lgoal:lenOk m.goal.length
 lops:lenOk m.ops.length
theorem MMem.below{w w':World}{As Ai Ag Ao:Option Addr}{m:MtV}(h:MMem w As Ai Ag Ao m)(hb:Below w.heap.size w w'):MMem w' As Ai Ag Ao m:=
 ⟨h.sizes.below hb,h.init.below hb,h.goal.below hb,h.ops.below hb,h.lsizes,h.linit,h.lgoal,h.lops⟩
section
variable {H:Type}{enc:TypeId×Value->H}{w:World}
end
end
end Go.Proofs.YtpeipeljmapkmaaGreat
