/-
  Lemmas.
-/
import Derived.Test.YtjjjeohejhmpoaaGreatX3
import Derived.Test.YtjjjeohejhmpoaaGreatX18
set_option linter.unusedVariables false
set_option linter.unusedSimpArgs false
set_option maxRecDepth 100000
set_option maxHeartbeats 4000000
namespace Go.Proofs.YtjjjeohejhmpoaaGreat
open Go.RowKit Go.Proofs.Tryz
section
def xX4(vs:List Int)(n:Int)(b p:Int):Int:=if b=n\/xJ2 vs b<xJ2 vs p then p else b
def xXp(vs:List Int)(n:Int)(xs:List Int):Int:=xs.foldl (xX4 vs n) n
theorem vQm{vs xs:List Int}{n x:Int}{k:Nat}(h:xs[k]? = some x):xXp vs n (xs.take (k+1))=xX4 vs n (xXp vs n (xs.take k)) x:=by
 unfold xXp;rw[vXd,h];simp only[Option.toList,List.foldl_append,List.foldl_cons,List.foldl_nil]
theorem xYe{vs:List Int}{n:Int}(h0:0<=n):∀ {xs:List Int},(∀x∈xs,0<=x/\x<n)->0<=xXp vs n xs/\xXp vs n xs<=n:=by
 have key:∀(xs:List Int) (b:Int),0<=b/\b<=n->(∀x∈xs,0<=x/\x<n)->0<=xs.foldl (xX4 vs n) b/\xs.foldl (xX4 vs n) b<=n:=by
  intro xs
  induction xs with
  |nil=>intro b hb _;exact hb
  |cons x xs ih=>
   intro b hb h;refine ih _ ?_ (fun y hy=>h y (List.mem_cons_of_mem _ hy));have:=h x (vVp ..);unfold xX4
   split<;>omega
 intro xs h;exact key xs n ⟨h0,Int.le_refl _⟩ h
theorem zWw(w:World)(b n c d:Nat)(V X:Option Addr)(vs xs:List Int)(h0:w.cell? ⟨b,0,none⟩=some (.int .i64 (n:Int)))(h6:w.cell? ⟨b,6,none⟩=some (.slice V (n+1) c))(hI:Ints w V vs)(hvl:vs.length=n+1)(hn:n<=1000000000)(hJ:Ints w X xs)(hl:xs.length<=9223372036854775807)(hxs:∀x∈xs,0<=x/\x<(n:Int)) :
  Calls prog 135 #[.pointer (some ⟨b,0,none⟩),.slice X xs.length d] w fun e w'=>e=.returned (.int .i64 (xXp vs n xs))/\Below w.heap.size w w':=by
 go_enter func135,ntmps135
 go_wp2_with fail
 go_loopw [5,15] (fun v i wr=>∃k:Nat,k<=xs.length/\i=.int .i64 k/\(∃h:Int,Hid (h=xXp vs n (xs.take k))/\v=.int .i64 h)/\Below w.heap.size w wr) (fun _ i _=>xs.length-(intOf i).toNat)
 case atStart=>exact⟨0,zKk _,rfl,⟨(n:Int),lHd rfl,rfl⟩,Below.refl _ _⟩
 case round=>
  obtain⟨k,hk,rfl,⟨h,hh,rfl⟩,hBr⟩:=hrel;have hc0:=(hBr.cell (zQ2 w _ h0)).trans h0;have hc6:=(hBr.cell (zQ2 w _ h6)).trans h6
  by_cases hlt:k<xs.length
  ·obtain⟨ad,x,rfl,hx,hc⟩:=(hJ.below hBr).at_ hlt;obtain⟨x0,x1⟩:=hxs x (lMg hx.out);obtain⟨b0,b1⟩:=xYe (vs:=vs) (n:=(n:Int)) (by omega) (xs:=xs.take k) (fun y hy=>hxs y (List.mem_of_mem_take hy));rw[<- hh.out] at b0 b1;have HS:=lHd (vQm (vs:=vs) (n:=(n:Int)) hx.out);rw[<- hh.out] at HS
   by_cases hb:h=(n:Int)
   ·subst hb;have HE:=lHd (show x=xXp vs n (xs.take (k+1)) by rw[HS.out];unfold xX4;rw[if_pos (.inl rfl)])
    go_wp2_with fail
    go_quiet (fail)
    go_wp2
    go_roundw
    case rel=>exact⟨k+1,by omega,by go_num,⟨x,HE,rfl⟩,bch⟩
    case measure=>simp[intOf];omega
   ·have hbb:(h==(n:Int))=false:=by simpa using hb
    obtain⟨vd,vx,rfl,hvx,hcx⟩:=(hI.below hBr).at_ (k:=x.toNat) (by omega);obtain⟨vd',vh,e,hvh,hch⟩:=(hI.below hBr).at_ (k:=h.toNat) (by omega);injection e with e
    subst e;have e1:=xJl hvx.out;have e2:=xJl hvh.out;have HB:=lHd hb
    by_cases hg:vh<vx
    ·have HE:=lHd (show x=xXp vs n (xs.take (k+1)) by rw[HS.out];unfold xX4;rw[e1,e2,if_pos (.inr hg)]);have hgd:decide (vh<vx)=true:=by simpa using hg
     clear e1 e2
     go_wp2_with fail
     go_quiet (fail)
     go_wp2
     go_roundw
     case rel=>exact⟨k+1,by omega,by go_num,⟨x,HE,rfl⟩,bch⟩
     case measure=>simp[intOf];omega
    ·have HE:=lHd (show h=xXp vs n (xs.take (k+1)) by rw[HS.out];unfold xX4;rw[e1,e2,if_neg (by have:=HB.out;omega)]);have hgd:decide (vh<vx)=false:=by simpa using hg
     clear e1 e2
     go_wp2_with fail
     go_quiet (fail)
     go_wp2
     go_roundw
     case rel=>exact⟨k+1,by omega,by go_num,⟨h,HE,rfl⟩,bch⟩
     case measure=>simp[intOf];omega
  ·rw[zQd (by omega)] at hh;go_wp2;go_ret;exact⟨xVq hh.out,hBr⟩
inductive GR(start:Int->Prop)(E:Nat->Int->Int->Prop):Int->Prop
 |start {p:Int}:start p->GR start E p
 |step {i:Nat} {p q:Int}:GR start E p->E i p q->GR start E q
open Classical in
noncomputable def grV(N:Nat)(start:Int->Prop)(E:Nat->Int->Int->Prop):List Bool:=(List.range N).map fun(p:Nat)=>decide (GR start E (p:Int))
theorem zWx(N:Nat)(start:Int->Prop)(E:Nat->Int->Int->Prop):(grV N start E).length=N:=by simp[grV]
theorem zWy{N p:Nat}{start:Int->Prop}{E:Nat->Int->Int->Prop}(h:p<N):(grV N start E)[p]? = some true↔GR start E (p:Int):=by simp[grV,h]
theorem uJ8{N p:Nat}{start:Int->Prop}{E:Nat->Int->Int->Prop}(h:p<N):(grV N start E)[p]? = some false↔¬GR start E (p:Int):=by simp[grV,h]
structure SoundG(N:Nat)(start:Int->Prop)(E:Nat->Int->Int->Prop)(bs:List Bool):Prop where
 len:bs.length=N
 init:∀p,start p->bs[p.toNat]? = some true
 sound:∀p:Nat,bs[p]? = some true->GR start E (p:Int)
def xQp(E:Nat->Int->Int->Prop)(k:Nat)(bs:List Bool):Prop:=∀i p q,i<k->E i p q->bs[p.toNat]? = some true->bs[q.toNat]? = some true
section
variable {N:Nat}{start:Int->Prop}{E:Nat->Int->Int->Prop}{bs:List Bool}
theorem xWz:xQp E 0 bs:=fun i p q hi=>absurd hi (by omega)
theorem xZu{k:Nat}(h:xQp E k bs)(h2:∀p q,E k p q->bs[p.toNat]? = some true->bs[q.toNat]? = some true):xQp E (k+1) bs:=fun i p q hi hE hp=>by
 by_cases e:i=k
 ·subst e;exact h2 p q hE hp
 ·exact h i p q (by omega) hE hp
theorem yZo{bs:List Bool}{i j:Nat}(h:bs[i]? = some true)(hj:j<bs.length):(bs.set j true)[i]? = some true:=by
 rw[List.getElem?_set]
 split
 ·rename_i e;subst e;simp
 ·exact h
theorem SoundG.set_(h:SoundG N start E bs){q:Int}(hq:GR start E q)(q0:0<=q)(hN:q<(N:Int)):SoundG N start E (bs.set q.toNat true):=by
 have hl:q.toNat<bs.length:=by rw[h.len];omega
 refine⟨by rw[List.length_set];exact h.len,fun p hp=>yZo (h.init p hp) hl,fun p hp=>?_⟩;rw[List.getElem?_set] at hp
 split at hp
 ·rename_i e
  subst e;rw[yZx q0];exact hq
 ·exact h.sound p hp
theorem SoundG.eq{m:Nat}(h:SoundG N start E bs)(hc:xQp E m bs)(hE:∀i p q,E i p q->i<m):bs=grV N start E:=by
 have key:∀p,GR start E p->bs[p.toNat]? = some true:=fun p hp=>by
  induction hp with
  |start h1=>exact h.init _ h1
  |step _ h2 ih=>exact hc _ _ _ (hE _ _ _ h2) h2 ih
 apply List.ext_getElem?;intro p;rcases vVq p N with hp|hp
 ·have h1:bs[p]? = some true↔(grV N start E)[p]? = some true:=by
   rw[zWy hp];exact⟨h.sound p,fun hr=>by have:=key _ hr;simpa using this⟩
  obtain⟨a,ha⟩:∃a,bs[p]? = some a:=⟨_,lGe (by rw[h.len];exact hp)⟩;obtain⟨b,hb⟩:∃b,(grV N start E)[p]? = some b:=⟨_,lGe (by rw[zWx];exact hp)⟩;rw[ha,hb] at h1 ⊢
  cases a<;>cases b<;>simp_all
 ·rw[vXn (by rw[h.len];exact hp),vXn (by rw[zWx];exact hp)]
end
def ZE(n:Nat)(W:List Int)(ops:List OpV)(cost:List Int)(i:Nat)(p q:Int):Prop:=∃o c,ops[i]? = some o/\cost[i]? = some c/\¬0<c/\p∈o.add/\q=xXp W n o.pre
def ZS(n:Nat)(W:List Int)(goal:List Int)(p:Int):Prop:=p=xXp W n goal
noncomputable def xK0(n:Nat)(W:List Int)(ops:List OpV)(cost goal:List Int):List Bool:=grV (n+1) (ZS n W goal) (ZE n W ops cost)
def BE(n:Nat)(W:List Int)(ops:List OpV)(Z:List Bool)(i:Nat)(p q:Int):Prop:=∃o,ops[i]? = some o/\p=xXp W n o.pre/\q∈o.add/\Z[q.toNat]? = some false
def BS(n:Nat)(st:List Int)(p:Int):Prop:=p=(n:Int)\/p∈st
noncomputable def uJ3(n:Nat)(W:List Int)(ops:List OpV)(st:List Int)(Z:List Bool):List Bool:=grV (n+1) (BS n st) (BE n W ops Z)
def yZp(n:Nat)(W:List Int)(ops:List OpV)(Z B:List Bool)(i:Nat):Prop:=∃o,ops[i]? = some o/\B[(xXp W n o.pre).toNat]? = some true/\∃p∈o.add,Z[p.toNat]? = some true
open Classical in
noncomputable def xZv(n:Nat)(W:List Int)(ops:List OpV)(Z B:List Bool)(k:Nat):List Int:=((List.range k).filter fun i=>decide (yZp n W ops Z B i)).map fun(i:Nat)=>(i:Int)
noncomputable def yZc(n:Nat)(W:List Int)(ops:List OpV)(Z B:List Bool):List Int:=xZv n W ops Z B ops.length
def xVm(cost:List Int)(l:List Int):Int:=l.foldl (fun m i=>min m (xJ2 cost i)) 1000000000
section
variable {n:Nat}{W:List Int}{ops:List OpV}{Z B:List Bool}
theorem vKf{k:Nat}(h:yZp n W ops Z B k):xZv n W ops Z B (k+1)=xZv n W ops Z B k ++ [(k:Int)]:=by
 unfold xZv;rw[List.range_succ,List.filter_append];simp[h]
theorem yZq{k:Nat}(h:¬yZp n W ops Z B k):xZv n W ops Z B (k+1)=xZv n W ops Z B k:=by
 unfold xZv;rw[List.range_succ,List.filter_append];simp[h]
theorem vKg(k:Nat):(xZv n W ops Z B k).length<=k:=by
 unfold xZv;rw[zQl];exact yJ1 (List.length_filter_le _ _) (by simp)
theorem zJz{k:Nat}{x:Int}:x∈xZv n W ops Z B k↔∃i:Nat,x=(i:Int)/\i<k/\yZp n W ops Z B i:=by
 unfold xZv;simp only[vWz,List.mem_filter,yYq,decide_eq_true_eq];exact⟨fun⟨i,⟨h1,h2⟩,h3⟩=>⟨i,h3.symm,h1,h2⟩,fun⟨i,h1,h2,h3⟩=>⟨i,⟨h2,h3⟩,h1.symm⟩⟩
theorem vXj:SetP (yZc n W ops Z B) (ops.length:Int):=by
 refine SetP.of_pairwise (fun x hx=>?_) ?_
 ·obtain⟨i,rfl,hi,_⟩:=zJz.1 hx;omega
 ·unfold yZc xZv;rw[List.pairwise_map];refine List.Pairwise.imp (fun h=>?_) (List.Pairwise.filter _ List.pairwise_lt_range);omega
end
theorem vQn{cost l:List Int}{i c:Int}(h:cost[i.toNat]? = some c):xVm cost (l ++ [i])=min (xVm cost l) c:=by
 unfold xVm;rw[List.foldl_append,List.foldl_cons,List.foldl_nil,xJl h]
theorem yKa{cost:List Int}:∀(l:List Int) (m:Int),l.foldl (fun m i=>min m (xJ2 cost i)) m<=m/\(∀i∈l,l.foldl (fun m i=>min m (xJ2 cost i)) m<=xJ2 cost i)/\(l.foldl (fun m i=>min m (xJ2 cost i)) m=m\/∃i∈l,l.foldl (fun m i=>min m (xJ2 cost i)) m=xJ2 cost i):=by
 intro l
 induction l with
 |nil=>intro m;exact⟨Int.le_refl _,by simp,.inl rfl⟩
 |cons x l ih=>
  intro m;obtain⟨h1,h2,h3⟩:=ih (min m (xJ2 cost x));refine⟨Int.le_trans h1 (Int.min_le_left _ _),fun i hi=>?_,?_⟩
  ·rcases yQ6.1 hi with e|e
   ·subst e;exact Int.le_trans h1 (Int.min_le_right _ _)
   ·exact h2 i e
  ·rcases h3 with h3|⟨i,hi,h3⟩
   ·rcases Int.le_total m (xJ2 cost x) with h4|h4
    ·left;rw[List.foldl_cons,h3];omega
    ·right;exact⟨x,vVp ..,by rw[List.foldl_cons,h3];omega⟩
   ·right;exact⟨i,List.mem_cons_of_mem _ hi,h3⟩
theorem zX0{V:List Int}{n:Nat}(hl:V.length=n){p:Int}(h0:0<=p)(h1:p<(n:Int)):xJ2 (V ++ [0]) p=xJ2 V p:=by
 unfold xJ2;rw[yJ0 (by omega)]
theorem vKh{V:List Int}{n:Nat}(hl:V.length=n):xJ2 (V ++ [0]) (n:Int)=0:=by
 unfold xJ2;rw[List.getElem?_append_right (by simp;omega)];simp[hl]
theorem vKi{V:List Int}{n:Nat}(hl:V.length=n)(hV:xV3 V){xs:List Int}(hx:∀x∈xs,0<=x/\x<(n:Int)) :
  (xXp (V ++ [0]) n xs=(n:Int)/\xs=[]\/xXp (V ++ [0]) n xs∈xs)/\xJ2 (V ++ [0]) (xXp (V ++ [0]) n xs)=xJf false V xs:=by
 have key:∀(ys:List Int) (b o:Int),(∀x∈ys,0<=x/\x<(n:Int))->(b=(n:Int)->o=0)->xJ2 (V ++ [0]) b=o->0<=o ->
   (ys.foldl (xX4 (V ++ [0]) n) b=b/\(b=(n:Int)->ys=[])\/ys.foldl (xX4 (V ++ [0]) n) b∈ys)/\xJ2 (V ++ [0]) (ys.foldl (xX4 (V ++ [0]) n) b)=ys.foldl (fun o p=>xZb false o (xJ2 V p)) o:=by
  intro ys
  induction ys with
  |nil=>intro b o _ _ h _;exact⟨.inl ⟨rfl,fun _=>rfl⟩,h⟩
  |cons y ys ih=>
   intro b o hy hb he ho;have hy0:=hy y (vVp ..);have ev:=zX0 hl hy0.1 hy0.2;have hin:=xX5 hV y;unfold InV at hin;have hstep:xJ2 (V ++ [0]) (xX4 (V ++ [0]) n b y)=xZb false o (xJ2 V y):=by
    unfold xX4 xZb;dsimp only;rw[he,ev]
    by_cases e:b=(n:Int)
    ·have:=hb e;rw[if_pos (.inl e),ev]
     split<;>omega
    ·by_cases e2:o<xJ2 V y
     ·rw[if_pos (.inr e2),if_pos e2,ev]
     ·rw[if_neg (fun h=>h.elim e e2),if_neg e2,he]
   have hne:¬xX4 (V ++ [0]) n b y=(n:Int):=by
    unfold xX4
    split
    ·omega
    ·rename_i h;exact fun e=>h (.inl e)
   obtain⟨h1,h2⟩:=ih (xX4 (V ++ [0]) n b y) (xZb false o (xJ2 V y)) (fun x hx=>hy x (List.mem_cons_of_mem _ hx)) (fun e=>absurd e hne) hstep (by unfold xZb;dsimp only;split<;>omega);rw[List.foldl_cons,List.foldl_cons];refine⟨?_,h2⟩;rcases h1 with⟨h1,_⟩|h1
   ·rw[h1];unfold xX4
    split
    ·right;exact vVp ..
    ·rename_i h3
     left;exact⟨rfl,fun e=>absurd (.inl e) h3⟩
   ·right;exact List.mem_cons_of_mem _ h1
 obtain⟨h1,h2⟩:=key xs n 0 hx (fun _=>rfl) (vKh hl) (Int.le_refl _);refine⟨?_,h2⟩;rcases h1 with⟨h1,h3⟩|h1
 ·left;exact⟨h1,h3 rfl⟩
 ·right;exact h1
theorem zWz{V:List Int}:∀(xs:List Int) (o:Int),o<=xs.foldl (fun o p=>xZb false o (xJ2 V p)) o/\(∀x∈xs,xJ2 V x<=xs.foldl (fun o p=>xZb false o (xJ2 V p)) o)/\∀z,o<=z->(∀x∈xs,xJ2 V x<=z)->xs.foldl (fun o p=>xZb false o (xJ2 V p)) o<=z:=by
 intro xs
 induction xs with
 |nil=>intro o;exact⟨Int.le_refl _,by simp,fun z h _=>h⟩
 |cons x xs ih=>
  intro o;have hs:o<=xZb false o (xJ2 V x)/\xJ2 V x<=xZb false o (xJ2 V x)/\(xZb false o (xJ2 V x)=o\/xZb false o (xJ2 V x)=xJ2 V x):=by unfold xZb;dsimp only;split<;>omega
  obtain⟨h1,h2,h3⟩:=ih (xZb false o (xJ2 V x));refine⟨Int.le_trans hs.1 h1,fun y hy=>?_,fun z hz hx=>h3 z ?_ (fun y hy=>hx y (List.mem_cons_of_mem _ hy))⟩
  ·rcases yQ6.1 hy with e|e
   ·subst e;exact Int.le_trans hs.2.1 h1
   ·exact h2 y e
  ·have:=hx x (vVp ..);omega
theorem xW6{V xs:List Int}{x:Int}(h:x∈xs):xJ2 V x<=xJf false V xs:=(zWz xs 0).2.1 x h
theorem xK1{V xs:List Int}:0<=xJf false V xs:=(zWz xs 0).1
theorem xYf{a b:Int}(ha:InV a)(hb:InV b):xXf a b<=a+b:=by unfold InV at *;unfold xXf;(repeat split)<;>omega
theorem zQm{a b z:Int}(ha:InV a)(hb:InV b)(h:z<=a+b)(h2:z<=999999999):z<=xXf a b:=by unfold InV at *;unfold xXf;(repeat split)<;>omega
theorem zYl{s:Bool}{n:Nat}{st:List Int}{ops:List OpV}{cs V:List Int}(hV:Best s n st ops cs V)(hlc:cs.length=ops.length)(hc:xV3 cs)(hc2:∀c∈cs,c<1000000000)
  (hst:∀p∈st,0<=p) (hops:∀o∈ops,(∀p∈o.pre,0<=p/\p<(n:Int))/\∀p∈o.add,0<=p/\p<(n:Int)) {p:Int} (h0:0<=p) (h1:p<(n:Int)):xJ2 V p=1000000000↔¬Reach st ops (fun _=>true) p:=by
 have hVall:=hV.fix.shape.all;have fin:∀p,Reach st ops (fun _=>true) p->¬xJ2 V p=1000000000:=fun p hp=>by
  induction hp with
  |init h=>rw[hV.fix.shape.zero _ h];omega
  | @step p i o ho hu hq hp ih=>
   have hi:=(zQ1.1 ho).1;have hcs:cs[i]? = some cs[i]:=lGe (by omega);have hcm:=lMg hcs;have h2:=hV.fix.closed i o _ hi ho hcs p hp;have h3:=vZu (s:=s) hVall o (hc _ hcm);have h4:¬opV s V o cs[i]=1000000000:=fun e=>by
    rcases (xXt (xX8 hVall _) (hc _ hcm)).1 e with e|e
    ·obtain⟨x,hx,e⟩:=(xY9 hVall _).1 e;exact ih x hx e
    ·have:=hc2 _ hcm;omega
   unfold InV at h3;omega
 constructor
 ·intro h hr;exact fin p hr h
 ·intro h
  let U:List Int:=(List.range n).map fun(q:Nat)=>@ite _ (Reach st ops (fun _=>true) (q:Int)) (Classical.propDecidable _) (xJ2 V (q:Int)) 1000000000
  have hU:∀q,0<=q->q<(n:Int)->xJ2 U q=@ite _ (Reach st ops (fun _=>true) q) (Classical.propDecidable _) (xJ2 V q) 1000000000:=fun q q0 q1=>by
   obtain⟨k,rfl⟩:=Int.eq_ofNat_of_zero_le q0;refine xJl ?_;show((List.range n).map _)[k]? = _;rw[vQ4,List.getElem?_range (by omega)];rfl
  have hUall:xV3 U:=fun v hv=>by
   obtain⟨q,_,rfl⟩:=vWz.1 hv
   split
   ·exact xX5 hVall _
   ·exact InV.inf
  have hle:∀q,0<=q->q<(n:Int)->xJ2 V q<=xJ2 U q:=fun q q0 q1=>by
   rw[hU q q0 q1];have:=xX5 hVall q;unfold InV at this
   split<;>omega
  have hleV:LeV V U:=fun q=>by
   by_cases e:q.toNat<n
   ·have h1:xJ2 V q=xJ2 V (q.toNat:Int):=by unfold xJ2;rw[Int.toNat_natCast]
    have h2:xJ2 U q=xJ2 U (q.toNat:Int):=by unfold xJ2;rw[Int.toNat_natCast]
    rw[h1,h2];exact hle _ (by omega) (by omega)
   ·have:xJ2 V q=0:=by unfold xJ2;rw[vXn (by rw[hV.fix.shape.len];omega)];rfl
    rw[this];have:=xX5 hUall q;exact this.1
  have hfix:Fix s n st ops cs U:=by
   refine⟨⟨by simp[U],hUall,fun q hq=>?_⟩,fun i o c hi ho hcs q hq=>?_⟩
   ·have q0:=hst q hq
    by_cases q1:q<(n:Int)
    ·rw[hU q q0 q1,if_pos (.init hq)];exact hV.fix.shape.zero q hq
    ·unfold xJ2;rw[vXn (by simp[U];omega)];rfl
   ·have hcm:=lMg hcs;have hoo:=hops o (lMg ho);obtain⟨q0,q1⟩:=hoo.2 q hq
    by_cases hall:∀x∈o.pre,Reach st ops (fun _=>true) x
    ·rw[hU q q0 q1,if_pos (.step ho rfl hall hq)];exact Int.le_trans (hV.fix.closed i o c hi ho hcs q hq) (vZv hVall hUall hleV o (hc c hcm))
    ·have:∃x∈o.pre,¬Reach st ops (fun _=>true) x:=vXe fun hn=>hall fun x hx=>vXe fun hr=>hn ⟨x,hx,hr⟩
     obtain⟨x,hx,hr⟩:=this;have h5:xJf s U o.pre=1000000000:=(xY9 hUall _).2 ⟨x,hx,by rw[hU x (hoo.1 x hx).1 (hoo.1 x hx).2,if_neg hr]⟩;have h6:opV s U o c=1000000000:=by unfold opV;exact zXv (.inl h5)
     have:=xX5 hUall q;unfold InV at this;omega
  have h2:=hV.great _ hfix p;rw[hU p h0 h1,if_neg h] at h2;have h3:=xX5 hVall p;unfold InV at h3;omega
structure AtCut(n:Nat)(st goal:List Int)(ops:List OpV)(left V:List Int):Prop where
 best:Best false n st ops left V
 lc:left.length=ops.length
 lv:∀c∈left,0<=c/\c<=100
 st_:∀p∈st,0<=p/\p<(n:Int)
 goal_:∀p∈goal,0<=p/\p<(n:Int)
 ops_:∀o∈ops,(∀p∈o.pre,0<=p/\p<(n:Int))/\∀p∈o.add,0<=p/\p<(n:Int)
 pos:¬xJf false V goal=0
 fin:¬xJf false V goal=1000000000
def xZa(left C:List Int)(c:Int):List Int:=C.foldl (fun l i=>l.set i.toNat (xJ2 l i-c)) left
theorem zX1(C:List Int)(c:Int):∀(left:List Int),(xZa left C c).length=left.length:=by
 induction C with
 |nil=>intro left;rfl
 |cons x C ih=>intro left;show(xZa (left.set x.toNat (xJ2 left x-c)) C c).length=_;rw[ih,List.length_set]
theorem vQo{left C:List Int}{c x:Int}{k:Nat}(h:C[k]? = some x):xZa left (C.take (k+1)) c=(xZa left (C.take k) c).set x.toNat (xJ2 (xZa left (C.take k) c) x-c):=by
 unfold xZa;rw[vXd,h];simp only[Option.toList,List.foldl_append,List.foldl_cons,List.foldl_nil]
theorem zJi{c:Int}:∀(C left:List Int),C.Pairwise (· < ·)->(∀x∈C,0<=x/\x<(left.length:Int))->∀i:Int,0<=i->xJ2 (xZa left C c) i=if i∈C then xJ2 left i-c else xJ2 left i:=by
 intro C
 induction C with
 |nil=>intro left _ _ i _;rfl
 |cons x C ih=>
  intro left hp hx i hi;show xJ2 (xZa (left.set x.toNat (xJ2 left x-c)) C c) i=_;have h0:=hx x (vVp ..);rw[List.pairwise_cons] at hp;rw[ih _ hp.2 (fun y hy=>by rw[List.length_set];exact hx y (List.mem_cons_of_mem _ hy)) i hi,xY5 (by omega)]
  by_cases e:i=x
  ·subst e;have:¬i∈C:=fun h=>by have:=hp.1 i h;omega
   rw[if_neg this,if_pos rfl,if_pos (vVp ..)]
  ·rw[if_neg (show ¬i.toNat=x.toNat by omega)]
   by_cases h:i∈C
   ·rw[if_pos h,if_pos (List.mem_cons_of_mem _ h)]
   ·rw[if_neg h,if_neg (fun k=>(yQ6.1 k).elim e h)]
theorem vKj{l:List Int}{v:Int}(h:v∈l):∃i:Int,0<=i/\i<(l.length:Int)/\xJ2 l i=v:=by
 obtain⟨i,hi,rfl⟩:=List.mem_iff_getElem.1 h;exact⟨i,by omega,by omega,xXg hi⟩
theorem zYm{l:List Int}{i:Int}(h0:0<=i)(h1:i<(l.length:Int)):xJ2 l i∈l:=by
 have hi:i.toNat<l.length:=by omega
 have:xJ2 l i=l[i.toNat]:=xJl (lGe hi);rw[this];exact List.getElem_mem _
theorem vQp{V:List Int}:∀ {i:Nat} {x y:Int},V[i]? = some y->0<=x->x<=y->xV4 (V.set i x)+(y-x).toNat=xV4 V:=by
 induction V with
 |nil=>intro i x y h;simp at h
 |cons a V ih=>
  intro i x y h h0 hlt
  cases i with
  |zero=>simp at h;subst h;simp[xV4];omega
  |succ i=>have:=ih (by simpa using h) h0 hlt;simp only[xV4,List.set_cons_succ,List.map_cons,List.sum_cons] at *;omega
theorem zJ0{c:Int}(hc:0<=c):∀(C left:List Int),C.Pairwise (· < ·)->(∀x∈C,0<=x/\x<(left.length:Int))->(∀i∈C,c<=xJ2 left i)->xV4 (xZa left C c)+C.length*c.toNat=xV4 left:=by
 intro C
 induction C with
 |nil=>intro left _ _ _;simp[xZa]
 |cons x C ih=>
  intro left hp hx hf;show xV4 (xZa (left.set x.toNat (xJ2 left x-c)) C c)+_=_;have h0:=hx x (vVp ..);have hfx:=hf x (vVp ..);rw[List.pairwise_cons] at hp;have hi:x.toNat<left.length:=by omega
  have hv:left[x.toNat]? = some (xJ2 left x):=by rw[lGe hi,xJl (lGe hi)]
  have h1:=vQp hv (show 0<=xJ2 left x-c by omega) (by omega);have h2:=ih (left.set x.toNat (xJ2 left x-c)) hp.2 (fun y hy=>by rw[List.length_set];exact hx y (List.mem_cons_of_mem _ hy)) (fun i hi2=>by
   have:=hp.1 i hi2;rw[xY5 hi,if_neg (show ¬i.toNat=x.toNat by omega)];exact hf i (List.mem_cons_of_mem _ hi2))
  rw[List.length_cons,Nat.succ_mul];omega
noncomputable def xQj(n:Nat)(st goal:List Int)(ops:List OpV)(left V:List Int):List Int:=
 yZc n (V ++ [0]) ops (xK0 n (V ++ [0]) ops left goal) (uJ3 n (V ++ [0]) ops st (xK0 n (V ++ [0]) ops left goal))
structure CutP(n:Nat)(st goal:List Int)(ops:List OpV)(left C:List Int)(c:Int):Prop where
 set:SetP C (ops.length:Int)
 ne:C≠[]
 pos:0<c
 le:c<=100
 fit:∀i∈C,c<=xJ2 left i
 cut:¬ ∀q∈goal,Reach st ops (zXe C) q
 drop:∀V V',Best false n st ops left V->Best false n st ops (xZa left C c) V'->xJf false V goal<=c+xJf false V' goal
 ex:∃V,AtCut n st goal ops left V/\C=xQj n st goal ops left V/\c=xVm left C
theorem CutP.lower_in{n:Nat}{st goal:List Int}{ops:List OpV}{left C:List Int}{c:Int}(h:CutP n st goal ops left C c)(hl:left.length=ops.length)(hv:∀c∈left,0<=c/\c<=100)(k:Nat):∀v∈xZa left (C.take k) c,0<=v/\v<=100:=fun v hvm=>by
 obtain⟨i,h0,h1,rfl⟩:=vKj hvm;rw[zX1] at h1;have hx:∀x∈C.take k,0<=x/\x<(left.length:Int):=fun x hx=>by rw[hl];exact h.set.1 x (List.mem_of_mem_take hx)
 rw[zJi _ _ (h.set.pairwise.sublist (List.take_sublist _ _)) hx i h0];have h2:=hv _ (zYm h0 h1);have h3:=h.pos
 split
 ·rename_i hm
  have:=h.fit i (List.mem_of_mem_take hm);omega
 ·exact h2
theorem CutP.not_yet{n:Nat}{st goal:List Int}{ops:List OpV}{left C:List Int}{c x:Int}{k:Nat}(h:CutP n st goal ops left C c)(hl:left.length=ops.length)(hx:C[k]? = some x):xJ2 (xZa left (C.take k) c) x=xJ2 left x/\c<=xJ2 left x:=by
 have hm:=lMg hx;have hy:∀y∈C.take k,0<=y/\y<(left.length:Int):=fun y hy=>by rw[hl];exact h.set.1 y (List.mem_of_mem_take hy)
 rw[zJi _ _ (h.set.pairwise.sublist (List.take_sublist _ _)) hy x (h.set.1 x hm).1,if_neg]
 ·exact⟨rfl,h.fit x hm⟩
 ·intro hin;obtain⟨j,hj,e⟩:=List.mem_iff_getElem.1 hin;rw[List.length_take] at hj;rw[List.getElem_take] at e;have:=h.set.inj (i:=j) (j:=k) (x:=x) (by rw[<- e];exact lGe (by omega)) hx;omega
section
variable {n:Nat}{st goal:List Int}{ops:List OpV}{left V:List Int}
theorem AtCut.all(h:AtCut n st goal ops left V):xV3 V:=h.best.fix.shape.all
theorem AtCut.len(h:AtCut n st goal ops left V):V.length=n:=h.best.fix.shape.len
theorem AtCut.costs(h:AtCut n st goal ops left V):xV3 left:=fun v hv=>by have:=h.lv v hv;unfold InV;omega
theorem AtCut.g0(h:AtCut n st goal ops left V):0<xJf false V goal/\xJf false V goal<1000000000:=by
 have h1:=xX8 (s:=false) h.all goal;have h2:=h.pos;have h3:=h.fin;unfold InV at h1;omega
theorem AtCut.hard(h:AtCut n st goal ops left V){xs:List Int}(hx:∀x∈xs,0<=x/\x<(n:Int)) :
  (xXp (V ++ [0]) n xs=(n:Int)/\xs=[]\/xXp (V ++ [0]) n xs∈xs/\xJ2 V (xXp (V ++ [0]) n xs)=xJf false V xs):=by
 obtain⟨h1,h2⟩:=vKi h.len h.all hx;rcases h1 with h1|h1
 ·exact .inl h1
 ·have:=hx _ h1;rw[zX0 h.len this.1 this.2] at h2;exact .inr ⟨h1,h2⟩
theorem AtCut.zone_in(h:AtCut n st goal ops left V){p:Int}(hp:GR (ZS n (V ++ [0]) goal) (ZE n (V ++ [0]) ops left) p):(0<=p/\p<(n:Int))/\xJf false V goal<=xJ2 V p:=by
 have hg:=h.g0
 induction hp with
 |start e=>
  rw[show _=_ from e];rcases h.hard h.goal_ with⟨_,e2⟩|⟨h1,h2⟩
  ·rw[e2] at hg;simp[xY4] at hg
  ·exact⟨h.goal_ _ h1,by rw[h2];exact Int.le_refl _⟩
 | @step i p q _ hE ih=>
  obtain⟨o,c,ho,hc,hc0,hp,rfl⟩:=hE;have hcm:=lMg hc;have hoo:=h.ops_ o (lMg ho);have h1:=h.best.fix.closed i o c (zQ1.1 ho).1 ho hc p hp;have h2:=xYf (xX8 (s:=false) h.all o.pre) (h.costs c hcm);unfold opV at h1;rcases h.hard hoo.1 with⟨_,e2⟩|⟨h3,h4⟩
  ·rw[e2,xY4] at h1 h2;omega
  ·exact⟨hoo.1 _ h3,by rw[h4];omega⟩
theorem AtCut.zone(h:AtCut n st goal ops left V){p:Int}(h0:0<=p)(h1:p<(n:Int)):(xK0 n (V ++ [0]) ops left goal)[p.toNat]? = some true↔GR (ZS n (V ++ [0]) goal) (ZE n (V ++ [0]) ops left) p:=by
 have:=zWy (N:=n+1) (p:=p.toNat) (start:=ZS n (V ++ [0]) goal) (E:=ZE n (V ++ [0]) ops left) (by omega);rw[yZx h0] at this;exact this
theorem AtCut.zone_no(h:AtCut n st goal ops left V){p:Int}(h0:0<=p)(h1:p<(n:Int)):(xK0 n (V ++ [0]) ops left goal)[p.toNat]? = some false↔¬GR (ZS n (V ++ [0]) goal) (ZE n (V ++ [0]) ops left) p:=by
 have:=uJ8 (N:=n+1) (p:=p.toNat) (start:=ZS n (V ++ [0]) goal) (E:=ZE n (V ++ [0]) ops left) (by omega);rw[yZx h0] at this;exact this
theorem AtCut.bef_in(h:AtCut n st goal ops left V){p:Int}(hp:GR (BS n st) (BE n (V ++ [0]) ops (xK0 n (V ++ [0]) ops left goal)) p):(0<=p/\p<=(n:Int))/\¬GR (ZS n (V ++ [0]) goal) (ZE n (V ++ [0]) ops left) p:=by
 have hg:=h.g0
 cases hp with
 |start e=>
  rcases e with e|e
  ·subst e;exact⟨by omega,fun hz=>by have:=h.zone_in hz;omega⟩
  ·have:=h.st_ p e;exact⟨by omega,fun hz=>by have:=h.zone_in hz;have:=h.best.fix.shape.zero p e;omega⟩
 |step _ hE=>
  obtain⟨o,ho,_,hq,hz⟩:=hE;have:=(h.ops_ o (lMg ho)).2 p hq;exact⟨by omega,(h.zone_no this.1 this.2).1 hz⟩
theorem AtCut.bef(h:AtCut n st goal ops left V)(Z:List Bool){p:Int}(h0:0<=p)(h1:p<=(n:Int)):(uJ3 n (V ++ [0]) ops st Z)[p.toNat]? = some true↔GR (BS n st) (BE n (V ++ [0]) ops Z) p:=by
 have:=zWy (N:=n+1) (p:=p.toNat) (start:=BS n st) (E:=BE n (V ++ [0]) ops Z) (by omega);rw[yZx h0] at this;exact this
theorem AtCut.hard_le(h:AtCut n st goal ops left V){xs:List Int}(hx:∀x∈xs,0<=x/\x<(n:Int)):0<=xXp (V ++ [0]) n xs/\xXp (V ++ [0]) n xs<=(n:Int):=xYe (by omega) hx
theorem AtCut.mem(h:AtCut n st goal ops left V){i:Nat}:(i:Int)∈xQj n st goal ops left V↔∃o,ops[i]? = some o/\GR (BS n st) (BE n (V ++ [0]) ops (xK0 n (V ++ [0]) ops left goal)) (xXp (V ++ [0]) n o.pre)/\∃p∈o.add,GR (ZS n (V ++ [0]) goal) (ZE n (V ++ [0]) ops left) p:=by
 unfold xQj yZc;rw[zJz];constructor
 ·rintro⟨j,e,hj,o,ho,hb,p,hp,hz⟩;obtain rfl:i=j:=by omega
  have hoo:=h.ops_ o (lMg ho);have hh:=h.hard_le hoo.1;exact⟨o,ho,(h.bef _ hh.1 hh.2).1 hb,p,hp,(h.zone (hoo.2 p hp).1 (hoo.2 p hp).2).1 hz⟩
 ·rintro⟨o,ho,hb,p,hp,hz⟩;have hoo:=h.ops_ o (lMg ho);have hh:=h.hard_le hoo.1;exact⟨i,rfl,(zQ1.1 ho).1,o,ho,(h.bef _ hh.1 hh.2).2 hb,p,hp,(h.zone (hoo.2 p hp).1 (hoo.2 p hp).2).2 hz⟩
theorem AtCut.cut_pos(h:AtCut n st goal ops left V){i:Int}(hi:i∈xQj n st goal ops left V):0<xJ2 left i/\xJ2 left i<=100:=by
 obtain⟨j,rfl,hj,_⟩:=zJz.1 hi;obtain⟨o,ho,hb,p,hp,hz⟩:=h.mem.1 hi;have hjl:j<left.length:=by rw[h.lc];exact hj
 have hc:=lGe hjl;have e:=xXg hjl;have h1:=h.lv _ (lMg hc);rw[e];refine⟨vXe fun hn=>?_,h1.2⟩;exact(h.bef_in hb).2 (.step hz ⟨o,_,ho,hc,hn,hp,rfl⟩)
theorem AtCut.reach_bef(h:AtCut n st goal ops left V){p:Int}(hp:Reach st ops (zXe (xQj n st goal ops left V)) p):GR (BS n st) (BE n (V ++ [0]) ops (xK0 n (V ++ [0]) ops left goal)) p:=by
 induction hp with
 |init hp=>exact .start (.inr hp)
 | @step p i o ho hu hq hp ih=>
  have hoo:=h.ops_ o (lMg ho);have hb:GR (BS n st) (BE n (V ++ [0]) ops (xK0 n (V ++ [0]) ops left goal)) (xXp (V ++ [0]) n o.pre):=by
   rcases h.hard hoo.1 with⟨e,_⟩|⟨h3,_⟩
   ·rw[e];exact .start (.inl rfl)
   ·exact ih _ h3
  have hnz:¬GR (ZS n (V ++ [0]) goal) (ZE n (V ++ [0]) ops left) p:=fun hz=>by
   have:=h.mem.2 ⟨o,ho,hb,p,hp,hz⟩;unfold zXe at hu;simp[this] at hu
  exact .step hb ⟨o,ho,rfl,hp,(h.zone_no (hoo.2 p hp).1 (hoo.2 p hp).2).2 hnz⟩
theorem AtCut.goal_zone(h:AtCut n st goal ops left V):xXp (V ++ [0]) n goal∈goal/\GR (ZS n (V ++ [0]) goal) (ZE n (V ++ [0]) ops left) (xXp (V ++ [0]) n goal):=by
 have hg:=h.g0;rcases h.hard h.goal_ with⟨_,e2⟩|⟨h1,_⟩
 ·rw[e2] at hg;simp[xY4] at hg
 ·exact⟨h1,.start rfl⟩
theorem AtCut.cut_no(h:AtCut n st goal ops left V):¬ ∀q∈goal,Reach st ops (zXe (xQj n st goal ops left V)) q:=fun hall=>by
 obtain⟨h1,h2⟩:=h.goal_zone;exact(h.bef_in (h.reach_bef (hall _ h1))).2 h2
theorem AtCut.cut_ne(h:AtCut n st goal ops left V):xQj n st goal ops left V≠[]:=fun e=>by
 refine h.cut_no fun q hq=>?_
 have hg:=h.g0;have hr:=h.goal_ q hq;have h1:=xW6 (V:=V) hq;have h2:=zYl h.best h.lc h.costs (fun c hc=>by have:=h.lv c hc;omega) (fun p hp=>(h.st_ p hp).1) h.ops_ hr.1 hr.2;have h3:=vXe fun hn=>by have:=h2.2 hn;omega
 exact h3.mono (fun _ h=>h) (fun i _=>by rw[e];simp[zXe])
theorem AtCut.drop(h:AtCut n st goal ops left V){c:Int}(hc:0<c)(hcf:∀i∈xQj n st goal ops left V,c<=xJ2 left i){V':List Int}(hV':Best false n st ops (xZa left (xQj n st goal ops left V) c) V'):xJf false V goal<=c+xJf false V' goal:=by
 have hg:=h.g0;obtain⟨M,hM⟩:∃M,M=max 0 (xJf false V goal-c):=⟨_,rfl⟩;have hM0:0<=M/\M<=999999999/\xJf false V goal-c<=M/\(M=0\/M=xJf false V goal-c):=by omega
 clear hM;have hset:SetP (xQj n st goal ops left V) (ops.length:Int):=vXj;have hlow:∀i:Nat,i<ops.length->xJ2 (xZa left (xQj n st goal ops left V) c) (i:Int)=if(i:Int)∈xQj n st goal ops left V then xJ2 left i-c else xJ2 left i:=fun i hi=>
  zJi _ _ hset.pairwise (fun x hx=>by rw[h.lc];exact hset.1 x hx) i (by omega)
 let Bf:=GR (BS n st) (BE n (V ++ [0]) ops (xK0 n (V ++ [0]) ops left goal))
 let U:List Int:=(List.range n).map fun(q:Nat)=>@ite _ (Bf (q:Int)) (Classical.propDecidable _) (min (xJ2 V (q:Int)) M) M
 have hU:∀q,0<=q->q<(n:Int)->xJ2 U q=@ite _ (Bf q) (Classical.propDecidable _) (min (xJ2 V q) M) M:=fun q q0 q1=>by
  obtain⟨k,rfl⟩:=Int.eq_ofNat_of_zero_le q0;refine xJl ?_;show((List.range n).map _)[k]? = _;rw[vQ4,List.getElem?_range (by omega)];rfl
 have hVin:=fun q=>xX5 h.all q
 unfold InV at hVin;have hUM:∀q,0<=q->q<(n:Int)->xJ2 U q<=M:=fun q q0 q1=>by
  rw[hU q q0 q1];split<;>omega
 have hUall:xV3 U:=fun v hv=>by
  obtain⟨q,_,rfl⟩:=vWz.1 hv;have:=hVin (q:Int);unfold InV
  split<;>omega
 have hfix:Fix false n st ops (xZa left (xQj n st goal ops left V) c) U:=by
  refine⟨⟨by simp[U],hUall,fun q hq=>?_⟩,fun i o c' hi ho hcs q hq=>?_⟩
  ·have q0:=h.st_ q hq;rw[hU q q0.1 q0.2,if_pos (show Bf q from .start (.inr hq)),h.best.fix.shape.zero q hq];omega
  ·have hoo:=h.ops_ o (lMg ho);obtain⟨q0,q1⟩:=hoo.2 q hq;have hil:i<left.length:=by rw[h.lc];exact hi
   have hl:=lGe hil;have el:=xXg hil;have ec:xJ2 (xZa left (xQj n st goal ops left V) c) (i:Int)=c':=xJl (by simpa using hcs);rw[hlow i hi,el] at ec;have hl2:=h.lv _ (lMg hl);have hcin:InV c':=by
    unfold InV
    split at ec
    ·rename_i hm;have:=hcf _ hm;rw[el] at this;omega
    ·omega
   have hcl:=h.best.fix.closed i o _ hi ho hl;have hple:=xYf (xX8 (s:=false) h.all o.pre) (h.costs _ (lMg hl));have hUq:=hUM q q0 q1;unfold opV at hcl ⊢;have hcn:=xK1 (V:=V) (xs:=o.pre);refine zQm (xX8 hUall _) hcin ?_ (by omega)
   by_cases hb:Bf (xXp (V ++ [0]) n o.pre)
   ·have hx:min (xJf false V o.pre) M<=xJf false U o.pre:=by
     rcases h.hard hoo.1 with⟨_,e⟩|⟨h3,h4⟩
     ·rw[e,xY4,xY4];omega
     ·have h5:=xW6 (V:=U) h3;have h6:=hoo.1 _ h3;rw[hU _ h6.1 h6.2,if_pos hb,h4] at h5;exact h5
    by_cases hi2:(i:Int)∈xQj n st goal ops left V
    ·rw[if_pos hi2] at ec;have h7:=hcf _ hi2;rw[el] at h7;obtain⟨o',ho',_,p1,hp1,hz1⟩:=h.mem.1 hi2;rw[ho] at ho';injection ho' with ho'
     subst ho';have h8:=(h.zone_in hz1).2;have h9:=hcl p1 hp1;omega
    ·rw[if_neg hi2] at ec;have hnz:¬GR (ZS n (V ++ [0]) goal) (ZE n (V ++ [0]) ops left) q:=fun hz=>hi2 (h.mem.2 ⟨o,ho,hb,q,hq,hz⟩)
     have hbq:Bf q:=.step hb ⟨o,ho,rfl,hq,(h.zone_no q0 q1).2 hnz⟩;have h9:=hcl q hq;rw[hU q q0 q1,if_pos hbq];omega
   ·rcases h.hard hoo.1 with⟨e,_⟩|⟨h3,_⟩
    ·exact absurd (show Bf _ by rw[e];exact .start (.inl rfl)) hb
    ·have h5:=xW6 (V:=U) h3;have h6:=hoo.1 _ h3;rw[hU _ h6.1 h6.2,if_neg hb] at h5;unfold InV at hcin;omega
 obtain⟨h1,h2⟩:=h.goal_zone;have h3:=h.goal_ _ h1;have h4:=hV'.great U hfix (xXp (V ++ [0]) n goal);rw[hU _ h3.1 h3.2,if_neg (fun hb=>(h.bef_in hb).2 h2)] at h4;have h5:=xW6 (V:=V') h1;omega
theorem AtCut.proper(h:AtCut n st goal ops left V):CutP n st goal ops left (xQj n st goal ops left V) (xVm left (xQj n st goal ops left V)):=by
 obtain⟨h1,h2,h3⟩:=yKa (cost:=left) (xQj n st goal ops left V) 1000000000;have hc:0<xVm left (xQj n st goal ops left V)/\xVm left (xQj n st goal ops left V)<=100:=by
  unfold xVm;rcases h3 with h3|⟨i,hi,h3⟩
  ·obtain⟨i,hi⟩:=List.exists_mem_of_ne_nil _ h.cut_ne;have h4:=h2 i hi;have h5:=h.cut_pos hi;omega
  ·have h5:=h.cut_pos hi;omega
 refine⟨vXj,h.cut_ne,hc.1,hc.2,h2,h.cut_no,fun V2 V' hb hb'=>?_,⟨V,h,rfl,rfl⟩⟩;rw[show V2=V from(zXx hb).trans (zXx h.best).symm];exact h.drop hc.1 h2 hb'
end
def xJi(c0:List Int)(cs:List (List Int×Int)):List Int:=cs.foldl (fun l x=>xZa l x.1 x.2) c0
theorem zX2(c0:List Int)(cs:List (List Int×Int))(x:List Int×Int):xJi c0 (cs ++ [x])=xZa (xJi c0 cs) x.1 x.2:=by
 unfold xJi;rw[List.foldl_append];rfl
theorem xZh{c0:List Int}{cs:List (List Int×Int)}{x:List Int×Int}{k:Nat}(h:cs[k]? = some x):xJi c0 (cs.take (k+1))=xZa (xJi c0 (cs.take k)) x.1 x.2:=by
 rw[vXd,h];exact zX2 _ _ _
theorem xXh(c0:List Int)(cs:List (List Int×Int)):(xJi c0 cs).length=c0.length:=by
 have:∀(cs:List (List Int×Int)) (l:List Int),(cs.foldl (fun l x=>xZa l x.1 x.2) l).length=l.length:=by
  intro cs
  induction cs with
  |nil=>intro l;rfl
  |cons x cs ih=>intro l;rw[List.foldl_cons,ih,zX1]
 exact this cs c0
def xJm(cs:List (List Int×Int)):Int:=(cs.map (·.2)).sum
theorem zJ1(cs:List (List Int×Int))(x:List Int×Int):xJm (cs ++ [x])=xJm cs+x.2:=by
 unfold xJm;rw[vQu,List.sum_append];simp
theorem xQl{cs:List (List Int×Int)}{x:List Int×Int}{k:Nat}(h:cs[k]? = some x):xJm (cs.take (k+1))=xJm (cs.take k)+x.2:=by
 rw[vXd,h];exact zJ1 _ _
def CutsOk(n:Nat)(st goal:List Int)(ops:List OpV)(c0:List Int)(cs:List (List Int×Int)):Prop:=∀i x,cs[i]? = some x->CutP n st goal ops (xJi c0 (cs.take i)) x.1 x.2
section
variable {n:Nat}{st goal:List Int}{ops:List OpV}{c0:List Int}{cs:List (List Int×Int)}
theorem CutsOk.nil:CutsOk n st goal ops c0 []:=fun i x h=>by simp at h
theorem CutsOk.snoc(h:CutsOk n st goal ops c0 cs){x:List Int×Int}(hx:CutP n st goal ops (xJi c0 cs) x.1 x.2):CutsOk n st goal ops c0 (cs ++ [x]):=fun i y hy=>by
 rcases vVq i cs.length with hi|hi
 ·rw[yJ0 hi] at hy;rw[List.take_append_of_le_length (by omega)];exact h i y hy
 ·have:i=cs.length:=by
   have:=(zQ1.1 hy).1;rw[List.length_append] at this;simp at this;omega
  subst this;rw[List.getElem?_append_right (Nat.le_refl _)] at hy;simp at hy;subst hy;rw[List.take_left];exact hx
theorem CutsOk.left_in(h:CutsOk n st goal ops c0 cs)(hl:c0.length=ops.length)(hv:∀c∈c0,0<=c/\c<=100):∀k,∀c∈xJi c0 (cs.take k),0<=c/\c<=100:=by
 intro k
 induction k with
 |zero=>exact hv
 |succ k ih=>
  rcases vVq k cs.length with hk|hk
  ·have hx:=lGe hk;have hp:=h k _ hx;rw[xZh hx];have:=hp.lower_in (by rw[xXh];exact hl) ih cs[k].1.length
   rwa [yQ7] at this
  ·rw[zQd (by omega)];rw[zQd hk] at ih;exact ih
theorem CutsOk.total(h:CutsOk n st goal ops c0 cs)(hl:c0.length=ops.length):∀k,k<=cs.length->0<=xJm (cs.take k)/\xJm (cs.take k)+xV4 (xJi c0 (cs.take k))<=xV4 c0/\(k:Int)+xV4 (xJi c0 (cs.take k))<=xV4 c0:=by
 intro k
 induction k with
 |zero=>intro _;simp[xJm,xJi]
 |succ k ih=>
  intro hk;have hx:=lGe (show k<cs.length by omega);have hp:=h k _ hx;have h1:=ih (by omega);rw[xZh hx,xQl hx];have h2:=zJ0 (c:=cs[k].2) (by have:=hp.pos;omega) cs[k].1 (xJi c0 (cs.take k)) hp.set.pairwise (fun x hx=>by rw[xXh,hl];exact hp.set.1 x hx) hp.fit;have h3:0<cs[k].1.length:=List.length_pos_iff.2 hp.ne;have h4:=hp.pos;have h5:cs[k].2.toNat<=cs[k].1.length*cs[k].2.toNat:=Nat.le_mul_of_pos_left _ h3;omega
end
theorem vJ0{V:List Int}(h:∀v∈V,0<=v/\v<=100):xV4 V<=100*V.length:=by
 induction V with
 |nil=>simp[xV4]
 |cons v V ih=>
  have h1:=ih (fun x hx=>h x (List.mem_cons_of_mem _ hx));have h2:=h v (vVp ..);simp only[xV4,List.map_cons,List.sum_cons,List.length_cons] at *;omega
structure SBox(w:World)(b n:Nat)(t:TaskV)(Ai Ag Ao S C Q:Option Addr)(ci cg co cs cc cq:Nat)(st left W:List Int):Prop where
 k0:w.cell? ⟨b,0,none⟩=some (.int .i64 (n:Int))
 k1:w.cell? ⟨b,1,none⟩=some (.slice Ai t.init.length ci)
 k2:w.cell? ⟨b,2,none⟩=some (.slice Ag t.goal.length cg)
 k3:w.cell? ⟨b,3,none⟩=some (.slice Ao t.ops.length co)
 k4:w.cell? ⟨b,4,none⟩=some (.slice S st.length cs)
 k5:w.cell? ⟨b,5,none⟩=some (.slice C left.length cc)
 k6:w.cell? ⟨b,6,none⟩=some (.slice Q (n+1) cq)
 mem:TaskMem w Ai Ag Ao t
 is:Ints w S st
 ic:Ints w C left
 iw:Ints w Q W
 lw:W.length=n+1
 n9:n<=1000000
 lc:left.length=t.ops.length
 ls:lenOk st.length
 st_:∀p∈st,0<=p/\p<(n:Int)
 goal_:∀p∈t.goal,0<=p/\p<(n:Int)
 ops_:∀o∈t.ops,(∀p∈o.pre,0<=p/\p<(n:Int))/\∀p∈o.add,0<=p/\p<(n:Int)
section
variable {w w':World}{b n:Nat}{t:TaskV}{Ai Ag Ao S C Q:Option Addr}{ci cg co cs cc cq:Nat}{st left W:List Int}
theorem SBox.below(h:SBox w b n t Ai Ag Ao S C Q ci cg co cs cc cq st left W)(hb:Below w.heap.size w w'):SBox w' b n t Ai Ag Ao S C Q ci cg co cs cc cq st left W:=by
 have k:∀ {o:Nat} {v:Value},w.cell? ⟨b,o,none⟩=some v->w'.cell? ⟨b,o,none⟩=some v:=fun h=>(hb.cell (zQ2 w _ h)).trans h
 exact⟨k h.k0,k h.k1,k h.k2,k h.k3,k h.k4,k h.k5,k h.k6,h.mem.below hb,h.is.below hb,h.ic.below hb,h.iw.below hb,h.lw,h.n9,h.lc,h.ls,h.st_,h.goal_,h.ops_⟩
theorem SBox.cells(h:SBox w b n t Ai Ag Ao S C Q ci cg co cs cc cq st left W):w.cell? ⟨b,0,none⟩=some (.int .i64 (n:Int))/\w.cell? ⟨b,1,none⟩=some (.slice Ai t.init.length ci)/\w.cell? ⟨b,2,none⟩=some (.slice Ag t.goal.length cg)/\w.cell? ⟨b,3,none⟩=some (.slice Ao t.ops.length co) /\
  w.cell? ⟨b,4,none⟩=some (.slice S st.length cs)/\w.cell? ⟨b,5,none⟩=some (.slice C left.length cc)/\w.cell? ⟨b,6,none⟩=some (.slice Q (n+1) cq):=⟨h.k0,h.k1,h.k2,h.k3,h.k4,h.k5,h.k6⟩
theorem zQn(h:SBox w b n t Ai Ag Ao S C Q ci cg co cs cc cq st left W)(X:Option Addr)(d:Nat)(xs:List Int)(hJ:Ints w X xs)(hl:lenOk xs.length)(hxs:∀x∈xs,0<=x/\x<(n:Int))(v:Int)(hv:xXp W n xs=v) :
  Calls prog 135 #[.pointer (some ⟨b,0,none⟩),.slice X xs.length d] w fun e w'=>e=.returned (.int .i64 v)/\Below w.heap.size w w':=by
 subst hv;exact zWw w b n cq d Q X W xs h.k0 h.k6 h.iw h.lw (by have:=h.n9;omega) hJ hl.le hxs
end
theorem zQo{bs:List Bool}{i:Nat}:xJk (bs.set i true)<=xJk bs:=by
 induction bs generalizing i with
 |nil=>simp
 |cons b bs ih=>
  cases i with
  |zero=>simp[xJk]
  |succ i=>have:=ih (i:=i);simp only[xJk,List.set_cons_succ,List.map_cons,List.sum_cons] at *;omega
theorem zYn{N i:Nat}{b:Bool}(h:(List.replicate N false)[i]? = some b):b=false:=by
 rw[List.getElem?_replicate] at h
 split at h<;>simp_all
theorem vKk(n:Nat)(hn:n<=1000000)(w:World) :
  (Instr.makeSlice 190 (.int .i64 ((n:Int)+1)) (.int .i64 ((n:Int)+1))).run prog w=.ok (.slice (some ⟨w.heap.size,0,none⟩) (n+1) (n+1)) (w.alloc (.cells (List.replicate (n+1) (Value.bool false)).toArray 4)):=zZw (n+1) (by omega) w
theorem vQq{n:Nat}{W goal:List Int}{E:Nat->Int->Int->Prop}{h:Int}(hh:xXp W n goal=h)(h0:0<=h)(h1:h<=(n:Int)):SoundG (n+1) (ZS n W goal) E ((List.replicate (n+1) false).set h.toNat true):=by
 refine⟨by simp,fun p hp=>?_,fun p hp=>?_⟩
 ·have:p=h:=by rw[<- hh];exact hp
  subst this;rw[List.getElem?_set_self (by simp;omega)]
 ·rw[List.getElem?_set] at hp
  split at hp
  ·rename_i e
   subst e;rw[yZx h0];exact .start hh.symm
  ·have:=zYn hp;cases this
theorem vKl{n:Nat}{st:List Int}{E:Nat->Int->Int->Prop}(h:∀p∈st,0<=p/\p<(n:Int)):SoundG (n+1) (BS n st) E (xVn (n+1) ((n:Int)::st)):=by
 have hx:∀x∈(n:Int)::st,0<=x/\x<((n+1:Nat):Int):=fun x hx=>by
  rcases yQ6.1 hx with e|e
  ·omega
  ·have:=h x e;omega
 have hs:=zZ1 (n:=n+1) (ops:=[]) (use:=fun _=>true) hx;refine⟨hs.len,fun p hp=>hs.init p ?_,fun p hp=>?_⟩
 ·rcases hp with e|e
  ·rw[e];exact vVp ..
  ·exact List.mem_cons_of_mem _ e
 ·have hr:=hs.sound p hp
  cases hr with
  |init hm=>
   rcases yQ6.1 hm with e|e
   ·exact .start (.inl e)
   ·exact .start (.inr e)
  |step ho=>simp at ho
theorem vJ1(n:Nat):xVn (n+1) [(n:Int)]=(List.replicate (n+1) false).set n true:=by
 unfold xVn;simp
theorem vQr{n k:Nat}{l:List Int}{x:Int}(h:l[k]? = some x):xVn (n+1) ((n:Int)::l.take (k+1))=(xVn (n+1) ((n:Int)::l.take k)).set x.toNat true:=by
 have h2:((n:Int)::l)[k+1]? = some x:=by simpa using h
 have:=zQ8 (n:=n+1) h2;simpa[yJx] using this
theorem yZr(w:World)(b:Nat)(n:Nat)(t:TaskV)(Ai Ag Ao S C Q:Option Addr)(ci cg co cs cc cq:Nat)(st left W:List Int)(hX:SBox w b n t Ai Ag Ao S C Q ci cg co cs cc cq st left W) :
  Calls prog 133 #[.pointer (some ⟨b,0,none⟩)] w fun e w'=>∃g,e=.returned (.slice (some ⟨g,0,none⟩) (n+1) (n+1))/\w.heap.size<=g/\BArr w' g (xK0 n W t.ops left t.goal)/\Below w.heap.size w w':=by
 have hmk:=vKk n hX.n9;have hn9:=hX.n9;obtain⟨h,hh⟩:∃h,Hid (xXp W n t.goal=h):=⟨_,lHd rfl⟩;obtain⟨h0,h1⟩:=xYe (vs:=W) (n:=(n:Int)) (by omega) hX.goal_;rw[hh.out] at h0 h1;have hlo:=hX.mem.lops.le;have HX:=lHd hX;obtain⟨k0,k1,k2,k3,k4,k5,k6⟩:=SBox.cells (HX.out);have kb:=zQ2 _ _ k0;clear hX;go_enter func133,ntmps133
 go_wp2_with fail
 refine(zQn (HX.out.below bch) _ _ _ (HX.out.mem.goal.below bch) HX.out.mem.lgoal HX.out.goal_ h hh.out).mono ?_;rintro e w1 ⟨rfl,hB1⟩;have D1:=xJ3 w hB1 bch;have hA1:=(BArr.made w (n+1) _ rfl).below hB1;obtain⟨y,hy,hd,hf⟩:=hA1.cell (i:=h.toNat) (by simp;omega)
 go_wp2_with fail
 go_loopg [4] (2*xJk ((List.replicate (n+1) false).set h.toNat true)+1) (fun gk ch wr=>∃(V:List Bool) (c:Bool),ch=.bool c/\Hid (gk=2*xJk V+c.toNat)/\BArr wr w.heap.size V/\SoundG (n+1) (ZS n W t.goal) (ZE n W t.ops left) V/\Hid (c=false->xQp (ZE n W t.ops left) t.ops.length V)/\Below w.heap.size w wr)
 case atStart=>exact⟨_,true,rfl,lHd rfl,hA1.set_ _ _,vQq hh.out h0 h1,lHd (fun h=>by cases h),bch⟩
 case round=>
  obtain⟨V0,c,rfl,hgk,hA0,hV0,hcl,hBp⟩:=hrel;obtain⟨g3,rfl⟩:∃g:Nat,g=gk:=⟨_,rfl⟩;obtain⟨w3,rfl⟩:∃wo:World,wo=wr:=⟨_,rfl⟩
  cases c with
  |false=>
   have e:=hV0.eq (hcl.out rfl) (fun i p q h=>by obtain⟨o,c,ho,_⟩:=h;exact(zQ1.1 ho).1);rw[e] at hA0;clear e hV0 hcl;go_wp2;go_ret;exact⟨_,rfl,by omega,hA0,hBp⟩
  |true=>
   clear k0 k1 k2 k3 k4 k5 k6 kb;obtain⟨k0,k1,k2,k3,k4,k5,k6⟩:=SBox.cells (HX.out.below hBp);have kb:=zQ2 _ _ k0
   go_wp2_with fail
   go_loopg [4,33] (t.ops.length) (fun gk ch i wr=>∃(V:List Bool) (c:Bool) (k:Nat),ch=.bool c/\i=.int .i64 k/\Hid (k+gk=t.ops.length)/\BArr wr w.heap.size V/\SoundG (n+1) (ZS n W t.goal) (ZE n W t.ops left) V/\Hid (c=true->xJk V<xJk V0)/\Hid (c=false->xJk V<=xJk V0/\xQp (ZE n W t.ops left) k V)/\Below w.heap.size w wr)
   case atStart=>exact⟨V0,false,0,rfl,rfl,lHd (by omega),hA0,hV0,lHd (fun h=>by cases h),lHd (fun _=>⟨Nat.le_refl _,xWz⟩),bch⟩
   case round=>
    obtain⟨V1,c1,k,rfl,rfl,hk,hA1,hV1,ht1,hf1,hBs⟩:=hrel;obtain⟨g4,rfl⟩:∃g:Nat,g=gk:=⟨_,rfl⟩;obtain⟨w4,rfl⟩:∃wo:World,wo=wr:=⟨_,rfl⟩;clear k0 k1 k2 k3 k4 k5 k6 kb;obtain⟨k0,k1,k2,k3,k4,k5,k6⟩:=SBox.cells (HX.out.below hBs);have kb:=zQ2 _ _ k0
    by_cases hlt:k<t.ops.length
    ·obtain⟨ad,o,A0,c0,A1,c1',A2,c2,rfl,ho,hc0,hc1,hc2,hc3,hm⟩:=HX.out.mem.ops.at2 hBs hlt;have hoo:=lHd (HX.out.ops_ o (lMg ho.out));have hk1:=lHd (show k+1+(g4-1)=t.ops.length/\g4-1<g4 by have:=hk.out;omega);have hlk:k<left.length:=by have:=HX.out.lc;omega
     obtain⟨cd,cv,rfl,hcv,hcc⟩:=(HX.out.ic.below hBs).at_ hlk;obtain⟨f,hf⟩:∃f,Hid (xXp W n o.pre=f):=⟨_,lHd rfl⟩;obtain⟨f0,f1⟩:=xYe (vs:=W) (n:=(n:Int)) (by omega) hoo.out.1;rw[hf.out] at f0 f1
     go_wp2_with fail
     refine(zQn (HX.out.below bch) _ _ _ (hm.pre.below bch) hm.lpre hoo.out.1 f hf.out).mono ?_;rintro e w6 ⟨rfl,hB6⟩;have D6:=xJ3 w hB6 bch;have C6:=Cls.below (l:=[(w4.heap.size,0,.slice A0 o.pre.length c0),(w4.heap.size,1,.slice A1 o.add.length c1'),(w4.heap.size,2,.slice A2 o.del.length c2),(w4.heap.size,3,.int .i64 o.cost)]) hB6 (by simp[Cls,go_sem]);have F6:=C6.f;have y6w40:=C6.b 0;have E6:=xJ3 w4 hB6 bch;clear k0 k1 k2 k3 k4 k5 k6 kb;obtain⟨k0,k1,k2,k3,k4,k5,k6⟩:=SBox.cells (HX.out.below D6);have kb:=zQ2 _ _ k0;have hcc6:=(E6.cell (zQ2 w4 _ hcc)).trans hcc;clear hcc;have hA6:=hA1.below E6
     by_cases hpos:0<cv
     ·have hpd:decide (0<cv)=true:=by simpa using hpos
      have HP:=lHd hpos;clear hpos;go_wp2
      go_roundg (g4-1)
      case measure=>exact hk1.out.2
      case rel=>
       refine⟨V1,c1,k+1,rfl,by go_num,lHd hk1.out.1,hA6,hV1,ht1,lHd (fun h=>⟨(hf1.out h).1,xZu (hf1.out h).2 (fun p q hE hp=>by obtain⟨o',c',_,hc',hn',_⟩:=hE;rw[hcv.out] at hc';injection hc' with hc';subst hc';exact absurd HP.out hn')⟩),bch⟩
     ·have hpd:decide (0<cv)=false:=by simpa using hpos
      have HP:=lHd hpos;clear hpos;have hl1:=hV1.len;obtain⟨yf,hyf,hyc,hyw⟩:=hA6.cell (i:=f.toNat) (by omega);clear hl1
      cases yf with
      |true=>
       go_wp2
       go_roundg (g4-1)
       case measure=>exact hk1.out.2
       case rel=>
        refine⟨V1,c1,k+1,rfl,by go_num,lHd hk1.out.1,hA6,hV1,ht1,lHd (fun h=>⟨(hf1.out h).1,xZu (hf1.out h).2 (fun p q hE hp=>by obtain⟨o',c',ho',_,_,_,e⟩:=hE;rw[ho.out] at ho';injection ho' with ho';subst ho';rw[e,hf.out];exact hyf.out)⟩),bch⟩
      |false=>
       have hlc':=hm.ladd.le
       go_wp2_with fail
       go_loopg [4,59] (o.add.length) (fun gk ch i wr=>∃(V:List Bool) (c:Bool) (j:Nat),ch=.bool c/\i=.int .i64 j/\Hid (j+gk=o.add.length)/\BArr wr w.heap.size V/\SoundG (n+1) (ZS n W t.goal) (ZE n W t.ops left) V/\Hid (c=true->xJk V<xJk V0)/\Hid (c=false->xJk V<=xJk V0/\xQp (ZE n W t.ops left) k V/\V[f.toNat]? = some false/\∀p∈o.add.take j,V[p.toNat]? = some false)/\Below w.heap.size w wr)
       case atStart=>exact⟨V1,c1,0,rfl,rfl,lHd (by omega),hA6,hV1,ht1,lHd (fun h=>⟨(hf1.out h).1,(hf1.out h).2,hyf.out,by simp⟩),bch⟩
       case round=>
        obtain⟨V2,c2',j,rfl,rfl,hj,hA2,hV2,ht2,hf2,hBu⟩:=hrel;obtain⟨w8,rfl⟩:∃wo:World,wo=wr:=⟨_,rfl⟩
        by_cases hlj:j<o.add.length
        ·obtain⟨pd,p,rfl,hp,hpc⟩:=(hm.add.below hBu).at_ hlj;obtain⟨p0,p1⟩:=hoo.out.2 p (lMg hp.out);have hl2:=hV2.len;obtain⟨y2,hy2,hyc2,hyw2⟩:=hA2.cell (i:=p.toNat) (by omega);obtain⟨yf,hyf2,hyfc,hyfw⟩:=hA2.cell (i:=f.toNat) (by omega);have hj1:=lHd (show j+1+(gk-1)=o.add.length/\gk-1<gk by have:=hj.out;omega);have HV2:=lHd hV2;clear hV2 hl2
         cases y2 with
         |true=>
          have hz:=lHd (show GR (ZS n W t.goal) (ZE n W t.ops left) f from by
           have h3:=HV2.out.sound _ hy2.out;rw[yZx p0] at h3;exact .step h3 ⟨o,cv,ho.out,hcv.out,(by have:=HP.out;omega),lMg hp.out,hf.out.symm⟩)
          go_wp2
          go_roundg (gk-1)
          case measure=>exact hj1.out.2
          case rel=>
           refine⟨V2.set f.toNat true,true,j+1,rfl,by go_num,lHd hj1.out.1,hA2.set_ _ _,HV2.out.set_ hz.out f0 (by omega),lHd (fun _=>?_),lHd (fun h=>by cases h),bch⟩
           cases c2' with
           |true=>have h2:=ht2.out (by simp);have h3:=zQo (bs:=V2) (i:=f.toNat);omega
           |false=>have h2:=hf2.out (by simp);have h3:=xWs h2.2.2.1;omega
         |false=>
          go_wp2
          go_roundg (gk-1)
          case measure=>exact hj1.out.2
          case rel=>
           exact⟨V2,c2',j+1,rfl,by go_num,lHd hj1.out.1,hA2,HV2.out,ht2,lHd (fun h=>⟨(hf2.out h).1,(hf2.out h).2.1,(hf2.out h).2.2.1,xJe (P:=fun p:Int=>V2[p.toNat]? = some false) hp.out (hf2.out h).2.2.2 hy2.out⟩),bch⟩
        ·go_wp2
         go_roundg (g4-1)
         case measure=>exact hk1.out.2
         case rel=>
          refine⟨V2,c2',k+1,rfl,by go_num,lHd hk1.out.1,hA2,hV2,ht2,lHd (fun h=>⟨(hf2.out h).1,xZu (hf2.out h).2.1 (fun p q hE hp=>?_)⟩),bch⟩;obtain⟨o',c',ho',_,_,hpm,_⟩:=hE;rw[ho.out] at ho';injection ho' with ho';subst ho'
          have h3:=xJu hlj (hf2.out h).2.2.2 p hpm;rw[h3] at hp;cases hp
    ·have hkk:=lHd (show k=t.ops.length by have:=hk.out;omega);go_wp2
     go_roundg (2*xJk V1+c1.toNat)
     case measure=>
      rw[hgk.out]
      cases c1 with
      |true=>have:=ht1.out rfl;simp;omega
      |false=>have:=(hf1.out rfl).1;simp;omega
     case rel=>exact⟨V1,c1,rfl,lHd rfl,hA1,hV1,lHd (fun h=>by rw[<- hkk.out];exact(hf1.out h).2),bch⟩
theorem BArr.made_set(w:World)(n i:Nat)(b:Bool):BArr (w.alloc (.cells ((Array.replicate n (Value.bool false)).setIfInBounds i (.bool b)) 4)) w.heap.size ((List.replicate n false).set i b):=by
 have h:=Arr.new w 4 (((List.replicate n false).set i b).map Value.bool);unfold BArr;rw[List.map_set,List.map_replicate] at h ⊢;rw[<- List.toArray_replicate,List.setIfInBounds_toArray];exact h
theorem vQs(w:World)(b:Nat)(n:Nat)(t:TaskV)(Ai Ag Ao S C Q:Option Addr)(ci cg co cs cc cq:Nat)(st left W:List Int)(hX:SBox w b n t Ai Ag Ao S C Q ci cg co cs cc cq st left W)(Zp:Option Addr)(cz:Nat)(Z:List Bool)(hZ:Bools w Zp Z)(hzl:Z.length=n+1) :
  Calls prog 134 #[.pointer (some ⟨b,0,none⟩),.slice Zp (n+1) cz] w fun e w'=>∃g,e=.returned (.slice (some ⟨g,0,none⟩) (n+1) (n+1))/\w.heap.size<=g/\BArr w' g (uJ3 n W t.ops st Z)/\Below w.heap.size w w':=by
 have hmk:=vKk n hX.n9;have hn9:=hX.n9;have hlo:=hX.mem.lops.le;have hls:=hX.ls.le;have HST:=lHd hX.st_;have hS:=hX.is;have HZL:=lHd hzl;clear hzl;have HX:=lHd hX;obtain⟨k0,k1,k2,k3,k4,k5,k6⟩:=SBox.cells (HX.out);have kb:=zQ2 _ _ k0;clear hX;have hA0:=BArr.made w (n+1) _ rfl;obtain⟨y,hy,hd,hf⟩:=hA0.cell (i:=n) (by simp);go_enter func134,ntmps134
 go_wp2_with fail
 go_loopg [32] (st.length) (fun gk i wr=>∃k:Nat,Hid (k+gk=st.length)/\i=.int .i64 k/\BArr wr w.heap.size (xVn (n+1) ((n:Int)::st.take k))/\Below w.heap.size w wr)
 case atStart=>
  refine⟨0,lHd (by omega),rfl,?_,bch⟩;rw[List.take_zero,vJ1];exact BArr.made_set w (n+1) n true
 case round=>
  obtain⟨k,hk,rfl,hA,hBq⟩:=hrel;have dqs:=hBq.size
  by_cases hlt:k<st.length
  ·obtain⟨sd,x,rfl,hx,hc⟩:=(hS.below hBq).at_ hlt;obtain⟨x0,x1⟩:=HST.out x (lMg hx.out);have hlen:=xKy (n+1) ((n:Int)::st.take k);obtain⟨y1,hy1,hd1,hf1⟩:=hA.cell (i:=x.toNat) (by omega);have hk1:=lHd (show k+1+(gk-1)=st.length/\gk-1<gk by have:=hk.out;omega);go_wp2
   go_roundg (gk-1)
   case measure=>exact hk1.out.2
   case rel=>
    refine⟨k+1,lHd hk1.out.1,by go_num,?_,bch⟩;rw[vQr hx.out];exact hA.set_ _ _
  ·rw[zQd (by omega)] at hA;obtain⟨w2,rfl⟩:∃wo:World,wo=wr:=⟨_,rfl⟩;clear k0 k1 k2 k3 k4 k5 k6 kb;obtain⟨k0,k1,k2,k3,k4,k5,k6⟩:=SBox.cells (HX.out.below hBq);have kb:=zQ2 _ _ k0
   go_wp2_with fail
   go_loopg [8] (2*xJk (xVn (n+1) ((n:Int)::st))+1) (fun gk ch wr=>∃(V:List Bool) (c:Bool),ch=.bool c/\Hid (gk=2*xJk V+c.toNat)/\BArr wr w.heap.size V/\SoundG (n+1) (BS n st) (BE n W t.ops Z) V/\Hid (c=false->xQp (BE n W t.ops Z) t.ops.length V)/\Below w.heap.size w wr)
   case atStart=>exact⟨_,true,rfl,lHd rfl,hA,vKl HST.out,lHd (fun h=>by cases h),bch⟩
   case round=>
    obtain⟨V0,c,rfl,hgk,hA0,hV0,hcl,hBp⟩:=hrel;obtain⟨g3,rfl⟩:∃g:Nat,g=gk:=⟨_,rfl⟩;obtain⟨w3,rfl⟩:∃wo:World,wo=wr:=⟨_,rfl⟩
    cases c with
    |false=>
     have e:=hV0.eq (hcl.out rfl) (fun i p q h=>by obtain⟨o,ho,_⟩:=h;exact(zQ1.1 ho).1);rw[e] at hA0;clear e hV0 hcl;go_wp2;go_ret;exact⟨_,rfl,by omega,hA0,hBp⟩
    |true=>
     clear k0 k1 k2 k3 k4 k5 k6 kb;obtain⟨k0,k1,k2,k3,k4,k5,k6⟩:=SBox.cells (HX.out.below hBp);have kb:=zQ2 _ _ k0
     go_wp2_with fail
     go_loopg [8,47] (t.ops.length) (fun gk ch i wr=>∃(V:List Bool) (c:Bool) (k:Nat),ch=.bool c/\i=.int .i64 k/\Hid (k+gk=t.ops.length)/\BArr wr w.heap.size V/\SoundG (n+1) (BS n st) (BE n W t.ops Z) V/\Hid (c=true->xJk V<xJk V0)/\Hid (c=false->xJk V<=xJk V0/\xQp (BE n W t.ops Z) k V)/\Below w.heap.size w wr)
     case atStart=>exact⟨V0,false,0,rfl,rfl,lHd (by omega),hA0,hV0,lHd (fun h=>by cases h),lHd (fun _=>⟨Nat.le_refl _,xWz⟩),bch⟩
     case round=>
      obtain⟨V1,c1,k,rfl,rfl,hk,hA1,hV1,ht1,hf1,hBs⟩:=hrel;obtain⟨g4,rfl⟩:∃g:Nat,g=gk:=⟨_,rfl⟩;obtain⟨w4,rfl⟩:∃wo:World,wo=wr:=⟨_,rfl⟩;clear k0 k1 k2 k3 k4 k5 k6 kb;obtain⟨k0,k1,k2,k3,k4,k5,k6⟩:=SBox.cells (HX.out.below hBs);have kb:=zQ2 _ _ k0
      by_cases hlt:k<t.ops.length
      ·obtain⟨ad,o,A0,c0,A1,c1',A2,c2,rfl,ho,hc0,hc1,hc2,hc3,hm⟩:=HX.out.mem.ops.at2 hBs hlt;have hoo:=lHd (HX.out.ops_ o (lMg ho.out));have hk1:=lHd (show k+1+(g4-1)=t.ops.length/\g4-1<g4 by have:=hk.out;omega);obtain⟨f,hf⟩:∃f,Hid (xXp W n o.pre=f):=⟨_,lHd rfl⟩;obtain⟨f0,f1⟩:=xYe (vs:=W) (n:=(n:Int)) (by omega) hoo.out.1;rw[hf.out] at f0 f1;have HL1:=lHd hV1.len
       go_wp2_with fail
       refine(zQn (HX.out.below bch) _ _ _ (hm.pre.below bch) hm.lpre hoo.out.1 f hf.out).mono ?_;rintro e w6 ⟨rfl,hB6⟩;have D6:=xJ3 w hB6 bch;have C6:=Cls.below (l:=[(w4.heap.size,0,.slice A0 o.pre.length c0),(w4.heap.size,1,.slice A1 o.add.length c1'),(w4.heap.size,2,.slice A2 o.del.length c2),(w4.heap.size,3,.int .i64 o.cost)]) hB6 (by simp[Cls,go_sem]);have F6:=C6.f;have y6w40:=C6.b 0;have E6:=xJ3 w4 hB6 bch;clear k0 k1 k2 k3 k4 k5 k6 kb;obtain⟨k0,k1,k2,k3,k4,k5,k6⟩:=SBox.cells (HX.out.below D6);have kb:=zQ2 _ _ k0;have hA6:=hA1.below E6;obtain⟨yf,hyf,hyc,hyw⟩:=hA6.cell (i:=f.toNat) (by have:=HL1.out;omega)
       cases yf with
       |false=>
        go_wp2
        go_roundg (g4-1)
        case measure=>exact hk1.out.2
        case rel=>
         refine⟨V1,c1,k+1,rfl,by go_num,lHd hk1.out.1,hA6,hV1,ht1,lHd (fun h=>⟨(hf1.out h).1,xZu (hf1.out h).2 (fun p q hE hp=>by obtain⟨o',ho',e,_⟩:=hE;rw[ho.out] at ho';injection ho' with ho';subst ho';rw[e,hf.out,hyf.out] at hp;cases hp)⟩),bch⟩
       |true=>
        have hlc':=hm.ladd.le;have hfr:=lHd (show GR (BS n st) (BE n W t.ops Z) f from by
         have h3:=hV1.sound _ hyf.out
         rwa [yZx f0] at h3)
        go_wp2_with fail
        go_loopg [8,62] (o.add.length) (fun gk ch i wr=>∃(V:List Bool) (c:Bool) (j:Nat),ch=.bool c/\i=.int .i64 j/\Hid (j+gk=o.add.length)/\BArr wr w.heap.size V/\SoundG (n+1) (BS n st) (BE n W t.ops Z) V/\Hid (c=true->xJk V<xJk V0)/\Hid (c=false->xJk V<=xJk V0/\xQp (BE n W t.ops Z) k V/\∀p∈o.add.take j,V[p.toNat]? = some true\/Z[p.toNat]? = some true)/\Below w.heap.size w wr)
        case atStart=>exact⟨V1,c1,0,rfl,rfl,lHd (by omega),hA6,hV1,ht1,lHd (fun h=>⟨(hf1.out h).1,(hf1.out h).2,by simp⟩),bch⟩
        case round=>
         obtain⟨V2,c2',j,rfl,rfl,hj,hA2,hV2,ht2,hf2,hBu⟩:=hrel;obtain⟨w8,rfl⟩:∃wo:World,wo=wr:=⟨_,rfl⟩
         by_cases hlj:j<o.add.length
         ·obtain⟨pd,p,rfl,hp,hpc⟩:=(hm.add.below hBu).at_ hlj;obtain⟨p0,p1⟩:=hoo.out.2 p (lMg hp.out);have hl2:=hV2.len;obtain⟨y2,hy2,hyc2,hyw2⟩:=hA2.cell (i:=p.toNat) (by omega);obtain⟨zd,z2,rfl,hz2,hzc2⟩:=(hZ.below hBu).at_ (k:=p.toNat) (by have:=HZL.out;omega);have hj1:=lHd (show j+1+(gk-1)=o.add.length/\gk-1<gk by have:=hj.out;omega);have HV2:=lHd hV2;clear hV2 hl2
          cases y2 with
          |true=>
           go_wp2
           go_roundg (gk-1)
           case measure=>exact hj1.out.2
           case rel=>
            exact⟨V2,c2',j+1,rfl,by go_num,lHd hj1.out.1,hA2,HV2.out,ht2,lHd (fun h=>⟨(hf2.out h).1,(hf2.out h).2.1,xJe (P:=fun p:Int=>V2[p.toNat]? = some true\/Z[p.toNat]? = some true) hp.out (hf2.out h).2.2 (.inl hy2.out)⟩),bch⟩
          |false=>
           cases z2 with
           |true=>
            go_wp2
            go_roundg (gk-1)
            case measure=>exact hj1.out.2
            case rel=>
             exact⟨V2,c2',j+1,rfl,by go_num,lHd hj1.out.1,hA2,HV2.out,ht2,lHd (fun h=>⟨(hf2.out h).1,(hf2.out h).2.1,xJe (P:=fun p:Int=>V2[p.toNat]? = some true\/Z[p.toNat]? = some true) hp.out (hf2.out h).2.2 (.inr hz2.out)⟩),bch⟩
           |false=>
            have hz:=lHd (show GR (BS n st) (BE n W t.ops Z) p from .step hfr.out ⟨o,ho.out,hf.out.symm,lMg hp.out,hz2.out⟩);go_wp2
            go_roundg (gk-1)
            case measure=>exact hj1.out.2
            case rel=>
             refine⟨V2.set p.toNat true,true,j+1,rfl,by go_num,lHd hj1.out.1,hA2.set_ _ _,HV2.out.set_ hz.out p0 (by omega),lHd (fun _=>?_),lHd (fun h=>by cases h),bch⟩;have h3:=xWs hy2.out
             cases c2' with
             |true=>have h2:=ht2.out (by simp);omega
             |false=>have h2:=hf2.out (by simp);omega
         ·go_wp2
          go_roundg (g4-1)
          case measure=>exact hk1.out.2
          case rel=>
           refine⟨V2,c2',k+1,rfl,by go_num,lHd hk1.out.1,hA2,hV2,ht2,lHd (fun h=>⟨(hf2.out h).1,xZu (hf2.out h).2.1 (fun p q hE hp=>?_)⟩),bch⟩;obtain⟨o',ho',_,hpm,hzf⟩:=hE;rw[ho.out] at ho';injection ho' with ho';subst ho'
           rcases xJu hlj (hf2.out h).2.2 q hpm with h3|h3
           ·exact h3
           ·rw[h3] at hzf;cases hzf
      ·have hkk:=lHd (show k=t.ops.length by have:=hk.out;omega);go_wp2
       go_roundg (2*xJk V1+c1.toNat)
       case measure=>
        rw[hgk.out]
        cases c1 with
        |true=>have:=ht1.out rfl;simp;omega
        |false=>have:=(hf1.out rfl).1;simp;omega
       case rel=>exact⟨V1,c1,rfl,lHd rfl,hA1,hV1,lHd (fun h=>by rw[<- hkk.out];exact(hf1.out h).2),bch⟩
theorem vXk{n:Nat}{start:Int->Prop}{E:Nat->Int->Int->Prop}{Z:List Bool}(h:grV (n+1) start E=Z):Z.length=n+1:=by rw[<- h,zWx]
theorem OwnI.drew'{base:Nat}{w:World}{v:Value}{xs:List Int}(h:OwnI base w v xs):OwnI base w.drew v xs:=h.below (xK3 (Below.refl _ _))
theorem vQt{n:Nat}{W left:List Int}{ops:List OpV}{Z B:List Bool}:xVm left (xZv n W ops Z B 0)=1000000000:=rfl
theorem vXl{n k:Nat}{W:List Int}{ops:List OpV}{Z B:List Bool}{o:OpV}{f:Int}(ho:ops[k]? = some o)(hf:xXp W n o.pre=f)(h:B[f.toNat]? = some false\/∀p∈o.add,Z[p.toNat]? = some false):xZv n W ops Z B (k+1)=xZv n W ops Z B k:=by
 refine yZq ?_;rintro⟨o',ho',hb,p,hp,hz⟩;rw[ho] at ho';injection ho' with ho';subst ho'
 rw[hf] at hb;rcases h with h|h
 ·rw[h] at hb;cases hb
 ·rw[h p hp] at hz;cases hz
theorem yZs{n k:Nat}{W:List Int}{ops:List OpV}{Z B:List Bool}{o:OpV}{f p:Int}(ho:ops[k]? = some o)(hf:xXp W n o.pre=f)(hb:B[f.toNat]? = some true)(hp:p∈o.add)(hz:Z[p.toNat]? = some true):xZv n W ops Z B k ++ [(k:Int)]=xZv n W ops Z B (k+1):=by
 refine(vKf ⟨o,ho,?_,p,hp,hz⟩).symm;rw[hf];exact hb
theorem yKb(w:World)(b:Nat)(n:Nat)(t:TaskV)(Ai Ag Ao S C Q:Option Addr)(ci cg co cs cc cq:Nat)(st left W:List Int)(hX:SBox w b n t Ai Ag Ao S C Q ci cg co cs cc cq st left W)(h40:t.ops.length<=100000000) :
  Calls prog 88 #[.pointer (some ⟨b,0,none⟩)] w fun e w'=>∃v,e=.returned (.agg #[v,.int .i64 (xVm left (yZc n W t.ops (xK0 n W t.ops left t.goal) (uJ3 n W t.ops st (xK0 n W t.ops left t.goal))))])/\OwnI w.heap.size w' v (yZc n W t.ops (xK0 n W t.ops left t.goal) (uJ3 n W t.ops st (xK0 n W t.ops left t.goal)))/\Below w.heap.size w w':=by
 have hn9:=hX.n9;have HX:=lHd hX;obtain⟨Z,hZe⟩:∃Z,Hid (xK0 n W t.ops left t.goal=Z):=⟨_,lHd rfl⟩;obtain⟨Bf,hBe⟩:∃Bf,Hid (uJ3 n W t.ops st Z=Bf):=⟨_,lHd rfl⟩;have HZL:=lHd (vXk hZe.out);have HBL:=lHd (vXk hBe.out);obtain⟨k0,k1,k2,k3,k4,k5,k6⟩:=SBox.cells (HX.out);have kb:=zQ2 _ _ k0;clear hX;go_enter func88,ntmps88
 go_wp2_with fail
 refine(yZr _ b n t Ai Ag Ao S C Q ci cg co cs cc cq st left W (HX.out.below bch)).mono ?_;rintro e w1 ⟨g1,rfl,hg1,hA1,hB1⟩;have D1:=xJ3 w hB1 bch;have C1:=Cls.below (l:=[(w.heap.size,0,.slice none 0 0),(w.heap.size,1,.int .i64 0)]) hB1 (by simp[Cls,go_sem]);have F1:=C1.f;have y1w0:=C1.b 0;rw[hZe.out] at hA1;clear k0 k1 k2 k3 k4 k5 k6 kb;obtain⟨k0,k1,k2,k3,k4,k5,k6⟩:=SBox.cells (HX.out.below bch);have kb:=zQ2 _ _ k0
 go_wp2_with fail
 refine(vQs _ b n t Ai Ag Ao S C Q ci cg co cs cc cq st left W (HX.out.below bch) _ _ Z hA1.bools HZL.out).mono ?_;rintro e w2 ⟨g2,rfl,hg2,hA2,hB2⟩;have D2:=xJ3 w hB2 bch;have d2s:=D2.size;have C2:=Cls.below (l:=[(w.heap.size,0,.slice none 0 0),(w.heap.size,1,.int .i64 0)]) hB2 (by simp[Cls,go_sem,F1]);have F2:=C2.f;have y2w0:=C2.b 0;have y2wp1:w.heap.size<w2.heap.size+1:=(by omega);rw[hBe.out] at hA2;have hA1':=hA1.below bch;clear k0 k1 k2 k3 k4 k5 k6 kb;obtain⟨k0,k1,k2,k3,k4,k5,k6⟩:=SBox.cells (HX.out.below bch);have kb:=zQ2 _ _ k0
 go_wp2_with fail
 go_loopg [22] (t.ops.length) (fun gk i wr=>∃(k:Nat) (v:Value),i=.int .i64 k/\Hid (k+gk=t.ops.length)/\OwnI (w2.heap.size+1) wr v (xZv n W t.ops Z Bf k)/\Below w2.heap.size w2 wr/\Cls wr [(w.heap.size,0,.slice none 0 0),(w.heap.size,1,.int .i64 0),(w2.heap.size,0,v),(w2.heap.size,1,.int .i64 (xVm left (xZv n W t.ops Z Bf k)))])
 case atStart=>
  refine⟨0,.slice none 0 0,rfl,lHd (by omega),OwnI.nil _ _,?_⟩;rw[vQt];exact⟨bch,(by simp[Cls,go_sem,F2,y2w0])⟩
 case round=>
  obtain⟨k,v,rfl,hk,hown,hBs,hCs⟩:=hrel;obtain⟨g4,rfl⟩:∃g:Nat,g=gk:=⟨_,rfl⟩;obtain⟨w4,rfl⟩:∃wo:World,wo=wr:=⟨_,rfl⟩;obtain⟨mk,hmk⟩:∃mk,Hid (xVm left (xZv n W t.ops Z Bf k)=mk):=⟨_,lHd rfl⟩;rw[hmk.out] at hCs;have DW:=D2.trans (hBs.mono D2.size);clear k0 k1 k2 k3 k4 k5 k6 kb;obtain⟨k0,k1,k2,k3,k4,k5,k6⟩:=SBox.cells (HX.out.below DW);have kb:=zQ2 _ _ k0;have Fs:=hCs.f;have ysw0:=hCs.blk (b:=w.heap.size) (k:=0) (v:=.slice none 0 0) (by simp);have ysw20:=hCs.blk (b:=w2.heap.size) (k:=0) (v:=v) (by simp)
  by_cases hlt:k<t.ops.length
  ·obtain⟨ad,o,A0,c0,A1,c1',A2,c2,rfl,ho,hc0,hc1,hc2,hc3,hm⟩:=HX.out.mem.ops.at2 DW hlt;have hoo:=lHd (HX.out.ops_ o (lMg ho.out));have hk1:=lHd (show k+1+(g4-1)=t.ops.length/\g4-1<g4 by have:=hk.out;omega);obtain⟨f,hf⟩:∃f,Hid (xXp W n o.pre=f):=⟨_,lHd rfl⟩;obtain⟨f0,f1⟩:=xYe (vs:=W) (n:=(n:Int)) (by omega) hoo.out.1;rw[hf.out] at f0 f1;have hlk:k<left.length:=by have:=HX.out.lc;omega
   obtain⟨cd,cv,rfl,hcv,hcc0⟩:=HX.out.ic.at_ hlk;have hcbl:=zQ2 w _ hcc0
   go_wp2_with fail
   refine(zQn (HX.out.below bch) _ _ _ (hm.pre.below bch) hm.lpre hoo.out.1 f hf.out).mono ?_;rintro e w6 ⟨rfl,hB6⟩;have D6:=xJ3 w2 hB6 bch;have d6s:=D6.size;have C6:=Cls.below (l:=[(w.heap.size,0,.slice none 0 0),(w.heap.size,1,.int .i64 0),(w2.heap.size,0,v),(w2.heap.size,1,.int .i64 mk),(w4.heap.size,0,.slice A0 o.pre.length c0),(w4.heap.size,1,.slice A1 o.add.length c1'),(w4.heap.size,2,.slice A2 o.del.length c2),(w4.heap.size,3,.int .i64 o.cost)]) hB6 (by simp[Cls,go_sem,Fs,ysw0,ysw20]);have F6:=C6.f;have y6w0:=C6.b 0;have y6w20:=C6.b 2;have y6w40:=C6.b 4;have E6:=xJ3 w4 hB6 bch;clear k0 k1 k2 k3 k4 k5 k6 kb;obtain⟨k0,k1,k2,k3,k4,k5,k6⟩:=SBox.cells (HX.out.below (DW.trans (E6.mono DW.size)));have kb:=zQ2 _ _ k0;have hown6:=hown.below E6;have hA16:=hA1'.below D6;have hA26:=hA2.below D6;obtain⟨yf,hyf,hyc,hyw⟩:=hA26.cell (i:=f.toNat) (by have:=HBL.out;omega)
   cases yf with
   |false=>
    have HS:=lHd (vXl (Z:=Z) ho.out hf.out (.inl hyf.out));go_wp2
    go_roundg (g4-1)
    case measure=>exact hk1.out.2
    case rel=>
     refine⟨k+1,v,by go_num,lHd hk1.out.1,?_,?_⟩
     ·rw[HS.out];exact hown6
     ·rw[HS.out,hmk.out];exact⟨bch,(by simp[Cls,go_sem,F6])⟩
   |true=>
    have hlc':=hm.ladd.le;have hadd6:=hm.add.below (DW.trans (E6.mono DW.size))
    go_wp2_with fail
    go_loop [38] (fun i=>∃j:Nat,j<=o.add.length/\i=.int .i64 j/\Hid (∀p∈o.add.take j,Z[p.toNat]? = some false)) (fun i=>o.add.length-(intOf i).toNat)
    case atStart=>exact⟨0,zKk _,rfl,lHd (by simp)⟩
    case round=>
     obtain⟨j,hj,rfl,hno⟩:=hrel
     by_cases hlj:j<o.add.length
     ·obtain⟨pd,p,rfl,hp,hpc⟩:=hadd6.at_ hlj;obtain⟨p0,p1⟩:=hoo.out.2 p (lMg hp.out);obtain⟨z2,hz2,hzc2,hzw2⟩:=hA16.cell (i:=p.toNat) (by have:=HZL.out;omega)
      cases z2 with
      |false=>
       go_wp2
       go_round
       case rel=>exact⟨j+1,by omega,by go_num,lHd (xJe (P:=fun p:Int=>Z[p.toNat]? = some false) hp.out hno.out hz2.out)⟩
       case measure=>simp[intOf];omega
      |true=>
       have HT:=lHd (yZs ho.out hf.out hyf.out (lMg hp.out) hz2.out);have HM:=lHd (show min mk cv=xVm left (xZv n W t.ops Z Bf (k+1)) by rw[<- HT.out,vQn (by simpa using hcv.out),hmk.out]);have hlen:(xZv n W t.ops Z Bf k).length<1000000000000:=by have:=vKg (n:=n) (W:=W) (ops:=t.ops) (Z:=Z) (B:=Bf) k;omega
       obtain⟨mn,hmn⟩:∃mn,Hid (min mk cv=mn):=⟨_,lHd rfl⟩
       go_wp2_with (at_builtin;go_must (refine xXr rfl (.tmp 47) (.tmp 49) rfl w2 [(w.heap.size,0,.slice none 0 0),(w.heap.size,1,.int .i64 0),(w2.heap.size,0,v),(w2.heap.size,1,.int .i64 mk)] (w2.heap.size+1) v _ ((k:Int)) rfl (OwnI.below hown6 ?p1) ⟨w6.heap.size,0,none⟩ 1 rfl ?p2 hlen ?p3 ?p4 ?p5 ?p6 ?p7 ?_;(case p1=>exact bch);(case p2=>simp[go_sem]);(case p3=>(first|omega|(simp<;>omega)));(case p4=>(first|omega|(simp<;>omega)));(case p5=>exact bch);(case p6=>simp[Cls,go_sem,F6,y6w0,y6w20]);(case p7=>(simp<;>omega));intro v7 w7 o7 D7 C7 sz7;have d7s:=D7.size;have F7:=C7;simp only[Cls,and_true] at F7;have y7w0:w.heap.size<w7.heap.size:=C7.blk (b:=w.heap.size) (k:=0) (v:=.slice none 0 0) (by simp);have y7wp1:w.heap.size<w7.heap.size+1:=(by omega);have y7wp2:w.heap.size<w7.heap.size+1+1:=(by omega);have y7w20:w2.heap.size<w7.heap.size:=C7.blk (b:=w2.heap.size) (k:=0) (v:=v) (by simp);have y7w2p1:w2.heap.size<w7.heap.size+1:=(by omega);have y7w2p2:w2.heap.size<w7.heap.size+1+1:=(by omega);obtain⟨n7,hn7⟩:∃n7:Nat,Hid ((xZv n W t.ops Z Bf k ++ [(k:Int)]).length=n7):=⟨_,lHd rfl⟩;obtain⟨A7,c7,e7,-⟩:=o7.form_at hn7.out;subst e7;have DZ:Below w.heap.size w (w7.setCell ⟨w2.heap.size,0,none⟩ (.slice A7 n7 c7)):=(by repeat (first|with_reducible exact(D2.trans (D7.mono D2.size))|with_reducible apply xK3|with_reducible apply xVr|with_reducible apply xVs|((with_reducible refine yYs ?_ ?_ _);rotate_left;(first|omega|(simp<;>omega)))));clear k0 k1 k2 k3 k4 k5 k6 kb;obtain⟨k0,k1,k2,k3,k4,k5,k6⟩:=SBox.cells (HX.out.below DZ);have hccZ:=(DZ.cell hcbl).trans hcc0))
       refine xJ5 11 (by kernel_rfl) (by kernel_rfl) ?_;simp only[yJx,List.take_zero,List.drop_succ_cons,List.drop_zero]
       repeat still_step
       refine wpStill_nil ?_;go_wp2
       all_goals
        go_roundg (g4-1)
        case measure=>exact hk1.out.2
        case rel=>
         refine⟨k+1,.slice A7 n7 c7,by go_num,lHd hk1.out.1,?_,?_⟩
         ·rw[<- HT.out]
          repeat (first|with_reducible exact o7|(with_reducible refine OwnI.far ?_ ?_ _;rotate_left;(first|omega|(simp<;>omega)))|with_reducible refine OwnI.drew' ?_)
         ·first|rw[show xVm left (xZv n W t.ops Z Bf (k+1))=mk by rw[<- HM.out];omega]|rw[show xVm left (xZv n W t.ops Z Bf (k+1))=cv by rw[<- HM.out];omega]
          exact⟨bch,(by simp[Cls,go_sem,F7])⟩
     ·have HF:=lHd (xJu hlj hno.out);have HS:=lHd (vXl (B:=Bf) ho.out hf.out (.inr HF.out));go_wp2
      go_roundg (g4-1)
      case measure=>exact hk1.out.2
      case rel=>
       refine⟨k+1,v,by go_num,lHd hk1.out.1,?_,?_⟩
       ·rw[HS.out];exact hown6
       ·rw[HS.out,hmk.out];exact⟨bch,(by simp[Cls,go_sem,F6])⟩
  ·have hkk:=lHd (show xZv n W t.ops Z Bf k=yZc n W t.ops Z Bf by unfold yZc;rw[show k=t.ops.length by have:=hk.out;omega]);rw[hkk.out] at hown;have hmk2:=lHd (show xVm left (yZc n W t.ops Z Bf)=mk by rw[<- hmk.out,hkk.out]);obtain⟨A5,c5,rfl,-⟩:=hown.form_at rfl;go_wp2;refine bodyPost_ret (v:=.agg #[.slice A5 (yZc n W t.ops Z Bf).length c5,.int .i64 mk]) ?_ rfl ⟨_,by rw[hZe.out,hBe.out,hmk2.out],?_,bch⟩
   ·simp[results,results88,go_sem,Fs]
   ·rw[hZe.out,hBe.out];refine OwnI.mono (base:=w2.heap.size+1) ?_ (by omega)
    repeat (first|with_reducible exact hown|(with_reducible refine OwnI.far ?_ ?_ _;rotate_left;(first|omega|(simp<;>omega)))|with_reducible refine OwnI.drew' ?_)
end
section
inductive Arc(o:OpV)(p q:Int):List Int->Prop
 |both:p∈o.add->q∈o.add->Arc o p q o.pre
 |left {l:List Int}:p∈o.add->q∉o.add->q∉o.del->(∀x,x∈l↔x=q\/x∈o.pre)->Arc o p q l
 |right {l:List Int}:q∈o.add->p∉o.add->p∉o.del->(∀x,x∈l↔x=p\/x∈o.pre)->Arc o p q l
theorem Arc.symm{o:OpV}{p q:Int}{l:List Int}(h:Arc o p q l):Arc o q p l:=by
 cases h with
 |both h1 h2=>exact .both h2 h1
 |left h1 h2 h3 h4=>exact .right h1 h2 h3 h4
 |right h1 h2 h3 h4=>exact .left h1 h2 h3 h4
def Rng(n:Nat)(p:Int):Prop:=0<=p/\p<(n:Int)
def valP(V:Int->Int->Int)(l:List Int):Int:=l.foldl (fun o p=>l.foldl (fun o q=>max o (V p q)) o) 0
theorem uXc{f:Int->Int}:∀(l:List Int) (o:Int),o<=l.foldl (fun o q=>max o (f q)) o/\(∀q∈l,f q<=l.foldl (fun o q=>max o (f q)) o)/\∀z,o<=z->(∀q∈l,f q<=z)->l.foldl (fun o q=>max o (f q)) o<=z:=by
 intro l
 induction l with
 |nil=>intro o;exact⟨Int.le_refl _,by simp,fun z h _=>h⟩
 |cons x l ih=>
  intro o;obtain⟨h1,h2,h3⟩:=ih (max o (f x));simp only[List.foldl_cons];refine⟨by omega,fun q hq=>?_,fun z hz hx=>h3 z ?_ (fun q hq=>hx q (List.mem_cons_of_mem _ hq))⟩
  ·rcases yQ6.1 hq with e|e
   ·subst e;omega
   ·exact h2 q e
  ·have:=hx x (vVp ..);omega
theorem vXb{V:Int->Int->Int}(m:List Int):∀(l:List Int) (o:Int),o<=l.foldl (fun o p=>m.foldl (fun o q=>max o (V p q)) o) o/\(∀p∈l,∀q∈m,V p q<=l.foldl (fun o p=>m.foldl (fun o q=>max o (V p q)) o) o)/\∀z,o<=z->(∀p∈l,∀q∈m,V p q<=z)->l.foldl (fun o p=>m.foldl (fun o q=>max o (V p q)) o) o<=z:=by
 intro l
 induction l with
 |nil=>intro o;exact⟨Int.le_refl _,by simp,fun z h _=>h⟩
 |cons x l ih=>
  intro o;obtain⟨k1,k2,k3⟩:=uXc (f:=V x) m o;obtain⟨h1,h2,h3⟩:=ih (m.foldl (fun o q=>max o (V x q)) o);simp only[List.foldl_cons];refine⟨by omega,fun p hp q hq=>?_,fun z hz hx=>h3 z (k3 z hz (fun q hq=>hx x (vVp ..) q hq)) (fun p hp q hq=>hx p (List.mem_cons_of_mem _ hp) q hq)⟩;rcases yQ6.1 hp with e|e
  ·subst e;have:=k2 q hq;omega
  ·exact h2 p e q hq
section
variable {V U:Int->Int->Int}{l m:List Int}
theorem xZl{p q:Int}(hp:p∈l)(hq:q∈l):V p q<=valP V l:=(vXb l l 0).2.1 p hp q hq
theorem xZ5:0<=valP V l:=(vXb l l 0).1
theorem xXw{z:Int}(hz:0<=z)(h:∀p∈l,∀q∈l,V p q<=z):valP V l<=z:=(vXb l l 0).2.2 z hz h
theorem xVg{n:Nat}(hV:∀p q,Rng n p->Rng n q->InV (V p q))(hl:∀p∈l,Rng n p):InV (valP V l):=⟨xZ5,xXw (by omega) fun p hp q hq=>(hV p q (hl p hp) (hl q hq)).2⟩
theorem zQa(h:∀x,x∈l↔x∈m):valP V l=valP V m:=
 Int.le_antisymm (xXw xZ5 fun p hp q hq=>xZl ((h p).1 hp) ((h q).1 hq)) (xXw xZ5 fun p hp q hq=>xZl ((h p).2 hp) ((h q).2 hq))
theorem yXm(h:∀p∈l,∀q∈l,U p q<=V p q):valP U l<=valP V l:=xXw xZ5 fun p hp q hq=>Int.le_trans (h p hp q hq) (xZl hp hq)
theorem yYa(h:valP V l=1000000000)(hV:∀p∈l,∀q∈l,V p q<=1000000000):∃p∈l,∃q∈l,V p q=1000000000:=by
 refine vXe fun hn=>?_
 have:valP V l<=999999999:=xXw (by omega) fun p hp q hq=>by
  have h1:=hV p hp q hq;have h2:V p q≠1000000000:=fun e=>hn ⟨p,hp,q,hq,e⟩
  omega
 omega
end
def zZ5(n:Nat)(ops:List OpV):Prop:=∀o∈ops,(∀p∈o.pre,Rng n p)/\(∀p∈o.add,Rng n p)/\0<=o.cost/\o.cost<=100
theorem Arc.rng{n:Nat}{o:OpV}{p q:Int}{l:List Int}(h:Arc o p q l)(hpre:∀p∈o.pre,Rng n p)(hp:Rng n p)(hq:Rng n q):∀x∈l,Rng n x:=by
 intro x hx
 cases h with
 |both h1 h2=>exact hpre x hx
 |left h1 h2 h3 h4=>rcases (h4 x).1 hx with e|e;(rw[e];exact hq);exact hpre x e
 |right h1 h2 h3 h4=>rcases (h4 x).1 hx with e|e;(rw[e];exact hp);exact hpre x e
theorem Arc.sub{o:OpV}{p q:Int}{l:List Int}(h:Arc o p q l):∀x∈o.pre,x∈l:=by
 intro x hx
 cases h with
 |both h1 h2=>exact hx
 |left h1 h2 h3 h4=>exact(h4 x).2 (.inr hx)
 |right h1 h2 h3 h4=>exact(h4 x).2 (.inr hx)
structure PFix(n:Nat)(st:List Int)(ops:List OpV)(V:Int->Int->Int):Prop where
 all:∀p q,Rng n p->Rng n q->InV (V p q)
 zero:∀p∈st,∀q∈st,V p q=0
 closed:∀o∈ops,∀p q l,Rng n p->Rng n q->Arc o p q l->V p q<=xXf (valP V l) o.cost
structure PBest(n:Nat)(st:List Int)(ops:List OpV)(V:Int->Int->Int):Prop where
 fix:PFix n st ops V
 great:∀U,PFix n st ops U->∀p q,Rng n p->Rng n q->U p q<=V p q
section
variable {n:Nat}{st st':List Int}{ops:List OpV}{V V':Int->Int->Int}
theorem xYw{o:OpV}(h:zZ5 n ops)(ho:o∈ops):InV o.cost:=by have:=h o ho;unfold InV;omega
theorem PBest.same(h:PBest n st ops V)(h':PBest n st ops V'){p q:Int}(hp:Rng n p)(hq:Rng n q):V p q=V' p q:=
 Int.le_antisymm (h'.great V h.fix p q hp hq) (h.great V' h'.fix p q hp hq)
theorem PBest.together(h:PBest n st ops V)(hops:zZ5 n ops)(hst:∀q∈st,Rng n q){plan:List Int}:∀(i:Nat) (r:List Int),(uZb n ops st plan)[i]? = some r->∀p∈r,∀q∈r,V p q<1000000000:=by
 intro i
 induction i with
 |zero=>
  intro r hr p hp q hq;rw[uZ6] at hr;injection hr with hr
  subst hr;rw[h.fix.zero p hp q hq];omega
 |succ i ih=>
  intro r hr p hp q hq;obtain⟨op,r0,h1,h2,⟨o,ho,hpre⟩,rfl⟩:=uZ7 plan st i r hr;have ih':=ih r0 h2;rw[vX7 ho] at hp hq;have hom:=lMg ho;have hoo:=hops o hom;have hc:=xYw hops hom;obtain⟨hpr,hp2⟩:=xXa.1 hp;obtain⟨hqr,hq2⟩:=xXa.1 hq;have h0:∀l,(∀x∈l,x∈r0)->Arc o p q l->V p q<1000000000:=fun l hl ha=>by
   have hlr:=ha.rng hoo.1 hpr hqr;have h1:=h.fix.closed o hom p q l hpr hqr ha;have hin:=xVg h.fix.all hlr;have hnl:valP V l≠1000000000:=fun e=>by
    obtain⟨x,hx,y,hy,e⟩:=yYa e (fun p hp q hq=>(h.fix.all p q (hlr p hp) (hlr q hq)).2);have:=ih' x (hl x hx) y (hl y hy);omega
   have h3:xXf (valP V l) o.cost≠1000000000:=fun e=>by
    rcases (xXt hin hc).1 e with e|e
    ·exact hnl e
    ·omega
   have h4:=xZs hin hc;unfold InV at h4;omega
  by_cases a:p∈o.add
  ·by_cases b:q∈o.add
   ·exact h0 _ hpre (.both a b)
   ·have hqs:q∈r0/\q∉o.del:=by rcases hq2 with e|e;(exact absurd e b);exact e
    exact h0 (q::o.pre) (fun x hx=>by rcases yQ6.1 hx with e|e;(rw[e];exact hqs.1);exact hpre x e) (.left a b hqs.2 (fun x=>yQ6))
  ·have hps:p∈r0/\p∉o.del:=by rcases hp2 with e|e;(exact absurd e a);exact e
   by_cases b:q∈o.add
   ·exact h0 (p::o.pre) (fun x hx=>by rcases yQ6.1 hx with e|e;(rw[e];exact hps.1);exact hpre x e) (.right b a hps.2 (fun x=>yQ6))
   ·have hqs:q∈r0:=by rcases hq2 with e|e;(exact absurd e b);exact e.1
    exact ih' p hps.1 q hqs
end
end
section
theorem OwnLL.drew{base:Nat}{w:World}{v:Value}{rows:List (List Int)}(h:OwnLL base w v rows):OwnLL base w.drew v rows:=h.below (xK3 (Below.refl _ _))
theorem OwnPP.drew{base:Nat}{w:World}{v:Value}{ps:List (Int×Int)}(h:OwnPP base w v ps):OwnPP base w.drew v ps:=h.below (xK3 (Below.refl _ _))
def yYm(t:TaskV)(p:Int)(i:Nat):Prop:=∃o,t.ops[i]? = some o/\¬p∈t.init/\p∈o.add/\∀q∈o.pre,Reach t.init t.ops (xZe t.ops p) q
noncomputable def xK2(t:TaskV)(p:Int)(k:Nat):List Int:=((List.range k).filter fun(i:Nat)=>@decide (yYm t p i) (Classical.propDecidable _)).map fun(i:Nat)=>(i:Int)
noncomputable def xW8(t:TaskV)(p:Int):List Int:=xK2 t p t.ops.length
theorem zYp(t:TaskV)(p:Int)(k:Nat):(xK2 t p k).length<=k:=by
 unfold xK2;rw[zQl];exact yJ1 (List.length_filter_le _ _) (by simp)
theorem zX4{t:TaskV}{p:Int}{k:Nat}(h:yYm t p k):xK2 t p k ++ [(k:Int)]=xK2 t p (k+1):=by
 unfold xK2;rw[List.range_succ,List.filter_append,vQu];simp[h]
theorem xKd{t:TaskV}{p:Int}{k:Nat}(h:¬yYm t p k):xK2 t p (k+1)=xK2 t p k:=by
 unfold xK2;rw[List.range_succ,List.filter_append,vQu];simp[h]
theorem vJ2(w:World)(t:TaskV)(Ai Ag Ao:Option Addr)(ci cg co:Nat)(hT:TaskMem w Ai Ag Ao t)(n:Nat)(hn:t.facts=n)(hv:Valid t) :
  Calls prog 68 #[.agg #[.int .i64 t.facts,.slice Ai t.init.length ci,.slice Ag t.goal.length cg,.slice Ao t.ops.length co]] w fun e w'=>∃v,e=.returned (.tuple #[v,.agg #[.int .i64 0,.int .i64 0]])/\(∃B,w.heap.size<=B/\OwnLL B w' v ((xXd n t).map (xW8 t)))/\Below w.heap.size w w':=by
 have HT0:=lHd (xZ9 hv);have hn24:n<=24:=by have:=hv.f1;omega
 have hn12:n<=1000000000000:=by omega
 have HOPS:=lHd (xYx hv hn);have HN:=lHd hn;have HV:=lHd hv;have h40:=hv.nops;have hli:=hT.linit.le;clear hv hn;go_enter func68,ntmps68
 go_wp2_with fail
 refine(xXq _ _ _ _ _ _ _ _ (hT.below bch)).mono ?_;rintro e w1 ⟨he,hB1⟩;rw[HT0.out] at he;subst he;have D1:=xJ3 w hB1 bch;have C1:=Cls.below (l:=[(w.heap.size,0,.int .i64 t.facts),(w.heap.size,1,.slice Ai t.init.length ci),(w.heap.size,2,.slice Ag t.goal.length cg),(w.heap.size,3,.slice Ao t.ops.length co),(w.heap.size+1,0,.int .i64 0),(w.heap.size+1,1,.int .i64 0)]) hB1 (by simp[Cls,go_sem]);have F1:=C1.f;have y1w1:=C1.b 4;have y1w0:w.heap.size<w1.heap.size:=(by omega)
 go_wp2_with fail
 refine(zKa _ t Ai Ag Ao ci cg co (hT.below bch) n HN.out HV.out).mono ?_;rintro e w2 ⟨v2,rfl,ho2,hB2⟩;have D2:=xJ3 w hB2 bch;have d2s:=D2.size;have C2:=C1.sn hB2 [(w1.heap.size,0,.int .i64 0),(w1.heap.size,1,.int .i64 0)];have F2:=C2.f;have y2w1:=C2.b 4;have y2w10:=C2.b 6;have hll:=zK8 n t;obtain⟨A2,c2,rfl,hnil2,hI2⟩:=ho2.form;clear hnil2 ho2;have hll2:(xXd n t).length<=9223372036854775807:=by omega
 go_wp2_with fail
 go_loopw [5,21] (fun v i wr=>∃k:Nat,k<=(xXd n t).length/\i=.int .i64 k/\OwnLL w2.heap.size wr v (((xXd n t).take k).map (xW8 t))/\Below w2.heap.size w2 wr/\Cls wr [(w.heap.size,0,.int .i64 t.facts),(w.heap.size,1,.slice Ai t.init.length ci),(w.heap.size,2,.slice Ag t.goal.length cg),(w.heap.size,3,.slice Ao t.ops.length co),(w.heap.size+1,0,.int .i64 0),(w.heap.size+1,1,.int .i64 0),(w1.heap.size,0,.int .i64 0),(w1.heap.size,1,.int .i64 0)]) (fun _ i _=>(xXd n t).length-(intOf i).toNat)
 case atStart=>exact⟨0,zKk _,rfl,OwnEs.nil _ _,bch,(by simp[Cls,go_sem,F2])⟩
 case round=>
  obtain⟨k,hk,rfl,hown,hBr,hCr⟩:=hrel;obtain⟨w3,rfl⟩:∃wo:World,wo=wr:=⟨_,rfl⟩;have drs:=hBr.size;have Fr:=hCr.f;have yrw1:=hCr.blk (b:=w.heap.size+1) (k:=0) (v:=.int .i64 0) (by simp);have yrw10:=hCr.blk (b:=w1.heap.size) (k:=0) (v:=.int .i64 0) (by simp);have DR:=D2.trans (hBr.mono D2.size)
  by_cases hlt:k<(xXd n t).length
  ·obtain⟨pd,p,rfl,hp,hpc⟩:=(hI2.below hBr).at_ hlt
   go_wp2_with fail
   refine(xK6 _ t Ai Ag Ao ci cg co (hT.below bch) n HN.out HV.out p).mono ?_;rintro e w4 ⟨g4,rfl,hg4,hA4,hB4⟩;have D4:=xJ3 w hB4 bch;have Ew3_4:=xJ3 w3 hB4 bch;have C4:=C2.st hB4;have F4:=C4.f;have y4w1:=C4.b 4;have y4w10:=C4.b 6;have hcl:=xYk n t.init t.ops (xZe t.ops p)
   go_wp2_with fail
   go_loopw [8,31] (fun v i wr=>∃j:Nat,j<=t.ops.length/\i=.int .i64 j/\OwnI w4.heap.size wr v (xK2 t p j)/\Below w4.heap.size w4 wr/\Cls wr [(w.heap.size,0,.int .i64 t.facts),(w.heap.size,1,.slice Ai t.init.length ci),(w.heap.size,2,.slice Ag t.goal.length cg),(w.heap.size,3,.slice Ao t.ops.length co),(w.heap.size+1,0,.int .i64 0),(w.heap.size+1,1,.int .i64 0),(w1.heap.size,0,.int .i64 0),(w1.heap.size,1,.int .i64 0)]) (fun _ i _=>t.ops.length-(intOf i).toNat)
   case atStart=>exact⟨0,zKk _,rfl,OwnI.nil _ _,bch,(by simp[Cls,go_sem,F4])⟩
   case round=>
    obtain⟨j,hj,rfl,hl4,hBs,hCs⟩:=hrel;obtain⟨w5,rfl⟩:∃wo:World,wo=wr:=⟨_,rfl⟩;have dss:=hBs.size;have Fs:=hCs.f;have ysw1:=hCs.blk (b:=w.heap.size+1) (k:=0) (v:=.int .i64 0) (by simp);have ysw0:w.heap.size<w5.heap.size:=(by omega);have ysw10:=hCs.blk (b:=w1.heap.size) (k:=0) (v:=.int .i64 0) (by simp);have DS:=D4.trans (hBs.mono D4.size);have ES:=Ew3_4.trans (hBs.mono Ew3_4.size)
    by_cases hlj:j<t.ops.length
    ·obtain⟨ad,o,A5,c5,A6,c6,A7,c7,rfl,ho,hc0,hc1,hc2,hc3,hm⟩:=hT.ops.at2 DS hlj;have hoo:=lHd (HOPS.out o (lMg ho.out));have hla:=hm.ladd.le;have hlp:=hm.lpre;have hlen:=Nat.lt_of_le_of_lt (zYp t p j) (show j<1000000000000 by omega)
     by_cases hi:p∈t.init
     ·have HD1:=lHd (zWo hi);have HL:=lHd (xKd (t:=t) (p:=p) (k:=j) (fun⟨o',_,h2,_⟩=>h2 hi));clear hi
      go_wp2_with fail
      refine(xJ9 _ _ _ _ _ true (hT.init.below bch) hli HD1.out).mono ?_;rintro e w9 ⟨rfl,hW⟩;subst hW;go_wp2
      go_roundw
      case rel=>exact⟨j+1,by omega,by go_num,by rw[HL.out];exact hl4.below bch,bch,(by simp[Cls,go_sem,Fs,ysw1,ysw0,ysw10])⟩
      case measure=>simp[intOf];omega
     ·have HD1:=lHd (zVa hi);have HI:=lHd hi;clear hi
      by_cases had:p∈o.add
      ·have HD2:=lHd (zWo had);have HA:=lHd had;clear had
       by_cases hall:∀q∈o.pre,Reach t.init t.ops (xZe t.ops p) q
       ·have HAll:=lHd hall;clear hall;have HL:=lHd (zX4 (t:=t) (p:=p) (k:=j) ⟨o,ho.out,HI.out,HA.out,HAll.out⟩)
        go_wp2_with fail
        refine(xJ9 _ _ _ _ _ false (hT.init.below bch) hli HD1.out).mono ?_;rintro e w9 ⟨rfl,hW⟩;subst hW
        go_wp2_with fail
        refine(xJ9 _ _ _ _ _ true (hm.add.below bch) hla HD2.out).mono ?_;rintro e w9 ⟨rfl,hW⟩;subst hW
        go_wp2_with fail
        refine(zQc _ _ _ _ n _ _ _ (hA4.below bch).bools (hm.pre.below bch) hcl hlp hn12 hoo.out.1 true (by rw[xV9 hoo.out.1];exact⟨fun _=>HAll.out,fun _=>rfl⟩)).mono ?_;rintro e w6 ⟨rfl,hB6⟩;have D6:=xJ3 w hB6 bch;have d6s:=D6.size;have Ew4_6:=xJ3 w4 hB6 bch;have Ew5_6:=xJ3 w5 hB6 bch;have C6:=Cls.below (l:=[(w.heap.size,0,.int .i64 t.facts),(w.heap.size,1,.slice Ai t.init.length ci),(w.heap.size,2,.slice Ag t.goal.length cg),(w.heap.size,3,.slice (some ad) t.ops.length co),(w.heap.size+1,0,.int .i64 0),(w.heap.size+1,1,.int .i64 0),(w1.heap.size,0,.int .i64 0),(w1.heap.size,1,.int .i64 0),(w5.heap.size,0,.slice A5 o.pre.length c5),(w5.heap.size,1,.slice A6 o.add.length c6),(w5.heap.size,2,.slice A7 o.del.length c7),(w5.heap.size,3,.int .i64 o.cost)]) hB6 (by simp[Cls,go_sem,Fs,ysw1,ysw0,ysw10]);have F6:=C6.f;have y6w1:=C6.b 4;have y6w0:w.heap.size<w6.heap.size:=(by omega);have y6w10:=C6.b 6;have y6w50:=C6.b 8;have hl6:=hl4.below bch
        go_wp2_with (at_builtin;go_must (refine xXr rfl (.tmp 53) (.tmp 55) rfl w4 [(w.heap.size,0,.int .i64 t.facts),(w.heap.size,1,.slice Ai t.init.length ci),(w.heap.size,2,.slice Ag t.goal.length cg),(w.heap.size,3,.slice (some ad) t.ops.length co),(w.heap.size+1,0,.int .i64 0),(w.heap.size+1,1,.int .i64 0),(w1.heap.size,0,.int .i64 0),(w1.heap.size,1,.int .i64 0)] (w4.heap.size) u8 _ ((j:Int)) rfl (OwnI.below hl6 ?p1) ⟨w6.heap.size,0,none⟩ 1 rfl ?p2 hlen ?p3 ?p4 ?p5 ?p6 ?p7 ?_;(case p1=>exact bch);(case p2=>simp[go_sem]);(case p3=>(first|omega|(simp<;>omega)));(case p4=>(first|omega|(simp<;>omega)));(case p5=>exact bch);(case p6=>simp[Cls,go_sem,F6,y6w1,y6w0,y6w10]);(case p7=>(simp<;>omega));intro v7 w7 o7 D7 C7 sz7;have d7s:=D7.size;have F7:=C7;simp only[Cls,and_true] at F7;have y7w1:w.heap.size+1<w7.heap.size:=C7.blk (b:=w.heap.size+1) (k:=0) (v:=.int .i64 0) (by simp);have y7w0:w.heap.size<w7.heap.size:=(by omega);have y7wp1:w.heap.size<w7.heap.size+1:=(by omega);have y7wp2:w.heap.size<w7.heap.size+1+1:=(by omega);have y7w10:w1.heap.size<w7.heap.size:=C7.blk (b:=w1.heap.size) (k:=0) (v:=.int .i64 0) (by simp);have y7w1p1:w1.heap.size<w7.heap.size+1:=(by omega);have y7w1p2:w1.heap.size<w7.heap.size+1+1:=(by omega)))
        go_roundw
        case rel=>exact⟨j+1,by omega,by go_num,by rw[<- HL.out];exact o7,bch,(by simp[Cls,go_sem,F7])⟩
        case measure=>simp[intOf];omega
       ·have HAll:=lHd hall;clear hall;have HL:=lHd (xKd (t:=t) (p:=p) (k:=j) (fun⟨o',h1,_,_,h4⟩=>HAll.out (by rw[ho.out] at h1;injection h1 with h1;rw[h1];exact h4)))
        go_wp2_with fail
        refine(xJ9 _ _ _ _ _ false (hT.init.below bch) hli HD1.out).mono ?_;rintro e w9 ⟨rfl,hW⟩;subst hW
        go_wp2_with fail
        refine(xJ9 _ _ _ _ _ true (hm.add.below bch) hla HD2.out).mono ?_;rintro e w9 ⟨rfl,hW⟩;subst hW
        go_wp2_with fail
        refine(zQc _ _ _ _ n _ _ _ (hA4.below bch).bools (hm.pre.below bch) hcl hlp hn12 hoo.out.1 false (by rw[xV9 hoo.out.1];exact⟨fun h=>(by cases h),fun h=>absurd h HAll.out⟩)).mono ?_;rintro e w6 ⟨rfl,hB6⟩;have D6:=xJ3 w hB6 bch;have d6s:=D6.size;have Ew4_6:=xJ3 w4 hB6 bch;have Ew5_6:=xJ3 w5 hB6 bch;have C6:=Cls.below (l:=[(w.heap.size,0,.int .i64 t.facts),(w.heap.size,1,.slice Ai t.init.length ci),(w.heap.size,2,.slice Ag t.goal.length cg),(w.heap.size,3,.slice (some ad) t.ops.length co),(w.heap.size+1,0,.int .i64 0),(w.heap.size+1,1,.int .i64 0),(w1.heap.size,0,.int .i64 0),(w1.heap.size,1,.int .i64 0),(w5.heap.size,0,.slice A5 o.pre.length c5),(w5.heap.size,1,.slice A6 o.add.length c6),(w5.heap.size,2,.slice A7 o.del.length c7),(w5.heap.size,3,.int .i64 o.cost)]) hB6 (by simp[Cls,go_sem,Fs,ysw1,ysw0,ysw10]);have F6:=C6.f;have y6w1:=C6.b 4;have y6w0:w.heap.size<w6.heap.size:=(by omega);have y6w10:=C6.b 6;have y6w50:=C6.b 8;go_wp2
        go_roundw
        case rel=>exact⟨j+1,by omega,by go_num,by rw[HL.out];exact hl4.below bch,bch,(by simp[Cls,go_sem,F6])⟩
        case measure=>simp[intOf];omega
      ·have HD2:=lHd (zVa had);have HL:=lHd (xKd (t:=t) (p:=p) (k:=j) (fun⟨o',h1,_,h3,_⟩=>had (by rw[ho.out] at h1;injection h1 with h1;rw[h1];exact h3)));clear had
       go_wp2_with fail
       refine(xJ9 _ _ _ _ _ false (hT.init.below bch) hli HD1.out).mono ?_;rintro e w9 ⟨rfl,hW⟩;subst hW
       go_wp2_with fail
       refine(xJ9 _ _ _ _ _ false (hm.add.below bch) hla HD2.out).mono ?_;rintro e w9 ⟨rfl,hW⟩;subst hW;go_wp2
       go_roundw
       case rel=>exact⟨j+1,by omega,by go_num,by rw[HL.out];exact hl4.below bch,bch,(by simp[Cls,go_sem,Fs,ysw1,ysw0,ysw10])⟩
       case measure=>simp[intOf];omega
    ·have hje:j=t.ops.length:=by omega
     rw[hje] at hl4;clear hje;obtain⟨A8,c8,rfl,hnil8,hI8⟩:=hl4.form;clear hnil8 hI8;have hl4':OwnI w4.heap.size w5 (.slice A8 (xK2 t p t.ops.length).length c8) (xW8 t p):=hl4;have hownS:=hown.below ES;have hrow:∀b,u5.ownBlock=some b->b<w4.heap.size:=fun b hb=>by
      have h1:=(OwnEs.lt hown b hb).2;have h2:=Ew3_4.size;omega
     have HY:=lHd (zJj (B:=w2.heap.size) (row:=u5.ownBlock) hl4' (by have:=Ew3_4.size;omega) hrow);have hlen:(((xXd n t).take k).map (xW8 t)).length<1000000000000:=by rw[zQl,List.length_take];omega
     have HT1:=lHd (show((xXd n t).take k).map (xW8 t) ++ [xW8 t p]=((xXd n t).take (k+1)).map (xW8 t) by rw[vXd,hp.out];simp);have hB25:=hBr.trans (ES.mono hBr.size);have hs25:=hB25.size
     go_wp2_with (at_builtin;go_must (refine xVv (xXc _) 42 24 (.slice none 0 0) underlying42 xZy rfl (by decide) (by decide) rfl (.tmp 58) (.tmp 60) rfl w2 [(w.heap.size,0,.int .i64 t.facts),(w.heap.size,1,.slice Ai t.init.length ci),(w.heap.size,2,.slice Ag t.goal.length cg),(w.heap.size,3,.slice Ao t.ops.length co),(w.heap.size+1,0,.int .i64 0),(w.heap.size+1,1,.int .i64 0),(w1.heap.size,0,.int .i64 0),(w1.heap.size,1,.int .i64 0)] rfl (OwnLL.below hownS ?p1) ⟨w5.heap.size,0,none⟩ 1 rfl [.slice A8 (xK2 t p t.ops.length).length c8] (xW8 t p) rfl (xJa ?p2) ?p8 ((xXc _).below HY.out ?p9) hlen ?p3 (Nat.le_refl _) ?p5 ?p6 ?p7 ?_;(case p1=>exact bch);(case p2=>simp[go_sem]);(case p3=>(simp<;>omega));(case p5=>exact bch);(case p6=>simp[Cls,go_sem,Fs,ysw1,ysw0,ysw10]);(case p7=>(simp<;>omega));(case p8=>intro u hu;simp at hu;subst hu;rfl);(case p9=>exact bch);intro v6 w6 o6 D6 C6 sz6 G6 at6;clear G6 at6;have d6s:=D6.size))
     go_roundw
     case rel=>exact⟨k+1,by omega,by go_num,by rw[<- HT1.out];exact o6,D6,C6⟩
     case measure=>simp[intOf];omega
  ·have hke:k=(xXd n t).length:=by omega
   rw[hke,yQ7] at hown;clear hke
   go_wp2_with fail
   refine xJ5 3 (by kernel_rfl) (by kernel_rfl) ?_;simp only[yJx,List.take_zero,List.drop_succ_cons,List.drop_zero]
   repeat still_step
   refine wpStill_nil ?_;go_wp2;refine bodyPost_ret (v:=.tuple #[u5,.agg #[.int .i64 0,.int .i64 0]]) ?_ rfl ⟨_,rfl,?_,bch⟩
   ·simp[results,results68,go_sem,Fr]
   ·refine⟨w2.heap.size,by omega,?_⟩
    repeat (first|with_reducible exact hown|with_reducible apply OwnLL.drew|(with_reducible refine OwnLL.far ?_ ?_ _;rotate_left;(first|omega|(simp;omega))))
end
theorem zVi(a b:Int)(w:World)(ha : -4611686018427387904<=a/\a<=4611686018427387904)(hb : -4611686018427387904<=b/\b<=4611686018427387904) :
  Calls prog 189 #[.int .i64 a,.int .i64 b] w fun e w'=>e=.returned (.int .i64 (Int.gcd a b))/\Below w.heap.size w w':=by
 go_enter func189,ntmps189;go_wp2
 go_loopw [0,1] (fun x y wr=>∃m n:Int,x=.int .i64 m/\y=.int .i64 n/\Int.gcd m n=Int.gcd a b/\(-4611686018427387904<=m/\m<=4611686018427387904)/\(-4611686018427387904<=n/\n<=4611686018427387904)/\Below w.heap.size w wr) (fun _ y _=>(intOf y).natAbs)
 case atStart=>exact⟨a,b,rfl,rfl,rfl,ha,hb,Below.refl _ _⟩
 case round=>
  obtain⟨m,n,rfl,rfl,hg,hm,hn,hB⟩:=hrel;have hm1:=hm.1;have hm2:=hm.2;have hn1:=hn.1;have hn2:=hn.2;have HG:=lHd hg;have HB:=lHd hB;clear hg hm hn hB
  by_cases hz:n=0
  ·subst hz;have e:(Int.gcd a b:Int)=m.natAbs:=by rw[<- HG.out];simp
   have HE:=lHd e;clear e;go_wp2
   all_goals
    go_ret;exact⟨xVq (by rw[HE.out];omega),HB.out⟩
  ·have hz':(n==0)=false:=by simpa using hz
   have hb:=yJ5 m n hz;have hb1 : -9223372036854775808<=m.tmod n:=by omega
   have hb2:m.tmod n<=9223372036854775807:=by omega
   have ht:=vZg m n;rw[HG.out] at ht;have HT:=lHd ht;clear ht;go_wp2
   go_quiet (fail)
   go_wp2
   go_roundw
   case rel=>exact⟨n,m.tmod n,rfl,rfl,HT.out,by omega,by omega,below_drewN HB.out _⟩
   case measure=>simp only[intOf];exact hb
