/-
  Lemmas for the law: Rxd.
-/
import Derived.Test.YtpeipeljmapkmaaGreatU9
import Derived.Test.YtpeipeljmapkmaaGreatU19
import Derived.Test.YtpeipeljmapkmaaGreatU5
set_option linter.unusedVariables false
set_option linter.unusedSimpArgs false
set_option maxRecDepth 100000
set_option maxHeartbeats 4000000
namespace Go.Proofs.YtpeipeljmapkmaaGreat
open Go.RowKit
section
variable {n:Nat}{ops:List OpV}{goal st:List Int}
theorem Cst.set(hst:SetP st (n:Int)){l:List Int}{c:Int}(h:Cst n ops st l c):SetP l (n:Int):=by
 induction h with
 | init=>exact hst
 | step _ _ _ _=>exact xJj n _ _
theorem Cst.front{p:Nat}{o:OpV}(ho:ops[p]? = some o)(hc:∀ q∈o.pre,q∈st){l:List Int}{c:Int}(h:Cst n ops (xJ5 n st o) l c):Cst n ops st l (o.cost+c):=by
 induction h with
 | init=>have:=Cst.step (.init:Cst n ops st st 0) ho hc;rw[Int.zero_add] at this;rw[Int.add_zero];exact this
 | step _ hp hq ih=>have:=Cst.step ih hp hq;rw[Int.add_assoc] at this;exact this
theorem Cst.more{st':List Int}(hst:SetP st (n:Int))(hst':SetP st' (n:Int))(hadd:∀ o∈ops,∀ p∈o.add,0<=p/\p < (n:Int))(hs:∀ q∈st,q∈st'){l:List Int}{c:Int}(h:Cst n (ops.map rxO) st l c):∃ l',Cst n (ops.map rxO) st' l' c/\SetP l' (n:Int)/\∀ q∈l,q∈l':=by
 induction h with
 | init=>exact⟨st',.init,hst',hs⟩
 | @step l c p o hh hp hq ih=>
  obtain⟨l',h1,h2,h3⟩:=ih;refine⟨_,.step h1 hp (fun q hqq=>h3 q (hq q hqq)),xJj n _ _,fun q hqq=>?_⟩;rw[List.getElem?_map] at hp;obtain⟨o',ho',rfl⟩:=Option.map_eq_some_iff.1 hp;have ha:=hadd o' (lMg ho');have hl:=Cst.set hst hh;rcases (vX1 hl ha).1 hqq with h | h
  ·exact (vX1 h2 ha).2 (.inl (h3 q h))
  ·exact (vX1 h2 ha).2 (.inr h)
theorem vZ9(hc:∀ o∈ops,0<=o.cost)(goal st:List Int):∃ d,RBest n ops goal st d:=by
 by_cases h:∃ (c:Nat) (l:List Int),Cst n ops st l (c:Int)/\∀ q∈goal,q∈l
 ·have hmin:∃ (c:Nat),(∃ l:List Int,Cst n ops st l (c:Int)/\∀ q∈goal,q∈l)/\∀ c':Nat,(∃ l:List Int,Cst n ops st l (c':Int)/\∀ q∈goal,q∈l)->c<=c':=by
   obtain⟨c0,hc0⟩:=h;have key:∀ (m c:Nat),c<=m->(∃ l:List Int,Cst n ops st l (c:Int)/\∀ q∈goal,q∈l)->∃ (c:Nat),(∃ l:List Int,Cst n ops st l (c:Int)/\∀ q∈goal,q∈l)/\∀ c':Nat,(∃ l:List Int,Cst n ops st l (c':Int)/\∀ q∈goal,q∈l)->c<=c':=by
    intro m
    induction m with
    | zero=>intro c hm hx;exact⟨c,hx,fun c' _=>by omega⟩
    | succ m ih=>
     intro c hm hx
     by_cases hl:∃ c':Nat,c' < c/\∃ l:List Int,Cst n ops st l (c':Int)/\∀ q∈goal,q∈l
     ·obtain⟨c',hlt,hx'⟩:=hl;exact ih c' (by omega) hx'
     ·exact⟨c,hx,fun c' hx'=>by
       rcases Nat.lt_or_ge c' c with h | h
       ·exact absurd ⟨c',h,hx'⟩ hl
       ·exact h⟩
   exact key c0 c0 (Nat.le_refl _) hc0
  obtain⟨c,⟨l,hl,hg⟩,hmin⟩:=hmin;have hall:∀ (l:List Int) (c':Int),Cst n ops st l c'->(∀ q∈goal,q∈l)->(c:Int)<=c':=fun l c' h1 h2=>by
   have h0:=h1.nn hc;obtain⟨k,rfl⟩:=Int.eq_ofNat_of_zero_le h0;have:=hmin k ⟨l,h1,h2⟩;omega
  rcases Int.le_total (c:Int) 1000000000 with h1 | h1
  ·exact⟨c,.inr ⟨l,hl,hg⟩,h1,hall⟩
  ·exact⟨1000000000,.inl rfl,Int.le_refl _,fun l c' h2 h3=>Int.le_trans h1 (hall l c' h2 h3)⟩
 ·refine⟨1000000000,.inl rfl,Int.le_refl _,fun l c h1 h2=>?_⟩;obtain⟨k,rfl⟩:=Int.eq_ofNat_of_zero_le (h1.nn hc);exact absurd ⟨k,l,h1,h2⟩ h
end
noncomputable def vZa(n:Nat)(ops:List OpV)(goal l:List Int):Int:=@Classical.epsilon _ ⟨0⟩ (RBest n ops goal l)
theorem xXw{n:Nat}{ops:List OpV}(hc:∀ o∈ops,0<=o.cost)(goal l:List Int):RBest n ops goal l (vZa n ops goal l):=@Classical.epsilon_spec _ (RBest n ops goal l) (vZ9 hc goal l)
theorem xVp{ops:List OpV}(hc:∀ o∈ops,0<=o.cost):∀ o∈ops.map rxO,0<=o.cost:=fun o ho=>by
 obtain⟨o',h1,rfl⟩:=List.mem_map.1 ho;exact hc o' h1
theorem zQ3{n:Nat}{t:TaskV}(hv:Valid t)(hn:t.facts=n):HCons n t.ops t.goal (vZa n (t.ops.map rxO) t.goal):=by
 have hc:∀ o∈t.ops,0<=o.cost:=fun o ho=>(hv.ops o ho).2.1
 have hadd:∀ o∈t.ops,∀ p∈o.add,0<=p/\p < (n:Int):=fun o ho=>(vJn hv hn o ho).2
 refine⟨fun l hg hl=>?_,fun l hl=>(xXw (xVp hc) t.goal l).2.1,fun l p o hl hp hcan hlt=>?_⟩
 ·have:=(xXw (n:=n) (xVp hc) t.goal l).2.2 l 0 .init hg;exact this
 ·obtain⟨o',h1,h2⟩:=hcan;rw[Int.toNat_natCast,hp] at h1;injection h1 with h1
  subst h1;have hs:=xXw (n:=n) (xVp hc) t.goal (xJ5 n l o);rcases hs.1 with e | ⟨b,hb,hbg⟩
  ·omega
  ·have hns:=xJj n l o;have hns':=xJj n l (rxO o);have hsub:∀ q∈xJ5 n l o,q∈xJ5 n l (rxO o):=fun q hq=>by
    rw[xJq] at hq ⊢;exact⟨hq.1,hq.2.elim .inl (fun h=>.inr ⟨h.1,by simp[rxO]⟩)⟩
   obtain⟨b',h3,_,h5⟩:=Cst.more hns hns' hadd hsub hb;have h6:=Cst.front (o:=rxO o) (p:=p) (ops:=t.ops.map rxO) (by rw[List.getElem?_map,hp];rfl) (fun q hq=>h2 q hq) h3;have h7:=(xXw (n:=n) (xVp hc) t.goal l).2.2 b' _ h6 (fun q hq=>h5 q (hbg q hq));have h8:(rxO o).cost=o.cost:=rfl;omega
inductive Pth(n:Nat)(ops:List OpV)(st:List Int):List Int->List Nat->Prop
 | init:Pth n ops st st []
 | step {l:List Int} {ps:List Nat} {p:Nat} {o:OpV}:Pth n ops st l ps->ops[p]? = some o->(∀ q∈o.pre,q∈l)->Pth n ops st (xJ5 n l o) (ps ++ [p])
def xJ6(cs:List Int)(ps:List Nat):Int:=(ps.map fun (p:Nat)=>xJ2 cs (p:Int)).sum
theorem xZj(cs:List Int)(ps:List Nat)(p:Nat):xJ6 cs (ps ++ [p])=xJ6 cs ps+xJ2 cs (p:Int):=by
 unfold xJ6;rw[List.map_append,List.sum_append];simp
theorem Cst.pth{n:Nat}{ops:List OpV}{st l:List Int}{c:Int}(h:Cst n (ops.map rxO) st l c):∃ ps,Pth n (ops.map rxO) st l ps/\c=xJ6 (ops.map (·.cost)) ps:=by
 induction h with
 | init=>exact⟨[],.init,rfl⟩
 | @step l c p o hh hp hq ih=>
  obtain⟨ps,h1,h2⟩:=ih;refine⟨ps ++ [p],.step h1 hp hq,?_⟩;rw[xZj,h2];rw[List.getElem?_map] at hp;obtain⟨o',ho',rfl⟩:=Option.map_eq_some_iff.1 hp;have:xJ2 (ops.map (·.cost)) (p:Int)=o'.cost:=xJ9 (by simp[ho']);rw[this];rfl
theorem Pth.rng{n:Nat}{ops:List OpV}{st l:List Int}{ps:List Nat}(h:Pth n ops st l ps):∀ p∈ps,p < ops.length:=by
 induction h with
 | init=>simp
 | @step l ps p o _ hp _ ih=>
  intro q hq;rcases List.mem_append.1 hq with h | h
  ·exact ih q h
  ·rw[List.mem_singleton.1 h];exact (List.getElem?_eq_some_iff.1 hp).1
theorem Pth.reach{n:Nat}{ops:List OpV}{st l:List Int}{ps:List Nat}{C:List Int}(h:Pth n (ops.map rxO) st l ps)(hC:∀ p∈ps,(p:Int)∉C):∀ q∈l,Reach st ops (xK3 C) q:=by
 induction h with
 | init=>exact fun q hq=>.init hq
 | @step l ps p o _ hp hpre ih=>
  have ih':=ih (fun q hq=>hC q (List.mem_append_left _ hq));rw[List.getElem?_map] at hp;obtain⟨o',ho',rfl⟩:=Option.map_eq_some_iff.1 hp;intro q hq;rcases (xJq.1 hq).2 with h | h
  ·exact .step ho' (by simp[xK3,hC p (by simp)]) (fun x hx=>ih' x (hpre x hx)) h
  ·exact ih' q h.1
theorem xW3{left C:List Int}{c:Int}(hset:SetP C (left.length:Int))(hc:0<=c):∀ (ps:List Nat),(∀ p∈ps,p < left.length)->xJ6 (xXd left C c) ps<=xJ6 left ps/\((∃ p∈ps,(p:Int)∈C)->xJ6 (xXd left C c) ps+c<=xJ6 left ps)
 | [],_=>⟨Int.le_refl _,fun ⟨p,h,_⟩=>by simp at h⟩
 | p :: ps,hp=>by
  obtain⟨h1,h2⟩:=xW3 hset hc ps (fun q hq=>hp q (List.mem_cons_of_mem _ hq));have h3:=xYk (c:=c) C left hset.pairwise hset.1 (p:Int) (by omega);have e:∀ cs:List Int,xJ6 cs (p :: ps)=xJ2 cs (p:Int)+xJ6 cs ps:=fun cs=>by unfold xJ6;rw[List.map_cons,List.sum_cons]
  rw[e,e,h3]
  by_cases hin:(p:Int)∈C
  ·rw[if_pos hin];exact⟨by omega,fun _=>by omega⟩
  ·rw[if_neg hin];refine⟨by omega,fun ⟨q,hq,hqC⟩=>?_⟩;rcases List.mem_cons.1 hq with h | h
   ·subst h;exact absurd hqC hin
   ·have:=h2 ⟨q,h,hqC⟩;omega
theorem zW6{cs:List Int}(h:∀ c∈cs,0<=c):∀ (ps:List Nat),(∀ p∈ps,p < cs.length)->0<=xJ6 cs ps
 | [],_=>Int.le_refl _
 | p :: ps,hp=>by
  have h1:=zW6 h ps (fun q hq=>hp q (List.mem_cons_of_mem _ hq));have h2:=h _ (zX9 (l:=cs) (i:=(p:Int)) (by omega) (by have:=hp p (List.mem_cons_self ..);omega));unfold xJ6 at *;rw[List.map_cons,List.sum_cons];omega
section
variable {n:Nat}{st goal:List Int}{ops:List OpV}{c0:List Int}{cs:List (List Int×Int)}
theorem CutsOk.path(h:CutsOk n st goal ops c0 cs)(hl:c0.length=ops.length)(hv:∀ c∈c0,0<=c/\c<=100){b:List Int}{ps:List Nat}(hp:Pth n (ops.map rxO) st b ps)(hg:∀ q∈goal,q∈b):xJr cs<=xJ6 c0 ps:=by
 have hr:∀ p∈ps,p < ops.length:=fun p hq=>by have:=hp.rng p hq;rwa [List.length_map] at this
 have key:∀ k,k<=cs.length->xJr (cs.take k)+xJ6 (xJo c0 (cs.take k)) ps<=xJ6 c0 ps:=by
  intro k
  induction k with
  | zero=>intro _;simp[xJr,xJo]
  | succ k ih=>
   intro hk;have hx:=lGe (show k < cs.length by omega);have hc:=h k _ hx;have h1:=ih (by omega);rw[xXz hx,xZu hx];have hex:∃ p∈ps,(p:Int)∈cs[k].1:=Classical.byContradiction fun hno=>
    hc.cut fun q hq=>hp.reach (fun p hpp hpc=>hno ⟨p,hpp,hpc⟩) q (hg q hq)
   have h2:=(xW3 (left:=xJo c0 (cs.take k)) (C:=cs[k].1) (c:=cs[k].2) (by rw[xXk,hl];exact hc.set) (by have:=hc.pos;omega) ps (fun p hpp=>by rw[xXk,hl];exact hr p hpp)).2 hex;omega
 have h1:=key cs.length (Nat.le_refl _);rw[List.take_length] at h1;have h2:=zW6 (cs:=xJo c0 cs) (fun c hc=>by
  have:=h.left_in hl hv cs.length c (by rw[List.take_length];exact hc);exact this.1) ps (fun p hpp=>by rw[xXk,hl];exact hr p hpp)
 omega
theorem CutsOk.value(h:CutsOk n st goal ops c0 cs)(hl:c0.length=ops.length)(hv:∀ c∈c0,0<=c/\c<=100)(hst:∀ p∈st,0<=p/\p < (n:Int))(hadd:∀ o∈ops,∀ p∈o.add,0<=p/\p < (n:Int)):xJp false (xJg false n st ops c0) goal<=xJr cs+xJp false (xJg false n st ops (xJo c0 cs)) goal:=by
 have hB:∀ k,Best false n st ops (xJo c0 (cs.take k)) (xJg false n st ops (xJo c0 (cs.take k))):=fun k=>
  vVk hst hadd (fun c hc=>by have:=h.left_in hl hv k c hc;unfold InV;omega)
 have key:∀ k,k<=cs.length->xJp false (xJg false n st ops c0) goal<=xJr (cs.take k)+xJp false (xJg false n st ops (xJo c0 (cs.take k))) goal:=by
  intro k
  induction k with
  | zero=>intro _;simp[xJr,xJo]
  | succ k ih=>
   intro hk;have hx:=lGe (show k < cs.length by omega);have h1:=ih (by omega);have h2:=(h k _ hx).drop _ _ (hB k) (by have:=hB (k+1);rw[xXz hx] at this;exact this);rw[xZu hx,xXz hx];omega
 have h1:=key cs.length (Nat.le_refl _)
 rwa [List.take_length] at h1
end
theorem vZb{n:Nat}{t:TaskV}{st b:List Int}{c:Int}(h:Cst n (t.ops.map rxO) st b c)(hg:∀ q∈t.goal,q∈b):zJ4 t st:=fun q hq=>by
 obtain⟨ps,h1,_⟩:=h.pth;have:=h1.reach (C:=[]) (fun p _=>by simp) q (hg q hq);exact this.mono (fun _ h=>h) (fun _ _=>rfl)
end Go.Proofs.YtpeipeljmapkmaaGreat
