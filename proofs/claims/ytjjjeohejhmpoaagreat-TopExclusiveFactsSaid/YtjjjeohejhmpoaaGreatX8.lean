/-
  Lemmas.
-/
import Derived.Test.YtjjjeohejhmpoaaGreatX4
import Derived.Test.YtjjjeohejhmpoaaGreatX36
set_option linter.unusedVariables false
set_option linter.unusedSimpArgs false
set_option maxRecDepth 100000
set_option maxHeartbeats 4000000
namespace Go.Proofs.YtjjjeohejhmpoaaGreat
open Go.RowKit Go.Proofs.Tryz
section
variable {n:Nat}{ops:List OpV}{goal st:List Int}
theorem Cst.set(hst:SetP st (n:Int)){l:List Int}{c:Int}(h:Cst n ops st l c):SetP l (n:Int):=by
 induction h with
 |init=>exact hst
 |step _ _ _ _=>exact xJz n _ _
theorem Cst.front{p:Nat}{o:OpV}(ho:ops[p]? = some o)(hc:∀q∈o.pre,q∈st){l:List Int}{c:Int}(h:Cst n ops (xJb n st o) l c):Cst n ops st l (o.cost+c):=by
 induction h with
 |init=>have:=Cst.step (.init:Cst n ops st st 0) ho hc;rw[Int.zero_add] at this;rw[Int.add_zero];exact this
 |step _ hp hq ih=>have:=Cst.step ih hp hq;rw[Int.add_assoc] at this;exact this
theorem Cst.more{st':List Int}(hst:SetP st (n:Int))(hst':SetP st' (n:Int))(hadd:∀o∈ops,∀p∈o.add,0<=p/\p<(n:Int))(hs:∀q∈st,q∈st'){l:List Int}{c:Int}(h:Cst n (ops.map rxO) st l c):∃l',Cst n (ops.map rxO) st' l' c/\SetP l' (n:Int)/\∀q∈l,q∈l':=by
 induction h with
 |init=>exact⟨st',.init,hst',hs⟩
 | @step l c p o hh hp hq ih=>
  obtain⟨l',h1,h2,h3⟩:=ih;refine⟨_,.step h1 hp (fun q hqq=>h3 q (hq q hqq)),xJz n _ _,fun q hqq=>?_⟩;rw[vQ4] at hp;obtain⟨o',ho',rfl⟩:=vYt.1 hp;have ha:=hadd o' (lMg ho');have hl:=Cst.set hst hh;rcases (vQ0 hl ha).1 hqq with h|h
  ·exact(vQ0 h2 ha).2 (.inl (h3 q h))
  ·exact(vQ0 h2 ha).2 (.inr h)
theorem zQp(hc:∀o∈ops,0<=o.cost)(goal st:List Int):∃d,RBest n ops goal st d:=by
 by_cases h:∃(c:Nat) (l:List Int),Cst n ops st l (c:Int)/\∀q∈goal,q∈l
 ·have hmin:∃(c:Nat),(∃l:List Int,Cst n ops st l (c:Int)/\∀q∈goal,q∈l)/\∀c':Nat,(∃l:List Int,Cst n ops st l (c':Int)/\∀q∈goal,q∈l)->c<=c':=by
   obtain⟨c0,hc0⟩:=h;have key:∀(m c:Nat),c<=m->(∃l:List Int,Cst n ops st l (c:Int)/\∀q∈goal,q∈l)->∃(c:Nat),(∃l:List Int,Cst n ops st l (c:Int)/\∀q∈goal,q∈l)/\∀c':Nat,(∃l:List Int,Cst n ops st l (c':Int)/\∀q∈goal,q∈l)->c<=c':=by
    intro m
    induction m with
    |zero=>intro c hm hx;exact⟨c,hx,fun c' _=>by omega⟩
    |succ m ih=>
     intro c hm hx
     by_cases hl:∃c':Nat,c'<c/\∃l:List Int,Cst n ops st l (c':Int)/\∀q∈goal,q∈l
     ·obtain⟨c',hlt,hx'⟩:=hl;exact ih c' (by omega) hx'
     ·exact⟨c,hx,fun c' hx'=>by
       rcases vVq c' c with h|h
       ·exact absurd ⟨c',h,hx'⟩ hl
       ·exact h⟩
   exact key c0 c0 (Nat.le_refl _) hc0
  obtain⟨c,⟨l,hl,hg⟩,hmin⟩:=hmin;have hall:∀(l:List Int) (c':Int),Cst n ops st l c'->(∀q∈goal,q∈l)->(c:Int)<=c':=fun l c' h1 h2=>by
   have h0:=h1.nn hc;obtain⟨k,rfl⟩:=Int.eq_ofNat_of_zero_le h0;have:=hmin k ⟨l,h1,h2⟩;omega
  rcases Int.le_total (c:Int) 1000000000 with h1|h1
  ·exact⟨c,.inr ⟨l,hl,hg⟩,h1,hall⟩
  ·exact⟨1000000000,.inl rfl,Int.le_refl _,fun l c' h2 h3=>Int.le_trans h1 (hall l c' h2 h3)⟩
 ·refine⟨1000000000,.inl rfl,Int.le_refl _,fun l c h1 h2=>?_⟩;obtain⟨k,rfl⟩:=Int.eq_ofNat_of_zero_le (h1.nn hc);exact absurd ⟨k,l,h1,h2⟩ h
theorem RBest.uniq{d d':Int}(h:RBest n ops goal st d)(h':RBest n ops goal st d'):d=d':=by
 have key:∀ {d d':Int},RBest n ops goal st d->RBest n ops goal st d'->d<=d':=fun h h'=>by
  rcases h'.1 with e|⟨l,h1,h2⟩
  ·rw[e];exact h.2.1
  ·exact h.2.2 l _ h1 h2
 exact Int.le_antisymm (key h h') (key h' h)
end
noncomputable def vKm(n:Nat)(ops:List OpV)(goal l:List Int):Int:=@Classical.epsilon _ ⟨0⟩ (RBest n ops goal l)
theorem xZ8{n:Nat}{ops:List OpV}(hc:∀o∈ops,0<=o.cost)(goal l:List Int):RBest n ops goal l (vKm n ops goal l):=@Classical.epsilon_spec _ (RBest n ops goal l) (zQp hc goal l)
theorem xVo{ops:List OpV}(hc:∀o∈ops,0<=o.cost):∀o∈ops.map rxO,0<=o.cost:=fun o ho=>by
 obtain⟨o',h1,rfl⟩:=vWz.1 ho;exact hc o' h1
theorem zX3{n:Nat}{t:TaskV}(hv:Valid t)(hn:t.facts=n):HCons n t.ops t.goal (vKm n (t.ops.map rxO) t.goal):=by
 have hc:=fun o ho=>(hv.ops o ho).2.1
 have hadd:=fun o ho=>(xYx hv hn o ho).2
 refine⟨fun l hg hl=>?_,fun l hl=>(xZ8 (xVo hc) t.goal l).2.1,fun l p o hl hp hcan hlt=>?_⟩
 ·have:=(xZ8 (n:=n) (xVo hc) t.goal l).2.2 l 0 .init hg;exact this
 ·obtain⟨o',h1,h2⟩:=hcan;rw[Int.toNat_natCast,hp] at h1;injection h1 with h1
  subst h1;have hs:=xZ8 (n:=n) (xVo hc) t.goal (xJb n l o);rcases hs.1 with e|⟨b,hb,hbg⟩
  ·omega
  ·have hns:=xJz n l o;have hns':=xJz n l (rxO o);have hsub:∀q∈xJb n l o,q∈xJb n l (rxO o):=fun q hq=>by
    rw[xXa] at hq ⊢;exact⟨hq.1,hq.2.elim .inl (fun h=>.inr ⟨h.1,by simp[rxO]⟩)⟩
   obtain⟨b',h3,_,h5⟩:=Cst.more hns hns' hadd hsub hb;have h6:=Cst.front (o:=rxO o) (p:=p) (ops:=t.ops.map rxO) (by rw[vQ4,hp];rfl) (fun q hq=>h2 q hq) h3;have h7:=(xZ8 (n:=n) (xVo hc) t.goal l).2.2 b' _ h6 (fun q hq=>h5 q (hbg q hq));have h8:(rxO o).cost=o.cost:=rfl;omega
inductive Pth(n:Nat)(ops:List OpV)(st:List Int):List Int->List Nat->Prop
 |init:Pth n ops st st []
 |step {l:List Int} {ps:List Nat} {p:Nat} {o:OpV}:Pth n ops st l ps->ops[p]? = some o->(∀q∈o.pre,q∈l)->Pth n ops st (xJb n l o) (ps ++ [p])
def xJ6(cs:List Int)(ps:List Nat):Int:=(ps.map fun(p:Nat)=>xJ2 cs (p:Int)).sum
theorem xV5(cs:List Int)(ps:List Nat)(p:Nat):xJ6 cs (ps ++ [p])=xJ6 cs ps+xJ2 cs (p:Int):=by
 unfold xJ6;rw[vQu,List.sum_append];simp
theorem Cst.pth{n:Nat}{ops:List OpV}{st l:List Int}{c:Int}(h:Cst n (ops.map rxO) st l c):∃ps,Pth n (ops.map rxO) st l ps/\c=xJ6 (ops.map (·.cost)) ps:=by
 induction h with
 |init=>exact⟨[],.init,rfl⟩
 | @step l c p o hh hp hq ih=>
  obtain⟨ps,h1,h2⟩:=ih;refine⟨ps ++ [p],.step h1 hp hq,?_⟩;rw[xV5,h2];rw[vQ4] at hp;obtain⟨o',ho',rfl⟩:=vYt.1 hp;have:xJ2 (ops.map (·.cost)) (p:Int)=o'.cost:=xJl (by simp[ho']);rw[this];rfl
theorem Pth.rng{n:Nat}{ops:List OpV}{st l:List Int}{ps:List Nat}(h:Pth n ops st l ps):∀p∈ps,p<ops.length:=by
 induction h with
 |init=>simp
 | @step l ps p o _ hp _ ih=>
  intro q hq;rcases vJn.1 hq with h|h
  ·exact ih q h
  ·rw[yY9.1 h];exact(zQ1.1 hp).1
theorem Pth.reach{n:Nat}{ops:List OpV}{st l:List Int}{ps:List Nat}{C:List Int}(h:Pth n (ops.map rxO) st l ps)(hC:∀p∈ps,(p:Int)∉C):∀q∈l,Reach st ops (zXe C) q:=by
 induction h with
 |init=>exact fun q hq=>.init hq
 | @step l ps p o _ hp hpre ih=>
  have ih':=ih (fun q hq=>hC q (List.mem_append_left _ hq));rw[vQ4] at hp;obtain⟨o',ho',rfl⟩:=vYt.1 hp;intro q hq;rcases (xXa.1 hq).2 with h|h
  ·exact .step ho' (by simp[zXe,hC p (by simp)]) (fun x hx=>ih' x (hpre x hx)) h
  ·exact ih' q h.1
theorem xW7{left C:List Int}{c:Int}(hset:SetP C (left.length:Int))(hc:0<=c):∀(ps:List Nat),(∀p∈ps,p<left.length)->xJ6 (xZa left C c) ps<=xJ6 left ps/\((∃p∈ps,(p:Int)∈C)->xJ6 (xZa left C c) ps+c<=xJ6 left ps)
 | [],_=>⟨Int.le_refl _,fun⟨p,h,_⟩=>by simp at h⟩
 |p::ps,hp=>by
  obtain⟨h1,h2⟩:=xW7 hset hc ps (fun q hq=>hp q (List.mem_cons_of_mem _ hq));have h3:=zJi (c:=c) C left hset.pairwise hset.1 (p:Int) (by omega);have e:∀cs:List Int,xJ6 cs (p::ps)=xJ2 cs (p:Int)+xJ6 cs ps:=fun cs=>by unfold xJ6;rw[List.map_cons,List.sum_cons]
  rw[e,e,h3]
  by_cases hin:(p:Int)∈C
  ·rw[if_pos hin];exact⟨by omega,fun _=>by omega⟩
  ·rw[if_neg hin];refine⟨by omega,fun⟨q,hq,hqC⟩=>?_⟩;rcases yQ6.1 hq with h|h
   ·subst h;exact absurd hqC hin
   ·have:=h2 ⟨q,h,hqC⟩;omega
theorem zQq{cs:List Int}(h:∀c∈cs,0<=c):∀(ps:List Nat),(∀p∈ps,p<cs.length)->0<=xJ6 cs ps
 | [],_=>Int.le_refl _
 |p::ps,hp=>by
  have h1:=zQq h ps (fun q hq=>hp q (List.mem_cons_of_mem _ hq));have h2:=h _ (zYm (l:=cs) (i:=(p:Int)) (by omega) (by have:=hp p (vVp ..);omega));unfold xJ6 at *;rw[List.map_cons,List.sum_cons];omega
section
variable {n:Nat}{st goal:List Int}{ops:List OpV}{c0:List Int}{cs:List (List Int×Int)}
theorem CutsOk.path(h:CutsOk n st goal ops c0 cs)(hl:c0.length=ops.length)(hv:∀c∈c0,0<=c/\c<=100){b:List Int}{ps:List Nat}(hp:Pth n (ops.map rxO) st b ps)(hg:∀q∈goal,q∈b):xJm cs<=xJ6 c0 ps:=by
 have hr:=fun p hq=>by have:=hp.rng p hq;rwa [zQl] at this
 have key:∀k,k<=cs.length->xJm (cs.take k)+xJ6 (xJi c0 (cs.take k)) ps<=xJ6 c0 ps:=by
  intro k
  induction k with
  |zero=>intro _;simp[xJm,xJi]
  |succ k ih=>
   intro hk;have hx:=lGe (show k<cs.length by omega);have hc:=h k _ hx;have h1:=ih (by omega);rw[xZh hx,xQl hx];have hex:∃p∈ps,(p:Int)∈cs[k].1:=vXe fun hno=>
    hc.cut fun q hq=>hp.reach (fun p hpp hpc=>hno ⟨p,hpp,hpc⟩) q (hg q hq)
   have h2:=(xW7 (left:=xJi c0 (cs.take k)) (C:=cs[k].1) (c:=cs[k].2) (by rw[xXh,hl];exact hc.set) (by have:=hc.pos;omega) ps (fun p hpp=>by rw[xXh,hl];exact hr p hpp)).2 hex;omega
 have h1:=key cs.length (Nat.le_refl _);rw[yQ7] at h1;have h2:=zQq (cs:=xJi c0 cs) (fun c hc=>by
  have:=h.left_in hl hv cs.length c (by rw[yQ7];exact hc);exact this.1) ps (fun p hpp=>by rw[xXh,hl];exact hr p hpp)
 omega
theorem CutsOk.value(h:CutsOk n st goal ops c0 cs)(hl:c0.length=ops.length)(hv:∀c∈c0,0<=c/\c<=100)(hst:∀p∈st,0<=p/\p<(n:Int))(hadd:∀o∈ops,∀p∈o.add,0<=p/\p<(n:Int)):xJf false (xJ8 false n st ops c0) goal<=xJm cs+xJf false (xJ8 false n st ops (xJi c0 cs)) goal:=by
 have hB:∀k,Best false n st ops (xJi c0 (cs.take k)) (xJ8 false n st ops (xJi c0 (cs.take k))):=fun k=>
  yJw hst hadd (fun c hc=>by have:=h.left_in hl hv k c hc;unfold InV;omega)
 have key:∀k,k<=cs.length->xJf false (xJ8 false n st ops c0) goal<=xJm (cs.take k)+xJf false (xJ8 false n st ops (xJi c0 (cs.take k))) goal:=by
  intro k
  induction k with
  |zero=>intro _;simp[xJm,xJi]
  |succ k ih=>
   intro hk;have hx:=lGe (show k<cs.length by omega);have h1:=ih (by omega);have h2:=(h k _ hx).drop _ _ (hB k) (by have:=hB (k+1);rw[xZh hx] at this;exact this);rw[xQl hx,xZh hx];omega
 have h1:=key cs.length (Nat.le_refl _)
 rwa [yQ7] at h1
end
theorem yZt{n:Nat}{t:TaskV}{st b:List Int}{c:Int}(h:Cst n (t.ops.map rxO) st b c)(hg:∀q∈t.goal,q∈b):xKv t st:=fun q hq=>by
 obtain⟨ps,h1,_⟩:=h.pth;have:=h1.reach (C:=[]) (fun p _=>by simp) q (hg q hq);exact this.mono (fun _ h=>h) (fun _ _=>rfl)
section
open Go.Shelf
theorem uZf(w:World)(b:Nat)(o:OpV)(A0 A1 A2:Option Addr)(c0 c1 c2:Nat)(g:List Int)(G:Option Addr)(cg:Nat)(hb:w.cell? ⟨b,0,none⟩=some (.slice G g.length cg))(hm:OpMem w A0 A1 A2 o)(hG:Ints w G g){n:Nat}(hn:n<=24)(hp:SetP o.pre (n:Int))(ha:SetP o.add (n:Int))(hd:SetP o.del (n:Int))(hg:SetP g (n:Int)) :
  Calls prog 109 #[.agg #[.slice A0 o.pre.length c0,.slice A1 o.add.length c1,.slice A2 o.del.length c2,.int .i64 o.cost],.pointer (some ⟨b,0,none⟩)] w fun e w'=>e=.returned (.bool (!(uXn o g)))/\Below w.heap.size w w':=by
 obtain⟨v,hv⟩:∃v,Hid (uXn o g=v):=⟨_,lHd rfl⟩;have hbl:=zQ2 w _ hb;rw[hv.out];have HA:=lHd (And.intro hp (And.intro ha (And.intro hd hg)));clear hp ha hd hg;go_enter func109,ntmps109
 go_wp2_with fail
 refine(uZy _ o A0 A1 A2 c0 c1 c2 g G cg (hm.below bch) (hG.below bch) hn HA.out.1 HA.out.2.1 HA.out.2.2.1 HA.out.2.2.2).mono ?_;rintro e w1 ⟨he,hB1⟩;rw[hv.out] at he;subst he;have D1:=xJ3 w hB1 bch;have C1:=Cls.below (l:=[(w.heap.size,0,.slice A0 o.pre.length c0),(w.heap.size,1,.slice A1 o.add.length c1),(w.heap.size,2,.slice A2 o.del.length c2),(w.heap.size,3,.int .i64 o.cost)]) hB1 (by simp[Cls,go_sem]);have y1w0:=C1.b 0;go_wp2;refine bodyPost_ret ?_ rfl ⟨rfl,bch⟩;simp[results,results109,go_sem]
theorem uZ0:Enters 109:=fun args w=>by kernel_rfl
theorem uZx(w:World)(t:TaskV)(Ai Ag Ao:Option Addr)(ci cg co:Nat)(hT:TaskMem w Ai Ag Ao t)(g:List Int)(G:Option Addr)(cG:Nat)(hG:Ints w G g)(n:Nat)(hn:t.facts=n)(hv:Valid t)(hg:SetP g (n:Int)) :
  Calls prog 52 #[.agg #[.int .i64 t.facts,.slice Ai t.init.length ci,.slice Ag t.goal.length cg,.slice Ao t.ops.length co],.slice G g.length cG] w fun e w'=>e=.returned (.bool (uXo t g))/\Below w.heap.size w w':=by
 obtain⟨P,HP⟩:∃P,Hid (uXh t.init g=P):=⟨_,lHd rfl⟩;obtain⟨v,HVA⟩:∃v,Hid (uXo t g=v):=⟨_,lHd rfl⟩;have hli:t.init.length<=100000000000:=by have:=hv.init.length hv.f0;have:=hv.f1;omega
 have HSG:=lHd hg.pairwise;have HG:=lHd hg;have HO:Hid (∀o∈t.ops,SetP o.pre (n:Int)/\SetP o.add (n:Int)/\SetP o.del (n:Int)):=lHd (fun o ho=>by
  have:=(hv.ops o ho).1;rw[hn] at this;exact⟨this.1,this.2.1,this.2.2.1⟩)
 have hn24:n<=24:=by have:=hv.f1;omega
 have hlg:g.length<=1000000:=by have:=hg.length (by omega);omega
 have HK:Hid (v=(decide (P.length<=1)&&t.ops.all fun o=>uXn o g)):=lHd (by rw[<- HVA.out,<- HP.out];rfl);rw[HVA.out];clear hv hn hg;go_enter func52,ntmps52
 go_wp2_with fail
 refine(uZ1 HP.out (hT.init.below bch) (hG.below bch) hli (by omega) HSG.out).mono ?_;rintro e w1 ⟨⟨A5,c5,rfl,hI5,hn5⟩,hB1⟩;have D1:=xJ3 w hB1 bch;have C1:=Cls.below (l:=[(w.heap.size,0,.int .i64 t.facts),(w.heap.size,1,.slice Ai t.init.length ci),(w.heap.size,2,.slice Ag t.goal.length cg),(w.heap.size,3,.slice Ao t.ops.length co),(w.heap.size+1,0,.slice G g.length cG)]) hB1 (by simp[Cls,go_sem]);have F1:=C1.f;have y1w1:=C1.b 4
 by_cases h1:P.length<=1
 ·have d1:decide ((P.length:Int)<=1)=true:=zWo (by omega);obtain⟨u,hu⟩:∃u:Bool,Hid (u=true↔∃o∈t.ops,(!uXn o g)=true):=⟨t.ops.any fun o=>!uXn o g,lHd List.any_eq_true⟩;obtain rfl:v = !u:=by
   rw[HK.out,zWo h1,Bool.true_and]
   cases hh:u with
   |true=>
    obtain⟨o,ho,hk⟩:=hu.out.1 hh;rw[Bool.not_true,List.all_eq_false];exact⟨o,ho,by simpa using hk⟩
   |false=>
    rw[Bool.not_false,List.all_eq_true];intro o ho
    cases hk:uXn o g with
    |true=>rfl
    |false=>exact absurd (hu.out.2 ⟨o,ho,by rw[hk];rfl⟩) (by rw[hh];exact Bool.noConfusion)
  have HTS:Hid (vZt 109 #[.pointer (some ⟨w.heap.size+1,0,none⟩)] t.ops (fun o=>!uXn o g) w1):=lHd (fun o A0 A1 A2 c0 c1 c2 wr ho hbr hm=>
   uZf wr (w.heap.size+1) o A0 A1 A2 c0 c1 c2 g G cG ((hbr.cell (p:=⟨w.heap.size+1,0,none⟩) (by show w.heap.size+1<_;omega)).trans (by have q:=C1;simp only[Cls,and_true] at q;simp[q])) hm (hG.below ((bch:Below w.heap.size w w1).trans (hbr.mono (by have:=D1.size;omega)))) hn24 (HO.out o ho).1 (HO.out o ho).2.1 (HO.out o ho).2.2 HG.out)
  go_wp2_with fail
  go_at_call 64;refine(xV1 _ _ _ _ _ _ _ (hT.ops.below bch) hT.lops uZ0 HTS.out u hu.out).mono ?_;rintro e w2 ⟨rfl,hB2⟩;have D2:=xJ3 w hB2 bch;have C2:=Cls.below (l:=[(w.heap.size,0,.int .i64 t.facts),(w.heap.size,1,.slice Ai t.init.length ci),(w.heap.size,2,.slice Ag t.goal.length cg),(w.heap.size,3,.slice Ao t.ops.length co),(w.heap.size+1,0,.slice G g.length cG)]) hB2 (by simp[Cls,go_sem,F1]);have y2w1:=C2.b 4;go_wp2;refine bodyPost_ret ?_ rfl ⟨rfl,bch⟩;simp[results,results52,go_sem]
 ·have d1:decide ((P.length:Int)<=1)=false:=zVa (by omega);obtain rfl:v=false:=by rw[HK.out,zVa h1];rfl
  go_wp2;refine bodyPost_ret ?_ rfl ⟨rfl,bch⟩;simp[results,results52,go_sem]
end
section
variable {n:Nat}{st:List Int}{ops:List OpV}
variable {V:List Int}
theorem Levs.zero(hV:Levs n st ops V){p:Nat}(hp:p<n):xJ2 V (p:Int)=0↔(p:Int)∈st:=by
 rcases hV.lev p hp with⟨h1,h2⟩|⟨k,h1,h2,h3,h4⟩
 ·exact⟨fun h=>by omega,fun h=>absurd h (h2 0 (zKk _))⟩
 ·constructor
  ·intro h;have:k=0:=by omega
   subst this;exact h3
  ·intro h;refine vXe fun hc=>h4 0 (by omega) h
def uQ8(n:Nat)(ops:List OpV)(st:List Int)(pl:List Int):List Int:=pl.foldl (fun l i=>xJb n l (rxO (yYz ops i))) st
def costP(ops:List OpV)(pl:List Int):Int:=(pl.map fun i=>(yYz ops i).cost).sum
structure Exec(n:Nat)(ops:List OpV)(st pl:List Int):Prop where
 run:Cst n (ops.map rxO) st (uQ8 n ops st pl) (costP ops pl)
 step:∀(a:List Int) (i:Int) (b:List Int),pl=a++i::b->∃o,ops[i.toNat]? = some o/\∀q∈o.pre,q∈uQ8 n ops st a
 adds:∀(i:Nat) (o:OpV),(i:Int)∈pl->ops[i]? = some o->∀p∈o.add,p∈uQ8 n ops st pl
 init:∀p∈st,p∈uQ8 n ops st pl
theorem Exec.nil:Exec n ops st []:=⟨.init,fun a i b h=>by simp at h,fun i o h=>by simp at h,fun p h=>h⟩
end
theorem HCons.run{n:Nat}{ops:List OpV}{goal st l:List Int}{H:List Int->Int}{c:Int}(hH:HCons n ops goal H)(hc:∀o∈ops,0<=o.cost)(hst:SetP st (n:Int))(h:Cst n ops st l c):∀e,0<=e->H l<=e->H st<=c+e:=by
 induction h with
 |init=>intro e _ h;omega
 | @step l c p o h1 hp hq ih=>
  intro e h0 he;have hl:=Cst.set hst h1;have ho:=hc o (lMg hp);have hle:H l<=e+o.cost:=by
   by_cases hlt:H (xJb n l o)<1000000000
   ·have:=hH.step l p o hl hp ⟨o,by simpa using hp,hq⟩ hlt;omega
   ·have:=hH.inf l hl;omega
  have:=ih (e+o.cost) (by omega) hle;omega
