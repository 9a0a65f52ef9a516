/-
  Lemmas for the law: St3, Bf3, Rxb, Bf5, Bf8, Opl, Nll.
-/
import Derived.Test.YtpeipeljmapkmaaGreatW1
import Derived.Test.YtpeipeljmapkmaaGreatChecked
import Derived.Test.YtpeipeljmapkmaaGreatW2
import Derived.Test.YtpeipeljmapkmaaGreatW5
import Derived.Shelf.Sort.Plain
import Derived.Shelf.Slices.CompactI
import Derived.Shelf.Slices.In.SortNone
import Derived.Sort.OwnSortedInts
import Derived.Test.YtpeipeljmapkmaaGreatW3
import Derived.Test.YtpeipeljmapkmaaGreatW7
import Derived.Test.YtpeipeljmapkmaaGreatW20
import Derived.SizedLaws
set_option linter.unusedVariables false
set_option linter.unusedSimpArgs false
set_option maxRecDepth 100000
set_option maxHeartbeats 4000000
namespace Go.Proofs.YtpeipeljmapkmaaGreat
open Go.RowKit
theorem OpsRead.below{w w':World}{A:Option Addr}{ops:List OpV}(h:OpsRead w A ops)(hb:Below w.heap.size w w'):OpsRead w' A ops:=fun k o hk=>by
 obtain⟨ad,A0,c0,A1,c1,A2,c2,e,h0,h1,h2,h3,hm,hr⟩:=h k o hk;exact⟨ad,A0,c0,A1,c1,A2,c2,e,(hb.cell (World.block_lt_of_cell? w _ h0)).trans h0,(hb.cell (World.block_lt_of_cell? w _ h1)).trans h1,(hb.cell (World.block_lt_of_cell? w _ h2)).trans h2,(hb.cell (World.block_lt_of_cell? w _ h3)).trans h3,hm.below hb,hr⟩
def Sep(u v:Value):Prop:=∀ k,u.ownBlock=some k->v.ownBlock≠some k
theorem Sep.symm{u v:Value}(h:Sep u v):Sep v u:=fun k h1 h2=>h k h2 h1
theorem vJ3(v:Value):Sep (.slice none 0 0) v:=fun k h=>by cases h
theorem Sep.next{u v v':Value}{K:Nat}(h:Sep u v)(hv:v'.ownBlock=v.ownBlock\/v'.ownBlock=some K)(hu:∀ k,u.ownBlock=some k->k < K):Sep u v':=fun k h1 h2=>by
 rcases hv with e | e
 ·exact h k h1 (by rw[<- e];exact h2)
 ·rw[e] at h2;injection h2 with h2;have:=hu k h1;omega
def PWl(u:Option Nat)(w:World)(row:Option Nat)(cs:List Value)(r:List Int):Prop:=∃ A c,cs=[.slice A r.length c]/\Ints w A r/\(r≠[]->∀ ad,A=some ad->some ad.block≠row/\some ad.block≠u/\ad.block < w.heap.size)
theorem vQh{w:World}{A:Option Addr}{r:List Int}(h:r=[]):Ints w A r:=by subst h;exact Ints.nil _ _
theorem zK6(u:Option Nat):Stable (PWl u):=by
 constructor
 ·rintro w w' row cs r ⟨A,c,e,hI,hn⟩ hb;exact⟨A,c,e,hI.below hb,fun h ad he=>⟨(hn h ad he).1,(hn h ad he).2.1,Nat.lt_of_lt_of_le (hn h ad he).2.2 hb.size⟩⟩
 ·rintro w w' row cs r ⟨A,c,e,hI,hn⟩ hg;have hI':Ints w' A r:=by
   by_cases h:r=[]
   ·exact vQh h
   ·exact Ints.grown hI hg (fun ad he=>(hn h ad he).1)
  refine⟨⟨A,c,e,hI',fun h ad he=>⟨(hn h ad he).1,(hn h ad he).2.1,Nat.lt_of_lt_of_le (hn h ad he).2.2 hg.size⟩⟩,⟨A,c,e,hI',fun h ad he=>⟨fun hc=>?_,(hn h ad he).2.1,Nat.lt_of_lt_of_le (hn h ad he).2.2 hg.size⟩⟩⟩;injection hc with hc
  have:=(hn h ad he).2.2;omega
def OwnW(u:Option Nat)(base:Nat)(w:World)(v:Value)(ls:List (List Int)):Prop:=OwnEs (PWl u) 22 1 base w v ls
theorem OwnW.below{u:Option Nat}{base:Nat}{w w':World}{v:Value}{ls:List (List Int)}(h:OwnW u base w v ls)(hb:Below w.heap.size w w'):OwnW u base w' v ls:=OwnEs.below (zK6 u) h hb
def LLR(w:World)(A:Option Addr)(ls:List (List Int)):Prop:=∀ (i:Nat) (r:List Int),ls[i]? = some r->∃ ad B c,A=some ad/\w.cell? (ad.add i)=some (.slice B r.length c)/\Ints w B r
theorem LLR.below{w w':World}{A:Option Addr}{ls:List (List Int)}(h:LLR w A ls)(hb:Below w.heap.size w w'):LLR w' A ls:=fun i r hr=>by
 obtain⟨ad,B,c,e,h1,h2⟩:=h i r hr;exact⟨ad,B,c,e,(hb.cell (World.block_lt_of_cell? w _ h1)).trans h1,h2.below hb⟩
theorem LLR.at_{w:World}{A:Option Addr}{ls:List (List Int)}{k:Nat}(h:LLR w A ls)(hk:k < ls.length):∃ ad r B c,A=some ad/\Hid (ls[k]? = some r)/\w.cell? (ad.add k)=some (.slice B r.length c)/\Ints w B r:=by
 obtain⟨ad,B,c,e,h1,h2⟩:=h k _ (lGe hk);exact⟨ad,_,B,c,e,lHd (lGe hk),h1,h2⟩
inductive Rch(n:Nat)(ops:List OpV)(s:List Int):List Int->Prop
 | init:Rch n ops s s
 | step {r:List Int} {op:Nat}:Rch n ops s r->op < ops.length->zVi ops r (op:Int)->Rch n ops s (xJe n r (vY9 ops (op:Int)))
structure RSt(n:Nat)(ops:List OpV)(st:List Int)(ls:List (List Int))(k p:Nat):Prop where
 head:ls[0]? = some st
 set:∀ l∈ls,SetP l (n:Int)
 rch:∀ l∈ls,Rch n ops st l
 nodup:ls.Nodup
 done:∀ (j q:Nat) (l:List Int),(j < k\/(j=k/\q < p))->q < ops.length->ls[j]? = some l->zVi ops l (q:Int)->xJe n l (vY9 ops (q:Int))∈ls
section
variable {n:Nat}{ops:List OpV}{st:List Int}{ls:List (List Int)}{k p:Nat}
theorem RSt.start(h:SetP st (n:Int)):RSt n ops st [st] 0 0:=⟨rfl,fun l hl=>by rw[List.mem_singleton.1 hl];exact h,fun l hl=>by rw[List.mem_singleton.1 hl];exact .init,by simp,fun j q l h=>by omega⟩
theorem RSt.add(h:RSt n ops st ls k p){r:List Int}(hr:ls[k]? = some r)(hp:p < ops.length)(hc:zVi ops r (p:Int))(hn:xJe n r (vY9 ops (p:Int))∉ls):RSt n ops st (ls ++ [xJe n r (vY9 ops (p:Int))]) k (p+1):=by
 have hk:=(List.getElem?_eq_some_iff.1 hr).1;refine⟨?_,fun l hl=>?_,fun l hl=>?_,?_,fun j q l hjq hq hl hcan=>?_⟩
 ·rw[List.getElem?_append_left (by omega)];exact h.head
 ·rcases List.mem_append.1 hl with e | e
  ·exact h.set l e
  ·rw[List.mem_singleton.1 e];exact xX0 n r _
 ·rcases List.mem_append.1 hl with e | e
  ·exact h.rch l e
  ·rw[List.mem_singleton.1 e];exact .step (h.rch r (lMg hr)) hp hc
 ·rw[List.nodup_append];exact⟨h.nodup,by simp,fun a ha b hb=>by rw[List.mem_singleton.1 hb];intro e;exact hn (e ▸ ha)⟩
 ·rw[List.getElem?_append_left (by omega)] at hl
  by_cases e:j=k/\q=p
  ·obtain⟨rfl,rfl⟩:=e;rw[hr] at hl;injection hl with hl
   subst hl;exact List.mem_append_right _ (List.mem_singleton.2 rfl)
  ·exact List.mem_append_left _ (h.done j q l (by omega) hq hl hcan)
theorem RSt.row(h:RSt n ops st ls k p)(hp:ops.length<=p):RSt n ops st ls (k+1) 0:=⟨h.head,h.set,h.rch,h.nodup,fun j q l hjq hq hl hc=>h.done j q l (by omega) hq hl hc⟩
theorem RSt.word(h:RSt n ops st ls k p){r:List Int}(hr:SetP r (n:Int)):xJ1 r∈ls.map xJ1↔r∈ls:=by
 constructor
 ·intro hm;obtain⟨l,hl,e⟩:=List.mem_map.1 hm;rw[<- xJq (h.set l hl) hr e];exact hl
 ·exact fun hm=>List.mem_map.2 ⟨r,hm,rfl⟩
end
inductive Cst(n:Nat)(ops:List OpV)(st:List Int):List Int->Int->Prop
 | init:Cst n ops st st 0
 | step {l:List Int} {c:Int} {p:Nat} {o:OpV}:Cst n ops st l c->ops[p]? = some o->(∀ q∈o.pre,q∈l)->Cst n ops st (xJe n l o) (c+o.cost)
def RBest(n:Nat)(ops:List OpV)(goal st:List Int)(d:Int):Prop:=
 (d=1000000000\/∃ l,Cst n ops st l d/\∀ q∈goal,q∈l)/\d<=1000000000/\∀ l c,Cst n ops st l c->(∀ q∈goal,q∈l)->d<=c
theorem Cst.rch{n:Nat}{ops:List OpV}{st l:List Int}{c:Int}(h:Cst n ops st l c):Rch n ops st l:=by
 induction h with
 | init=>exact .init
 | @step l c p o _ hp hc ih=>
  have:=Rch.step (op:=p) ih (List.getElem?_eq_some_iff.1 hp).1 ⟨o,by simpa using hp,hc⟩
  rwa [zVj (o:=o) (by simpa using hp)] at this
theorem Cst.nn{n:Nat}{ops:List OpV}{st l:List Int}{c:Int}(hc:∀ o∈ops,0<=o.cost)(h:Cst n ops st l c):0<=c:=by
 induction h with
 | init=>exact Int.le_refl _
 | step _ hp _ ih=>have:=hc _ (lMg hp);omega
def vKu(n:Nat)(ops:List OpV)(ls:List (List Int)):Prop:=∀ (i j:Nat) (l:List Int) (p:Nat) (o:OpV),ls[i]? = some l->ops[p]? = some o->(∀ q∈o.pre,q∈l)->ls[j]? = some (xJe n l o)->i<=j
structure DPI(n:Nat)(ops:List OpV)(goal st:List Int)(ls:List (List Int))(k p g:Nat)(f:List Int->Int)(b:Int):Prop where
 real:∀ l∈ls,f l=1000000000\/Cst n ops st l (f l)
 rng:∀ l∈ls,0<=f l/\f l<=1000000000
 start:f st=0
 done:∀ (j q:Nat) (l:List Int) (o:OpV),(j < k\/(j=k/\q < p))->ops[q]? = some o->ls[j]? = some l->(∀ x∈o.pre,x∈l)->f (xJe n l o)<=f l+o.cost
 low:∀ (j:Nat) (l:List Int),j < g->ls[j]? = some l->(∀ q∈goal,q∈l)->b<=f l
 breal:b=1000000000\/∃ l,Cst n ops st l b/\∀ q∈goal,q∈l
 brng:0<=b/\b<=1000000000
section
variable {n:Nat}{ops:List OpV}{goal st:List Int}{ls:List (List Int)}{k p g:Nat}{f:List Int->Int}{b:Int}
theorem DPI.init(hf:∀ l∈ls,f l=if l=st then 0 else 1000000000)(hst:f st=0):DPI n ops goal st ls 0 0 0 f 1000000000:=by
 refine⟨fun l hl=>?_,fun l hl=>?_,hst,fun j q l o h=>by omega,fun j l h=>by omega,.inl rfl,by omega⟩
 ·by_cases e:l=st
  ·rw[e,hst];exact .inr .init
  ·rw[hf l hl,if_neg e];exact .inl rfl
 ·rw[hf l hl];split <;> omega
theorem DPI.row(h:DPI n ops goal st ls k p (k+1) f b)(hp:ops.length<=p):DPI n ops goal st ls (k+1) 0 (k+1) f b:=
 ⟨h.real,h.rng,h.start,fun j q l o hjq ho hl hc=>h.done j q l o (by have:=(List.getElem?_eq_some_iff.1 ho).1;omega) ho hl hc,h.low,h.breal,h.brng⟩
theorem DPI.use(h:DPI n ops goal st ls k p (k+1) f b)(hOrd:vKu n ops ls)(hnd:ls.Nodup)(hcost:∀ o∈ops,0<=o.cost){l:List Int}{o:OpV}(hl:ls[k]? = some l)(ho:ops[p]? = some o)(hc:∀ x∈o.pre,x∈l)(hcl:∀ (l:List Int) (p:Nat) (o:OpV),l∈ls->ops[p]? = some o->(∀ q∈o.pre,q∈l)->xJe n l o∈ls){f':List Int->Int}
  (hf1:f' (xJe n l o)=min (f (xJe n l o)) (f l+o.cost)) (hf2:∀ r∈ls,r≠xJe n l o->f' r=f r) (hst:st∈ls):DPI n ops goal st ls k (p+1) (k+1) f' b:=by
 have hm:=lMg hl;have hin:=hcl l p o hm ho hc;have hco:=hcost o (lMg ho);have hrl:=h.rng l hm;have hrn:=h.rng _ hin;have hle:∀ r∈ls,f' r<=f r:=fun r hr=>by
  by_cases e:r=xJe n l o
  ·rw[e,hf1];omega
  ·rw[hf2 r hr e];exact Int.le_refl _
 obtain⟨jn,hjn⟩:=List.getElem?_of_mem hin;have hkj:=hOrd k jn l p o hl ho hc hjn;have hsame:∀ (j:Nat) (r:List Int),j<=k->ls[j]? = some r->f' r=f r:=fun j r hj hr=>by
  by_cases e:r=xJe n l o
  ·have hjj:j=jn:=by
    have h1:=(List.getElem?_inj (i:=j) (j:=jn) (List.getElem?_eq_some_iff.1 hr).1 hnd).1 (by rw[hr,hjn,e]);exact h1
   have hjk:j=k:=by omega
   subst hjk;rw[hl] at hr;injection hr with hr
   subst hr;rw[<- e] at hf1;rw[hf1];omega
  ·exact hf2 r (lMg hr) e
 refine⟨fun r hr=>?_,fun r hr=>?_,?_,fun j q l' o' hjq ho' hl' hc'=>?_,fun j l' hj hl' hg'=>?_,h.breal,h.brng⟩
 ·by_cases e:r=xJe n l o
  ·subst e;rw[hf1];rcases Int.le_total (f (xJe n l o)) (f l+o.cost) with e2 | e2
   ·rw[Int.min_eq_left e2];exact h.real _ hin
   ·rw[Int.min_eq_right e2];rcases h.real l hm with e3 | e3
    ·exact .inl (by omega)
    ·exact .inr (.step e3 ho hc)
  ·rw[hf2 r hr e];exact h.real r hr
 ·by_cases e:r=xJe n l o
  ·subst e;rw[hf1];omega
  ·rw[hf2 r hr e];exact h.rng r hr
 ·by_cases e:st=xJe n l o
  ·rw[e,hf1,<- e,h.start];omega
  ·rw[hf2 st hst e];exact h.start
 ·by_cases e:j=k/\q=p
  ·obtain⟨rfl,rfl⟩:=e;rw[hl] at hl';injection hl' with hl';subst hl'
   rw[ho] at ho';injection ho' with ho';subst ho'
   rw[hsame j l (Nat.le_refl _) hl,hf1];omega
  ·rw[hsame j l' (by omega) hl'];have h1:=h.done j q l' o' (by omega) ho' hl' hc'
   by_cases e2:xJe n l' o'=xJe n l o
   ·rw[e2,hf1];rw[e2] at h1;omega
   ·have:=hle _ (hcl l' q o' (lMg hl') ho' hc');omega
 ·rw[hsame j l' (by omega) hl'];exact h.low j l' hj hl' hg'
end
theorem RSt.closed{n:Nat}{ops:List OpV}{st:List Int}{ls:List (List Int)}(h:RSt n ops st ls ls.length 0):∀ (l:List Int) (p:Nat) (o:OpV),l∈ls->ops[p]? = some o->(∀ q∈o.pre,q∈l)->xJe n l o∈ls:=fun l p o hl ho hc=>by
 obtain⟨j,hj⟩:=List.getElem?_of_mem hl;have:=h.done j p l (.inl (List.getElem?_eq_some_iff.1 hj).1) (List.getElem?_eq_some_iff.1 ho).1 hj ⟨o,by simpa using ho,hc⟩
 rwa [zVj (o:=o) (by simpa using ho)] at this
structure OwnL(base:Nat)(w:World)(vs:List Value)(xss:List (List Int)):Prop where
 len:vs.length=xss.length
 own:∀ (i:Nat) (v:Value) (xs:List Int),vs[i]? = some v->xss[i]? = some xs->OwnI base w v xs
 sep:∀ (i j:Nat) (u v:Value),i≠j->vs[i]? = some u->vs[j]? = some v->Sep u v
section
variable {base:Nat}{w w':World}{vs:List Value}{xss:List (List Int)}
theorem OwnL.nil(base:Nat)(w:World):OwnL base w [] []:=⟨rfl,fun i v xs h=>by simp at h,fun i j u v _ h=>by simp at h⟩
theorem OwnL.below(h:OwnL base w vs xss)(hb:Below w.heap.size w w'):OwnL base w' vs xss:=⟨h.len,fun i v xs h1 h2=>(h.own i v xs h1 h2).below hb,h.sep⟩
theorem OwnL.more(h:OwnL base w vs xss):OwnL base w (vs ++ [.slice none 0 0]) (xss ++ [[]]):=by
 have key:∀ (i:Nat) (v:Value),(vs ++ [Value.slice none 0 0])[i]? = some v->(i < vs.length/\vs[i]? = some v)\/(i=vs.length/\v=.slice none 0 0):=fun i v hv=>by
  rcases Nat.lt_or_ge i vs.length with hl | hl
  ·rw[List.getElem?_append_left hl] at hv;exact .inl ⟨hl,hv⟩
  ·rw[List.getElem?_append_right hl] at hv;have h0:i - vs.length=0:=by
    have:=(List.getElem?_eq_some_iff.1 hv).1;simp at this;omega
   rw[h0] at hv;simp at hv;exact .inr ⟨by omega,hv.symm⟩
 refine⟨by simp[h.len],fun i v xs h1 h2=>?_,fun i j u v hij h1 h2=>?_⟩
 ·rcases key i v h1 with ⟨hl,h1⟩ | ⟨rfl,rfl⟩
  ·rw[List.getElem?_append_left (by rw[<- h.len];exact hl)] at h2;exact h.own i v xs h1 h2
  ·rw[h.len,List.getElem?_append_right (Nat.le_refl _)] at h2;simp at h2;subst h2;exact OwnI.nil _ _
 ·rcases key i u h1 with ⟨_,h1⟩ | ⟨rfl,rfl⟩
  ·rcases key j v h2 with ⟨_,h2⟩ | ⟨rfl,rfl⟩
   ·exact h.sep i j u v hij h1 h2
   ·exact (vJ3 u).symm
  ·exact vJ3 v
end
structure HCons(n:Nat)(ops:List OpV)(goal:List Int)(H:List Int->Int):Prop where
 goal:∀ l,(∀ q∈goal,q∈l)->SetP l (n:Int)->H l<=0
 inf:∀ l,SetP l (n:Int)->H l<=1000000000
 step:∀ (l:List Int) (p:Nat) (o:OpV),SetP l (n:Int)->ops[p]? = some o->zVi ops l (p:Int)->H (xJe n l o) < 1000000000->H l<=H (xJe n l o)+o.cost
def vWj(n:Nat)(ops:List OpV)(ls:List (List Int))(a:Nat×Nat×Int):Prop:=∃ (l:List Int) (p:Nat) (o:OpV),ls[a.1]? = some l/\ops[p]? = some o/\zVi ops l (p:Int)/\ls[a.2.1]? = some (xJe n l o)/\a.2.2=o.cost
structure DSt(n:Nat)(ops:List OpV)(goal:List Int)(ls:List (List Int))(D:List Int):Prop where
 len:D.length=ls.length
 all:xQd D
 zero:∀ (i:Nat) (l:List Int),ls[i]? = some l->(∀ q∈goal,q∈l)->D[i]? = some 0
 low:∀ H,HCons n ops goal H->∀ (i:Nat) (l:List Int) (d:Int),ls[i]? = some l->D[i]? = some d->H l<=d
section
variable {n:Nat}{ops:List OpV}{goal:List Int}{ls:List (List Int)}{D:List Int}
theorem DSt.set_(h:DSt n ops goal ls D)(hset:∀ l∈ls,SetP l (n:Int))(hops:∀ o∈ops,0<=o.cost){a:Nat×Nat×Int}(ha:vWj n ops ls a){x y:Int}(hx:D[a.1]? = some x)(hy:D[a.2.1]? = some y)(hy2:y < 1000000000)(hlt:y+a.2.2 < x):DSt n ops goal ls (D.set a.1 (y+a.2.2)):=by
 obtain⟨l,p,o,h1,h2,h3,h4,h5⟩:=ha;have hil:=(List.getElem?_eq_some_iff.1 hx).1;have hyV:=h.all y (lMg hy);have hxV:=h.all x (lMg hx);have hc:=hops o (lMg h2);unfold InV at hyV hxV;refine⟨by rw[List.length_set];exact h.len,zYm h.all _ (by unfold InV;omega),fun i l' hl' hg=>?_,fun H hH i l' d hl' hd=>?_⟩
 ·rw[List.getElem?_set_ne (fun e=>by
   subst e;have:=h.zero a.1 l' hl' hg;rw[hx] at this;injection this with this
   omega)]
  exact h.zero i l' hl' hg
 ·by_cases e:a.1=i
  ·subst e;rw[List.getElem?_set_self hil] at hd;injection hd with hd
   rw[h1] at hl';injection hl' with hl'
   subst hl';have k1:=h.low H hH a.2.1 _ y h4 hy;have k2:=hH.step l p o (hset l (lMg h1)) h2 h3 (by omega);omega
  ·rw[List.getElem?_set_ne e] at hd;exact h.low H hH i l' d hl' hd
structure ArcsTo(n:Nat)(ops:List OpV)(ls:List (List Int))(A:List (Nat×Nat×Int))(i p k:Nat):Prop where
 sound:∀ a∈A,vWj n ops ls a
 all:∀ (i' p' k':Nat) (l:List Int) (o:OpV),(i' < i\/i'=i/\(p' < p\/p'=p/\k' < k))->ls[i']? = some l->ops[p']? = some o->zVi ops l (p':Int)->ls[k']? = some (xJe n l o)->(i',k',o.cost)∈A
 len:A.length<=80000 * i+2000 * p+k
theorem ArcsTo.start:ArcsTo n ops ls [] 0 0 0:=⟨fun a h=>(List.not_mem_nil h).elim,fun i' p' k' l o h=>by omega,by simp⟩
variable {A:List (Nat×Nat×Int)}{i p k:Nat}
theorem ArcsTo.add(h:ArcsTo n ops ls A i p k){l:List Int}{o:OpV}(hl:ls[i]? = some l)(ho:ops[p]? = some o)(hc:zVi ops l (p:Int))(hk:ls[k]? = some (xJe n l o)):ArcsTo n ops ls (A ++ [(i,k,o.cost)]) i p (k+1):=by
 refine⟨fun a ha=>?_,fun i' p' k' l' o' hlt hl' ho' hc' hk'=>?_,by rw[List.length_append];have:=h.len;simp;omega⟩
 ·rcases List.mem_append.1 ha with e | e
  ·exact h.sound a e
  ·rw[List.mem_singleton.1 e];exact⟨l,p,o,hl,ho,hc,hk,rfl⟩
 ·by_cases e:i'=i/\p'=p/\k'=k
  ·obtain⟨rfl,rfl,rfl⟩:=e;rw[ho] at ho';injection ho' with ho'
   subst ho';exact List.mem_append_right _ (List.mem_singleton.2 rfl)
  ·exact List.mem_append_left _ (h.all i' p' k' l' o' (by omega) hl' ho' hc' hk')
theorem ArcsTo.none(h:ArcsTo n ops ls A i p 0){l:List Int}(hl:ls[i]? = some l)(hc:¬ zVi ops l (p:Int)):ArcsTo n ops ls A i (p+1) 0:=
 ⟨h.sound,fun i' p' k' l' o' hlt hl' ho' hc' hk'=>by
  by_cases e:i'=i/\p'=p
  ·obtain⟨rfl,rfl⟩:=e;rw[hl] at hl';injection hl' with hl'
   subst hl';exact absurd hc' hc
  ·exact h.all i' p' k' l' o' (by omega) hl' ho' hc' hk',by have:=h.len;omega⟩
theorem ArcsTo.row(h:ArcsTo n ops ls A i p 0)(hp:ops.length<=p)(hp2:p<=40):ArcsTo n ops ls A (i+1) 0 0:=
 ⟨h.sound,fun i' p' k' l' o' hlt hl' ho' hc' hk'=>h.all i' p' k' l' o' (by have:=(List.getElem?_eq_some_iff.1 ho').1;omega) hl' ho' hc' hk',by have:=h.len;omega⟩
end
theorem vX4{s:Bool}{n:Nat}{st:List Int}{ops:List OpV}{cs:List Int}(hadd:∀ o∈ops,∀ p∈o.add,0<=p/\p < (n:Int))(hcs:xQd cs):∀ (m:Nat) (V:List Int),xXz V<=m->Above s n st ops cs V->∃ V',Best s n st ops cs V':=by
 intro m
 induction m with
 | zero=>
  intro V hm hV;refine⟨V,zVf hV fun i o c hi ho hc p hp=>?_⟩;refine Classical.byContradiction fun hlt=>?_
  have hpr:=hadd o (lMg ho) p hp;have hin:=zYk (s:=s) hV.shape.all o (hcs c (lMg hc));obtain⟨y,hy⟩:∃ y,V[p.toNat]? = some y:=⟨_,lGe (by rw[hV.shape.len];omega)⟩;rw[xJ5 hy] at hlt;have:=xW3 hy hin.1 (by omega:opV s V o c < y);omega
 | succ m ih=>
  intro V hm hV
  by_cases hcl:xXy s ops cs ops.length V
  ·exact⟨V,zVf hV hcl⟩
  ·obtain⟨i,o,c,ho,hc,p,hp,hlt⟩:∃ i o c,ops[i]? = some o/\cs[i]? = some c/\∃ p∈o.add,¬ xJ2 V p<=opV s V o c:=by
    refine Classical.byContradiction fun hn=>hcl fun i o c hi ho hc p hp=>Classical.byContradiction fun h=>hn ⟨i,o,c,ho,hc,p,hp,h⟩
   have hcv:=hcs c (lMg hc);have hpr:=hadd o (lMg ho) p hp;have hin:=zYk (s:=s) hV.shape.all o hcv;obtain⟨y,hy⟩:∃ y,V[p.toNat]? = some y:=⟨_,lGe (by rw[hV.shape.len];omega)⟩;rw[xJ5 hy] at hlt;have h1:=xW3 hy hin.1 (by omega:opV s V o c < y);exact ih _ (by omega) (zQ7 hV (zYn hV ho hc hcv) hp hin hy (by omega))
theorem vKb{s:Bool}{n:Nat}{st:List Int}{ops:List OpV}{cs:List Int}(hst:∀ p∈st,0<=p/\p < (n:Int))(hadd:∀ o∈ops,∀ p∈o.add,0<=p/\p < (n:Int))(hcs:xQd cs):Best s n st ops cs (xJm s n st ops cs):=by
 obtain⟨V,hV⟩:=vX4 hadd hcs _ _ (Nat.le_refl _) (xW6 (s:=s) (ops:=ops) (cs:=cs) hst);exact zVg hV
section
open Go.Joins Go.ChangeShapes Go.WideShapes Go.RowKit Go.Deep
section
variable {H:Type}{enc:TypeId×Value->H}{w:World}
def RowsRead(w:World)(A:Option Addr)(ls:List (List Int)):Prop:=∀ (i:Nat) (r:List Int),ls[i]? = some r->∃ ad B c,A=some ad/\w.cell? (ad.add i)=some (.slice B r.length c)/\Ints w B r/\xWj B r c
theorem vX2{fuel:Nat}{cs:List Value}{x:DataW H×List MemPlace}(h:DataW.trod enc Tryz.prog w 0 (fun _=>true) true fuel 44 cs=some x) :
  ∃ A c ls,cs=[.slice A ls.length c]/\ls.length<=c/\lenOk c/\(A=none->ls=[]/\c=0)/\RowsRead w A ls:=by
 rcases open_slice1 Tryz.underlying44 (by kernel_rfl) h with ⟨rfl,rfl⟩ | ⟨a,len,cap,m,n,V,D,Pl,rfl,hb,hl,hm,hmm,hx,hi⟩
 ·exact⟨none,0,[],rfl,Nat.le_refl _,by unfold lenOk;omega,fun _=>⟨rfl,rfl⟩,fun k o hk=>by simp at hk⟩
 ·simp only[if_true] at hmm;subst hmm;have each:∀ i:Nat,∃ r:List Int,i < m->∃ B c,w.cell? (a.add i)=some (.slice B r.length c)/\Ints w B r/\xWj B r c:=by
   intro i
   by_cases him:i < m
   ·obtain⟨hc,t0⟩:=hi i him;obtain⟨B,c,r,e0,q0,m0,n0,I0,_⟩:=xKz t0;injection e0 with e0
    rw[e0] at hc;exact⟨r,fun _=>⟨B,c,hc,I0,n0,q0,m0⟩⟩
   ·exact⟨[],fun h=>absurd h him⟩
  obtain⟨f,hf⟩:=Classical.axiomOfChoice each;refine⟨some a,m,(List.range len).map f,by simp,by simpa using hl,by unfold lenOk;simp only[maxLen] at hm;omega,(fun h=>by cases h),fun k o hk=>?_⟩;obtain⟨hk1,rfl⟩:=List.getElem?_eq_some_iff.1 hk;rw[List.length_map,List.length_range] at hk1;obtain⟨B,c,r⟩:=hf k (by omega);exact⟨a,B,c,rfl,by simpa using r⟩
theorem zKu{r:Go.Reach}{b0:Nat}{v:Value}{d:DataW H}{p:List MemPlace}(hv:Value.okWide Tryz.prog w r b0 44 v)(h:DataW.Trod enc Tryz.prog w 0 (fun _=>true) true 44 v d p) :
  ∃ A c ls,v=.slice A ls.length c/\ls.length<=c/\lenOk c/\(A=none->ls=[]/\c=0)/\RowsRead w A ls:=by
 obtain⟨a0,len,cap,rfl⟩:=okWide_slice Tryz.underlying44 hv;obtain⟨fuel,hf⟩:=h;obtain⟨A,c,xs,e,q⟩:=vX2 hf;refine⟨A,c,xs,?_,q⟩;simpa[Value.cells] using e
end
end
section
open Go.Joins Go.ChangeShapes Go.WideShapes Go.RowKit Go.Deep
def PAny(w:World)(row:Option Nat)(cs:List Value)(r:List Int):Prop:=
 ∃ A c,cs=[.slice A r.length c]/\Ints w A r/\xWj A r c/\(r≠[]->∀ ad,A=some ad->some ad.block≠row)
theorem vKp{w:World}{ad:Addr}{r:List Int}(h:Ints w (some ad) r)(hr:r≠[]):ad.block < w.heap.size:=by
 cases r with
 | nil=>exact absurd rfl hr
 | cons x r=>
  obtain⟨ad',e,hc⟩:=h 0 (.int .i64 x) rfl;injection e with e
  subst e;exact World.block_lt_of_cell? w _ hc
theorem Ints.grown2{w w':World}{A:Option Addr}{xs:List Int}{row:Option Nat}(h:Ints w A xs)(hg:w.grownBy w' row)(hne:xs≠[]->∀ ad,A=some ad->some ad.block≠row):Ints w' A xs:=by
 by_cases e:xs=[]
 ·subst e;exact Ints.nil _ _
 ·exact h.grown hg (hne e)
theorem zVb:Stable PAny:=by
 constructor
 ·rintro w w' row cs r ⟨A,c,e,hI,hn,ha⟩ hb;exact⟨A,c,e,hI.below hb,hn,ha⟩
 ·rintro w w' row cs r ⟨A,c,e,hI,hn,ha⟩ hg;have hI':=hI.grown2 hg ha;refine⟨⟨A,c,e,hI',hn,ha⟩,⟨A,c,e,hI',hn,fun hr ad h k=>?_⟩⟩;subst h;have:=vKp hI hr;injection k with k
  omega
def OwnLA(base:Nat)(w:World)(v:Value)(rows:List (List Int)):Prop:=OwnEs PAny 22 1 base w v rows
theorem OwnLA.below{base:Nat}{w w':World}{v:Value}{rows:List (List Int)}(h:OwnLA base w v rows)(hb:Below w.heap.size w w'):OwnLA base w' v rows:=OwnEs.below zVb h hb
theorem OwnLA.read{base n c:Nat}{w:World}{A:Option Addr}{ls:List (List Int)}(h:OwnLA base w (.slice A n c) ls):RowsRead w A ls:=fun i r hr=>by
 obtain⟨g,cs,a,rfl,_,_,ha,_,hc,B,c',rfl,hI,hn,_⟩:=OwnEs.at_ h (i:=i) (List.getElem?_eq_some_iff.1 hr).1;have:a=r:=by have:=ha.out;rw[hr] at this;injection this with this;exact this.symm
 subst this;refine⟨⟨g,0,none⟩,B,c',rfl,?_,hI,hn⟩;have h1:=hc 0 _ rfl;have e:((⟨g,0,none⟩:Addr).add i)=⟨g,i,none⟩:=by
  unfold Addr.add;split
  ·rename_i hj;subst hj;rfl
  ·simp
 rw[e];simpa using h1
theorem RowsRead.below{w w':World}{A:Option Addr}{ls:List (List Int)}(h:RowsRead w A ls)(hb:Below w.heap.size w w'):RowsRead w' A ls:=fun i r hr=>by
 obtain⟨ad,B,c,e,h1,h2,h3⟩:=h i r hr;exact⟨ad,B,c,e,(hb.cell (World.block_lt_of_cell? w _ h1)).trans h1,h2.below hb,h3⟩
theorem RowsRead.nil(w:World)(A:Option Addr):RowsRead w A []:=fun i r h=>by simp at h
theorem RowsRead.cells{w:World}{ad:Addr}{ls:List (List Int)}(h:RowsRead w (some ad) ls):∃ cs:List Value,cs.length=ls.length/\(∀ j u,cs[j]? = some u->w.cell? (ad.add j)=some u)/\(∀ u∈cs,u.oneCell'=true) /\
  ∀ (i:Nat) (r:List Int),ls[i]? = some r->∃ B c,cs[i]? = some (.slice B r.length c)/\Ints w B r/\xWj B r c:=by
 have each:∀ i:Nat,∃ u:Value,∀ r,ls[i]? = some r->∃ B c,u=.slice B r.length c/\w.cell? (ad.add i)=some u/\Ints w B r/\xWj B r c:=fun i=>by
  cases hi:ls[i]? with
  | none=>exact⟨default,fun r hr=>by cases hr⟩
  | some r=>
   obtain⟨ad',B,c,e,h1,h2,h3⟩:=h i r hi;injection e with e
   subst e;exact⟨.slice B r.length c,fun r' hr=>by injection hr with hr;subst hr;exact⟨B,c,rfl,h1,h2,h3⟩⟩
 obtain⟨f,hf⟩:=Classical.axiomOfChoice each;have hat:∀ (j:Nat) (u:Value),((List.range ls.length).map f)[j]? = some u->∃ r,ls[j]? = some r/\u=f j:=fun j u hu=>by
  obtain⟨hj,rfl⟩:=List.getElem?_eq_some_iff.1 hu;rw[List.length_map,List.length_range] at hj;exact⟨ls[j],lGe hj,by simp⟩
 refine⟨(List.range ls.length).map f,by simp,fun j u hu=>?_,fun u hu=>?_,fun i r hr=>?_⟩
 ·obtain⟨r,hr,rfl⟩:=hat j u hu;obtain⟨B,c,e,hc,_⟩:=hf j r hr;exact hc
 ·obtain⟨j,hj⟩:=List.getElem?_of_mem hu;obtain⟨r,hr,rfl⟩:=hat j u hj;obtain⟨B,c,e,hc,_⟩:=hf j r hr;rw[e];rfl
 ·obtain⟨B,c,e,hc,hI,hn⟩:=hf i r hr;have hi:=(List.getElem?_eq_some_iff.1 hr).1;exact⟨B,c,by rw[List.getElem?_map,List.getElem?_range hi];simp[e],hI,hn⟩
section
variable {H:Type}{enc:TypeId×Value->H}{w:World}
end
end
end Go.Proofs.YtpeipeljmapkmaaGreat
