/-
  Lemmas.
-/
import Derived.Test.YtjjjeohejhmpoaaGreatX1
set_option linter.unusedVariables false
set_option linter.unusedSimpArgs false
set_option maxRecDepth 100000
set_option maxHeartbeats 4000000
namespace Go.Proofs.YtjjjeohejhmpoaaGreat
open Go.Proofs.Tryz
section
def yYn(s:List Int)(w:Nat):Prop:=∃e:Nat,(e:Int)∈s/\w.testBit e=true
def HCov(sets:List (List Int))(w x:Nat):Prop:=∀i:Nat,x.testBit i=true↔∃s,sets[i]? = some s/\yYn s w
def xXb(cs:List Int)(w:Nat):Int:=((List.range cs.length).map fun e=>if w.testBit e=true then(cs[e]?).getD 0 else 0).sum
structure Least(cost:Nat->Int)(P:Nat->Prop)(c:Int)(w:Nat):Prop where
 is:P w
 eq:c=cost w
 least:∀v,P v->cost w<cost v\/(cost w=cost v/\w<=v)
theorem Least.uniq{cost:Nat->Int}{P:Nat->Prop}{c c':Int}{w w':Nat}(h:Least cost P c w)(h':Least cost P c' w'):c=c'/\w=w':=by
 have h1:=h.least _ h'.is;have h2:=h'.least _ h.is;have h3:=h.eq;have h4:=h'.eq;have:w=w':=by omega
 subst this;exact⟨by omega,rfl⟩
theorem Least.congr{cost:Nat->Int}{P Q:Nat->Prop}{c:Int}{w:Nat}(h:Least cost P c w)(hpq:∀v,P v↔Q v):Least cost Q c w:=⟨(hpq w).1 h.is,h.eq,fun v hv=>h.least v ((hpq v).2 hv)⟩
def Cho(cost:Nat->Int)(P:Nat->Prop)(c:Int)(w:Nat):Prop:=Least cost P c w\/(c=1000000000/\w=0/\∀v,¬P v)
theorem Cho.congr{cost:Nat->Int}{P Q:Nat->Prop}{c:Int}{w:Nat}(h:Cho cost P c w)(hpq:∀v,P v↔Q v):Cho cost Q c w:=by
 rcases h with h|⟨h1,h2,h3⟩
 ·exact .inl (h.congr hpq)
 ·exact .inr ⟨h1,h2,fun v hv=>h3 v ((hpq v).2 hv)⟩
theorem Cho.min{cost:Nat->Int}{P Q:Nat->Prop}{c d:Int}{w v:Nat}(h:Cho cost P c w)(k:Least cost Q d v)(hd:d<1000000000) :
  Cho cost (fun x=>P x\/Q x) (if d<c\/(d=c/\v<w) then d else c) (if d<c\/(d=c/\v<w) then v else w):=by
 rcases h with h|⟨rfl,rfl,h⟩
 ·left;have he:=h.eq;have ke:=k.eq
  by_cases hlt:d<c\/(d=c/\v<w)
  ·rw[if_pos hlt,if_pos hlt];refine⟨.inr k.is,k.eq,fun x hx=>?_⟩;rcases hx with hx|hx
   ·have:=h.least x hx;omega
   ·exact k.least x hx
  ·rw[if_neg hlt,if_neg hlt];refine⟨.inl h.is,h.eq,fun x hx=>?_⟩;rcases hx with hx|hx
   ·exact h.least x hx
   ·have:=k.least x hx;omega
 ·left;rw[if_pos (.inl hd),if_pos (.inl hd)];refine⟨.inr k.is,k.eq,fun x hx=>?_⟩;rcases hx with hx|hx
  ·exact absurd hx (h x)
  ·exact k.least x hx
theorem vXm{w e:Nat}(h:w<2^e):w ||| 2^e=w+2^e:=by
 have:=Nat.two_pow_add_eq_or_of_lt h 1;rw[Nat.mul_one] at this;rw[Nat.or_comm,<- this,Nat.add_comm]
theorem xZi{w e i:Nat}:(w ||| 2^e).testBit i=(w.testBit i||decide (e=i)):=by
 rw[Nat.testBit_or,Nat.testBit_two_pow]
theorem vQv{w e:Nat}(h:w<2^(e+1)):w<2^e\/∃v,v<2^e/\w=v ||| 2^e:=by
 by_cases hl:w<2^e
 ·exact .inl hl
 ·right;refine⟨w-2^e,by omega,?_⟩;rw[vXm (by omega)];omega
theorem xWa{v e:Nat}(h:v<2^e):v ||| 2^e<2^(e+1):=by
 rw[vXm h,Nat.pow_succ];omega
theorem yZy{v e i:Nat}(h:v<2^e)(hi:e<=i):v.testBit i=false:=Nat.testBit_lt_two_pow (Nat.lt_of_lt_of_le h (Nat.pow_le_pow_right (by decide) hi))
theorem vKp{s:List Int}{v e:Nat}:yYn s (v ||| 2^e)↔yYn s v\/(e:Int)∈s:=by
 unfold yYn;constructor
 ·rintro⟨i,h1,h2⟩;rw[xZi] at h2
  by_cases hi:v.testBit i=true
  ·exact .inl ⟨i,h1,hi⟩
  ·have:e=i:=by simpa[hi] using h2
   subst this;exact .inr h1
 ·rintro(⟨i,h1,h2⟩|h)
  ·exact⟨i,h1,by rw[xZi,h2];rfl⟩
  ·exact⟨e,h,by rw[xZi];simp⟩
section
variable {sets:List (List Int)}
theorem HCov.uniq{w x y:Nat}(h:HCov sets w x)(k:HCov sets w y):x=y:=by
 refine Nat.eq_of_testBit_eq fun i=>?_
 have:=(h i).trans (k i).symm
 cases hx:x.testBit i<;>cases hy:y.testBit i<;>simp[hx,hy] at this<;>rfl
def yZz(sets:List (List Int))(e x:Nat):Prop:=∀i:Nat,x.testBit i=true↔∃s,sets[i]? = some s/\(e:Int)∈s
theorem HCov.or{w x h e:Nat}(hc:HCov sets w x)(hh:yZz sets e h):HCov sets (w ||| 2^e) (x ||| h):=fun i=>by
 rw[Nat.testBit_or,Bool.or_eq_true,hc i,hh i];constructor
 ·rintro(⟨s,h1,h2⟩|⟨s,h1,h2⟩)
  ·exact⟨s,h1,vKp.2 (.inl h2)⟩
  ·exact⟨s,h1,vKp.2 (.inr h2)⟩
 ·rintro⟨s,h1,h2⟩;rcases vKp.1 h2 with h3|h3
  ·exact .inl ⟨s,h1,h3⟩
  ·exact .inr ⟨s,h1,h3⟩
theorem HCov.zero:HCov sets 0 0:=fun i=>by simp[yYn]
theorem HCov.full{w:Nat}:HCov sets w (2^sets.length-1)↔∀s∈sets,yYn s w:=by
 constructor
 ·intro h s hs;obtain⟨i,hi⟩:=List.getElem?_of_mem hs;have hl:=(zQ1.1 hi).1;obtain⟨s',h1,h2⟩:=(h i).1 (by rw[Nat.testBit_two_pow_sub_one];simpa using hl);rw[hi] at h1;injection h1 with h1
  rw[h1];exact h2
 ·intro h i;rw[Nat.testBit_two_pow_sub_one];constructor
  ·intro hl;have hl':i<sets.length:=by simpa using hl
   exact⟨sets[i],lGe hl',h _ (List.getElem_mem hl')⟩
  ·rintro⟨s,h1,_⟩;simpa using(zQ1.1 h1).1
theorem HCov.lt{w x:Nat}(h:HCov sets w x):x<2^sets.length:=by
 refine Nat.lt_pow_two_of_testBit x fun i hi=>?_
 cases hb:x.testBit i with
 |false=>rfl
 |true=>
  obtain⟨s,h1,_⟩:=(h i).1 hb;have:=(zQ1.1 h1).1;omega
end
theorem vKq{f g:Nat->Int}{e:Nat}{d:Int}(he:f e=g e+d)(ho:∀i,i≠e->f i=g i):∀m,((List.range m).map f).sum=((List.range m).map g).sum+(if e<m then d else 0)
 |0=>by simp
 |m+1=>by
  rw[List.range_succ,vQu,vQu,List.sum_append,List.sum_append,vKq he ho m];simp only[List.map_cons,List.map_nil,List.sum_cons,List.sum_nil]
  by_cases h:e=m
  ·subst h;rw[he,if_neg (by omega),if_pos (by omega)];omega
  ·rw[ho m (fun h2=>h h2.symm)]
   by_cases h2:e<m
   ·rw[if_pos h2,if_pos (by omega)];omega
   ·rw[if_neg h2,if_neg (by omega)];omega
theorem zQt{cs:List Int}{v e:Nat}{c:Int}(hv:v<2^e)(hc:cs[e]? = some c):xXb cs (v ||| 2^e)=xXb cs v+c:=by
 have hl:=(zQ1.1 hc).1;unfold xXb;rw[vKq (f:=fun i=>if(v ||| 2^e).testBit i=true then(cs[i]?).getD 0 else 0) (g:=fun i=>if v.testBit i=true then(cs[i]?).getD 0 else 0) (e:=e) (d:=c) ?_ ?_ cs.length,if_pos hl]
 ·have h1:=yZy hv (Nat.le_refl e);rw[xZi,h1,hc];simp
 ·intro i hi;rw[xZi,zVa (fun h=>hi h.symm),Bool.or_false]
theorem zZt(cs:List Int):xXb cs 0=0:=by
 have key:∀l:List Nat,(l.map fun e=>if(0:Nat).testBit e=true then(cs[e]?).getD 0 else 0).sum=0:=by
  intro l
  induction l with
  |nil=>rfl
  |cons x l ih=>rw[List.map_cons,List.sum_cons,ih];simp
 exact key _
theorem vKr{cs:List Int}{M:Int}(h0:0<=M)(hc:∀c∈cs,0<=c/\c<=M)(w:Nat):0<=xXb cs w/\xXb cs w<=(cs.length:Int)*M:=by
 have key:∀m,m<=cs.length->0<=((List.range m).map fun e=>if w.testBit e=true then(cs[e]?).getD 0 else 0).sum/\((List.range m).map fun e=>if w.testBit e=true then(cs[e]?).getD 0 else 0).sum<=(m:Int)*M:=by
  intro m
  induction m with
  |zero=>intro _;simp
  |succ m ih=>
   intro hm;have:=ih (by omega);rw[List.range_succ,vQu,List.sum_append];simp only[List.map_cons,List.map_nil,List.sum_cons,List.sum_nil];have hx:=hc _ (List.getElem_mem (show m<cs.length by omega));have he:(((m+1:Nat):Int))*M=(m:Int)*M+M:=by
    have:((m+1:Nat):Int)=(m:Int)+1:=by omega
    rw[this,Int.add_mul];omega
   rw[he,lGe (show m<cs.length by omega)];simp only[Option.getD_some]
   split<;>omega
 exact key cs.length (Nat.le_refl _)
section
variable {sets:List (List Int)}{cs:List Int}
def zQu(sets:List (List Int))(e x:Nat)(w:Nat):Prop:=w<2^e/\HCov sets w x
def xWb(sets:List (List Int))(e h i z:Nat)(w:Nat):Prop:=zQu sets e z w\/∃v x,x<i/\zQu sets e x v/\x ||| h=z/\w=v ||| 2^e
theorem yQ0{e h z:Nat}(w:Nat):xWb sets e h 0 z w↔zQu sets e z w:=by
 unfold xWb;constructor
 ·rintro(h|⟨v,x,h,_⟩)
  ·exact h
  ·omega
 ·exact .inl
theorem vKs{e h i z:Nat}(hz:i ||| h≠z)(w:Nat):xWb sets e h (i+1) z w↔xWb sets e h i z w:=by
 unfold xWb;constructor
 ·rintro(h1|⟨v,x,h1,h2,h3,h4⟩)
  ·exact .inl h1
  ·have hxi:x≠i:=fun hx=>hz (by rw[<- hx];exact h3)
   exact .inr ⟨v,x,by omega,h2,h3,h4⟩
 ·rintro(h1|⟨v,x,h1,h2,h3,h4⟩)
  ·exact .inl h1
  ·exact .inr ⟨v,x,by omega,h2,h3,h4⟩
theorem yQ1{e h i z:Nat}(hn:∀v,¬zQu sets e i v)(w:Nat):xWb sets e h (i+1) z w↔xWb sets e h i z w:=by
 unfold xWb;constructor
 ·rintro(h1|⟨v,x,h1,h2,h3,h4⟩)
  ·exact .inl h1
  ·have hxi:x≠i:=fun hx=>hn v (hx ▸ h2)
   exact .inr ⟨v,x,by omega,h2,h3,h4⟩
 ·rintro(h1|⟨v,x,h1,h2,h3,h4⟩)
  ·exact .inl h1
  ·exact .inr ⟨v,x,by omega,h2,h3,h4⟩
theorem yQ2{e h i:Nat}(w:Nat):xWb sets e h (i+1) (i ||| h) w↔xWb sets e h i (i ||| h) w\/∃v,zQu sets e i v/\w=v ||| 2^e:=by
 unfold xWb;constructor
 ·rintro(h1|⟨v,x,h1,h2,h3,h4⟩)
  ·exact .inl (.inl h1)
  ·by_cases hxi:x=i
   ·subst hxi;exact .inr ⟨v,h2,h4⟩
   ·exact .inl (.inr ⟨v,x,by omega,h2,h3,h4⟩)
 ·rintro((h1|⟨v,x,h1,h2,h3,h4⟩)|⟨v,h2,h4⟩)
  ·exact .inl h1
  ·exact .inr ⟨v,x,by omega,h2,h3,h4⟩
  ·exact .inr ⟨v,i,by omega,h2,rfl,h4⟩
theorem yKd{e h z:Nat}(hh:yZz sets e h)(w:Nat):xWb sets e h (2^sets.length) z w↔zQu sets (e+1) z w:=by
 unfold xWb zQu;constructor
 ·rintro(⟨h1,h2⟩|⟨v,x,h1,⟨h2,h3⟩,rfl,rfl⟩)
  ·exact⟨Nat.lt_of_lt_of_le h1 (Nat.pow_le_pow_right (by decide) (by omega)),h2⟩
  ·exact⟨xWa h2,h3.or hh⟩
 ·rintro⟨h1,h2⟩;rcases vQv h1 with h3|⟨v,h3,rfl⟩
  ·exact .inl ⟨h3,h2⟩
  ·right;have hx:∃x,HCov sets v x:=by
    have key:∀(ss:List (List Int)),∃x,HCov ss v x:=by
     intro ss
     induction ss with
     |nil=>exact⟨0,fun i=>by simp⟩
     |cons s ss ih=>
      obtain⟨x,hx⟩:=ih
      by_cases hs:yYn s v
      ·refine⟨2*x+1,fun i=>?_⟩
       cases i with
       |zero=>simp[hs]
       |succ i=>rw[Nat.testBit_succ,show(2*x+1)/2=x by omega,List.getElem?_cons_succ];exact hx i
      ·refine⟨2*x,fun i=>?_⟩
       cases i with
       |zero=>simp[hs]
       |succ i=>rw[Nat.testBit_succ,show(2*x)/2=x by omega,List.getElem?_cons_succ];exact hx i
    exact key sets
   obtain⟨x,hx⟩:=hx;exact⟨v,x,hx.lt,⟨h3,hx⟩,(hx.or hh).uniq h2,rfl⟩
theorem yQ3{e i:Nat}{c c0:Int}{w:Nat}(hc:cs[e]? = some c)(h:Least (xXb cs) (zQu sets e i) c0 w):Least (xXb cs) (fun u=>∃v,zQu sets e i v/\u=v ||| 2^e) (c0+c) (w ||| 2^e):=by
 refine⟨⟨w,h.is,rfl⟩,by rw[zQt h.is.1 hc,<- h.eq],?_⟩;rintro u ⟨v,hv,rfl⟩;have h1:=h.least v hv;rw[zQt h.is.1 hc,zQt hv.1 hc,vXm h.is.1,vXm hv.1];omega
theorem xKe{e h i z:Nat}{c c0 cz:Int}{w wz:Nat}(hc:cs[e]? = some c)(hT:Cho (xXb cs) (zQu sets e i) c0 w)(hM:Cho (xXb cs) (xWb sets e h i z) cz wz)(hlt:c0≠1000000000->c0+c<1000000000) :
  (z≠i ||| h\/¬(c0≠1000000000\/w≠0)->Cho (xXb cs) (xWb sets e h (i+1) z) cz wz) /\
  (z=i ||| h->c0≠1000000000->Cho (xXb cs) (xWb sets e h (i+1) z) (if c0+c<cz\/(c0+c=cz/\w ||| 2^e<wz) then c0+c else cz) (if c0+c<cz\/(c0+c=cz/\w ||| 2^e<wz) then w ||| 2^e else wz)):=by
 constructor
 ·intro hz
  by_cases h1:i ||| h=z
  ·rcases hz with hz|hz
   ·exact absurd h1.symm hz
   ·rcases hT with hT|⟨_,_,hn⟩
    ·exfalso;have he:=hT.eq;have:c0=1000000000:=vXe fun hx=>hz (.inl hx)
     exact hz (.inr (fun hw=>by
      subst hw;have h0:=zZt cs;omega))
    ·exact hM.congr (fun v=>(yQ1 hn v).symm)
  ·exact hM.congr (fun v=>(vKs h1 v).symm)
 ·intro hz h0;subst hz;rcases hT with hT|⟨e1,_,_⟩
  ·exact(hM.min (yQ3 hc hT) (hlt h0)).congr (fun v=>(yQ2 v).symm)
  ·exact absurd e1 h0
end
end
