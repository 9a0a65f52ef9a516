/-
  Lemmas.
-/
import Derived.Test.YtjjjeohejhmpoaaGreatX19
import Derived.Test.YtjjjeohejhmpoaaGreatX23
set_option linter.unusedVariables false
set_option linter.unusedSimpArgs false
set_option maxRecDepth 100000
set_option maxHeartbeats 4000000
namespace Go.Proofs.YtjjjeohejhmpoaaGreat
open Go.RowKit Go.Proofs.Tryz
theorem yZ0{q:Int}(h:Reach [] xJ1.ops (xZe xJ1.ops 0) q):False:=by
 induction h with
 |init h=>simp at h
 | @step p i o ho hu hq hp ih=>
  match i with
  |0=>cases ho;simp[xZe,xJ1] at hu
  |1=>cases ho;exact ih 0 (by simp)
  |i+2=>simp[xJ1] at ho
theorem yZ1{q:Int}(h:Reach [] xJ1.ops (xZe xJ1.ops 1) q):q=0:=by
 induction h with
 |init h=>simp at h
 | @step p i o ho hu hq hp ih=>
  match i with
  |0=>cases ho;simpa using hp
  |1=>cases ho;simp[xZe,xJ1] at hu
  |i+2=>simp[xJ1] at ho
theorem vYv:Reach [] xJ1.ops (xZe xJ1.ops 1) 0:=.step (i:=0) (o:=⟨[],[0],[],2⟩) rfl (by simp[xZe,xJ1]) (by simp) (by simp)
theorem vYw:xXd 2 xJ1=[0,1]:=by
 refine SetP.ext vWo (SetP.of_pairwise (n:=2) (by simp) (by simp)) fun x=>?_
 rw[xKm];constructor
 ·rintro⟨h0,h1,_⟩;have:x=0\/x=1:=by omega
  simpa using this
 ·intro h;have hx:x=0\/x=1:=by simpa using h
  rcases hx with rfl|rfl
  ·exact⟨by decide,by decide,.inr fun h=>yZ0 (h 1 (by simp[xJ1]))⟩
  ·exact⟨by decide,by decide,.inr fun h=>by have:=yZ1 (h 1 (by simp[xJ1]));omega⟩
theorem yZ2:xW8 xJ1 1=[1]:=by
 have h0:¬yYm xJ1 1 0:=fun⟨o,h1,_,h3,_⟩=>by cases h1;simp at h3
 have h1:yYm xJ1 1 1:=⟨_,rfl,by simp[xJ1],by simp,fun q hq=>by simp at hq;subst hq;exact vYv⟩;show xK2 xJ1 1 (1+1)=[1];rw[<- zX4 h1,show(1:Nat)=0+1 from rfl,xKd h0];rfl
theorem vYx:xW8 xJ1 0=[0]:=by
 have h0:yYm xJ1 0 0:=⟨_,rfl,by simp[xJ1],by simp,fun q hq=>by simp at hq⟩;have h1:¬yYm xJ1 0 1:=fun⟨o,h1,_,h3,_⟩=>by cases h1;simp at h3
 show xK2 xJ1 0 (1+1)=[0];rw[xKd h1,show(1:Nat)=0+1 from rfl,<- zX4 h0];rfl
theorem vQ9:lpC 2 xJ1=⟨[[0,-1],[-1,0],[0,-1]],[-1,-1,-1],[-2,-3]⟩:=by
 have hL:xW4 2 xJ1 (xXd 2 xJ1).length=[0,1]:=by
  unfold xW4;rw[vYw];decide
 have h0:xQr xJ1 0=[-1,0]:=by
  unfold xQr;rw[vYx];decide
 have h1:xQr xJ1 1=[0,-1]:=by
  unfold xQr;rw[yZ2];decide
 have hg:xX2 xJ1.ops 1=[0,-1]:=by decide
 have hb:xXx xJ1.init 1 = -1:=by decide
 have hr:xJn 2 xJ1=[[0,-1],[-1,0],[0,-1]]:=by
  unfold xJn;rw[hL];show [xX2 xJ1.ops 1] ++ [xQr xJ1 0,xQr xJ1 1]=_;rw[h0,h1,hg];rfl
 have hb2:xJw 2 xJ1=[-1,-1,-1]:=by
  unfold xJw;rw[hL];show [xXx xJ1.init 1] ++ [-1,-1]=_;rw[hb];rfl
 unfold lpC;rw[hr,hb2];rfl
theorem vQa:LA.IsPt (LpV.lp ⟨[[0,-1],[-1,0],[0,-1]],[-1,-1,-1],[-2,-3]⟩) (fun _=>1) 1:=by
 refine⟨fun k hk=>?_,fun j _=>(by show(0:Int)<=1;decide)⟩;have hk':k<3:=hk
 match k,hk' with
 |0,_=>decide
 |1,_=>decide
 |2,_=>decide
theorem vQb:LA.IsDu (LpV.lp ⟨[[0,-1],[-1,0],[0,-1]],[-1,-1,-1],[-2,-3]⟩) (fun k=>(([0,2,3]:List Int)[k]?).getD 0) 1:=by
 refine⟨fun j hj=>?_,fun k hk=>?_⟩
 ·have hj':j<2:=hj
  match j,hj' with
  |0,_=>decide
  |1,_=>decide
 ·have hk':k<3:=hk
  match k,hk' with
  |0,_=>decide
  |1,_=>decide
  |2,_=>decide
theorem yZ3{st num den dx dy dr:Int}{x y r:List Int}(h:SolOut (lpC 2 xJ1).lp st num den x dx y dy r dr):st=1:=by
 rw[vQ9] at h;rcases h with⟨h,_⟩|⟨_,_,_,_,_,_,_,_,h⟩|⟨_,_,_,_,_,_,_,_,h⟩
 ·exact h
 ·exact(LA.no_point (by decide) vQa h).elim
 ·exact(LA.no_ray (by decide) h vQb).elim
theorem vXf{num den dx dy:Int}{x y:List Int}(h:SolOpt (lpC 2 xJ1).lp num den x dx y dy):num = -5/\den=1:=by
 rw[vQ9] at h;have hp:=vQa;have hd:=vQb;have w1:=LA.weak h.px hd;have w2:=LA.weak hp h.py;have e1:LA.valD (LpV.lp ⟨[[0,-1],[-1,0],[0,-1]],[-1,-1,-1],[-2,-3]⟩) (fun k=>(([0,2,3]:List Int)[k]?).getD 0) = -5:=by decide
 have e2:LA.valP (LpV.lp ⟨[[0,-1],[-1,0],[0,-1]],[-1,-1,-1],[-2,-3]⟩) (fun _=>1) = -5:=by decide
 rw[e1] at w1;rw[e2] at w2;have hdx:=h.xok.pos;have hdy:=h.yok.pos;have hden:=h.dpos;have vx:=h.vx;have vy:=h.vy;generalize LA.valP _ _=P1 at w1 vx;generalize LA.valD _ _=D1 at w2 vy;have k1:num*dx<=(-5*den)*dx:=by
  rw[<- vx];have:=Int.mul_le_mul_of_nonneg_right w1 (Int.le_of_lt hden)
  calc P1*den=P1*1*den:=by rw[Int.mul_one]
   _<=-5*dx*den:=this
   _ = -5*den*dx:=by rw[Int.mul_assoc,Int.mul_comm dx den,<- Int.mul_assoc]
 have k2:(-5*den)*dy<=num*dy:=by
  rw[<- vy];have:=Int.mul_le_mul_of_nonneg_right w2 (Int.le_of_lt hden)
  calc -5*den*dy = -5*dy*den:=by rw[Int.mul_assoc,Int.mul_comm den dy,<- Int.mul_assoc]
   _<=D1*1*den:=this
   _=D1*den:=by rw[Int.mul_one]
 have k3:=Int.le_of_mul_le_mul_right k1 hdx;have k4:=Int.le_of_mul_le_mul_right k2 hdy;have hn:num = -5*den:=by omega
 have hg:=h.cop;rw[hn] at hg;have hg2:Int.gcd (-5*den) den=den.natAbs:=by
  rw[Int.gcd_comm];exact Int.gcd_eq_natAbs_left (Int.dvd_mul_left ..)
 rw[hg2] at hg;omega
