/-
  Lemmas.
-/
import Derived.Test.YtjjjeohejhmpoaaGreatX6
set_option linter.unusedVariables false
set_option linter.unusedSimpArgs false
set_option maxRecDepth 100000
set_option maxHeartbeats 4000000
namespace Go.Proofs.YtjjjeohejhmpoaaGreat
open Go.RowKit Go.Proofs.Tryz
def atL(x:List Int)(j:Nat):Int:=(x[j]?).getD 0
theorem vJc{n j:Nat}(f:Nat->Int)(h:j<n):atL (xJd n f) j=f j:=by unfold atL;rw[xKc f h];rfl
structure VOk(n:Nat)(x:List Int)(d:Int):Prop where
 len:x.length=n
 pos:0<d
 dle:d<=100000000
 le:∀a∈x,-100000000<=a/\a<=100000000
 one:xQ2 d x=1
theorem vWd{a g B:Int}(hg:0<g)(hd:g∣a)(h : -B<=a/\a<=B) : -B<=a.tdiv g/\a.tdiv g<=B:=xQw hg (xX1 hd) h
theorem yQh{d:Int}{x:List Int}(hd0:0<d)(hd1:d<=100000000)(hx:∀a∈x,-100000000<=a/\a<=100000000):VOk x.length (xQv d x) (d.tdiv (xQ2 d x)):=by
 have hg:=xZo (xs:=x) hd0;refine⟨xZq _ _,yVj hd0,(vWd hg (xZp x d).1 ⟨by omega,hd1⟩).2,fun a ha=>?_,yVi hd0⟩;unfold xQv at ha;obtain⟨b,hb,rfl⟩:=vWz.1 ha;exact vWd hg ((xZp x d).2 b hb) (hx b hb)
theorem zV5(d:Int)(x:List Int)(j:Nat):xQ2 d x*atL (xQv d x) j=atL x j:=by
 unfold atL;rcases vVq j x.length with h|h
 ·obtain⟨y,h1,h2⟩:=yJf (d:=d) (lGe h);rw[h1,lGe h];exact h2
 ·rw[vXn h,vXn (by rw[xZq];exact h)];simp
theorem zJk(d:Int)(x:List Int):xQ2 d x*d.tdiv (xQ2 d x)=d:=xX1 (xZp x d).1
section
variable {P:LA.LP}{g:Int}{x x':Nat->Int}{d d':Int}
theorem xV7{a b:Int}(hg:0<g)(h:g*a<=g*b):a<=b:=Int.le_of_mul_le_mul_left h hg
theorem zXb{a b:Int}(hg:0<g)(h:g*a<g*b):a<b:=Int.lt_of_mul_lt_mul_left h (Int.le_of_lt hg)
theorem xZz{n:Nat}(A:Nat->Int)(h:∀j,j<n->x j=g*x' j):LA.sumN n (fun j=>A j*x j)=g*LA.sumN n fun j=>A j*x' j:=by
 rw[<- LA.sumN_mul];exact LA.sumN_congr fun j hj=>by rw[h j hj];grind
theorem xKl{a:Int}(hg:0<g)(h:0<=g*a):0<=a:=xV7 hg (by rw[Int.mul_zero];exact h)
theorem yQi(hg:0<g)(hx:∀j,j<P.n->x j=g*x' j)(hd:d=g*d')(h:LA.IsPt P x d):LA.IsPt P x' d':=
 ⟨fun k hk=>xV7 hg (by
  have h1:=h.1 k hk;rw[xZz _ hx,hd] at h1;have:g*(P.b k*d')=P.b k*(g*d'):=by grind
  omega),fun j hj=>xKl hg (by rw[<- hx j hj];exact h.2 j hj)⟩
theorem yQj(hg:0<g)(hx:∀j,j<P.m->x j=g*x' j)(hd:d=g*d')(h:LA.IsDu P x d):LA.IsDu P x' d':=
 ⟨fun k hk=>xV7 hg (by
  have h1:=h.1 k hk;rw[xZz _ hx,hd] at h1;have:g*(P.c k*d')=P.c k*(g*d'):=by grind
  omega),fun j hj=>xKl hg (by rw[<- hx j hj];exact h.2 j hj)⟩
theorem vWe(hg:0<g)(hx:∀j,j<P.m->x j=g*x' j)(h:LA.IsRef P x):LA.IsRef P x':=
 ⟨fun k hk=>xKl hg (by rw[<- xZz _ hx];exact h.1 k hk),fun j hj=>xKl hg (by rw[<- hx j hj];exact h.2.1 j hj),zXb hg (by rw[<- xZz _ hx,Int.mul_zero];exact h.2.2)⟩
theorem vWf(hg:0<g)(hx:∀j,j<P.n->x j=g*x' j)(h:LA.IsRay P x):LA.IsRay P x':=
 ⟨fun k hk=>xV7 hg (by rw[<- xZz _ hx,Int.mul_zero];exact h.1 k hk),fun j hj=>xKl hg (by rw[<- hx j hj];exact h.2.1 j hj),zXb hg (by rw[<- xZz _ hx,Int.mul_zero];exact h.2.2)⟩
end
structure SolOpt(P:LA.LP)(num den:Int)(x:List Int)(dx:Int)(y:List Int)(dy:Int):Prop where
 dpos:0<den
 cop:Int.gcd num den=1
 nle : -707788800<=num/\num<=707788800
 dle:den<=1179648
 xok:VOk P.n x dx
 yok:VOk P.m y dy
 px:LA.IsPt P (atL x) dx
 py:LA.IsDu P (atL y) dy
 vx:LA.valP P (atL x)*den=num*dx
 vy:LA.valD P (atL y)*den=num*dy
def SolOut(P:LA.LP)(st num den:Int)(x:List Int)(dx:Int)(y:List Int)(dy:Int)(r:List Int)(dr:Int):Prop:=
 (st=1/\SolOpt P num den x dx y dy/\r=[]/\dr=0) \/
 (st=2/\num=0/\den=0/\x=[]/\dx=0/\r=[]/\dr=0/\VOk P.m y dy/\LA.IsRef P (atL y)) \/
 (st=3/\num=0/\den=0/\y=[]/\dy=0/\VOk P.n x dx/\VOk P.n r dr/\LA.IsPt P (atL x) dx/\LA.IsRay P (atL r))
theorem SolOut.out{P:LA.LP}{st num den dx dy dr:Int}{x y r:List Int}(h:SolOut P st num den x dx y dy r dr):LA.Outcome P st num den:=by
 rcases h with⟨h1,h2,_⟩|⟨h1,h2,h3,_,_,_,_,h4,h5⟩|⟨h1,h2,h3,_,_,h4,h5,h6,h7⟩
 ·exact .inl ⟨h1,h2.dpos,⟨_,dx,h2.xok.pos,h2.px,h2.vx⟩,_,dy,h2.yok.pos,h2.py,h2.vy⟩
 ·exact .inr (.inl ⟨h1,h2,h3,_,h5⟩)
 ·exact .inr (.inr ⟨h1,h2,h3,⟨_,dx,h4.pos,h6⟩,_,h7⟩)
section
variable {P:LA.LP}{s:LA.St}
theorem yYt(hP:LA.LPIn P)(h:LA.Ok P s){col:Nat}{B:Int}(hB:0<=B)(hc:∀i,i<P.m->-B<=s.T i col/\s.T i col<=B)(j:Nat) : -B<=LA.ptV P s col j/\LA.ptV P s col j<=B:=by
 by_cases e:∃i,i<P.m/\s.bs i=j
 ·obtain⟨i,hi,rfl⟩:=e;rw[LA.pt_at h.toTabl col hi];exact hc i hi
 ·rw[LA.pt_out col fun i hi e2=>e ⟨i,hi,e2⟩];omega
def zJl(P:LA.LP)(s:LA.St):List Int:=xJd P.n fun j=>1*xWp s.bs s.T (P.n+P.m+1) P.m j
def zZy(P:LA.LP)(s:LA.St)(o:Nat):List Int:=xJd P.m fun k=>s.T o (P.n+k)
def vK1(P:LA.LP)(s:LA.St)(c:Nat):List Int:=xJd P.n fun j=>if j=c then s.den else -1*xWp s.bs s.T c P.m j
theorem yKi{j:Nat}(hj:j<P.n):atL (zJl P s) j=LA.ptV P s P.last j:=by
 unfold zJl;rw[vJc _ hj,Int.one_mul];rfl
theorem vWg{o k:Nat}(hk:k<P.m):atL (zZy P s o) k=s.T o (P.n+k):=by unfold zZy;rw[vJc _ hk]
theorem yKj{c j:Nat}(hj:j<P.n):atL (vK1 P s c) j=LA.rayV P s c j:=by
 unfold vK1;rw[vJc _ hj];unfold LA.rayV
 split
 ·rfl
 ·rw[Int.neg_mul,Int.one_mul];rfl
theorem zV6{n:Nat}{f:Nat->Int}{a:Int}(h:a∈xJd n f):∃j,j<n/\a=f j:=by
 unfold xJd at h;obtain⟨j,hj,e⟩:=vWz.1 h;exact⟨j,yYq.1 hj,e.symm⟩
theorem vWh(hP:LA.LPIn P)(h:LA.Ok P s):∀a∈zJl P s,-5898240<=a/\a<=5898240:=fun a ha=>by
 obtain⟨j,hj,rfl⟩:=zV6 ha;rw[Int.one_mul];exact yYt hP h (B:=5898240) (by omega) (fun i hi=>h.le_last hP hi) j
theorem vWi(hP:LA.LPIn P)(h:LA.Ok P s){c:Nat}(hc:c<=P.n+P.m):∀a∈vK1 P s c,-1179648<=a/\a<=1179648:=fun a ha=>by
 obtain⟨j,hj,rfl⟩:=zV6 ha;have h1:=yYt hP h (B:=1179648) (by omega) (fun i hi=>h.le_col hP hi hc) j;have h2:=h.le_den hP;have h3:=h.pos
 split
 ·omega
 ·have e:xWp s.bs s.T c P.m j=LA.ptV P s c j:=rfl;rw[e,Int.neg_mul,Int.one_mul];omega
theorem vWj(hP:LA.LPIn P)(h:LA.Ok P s):∀a∈zZy P s P.m,-5898240<=a/\a<=5898240:=fun a ha=>by
 obtain⟨j,hj,rfl⟩:=zV6 ha;exact h.goal_slack hP hj
theorem vWk(hP:LA.LPIn P)(h:LA.Ok P s):∀a∈zZy P s (P.m+1),-294912<=a/\a<=294912:=fun a ha=>by
 obtain⟨j,hj,rfl⟩:=zV6 ha;exact h.art_slack hP hj
theorem zV7{n:Nat}{d B:Int}{f:Nat->Int}(hd0:0<d)(hd1:d<=100000000)(hB:B<=100000000)(hx:∀a∈xJd n f,-B<=a/\a<=B):VOk n (xQv d (xJd n f)) (d.tdiv (xQ2 d (xJd n f))):=by
 have h:=yQh (x:=xJd n f) hd0 hd1 (fun a ha=>by have:=hx a ha;omega);rw[xJj] at h;exact h
theorem yYu(hP:LA.LPIn P)(h:LA.Ok P s)(hno:LA.NoArt P s):VOk P.n (xQv s.den (zJl P s)) (s.den.tdiv (xQ2 s.den (zJl P s)))/\LA.IsPt P (atL (xQv s.den (zJl P s))) (s.den.tdiv (xQ2 s.den (zJl P s)))/\xQ2 s.den (zJl P s)*LA.valP P (atL (xQv s.den (zJl P s)))=LA.valP P (LA.ptV P s P.last):=by
 have hd:=h.le_den hP;have hp:=h.pos;have hg:=xZo (xs:=zJl P s) hp;have hat:∀j,j<P.n->LA.ptV P s P.last j=xQ2 s.den (zJl P s)*atL (xQv s.den (zJl P s)) j:=fun j hj=>by rw[zV5,yKi hj]
 have h1:=LA.point_ok h hno;refine⟨zV7 hp (by omega) (B:=5898240) (by omega) (vWh hP h),yQi hg hat (zJk _ _).symm ⟨h1.2,fun j _=>h1.1 j⟩,?_⟩;unfold LA.valP;rw[xZz _ hat]
theorem yKk(hP:LA.LPIn P)(h:LA.Ok P s)(hno:LA.NoArt P s){c:Nat}(hc:c<P.n+P.m)(hneg:s.T P.m c<0)(hle:∀i,i<P.m->s.T i c<=0) :
  SolOut P 3 0 0 (xQv s.den (zJl P s)) (s.den.tdiv (xQ2 s.den (zJl P s))) [] 0 (xQv s.den (vK1 P s c)) (s.den.tdiv (xQ2 s.den (vK1 P s c))):=by
 have hd:=h.le_den hP;have hp:=h.pos;have hg:=xZo (xs:=vK1 P s c) hp;have h1:=LA.ray_ok h hno hc hneg hle;have h2:=yYu hP h hno;have hat:∀j,j<P.n->LA.rayV P s c j=xQ2 s.den (vK1 P s c)*atL (xQv s.den (vK1 P s c)) j:=fun j hj=>by rw[zV5,yKj hj]
 exact .inr (.inr ⟨rfl,rfl,rfl,rfl,rfl,h2.1,zV7 hp (by omega) (B:=1179648) (by omega) (vWi hP h (by omega)),h2.2.1,vWf hg hat ⟨h1.2.1,fun j _=>h1.1 j,h1.2.2⟩⟩)
theorem yQk(hP:LA.LPIn P)(h:LA.Ok P s)(hopt:∀j,j<P.n+P.m+1->0<=s.T (P.m+1) j)(hneg:s.T (P.m+1) P.last<0) :
  SolOut P 2 0 0 [] 0 (xQv s.den (zZy P s (P.m+1))) (s.den.tdiv (xQ2 s.den (zZy P s (P.m+1)))) [] 0:=by
 have hd:=h.le_den hP;have hp:=h.pos;have hg:=xZo (xs:=zZy P s (P.m+1)) hp;have h1:=LA.refuted_ok h hopt hneg;have hat:∀k,k<P.m->s.T (P.m+1) (P.n+k)=xQ2 s.den (zZy P s (P.m+1))*atL (xQv s.den (zZy P s (P.m+1))) k:=fun k hk=>by rw[zV5,vWg hk]
 refine .inr (.inl ⟨rfl,rfl,rfl,rfl,rfl,rfl,rfl,zV7 hp (by omega) (B:=294912) (by omega) (vWk hP h),vWe (x:=fun k=>s.T (P.m+1) (P.n+k)) hg hat ⟨h1.2.1,h1.1,h1.2.2⟩⟩)
theorem yKl{n d B:Int}(hd:0<d)(h : -B<=n/\n<=B) : -B<=qn n d/\qn n d<=B:=by
 have e:qs n d=n:=by unfold qs;rw[if_neg (by omega)]
 have h1:=vZi n d;rw[e,Int.mul_comm] at h1;exact xQw (by have:=xVc (n:=n) (d:=d) (by omega);omega) h1 h
theorem uJh{n d B:Int}(hd:0<d)(h:d<=B):qd n d<=B:=by
 have e:qs d d=d:=by unfold qs;rw[if_neg (by omega)]
 have h1:=zKp n d;rw[e,Int.mul_comm] at h1;exact(xQw (B:=B) (by have:=xVc (n:=n) (d:=d) (by omega);omega) h1 ⟨by omega,h⟩).2
theorem yKm{n d:Int}(hd:0<d)(h1:d<=1000000000)(h : -1000000000<=n/\n<=1000000000):vZh n d:=⟨(yKl hd h).1,(yKl hd h).2,uJh hd h1⟩
theorem yKn(hP:LA.LPIn P)(h:LA.Ok P s)(hno:LA.NoArt P s)(hopt:∀j,j<P.n+P.m->0<=s.T P.m j) :
  rc (s.T P.m P.last) s.den=0/\ri (s.T P.m P.last) s.den=0/\SolOut P 1 (rn (s.T P.m P.last) s.den) (rd (s.T P.m P.last) s.den) (xQv s.den (zJl P s)) (s.den.tdiv (xQ2 s.den (zJl P s))) (xQv s.den (zZy P s P.m)) (s.den.tdiv (xQ2 s.den (zZy P s P.m))) [] 0:=by
 have hd:=h.le_den hP;have hp:=h.pos;have hg:=xZo (xs:=zJl P s) hp;have hg2:=xZo (xs:=zZy P s P.m) hp;have hgl:=h.goal_last hP;obtain⟨o1,o2,o3,o4⟩:=LA.optimal_ok h hno hopt;obtain⟨p1,p2,p3⟩:=yYu hP h hno;have hfit:=yKm (n:=s.T P.m P.last) hp (by omega) (by omega);have hat:∀k,k<P.m->s.T P.m (P.n+k)=xQ2 s.den (zZy P s P.m)*atL (xQv s.den (zZy P s P.m)) k:=fun k hk=>by rw[zV5,vWg hk]
 have hq:=q_mul (n:=s.T P.m P.last) (d:=s.den) (by omega);have hqd:=zKq (n:=s.T P.m P.last) (d:=s.den) (by omega);have ev:LA.valP P (LA.ptV P s P.last)=s.T P.m P.last:=o3;have key:∀ {g v d':Int},0<g->g*v=s.T P.m P.last->g*d'=s.den->v*qd (s.T P.m P.last) s.den=qn (s.T P.m P.last) s.den*d':=fun {g v d'} hg h1 h2=>by
  rw[<- h1,<- h2] at hq ⊢;refine Int.eq_of_mul_eq_mul_left (show g≠0 by omega) ?_
  grind
 refine⟨by unfold rc;rw[if_pos hfit],by unfold ri;rw[if_pos hfit],.inl ⟨rfl,?_,rfl,rfl⟩⟩;have er:rn (s.T P.m P.last) s.den=qn (s.T P.m P.last) s.den:=by unfold rn;rw[if_pos hfit]
 have ed:rd (s.T P.m P.last) s.den=qd (s.T P.m P.last) s.den:=by unfold rd;rw[if_pos hfit]
 rw[er,ed];refine⟨by omega,uJu (by omega),yKl hp hgl,uJh hp hd,p1,zV7 hp (by omega) (B:=5898240) (by omega) (vWj hP h),p2,yQj (x:=fun k=>s.T P.m (P.n+k)) hg2 hat (zJk _ _).symm ⟨o2,o1⟩,key hg (by rw[p3,ev]) (zJk _ _),key hg2 ?_ (zJk _ _)⟩;rw[<- o4];unfold LA.valD;rw[xZz _ hat]
end
theorem yQl(N n m:Nat)(f:Nat->Int)(h:n+m<=N):((xJd N f).drop n).take m=xJd m fun k=>f (n+k):=by
 apply List.ext_getElem?;intro i;rw[List.getElem?_take]
 split
 ·next hi=>rw[List.getElem?_drop,xKc f (by omega),xKc _ hi]
 ·next hi=>rw[vXn (by rw[xJj];omega)]
theorem Ints.take{w:World}{A:Option Addr}{xs:List Int}(h:Ints w A xs)(k:Nat):Ints w A (xs.take k):=fun j u hu=>by
 rw[List.map_take,List.getElem?_take] at hu
 split at hu
 ·exact h j u hu
 ·cases hu
theorem vZ1(g N n m:Nat)(hN:n+m<N)(hN2:N<=1000):∃A':Option Addr,(∀(w:World) (f:Nat->Int),IArr w g (xJd N f)->Ints w A' (xJd m fun k=>f (n+k))) /\
  ∀(i j:Int),i=(n:Int)->j=(n:Int)+(m:Int)->∀(w:World),(Instr.slice 22 (.slice (some ⟨g,0,none⟩) N N) (some (.int .i64 i)) (some (.int .i64 j)) none).run prog w=.ok (.slice A' m (N-n)) w:=by
 refine⟨(some (⟨g,0,none⟩:Addr)).map (·.add n),fun w f h=>?_,?_⟩
 ·rw[<- yQl N n m f (by omega)];exact(Ints.drop h.ints n).take m
 ·rintro i j rfl rfl w;have h0:(0:Int)<=n:=by omega
  have h1:(n:Int)<=(n:Int)+m:=by omega
  have h2:(0:Int)<=(n:Int)+m:=by omega
  have h3:(n:Int)+(m:Int)<=N:=by omega
  have h4:¬N=n:=by omega
  have h5:((n:Int)+(m:Int)).toNat=n+m:=by omega
  simp[go_sem,underlying22,h0,h1,h3,h4,h5]
  try omega
def zZc(T X:Nat->Nat->Int)(r i j:Nat):Nat->Nat->Int:=fun a b=>if a≠r/\(a<i\/(a=i/\b<j)) then X a b else T a b
theorem vVn(T X:Nat->Nat->Int)(r a b:Nat):zZc T X r 0 0 a b=T a b:=by unfold zZc;rw[if_neg (by omega)]
theorem vWt(T X:Nat->Nat->Int)(r a b:Nat):zZc T X r (r+1) 0 a b=zZc T X r r 0 a b:=by
 unfold zZc
 by_cases e:a≠r/\(a<r\/a=r/\b<0)
 ·rw[if_pos e,if_pos (by omega)]
 ·rw[if_neg e,if_neg (by omega)]
theorem vWu(T X:Nat->Nat->Int){r i j a b:Nat}(h:i≠r):zZc T X r i (j+1) a b=if a=i/\b=j then X i j else zZc T X r i j a b:=by
 unfold zZc
 by_cases e:a=i/\b=j
 ·obtain⟨rfl,rfl⟩:=e;rw[if_pos (by omega),if_pos ⟨rfl,rfl⟩]
 ·rw[if_neg e]
  by_cases e2:a≠r/\(a<i\/a=i/\b<j)
  ·rw[if_pos e2,if_pos (by omega)]
  ·rw[if_neg e2,if_neg (by omega)]
theorem yQw(T X:Nat->Nat->Int){r i N a b:Nat}(h:b<N):zZc T X r (i+1) 0 a b=zZc T X r i N a b:=by
 unfold zZc
 by_cases e:a≠r/\(a<i\/a=i/\b<N)
 ·rw[if_pos e,if_pos (by omega)]
 ·rw[if_neg e,if_neg (by omega)]
theorem yQx{T X:Nat->Nat->Int}{r M a b:Nat}(h:a<M)(hr:∀j,X r j=T r j):zZc T X r M 0 a b=X a b:=by
 unfold zZc
 by_cases e:a=r
 ·subst e;rw[if_neg (by omega)];exact(hr b).symm
 ·rw[if_pos (by omega)]
theorem yKt(T X:Nat->Nat->Int)(r i j:Nat):zZc T X r i j i j=T i j:=by unfold zZc;rw[if_neg (by omega)]
theorem uJl(T X:Nat->Nat->Int)(r i j b:Nat):zZc T X r i j r b=T r b:=by unfold zZc;rw[if_neg (by omega)]
theorem vWv(T X:Nat->Nat->Int)(r i b:Nat):zZc T X r i 0 i b=T i b:=by unfold zZc;rw[if_neg (by omega)]
def vJj(X:Nat->Nat->Int)(i j:Nat):Nat->Nat->Int:=fun a b=>if a<i\/(a=i/\b<j) then-X a b else X a b
theorem vVo(X:Nat->Nat->Int)(a b:Nat):vJj X 0 0 a b=X a b:=by unfold vJj;rw[if_neg (by omega)]
theorem yKu(X:Nat->Nat->Int)(i j:Nat):vJj X i j i j=X i j:=by unfold vJj;rw[if_neg (by omega)]
theorem vWw(X:Nat->Nat->Int){i j a b:Nat}:vJj X i (j+1) a b=if a=i/\b=j then-X i j else vJj X i j a b:=by
 unfold vJj
 by_cases e:a=i/\b=j
 ·obtain⟨rfl,rfl⟩:=e;rw[if_pos (by omega),if_pos ⟨rfl,rfl⟩]
 ·rw[if_neg e]
  by_cases e2:a<i\/a=i/\b<j
  ·rw[if_pos e2,if_pos (by omega)]
  ·rw[if_neg e2,if_neg (by omega)]
theorem yQy(X:Nat->Nat->Int){i N a b:Nat}(h:b<N):vJj X (i+1) 0 a b=vJj X i N a b:=by
 unfold vJj
 by_cases e:a<i\/a=i/\b<N
 ·rw[if_pos e,if_pos (by omega)]
 ·rw[if_neg e,if_neg (by omega)]
theorem yQz(X:Nat->Nat->Int){M a b:Nat}(h:a<M):vJj X M 0 a b = - X a b:=by unfold vJj;rw[if_pos (by omega)]
theorem yV0(w:World)(base:Nat)(L:TbLay)(m N:Nat)(bs:Nat->Nat)(T X:Nat->Nat->Int)(den p:Int)(r c:Nat)(hM:TbMem base w L m N bs T den)(hb:base<=w.heap.size)(hr:r<m)(hc:c<N)(hp:T r c=p)(hX:∀i j,i<m+2->j<N->i≠r->(T i j*p-T i c*T r j).tdiv den=X i j)(hXr:∀j,X r j=T r j)(hd0:0<den)(hd1:den<=1000000000)(hTB:∀i j,i<m+2->j<N->-1000000000<=T i j/\T i j<=1000000000)(hXB:∀i j,i<m+2->j<N->-1000000000<=X i j/\X i j<=1000000000)(hm6:m<=6)(hN:N<=100) :
  Calls prog 158 #[.pointer (some ⟨L.b,0,none⟩),.int .i64 r,.int .i64 c] w fun e w'=>e=.returned (.tuple #[])/\TbMem base w' L m N (LA.pivB bs r c) (fun i j=>if p<0 then-X i j else X i j) (if p<0 then -p else p)/\Below base w w':=by
 have HX:=lHd hX;have HXR:=lHd hXr;have HTB:=lHd hTB;have HXB:=lHd hXB;have hcr:=(hM.cell (i:=r) (j:=c) (by omega) hc).1;rw[hp] at hcr;have HP:=lHd hp;have hpb : -1000000000<=p/\p<=1000000000:=by rw[<- hp];exact hTB r c (by omega) hc
 obtain⟨hpb1,hpb2⟩:=hpb;have hr2:r<m+2:=by omega
 have hr3:(r:Int)<(m:Int)+2:=by omega
 have hx0:=hM.box0;have hxr:=hM.out r (by omega);have hsb:=hM.sepB;obtain⟨hsb1,hsb2,hsb3,hsb4⟩:=hsb;clear hX hXr hTB hXB hp;go_enter func158,ntmps158
 go_wp2_with fail
 go_loopw [29] (fun x wr=>∃i:Nat,i<=m+2/\x=.int .i64 i/\TbMem base wr L m N bs (zZc T X r i 0) den/\Below base w wr) (fun x _=>m+2-(intOf x).toNat)
 case atStart=>exact⟨0,zKk _,rfl,(hM.below bch).congr (fun _ _=>rfl) (fun a _ c _=>vVn T X r a c),bch⟩
 case round=>
  obtain⟨i,hi,rfl,hM1,hB1⟩:=hrel;obtain⟨w1,rfl⟩:∃wo:World,wo=wr:=⟨_,rfl⟩
  by_cases hlt:i<m+2
  ·have ho:=hM1.out i hlt
   by_cases hir:i=r
   ·subst hir;go_wp2
    go_roundw
    case rel=>exact⟨i+1,by omega,by go_num,(hM1.below bch).congr (fun _ _=>rfl) (fun a _ c _=>vWt T X i a c),hB1⟩
    case measure=>simp[intOf];omega
   ·have hir':¬((i:Int)=(r:Int)):=by omega
    have hrc:=(hM1.cell (i:=i) (j:=c) hlt hc).1;have e1:=vWv T X r i c;rw[e1] at hrc;obtain⟨q,hq⟩:∃q,Hid (T i c=q):=⟨_,lHd rfl⟩;have hqb:=HTB.out i c hlt hc;rw[hq.out] at hrc hqb;obtain⟨hqb1,hqb2⟩:=hqb;clear e1
    go_wp2_with fail
    (try simp only[show decide ((i:Int)<(m:Int)+2)=true from zWo (by omega),show((i:Int)==(r:Int))=false from beq_eq_false_iff_ne.2 (by omega)])
    go_loopw [43] (fun x wr=>∃j:Nat,j<=N/\x=.int .i64 j/\TbMem base wr L m N bs (zZc T X r i j) den/\Below base w wr) (fun x _=>N-(intOf x).toNat)
    case atStart=>exact⟨0,zKk _,rfl,hM1.below bch,hB1⟩
    case round=>
     obtain⟨j,hj,rfl,hM2,hB2⟩:=hrel;obtain⟨w2,rfl⟩:∃wo:World,wo=wr:=⟨_,rfl⟩
     by_cases hlt2:j<N
     ·have hcc:=hM2.cell (i:=i) (j:=j) hlt hlt2;have hcd:=(hM2.cell (i:=r) (j:=j) (by omega) hlt2).1;have e1:=yKt T X r i j;have e2:=uJl T X r i j j;rw[e1] at hcc;rw[e2] at hcd;obtain⟨hcc1,hcc2⟩:=hcc;have hy0:=hM2.box0;have hy2:=hM2.box2;have hyr:=hM2.out r (by omega);have hAB:=HTB.out i j hlt hlt2;have hDB:=HTB.out r j (by omega) hlt2;have hXE:=HX.out i j hlt hlt2 hir;rw[hq.out] at hXE;obtain⟨a,ha⟩:∃a,Hid (T i j=a):=⟨_,lHd rfl⟩;obtain⟨d,hd⟩:∃d,Hid (T r j=d):=⟨_,lHd rfl⟩;obtain⟨x,hx⟩:∃x,Hid (X i j=x):=⟨_,lHd rfl⟩;rw[ha.out] at hcc1 hAB hXE;rw[hd.out] at hcd hDB hXE;rw[hx.out] at hXE;have hm1:=LA.abs_mul hAB ⟨hpb1,hpb2⟩;have hm2:=LA.abs_mul ⟨hqb1,hqb2⟩ hDB;obtain⟨hm3,hm4⟩:=hm1;obtain⟨hm5,hm6'⟩:=hm2;clear e1 e2 hAB hDB;have hblk:=(hM2.sep i hlt).1;have hdne:¬den=0:=by omega
      go_wp2_with fail
      refine xJ5 27 (by kernel_rfl) (by kernel_rfl) ?_;simp only[yJx,List.take_zero,List.drop_succ_cons,List.drop_zero]
      repeat still_step
      refine wpStill_nil ?_;go_wp2
      go_roundw
      case rel=>exact⟨j+1,by omega,by go_num,((hM2.set hlt x (j:=j) (T':=zZc T X r i (j+1)) (fun a' _ c' _=>by rw[vWu T X hir,hx.out])).below bch),bch⟩
      case measure=>simp[intOf];omega
     ·obtain rfl:j=N:=by omega
      go_wp2
      go_roundw
      case rel=>exact⟨i+1,by omega,by go_num,(hM2.below bch).congr (fun _ _=>rfl) (fun a' _ c' hc'=>yQw T X hc'),bch⟩
      case measure=>simp[intOf];omega
  ·obtain rfl:i=m+2:=by omega
   have hM3:TbMem base w1 L m N bs X den:=hM1.congr (fun _ _=>rfl) (fun a' ha' c' hc'=>(yQx ha' HXR.out).symm);obtain⟨g,hA,hg1,hg2,hg3,hg4⟩:=hM3.bas hr;have hz1:=hM3.box1;rw[hA] at hz1;have hz2:=hM3.box2;have hz3:=hM3.free2;have hgb:=hsb4 _ hA;obtain⟨hgb1,hgb2⟩:=hgb;have hgb1:¬g=L.b:=hgb1;have hgb1':¬L.b=g:=fun e=>hgb1 e.symm
   have hM4:=((hM3.setBas hA c (r:=r)).setDen p);have hne0:¬L.gR=L.b:=fun e=>hsb3 e.symm
   by_cases hpn:p<0
   ·have hM5:=hM4.setDen (-p);have HPN:=lHd hpn;have HM5:=lHd hM5;have hf4:=hM5.box0;have hf5:=hM4.free2;clear hM4 hM5
    go_wp2_with fail
    go_loopw [98] (fun x wr=>∃i:Nat,i<=m+2/\x=.int .i64 i/\TbMem base wr L m N (LA.pivB bs r c) (vJj X i 0) (-p)/\Below base w wr) (fun x _=>m+2-(intOf x).toNat)
    case atStart=>exact⟨0,zKk _,rfl,(HM5.out.below bch).congr (fun _ _=>rfl) (fun a _ c _=>vVo X a c),bch⟩
    case round=>
     obtain⟨i,hi,rfl,hN1,hB3⟩:=hrel;obtain⟨w3,rfl⟩:∃wo:World,wo=wr:=⟨_,rfl⟩
     by_cases hlt:i<m+2
     ·have ho:=hN1.out i hlt
      go_wp2_with fail
      (try simp only[show decide ((i:Int)<(m:Int)+2)=true from zWo (by omega)])
      go_loopw [104] (fun x wr=>∃j:Nat,j<=N/\x=.int .i64 j/\TbMem base wr L m N (LA.pivB bs r c) (vJj X i j) (-p)/\Below base w wr) (fun x _=>N-(intOf x).toNat)
      case atStart=>exact⟨0,zKk _,rfl,hN1.below bch,hB3⟩
      case round=>
       obtain⟨j,hj,rfl,hN2,hB4⟩:=hrel;obtain⟨w4,rfl⟩:∃wo:World,wo=wr:=⟨_,rfl⟩
       by_cases hlt2:j<N
       ·have hcc:=hN2.cell (i:=i) (j:=j) hlt hlt2;have hAB:=HXB.out i j hlt hlt2;rw[yKu] at hcc;obtain⟨a,ha⟩:∃a,Hid (X i j=a):=⟨_,lHd rfl⟩;rw[ha.out] at hcc hAB;obtain⟨hcc1,hcc2⟩:=hcc;obtain⟨hAB1,hAB2⟩:=hAB;have hblk:=(hN2.sep i hlt).1;go_wp2
        go_roundw
        case rel=>exact⟨j+1,by omega,by go_num,((hN2.set hlt (-a) (j:=j) (T':=vJj X i (j+1)) (fun a' _ c' _=>by rw[vWw,ha.out])).below bch),bch⟩
        case measure=>simp[intOf];omega
       ·obtain rfl:j=N:=by omega
        go_wp2
        go_roundw
        case rel=>exact⟨i+1,by omega,by go_num,(hN2.below bch).congr (fun _ _=>rfl) (fun a' _ c' hc'=>yQy X hc'),bch⟩
        case measure=>simp[intOf];omega
     ·obtain rfl:i=m+2:=by omega
      go_wp2
      go_end0
      refine⟨rfl,(hN1.below bch).congr (fun _ _=>rfl) (fun a' ha' c' _=>?_),bch⟩;rw[yQz X ha']
   ·have hpn':decide (p<0)=false:=zVa hpn;go_wp2
    go_end0
    exact⟨rfl,hM4,bch⟩
theorem zKf(w:World)(base:Nat)(L:TbLay)(P:LA.LP)(s:LA.St)(hP:LA.LPIn P)(ht:LA.Tabl P s.bs s.T s.den)(hM:TbMem base w L P.m P.N s.bs s.T s.den)(hb:base<=w.heap.size)(r c:Nat)(hr:r<P.m)(hc:c<=P.n+P.m)(hne:s.T r c≠0) :
  Calls prog 158 #[.pointer (some ⟨L.b,0,none⟩),.int .i64 r,.int .i64 c] w fun e w'=>e=.returned (.tuple #[])/\TbMem base w' L P.m P.N (s.piv r c).bs (s.piv r c).T (s.piv r c).den/\Below base w w':=by
 have hcN:c<P.N:=by unfold LA.LP.N;omega
 have ht2:=ht.pivot hr hc hne;have hle:=ht.le_den hP;have hN14:P.N<=100:=by unfold LA.LP.N;have:=hP.m;have:=hP.n;omega
 refine(yV0 w base L P.m P.N s.bs s.T (LA.pivQ s.T s.den r c) s.den (s.T r c) r c hM hb hr hcN rfl (fun i j _ _ hir=>?_) (fun j=>?_) ht.pos (by omega) (fun i j hi hj=>?_) (fun i j hi hj=>?_) hP.m hN14).mono fun e w' h=>⟨h.1,h.2.1.congr (fun _ _=>rfl) (fun _ _ _ _=>rfl),h.2.2⟩
 ·unfold LA.pivQ;rw[if_neg hir]
 ·unfold LA.pivQ;rw[if_pos rfl]
 ·have:=ht.le hP hi hj;omega
 ·have:=ht2.le hP hi hj;unfold LA.pivT at this
  split at this<;>omega
def LvTo(m l:Nat)(bs:Nat->Nat)(T:Nat->Nat->Int)(c i:Nat)(b:Int):Prop:=
 (b = -1/\∀k,k<i->T k c<=0)\/∃r:Nat,b=r/\r<m/\r<i/\0<T r c/\∀k,k<i->0<T k c->T r l*T k c<T k l*T r c\/(T r l*T k c=T k l*T r c/\bs r<=bs k)
section
variable {m l:Nat}{bs:Nat->Nat}{T:Nat->Nat->Int}{c i:Nat}{b:Int}
theorem LvTo.skip(h:LvTo m l bs T c i b)(hi:T i c<=0):LvTo m l bs T c (i+1) b:=by
 rcases h with⟨h1,h2⟩|⟨r,h1,h2,h3,h4,h5⟩
 ·refine .inl ⟨h1,fun k hk=>?_⟩
  by_cases e:k=i
  ·rw[e];exact hi
  ·exact h2 k (by omega)
 ·refine .inr ⟨r,h1,h2,by omega,h4,fun k hk hp=>?_⟩
  by_cases e:k=i
  ·rw[e] at hp;omega
  ·exact h5 k (by omega) hp
theorem LvTo.first(h:LvTo m l bs T c i (-1))(him:i<m)(hi:0<T i c):LvTo m l bs T c (i+1) (i:Int):=by
 rcases h with⟨_,h2⟩|⟨r,h1,_⟩
 ·refine .inr ⟨i,rfl,him,by omega,hi,fun k hk hp=>?_⟩
  by_cases e:k=i
  ·rw[e];exact .inr ⟨rfl,Nat.le_refl _⟩
  ·have:=h2 k (by omega);omega
 ·omega
theorem LvTo.keep{r:Nat}(h:LvTo m l bs T c i (r:Int))(hi:0<T i c)(hn:¬(T i l*T r c<T r l*T i c\/(T i l*T r c=T r l*T i c/\bs i<bs r))):LvTo m l bs T c (i+1) (r:Int):=by
 rcases h with⟨h1,_⟩|⟨q,h1,h2,h3,h4,h5⟩
 ·omega
 ·obtain rfl:r=q:=by omega
  refine .inr ⟨r,rfl,h2,by omega,h4,fun k hk hp=>?_⟩
  by_cases e:k=i
  ·rw[e]
   by_cases e2:T i l*T r c=T r l*T i c
   ·exact .inr ⟨e2.symm,by omega⟩
   ·exact .inl (by omega)
  ·exact h5 k (by omega) hp
theorem LvTo.next{r:Nat}(h:LvTo m l bs T c i (r:Int))(him:i<m)(hi:0<T i c)(hn:T i l*T r c<T r l*T i c\/(T i l*T r c=T r l*T i c/\bs i<bs r)):LvTo m l bs T c (i+1) (i:Int):=by
 rcases h with⟨h1,_⟩|⟨q,h1,h2,h3,h4,h5⟩
 ·omega
 ·obtain rfl:r=q:=by omega
  refine .inr ⟨i,rfl,him,by omega,hi,fun k hk hp=>?_⟩
  by_cases e:k=i
  ·rw[e];exact .inr ⟨rfl,Nat.le_refl _⟩
  ·have h6:=h5 k (by omega) hp;have m1:T i l*T k c*T r c=T i l*T r c*T k c:=by grind
   have m2:T k l*T i c*T r c=T k l*T r c*T i c:=by grind
   have m3:T r l*T i c*T k c=T r l*T k c*T i c:=by grind
   rcases hn with hn|⟨hn,hb⟩
   ·left;have a1:=Int.mul_lt_mul_of_pos_right hn hp;have a2:T r l*T k c*T i c<=T k l*T r c*T i c:=Int.mul_le_mul_of_nonneg_right (by omega) (Int.le_of_lt hi);exact Int.lt_of_mul_lt_mul_right (a:=T r c) (by omega) (Int.le_of_lt h4)
   ·rcases h6 with h6|⟨h6,h7⟩
    ·left;have a2:=Int.mul_lt_mul_of_pos_right h6 hi;exact Int.lt_of_mul_lt_mul_right (a:=T r c) (by rw[m1,m2,hn,m3];exact a2) (Int.le_of_lt h4)
    ·right;refine⟨Int.eq_of_mul_eq_mul_right (a:=T r c) (by omega) (by rw[m1,m2,hn,m3,h6]),by omega⟩
end
theorem zWr(w:World)(base:Nat)(L:TbLay)(m n:Nat)(bs:Nat->Nat)(T:Nat->Nat->Int)(den:Int)(c:Nat)(hM:TbMem base w L m (n+1) bs T den)(hc:c<n+1)(hTB:∀i j,i<m+2->j<n+1->-1000000000<=T i j/\T i j<=1000000000)(hm6:m<=6)(hN:n<=100) :
  Calls prog 160 #[.pointer (some ⟨L.b,0,none⟩),.int .i64 c] w fun e w'=>∃b:Int,e=.returned (.int .i64 b)/\LvTo m n bs T c m b/\Below w.heap.size w w':=by
 obtain⟨Lb,LgR,LcR,Lblk,LAB,LcB⟩:=L;have HTB:=lHd hTB;have hx0:=hM.box0;have hx1:=hM.box1;dsimp only at hx0 hx1;clear hTB;go_enter func160,ntmps160
 go_wp2_with fail
 go_loopw [5,16] (fun s x wr=>∃(i:Nat) (b:Int),i<=m/\x=.int .i64 i/\s=.int .i64 b/\Hid (LvTo m n bs T c i b)/\Below w.heap.size w wr) (fun _ x _=>m-(intOf x).toNat)
 case atStart=>exact⟨0,-1,zKk _,rfl,rfl,lHd (.inl ⟨rfl,fun k hk=>by omega⟩),bch⟩
 case round=>
  obtain⟨i,b,hi,rfl,rfl,HL,hB1⟩:=hrel;obtain⟨w1,rfl⟩:∃wo:World,wo=wr:=⟨_,rfl⟩;have hM1:=hM.below hB1
  by_cases hlt:i<m
  ·have hi2:i<m+2:=by omega
   have hi3:(i:Int)<(m:Int)+2:=by omega
   have hy0:=hM1.box0;have hyo:=hM1.out i hi2;have hyc:=(hM1.cell (i:=i) (j:=c) hi2 hc).1;dsimp only at hy0 hyo hyc;obtain⟨x,hx⟩:∃x,Hid (T i c=x):=⟨_,lHd rfl⟩;rw[hx.out] at hyc
   by_cases hx0':x<=0
   ·have HX0:=lHd hx0';go_wp2
    go_roundw
    case rel=>exact⟨i+1,b,by omega,by go_num,rfl,lHd (HL.out.skip (by rw[hx.out];exact HX0.out)),bch⟩
    case measure=>simp[intOf];omega
   ·have HX0:=lHd (show 0<T i c by rw[hx.out];omega);rcases HL.out with⟨hb,_⟩|⟨r,hb,hrm,hri,hrp,_⟩
    ·subst hb;go_wp2
     go_roundw
     case rel=>exact⟨i+1,i,by omega,by go_num,rfl,lHd (HL.out.first hlt HX0.out),bch⟩
     case measure=>simp[intOf];omega
    ·subst hb;have hr2:r<m+2:=by omega
     have hr3:(r:Int)<(m:Int)+2:=by omega
     have hr4:¬((r:Int)<0):=by omega
     have hyor:=hM1.out r hr2;have hyrc:=(hM1.cell (i:=r) (j:=c) hr2 hc).1;have hyrl:=(hM1.cell (i:=r) (j:=n) hr2 (by omega)).1;have hyil:=(hM1.cell (i:=i) (j:=n) hi2 (by omega)).1;have hy1:=hM1.box1;obtain⟨g,hA,hg1,hg2,hg3,hg4⟩:=hM1.bas hlt;obtain⟨g',hA',_,_,hg3',_⟩:=hM1.bas hrm;obtain rfl:g=g':=by rw[hA] at hA';injection hA' with h;injection h
     dsimp only at hyor hyrc hyrl hyil hy1 hA;subst hA;have b1:=LA.abs_mul (HTB.out i n hi2 (by omega)) (HTB.out r c hr2 hc);have b2:=LA.abs_mul (HTB.out r n hr2 (by omega)) (HTB.out i c hi2 hc);have HK:=lHd (HL.out.keep HX0.out);have HN:=lHd (HL.out.next hlt HX0.out);obtain⟨z,hz⟩:∃z,Hid (T r c=z):=⟨_,lHd rfl⟩;obtain⟨u,hu⟩:∃z,Hid (T r n=z):=⟨_,lHd rfl⟩;obtain⟨v,hv⟩:∃z,Hid (T i n=z):=⟨_,lHd rfl⟩;rw[hz.out] at hyrc b1 HK HN;rw[hu.out] at hyrl b2 HK HN;rw[hv.out] at hyil b1 HK HN;rw[hx.out] at b2 HK HN;obtain⟨p,hp⟩:∃p,v*z=p:=⟨_,rfl⟩;obtain⟨q,hq⟩:∃q,u*x=q:=⟨_,rfl⟩;rw[hp] at b1 HK HN;rw[hq] at b2 HK HN;obtain⟨b11,b12⟩:=b1;obtain⟨b21,b22⟩:=b2;have hwp:IntKind.i64.wrap (v*z)=p:=by rw[hp];exact Go.IntWalk.i64_in _ (by omega)
     have hwq:IntKind.i64.wrap (u*x)=q:=by rw[hq];exact Go.IntWalk.i64_in _ (by omega)
     clear hp hq hrp HX0
     go_wp2_with fail
     go_quiet (fail)
     go_wp2_with fail
     by_cases h1:p<q
     ·have HC:=lHd (show(p<q\/(p=q/\bs i<bs r)) from .inl h1);have e1:=zWo h1
      go_quiet (fail)
      go_wp2
      go_roundw
      case rel=>exact⟨i+1,(i:Int),by omega,by go_num,rfl,lHd (HN.out HC.out),bch⟩
      case measure=>simp[intOf];omega
     ·have e1:decide (p<q)=false:=zVa h1
      by_cases h2:p=q
      ·subst h2;have e2:decide (p=p)=true:=zWo rfl
       by_cases h3:bs i<bs r
       ·have HC:=lHd (show(p<p\/(p=p/\bs i<bs r)) from .inr ⟨rfl,h3⟩)
        go_quiet (fail)
        go_wp2
        go_roundw
        case rel=>exact⟨i+1,(i:Int),by omega,by go_num,rfl,lHd (HN.out HC.out),bch⟩
        case measure=>simp[intOf];omega
       ·have HC:=lHd (show ¬(p<p\/(p=p/\bs i<bs r)) by omega)
        go_quiet (fail)
        go_wp2
        go_roundw
        case rel=>exact⟨i+1,(r:Int),by omega,by go_num,rfl,lHd (HK.out HC.out),bch⟩
        case measure=>simp[intOf];omega
      ·have HC:=lHd (show ¬(p<q\/(p=q/\bs i<bs r)) by omega);have e2:=beq_eq_false_iff_ne.2 h2
       go_quiet (fail)
       go_wp2
       go_roundw
       case rel=>exact⟨i+1,(r:Int),by omega,by go_num,rfl,lHd (HK.out HC.out),bch⟩
       case measure=>simp[intOf];omega
  ·obtain rfl:i=m:=by omega
   go_wp2;go_ret;exact⟨b,rfl,HL.out,bch⟩
theorem vXi(w:World)(base:Nat)(L:TbLay)(P:LA.LP)(s:LA.St)(hP:LA.LPIn P)(ht:LA.Tabl P s.bs s.T s.den)(hM:TbMem base w L P.m P.N s.bs s.T s.den)(c:Nat)(hc:c<=P.n+P.m) :
  Calls prog 160 #[.pointer (some ⟨L.b,0,none⟩),.int .i64 c] w fun e w'=>∃b:Int,e=.returned (.int .i64 b)/\((b = -1/\∀i,i<P.m->s.T i c<=0)\/∃r:Nat,b=r/\LA.Leaves P s c r)/\Below w.heap.size w w':=by
 have hN:P.N=P.last+1:=rfl;rw[hN] at hM;refine(zWr w base L P.m P.last s.bs s.T s.den c hM (by unfold LA.LP.last;omega) (fun i j hi hj=>?_) hP.m (by have:=hP.m;have:=hP.n;unfold LA.LP.last;omega)).mono ?_
 ·have:=ht.le hP hi (show j<P.N by rw[hN];exact hj);omega
 ·rintro e w' ⟨b,rfl,h,hB⟩;refine⟨b,rfl,?_,hB⟩;rcases h with⟨h1,h2⟩|⟨r,h1,h2,_,h4,h5⟩
  ·exact .inl ⟨h1,h2⟩
  ·exact .inr ⟨r,h1,h2,h4,h5⟩
theorem zW6(w:World)(base:Nat)(L:TbLay)(P:LA.LP)(s:LA.St)(o lim:Nat)(g:Nat->Int)(hP:LA.LPIn P)(ho:LA.Obj P o lim g)(h:LA.Ok P s)(hM:TbMem base w L P.m P.N s.bs s.T s.den)(hb:base<=w.heap.size) :
  Calls prog 104 #[.pointer (some ⟨L.b,0,none⟩),.int .i64 o,.int .i64 lim] w fun e w'=>∃(s':LA.St) (b:Int),e=.returned (.int .i64 b)/\LA.Ok P s'/\(lim<=P.n+P.m->LA.NoArt P s->LA.NoArt P s')/\((b = -1/\∀k,k<lim->0<=s'.T o k)\/∃c:Nat,b=c/\LA.Enters o lim s' c/\∀i,i<P.m->s'.T i c<=0)/\TbMem base w' L P.m P.N s'.bs s'.T s'.den/\Below base w w':=by
 obtain⟨K,f,hf0,hfok,hfst,hfn⟩:=LA.steps ho h;have HFOK:=lHd hfok;have HFN:=lHd hfn;have HNA:Hid (lim<=P.n+P.m->LA.NoArt P s->∀i,i<=K->LA.NoArt P (f i)):=lHd fun hl hn i=>by
  induction i with
  |zero=>intro _;rw[hf0];exact hn
  |succ i ih=>intro hi;exact(ih (by omega)).step hl (hfst i (by omega))
 have HO:=lHd ho;have hom:=ho.lt;have hol:=ho.lim;have hlN:lim<=P.N:=by have:=ho.lim;unfold LA.LP.N;omega
 have hm6:=hP.m;have hl100:lim<=100:=by have:=ho.lim;have:=hP.n;omega
 have HP:=lHd hP;have HM:=lHd (show TbMem base w L P.m P.N (f 0).bs (f 0).T (f 0).den by rw[hf0];exact hM);have hx0:=hM.box0;clear hfok hfst hfn h ho hP hM hf0;obtain⟨m,hm⟩:∃m,Hid (P.m=m):=⟨_,lHd rfl⟩;obtain⟨N,hN⟩:∃N,Hid (P.N=N):=⟨_,lHd rfl⟩;rw[hm.out,hN.out] at HM;rw[hm.out] at hm6 hom hx0;rw[hN.out] at hlN;go_enter func104,ntmps104
 go_wp2_with fail
 go_loopg [7] K (fun gk x wr=>∃i:Nat,i<=K/\Hid (i+gk=K)/\TbMem base wr L m N (f i).bs (f i).T (f i).den/\Below base w wr)
 case atStart=>exact⟨0,zKk _,lHd (by omega),HM.out.below bch,bch⟩
 case round=>
  obtain⟨i,hi,HG,hM1,hB1⟩:=hrel;obtain⟨w1,rfl⟩:∃wo:World,wo=wr:=⟨_,rfl⟩;have hOK:=HFOK.out i hi;have HOK:=lHd hOK;clear hOK;have hom3:(o:Int)<(m:Int)+2:=by omega
  go_wp2_with fail
  go_loopw [7] (fun x wr=>∃c:Nat,c<=lim/\x=.int .i64 c/\Hid (∀k,k<c->0<=(f i).T o k)/\Below w1.heap.size w1 wr) (fun x _=>lim-(intOf x).toNat)
  case atStart=>exact⟨0,zKk _,rfl,lHd (fun k hk=>by omega),bch⟩
  case round=>
   obtain⟨c,hc,rfl,HC,hB2⟩:=hrel;obtain⟨w2,rfl⟩:∃wo:World,wo=wr:=⟨_,rfl⟩;have hM2:=hM1.below hB2;have hB12:=hB1.trans (hB2.mono (yJ1 hb hB1.size))
   by_cases hlt:c<lim
   ·have hz0:=hM2.box0;have hzo:=hM2.out o hom;have hcN:c<N:=by omega
    have hzc:=(hM2.cell (i:=o) (j:=c) hom hcN).1;obtain⟨x,hx⟩:∃x,Hid ((f i).T o c=x):=⟨_,lHd rfl⟩;rw[hx.out] at hzc
    by_cases hx0':x>=0
    ·have HX:=lHd hx0';have hd:=zWo hx0';go_wp2
     go_roundw
     case rel=>exact⟨c+1,by omega,by go_num,lHd (fun k hk=>by
      by_cases e:k=c
      ·rw[e,hx.out];exact HX.out
      ·exact HC.out k (by omega)),bch⟩
     case measure=>simp[intOf];omega
    ·have hd:decide (x>=0)=false:=zVa hx0';have HE:=lHd (show LA.Enters o lim (f i) c from⟨hlt,by rw[hx.out];omega,HC.out⟩);have hcl:¬((c:Int)=(lim:Int)):=by omega
     have hce:=beq_eq_false_iff_ne.2 hcl
     go_wp2_with fail
     refine(vXi _ base L P (f i) HP.out HOK.out.toTabl (by rw[hm.out,hN.out];exact hM2.below bch) c (by omega)).mono ?_;rintro e w3 ⟨b,rfl,hlv,hB3⟩;have hM3:=hM2.below (show Below w2.heap.size w2 w3 from xJ3 w2 hB3 bch);have hB13:=hB12.trans ((xJ3 w2 hB3 bch).mono (yJ1 hb hB12.size));rcases hlv with⟨rfl,hno⟩|⟨r,rfl,hlv⟩
     ·have HNO:=lHd hno;clear hno;go_wp2;go_ret;exact⟨f i,c,rfl,HOK.out,fun hl hn=>HNA.out hl hn i hi,.inr ⟨c,rfl,HE.out,HNO.out⟩,by rw[hm.out,hN.out];exact hM3.below bch,bch⟩
     ·have HLV:=lHd hlv;have hrm:=hlv.1;have hrp:=hlv.2.1;obtain⟨hik,hnx⟩:=HFN.out i hi _ ⟨c,r,HE.out,hlv,rfl⟩;have HNX:=lHd hnx;have hgk:=lHd (show i+1+(gk-1)=K/\gk-1<gk by have:=HG.out;omega);clear hlv hnx
      go_wp2_with fail
      refine(zKf _ base L P (f i) HP.out HOK.out.toTabl (by rw[hm.out,hN.out];exact hM3.below bch) (yJ1 hb hB13.size) r c hrm (by omega) (by omega)).mono ?_;rintro e w4 ⟨rfl,hM4,hB4⟩;rw[<- HNX.out,hm.out,hN.out] at hM4;go_wp2
      go_roundg (gk-1)
      case measure=>exact hgk.out.2
      case rel=>exact⟨i+1,by omega,lHd hgk.out.1,hM4.below bch,hB13.trans hB4⟩
   ·obtain rfl:c=lim:=by omega
    go_wp2;go_ret;exact⟨f i,-1,rfl,HOK.out,fun hl hn=>HNA.out hl hn i hi,.inl ⟨rfl,HC.out⟩,by rw[hm.out,hN.out];exact hM2.below bch,bch⟩
def LowTo(m:Nat)(B:Nat->Int)(i:Nat)(b:Int):Prop:=
 (b = -1/\∀k,k<i->0<=B k)\/∃r:Nat,b=r/\r<m/\r<i/\B r<0/\∀k,k<i->B r<=B k
theorem LowTo.skip{m i:Nat}{B:Nat->Int}{b:Int}(h:LowTo m B i b)(hi:0<=B i):LowTo m B (i+1) b:=by
 rcases h with⟨h1,h2⟩|⟨r,h1,h2,h3,h4,h5⟩
 ·refine .inl ⟨h1,fun k hk=>?_⟩
  by_cases e:k=i
  ·rw[e];exact hi
  ·exact h2 k (by omega)
 ·refine .inr ⟨r,h1,h2,by omega,h4,fun k hk=>?_⟩
  by_cases e:k=i
  ·rw[e];omega
  ·exact h5 k (by omega)
theorem LowTo.first{m i:Nat}{B:Nat->Int}(h:LowTo m B i (-1))(him:i<m)(hi:B i<0):LowTo m B (i+1) (i:Int):=by
 rcases h with⟨_,h2⟩|⟨r,h1,_⟩
 ·refine .inr ⟨i,rfl,him,by omega,hi,fun k hk=>?_⟩
  by_cases e:k=i
  ·rw[e];exact Int.le_refl _
  ·have:=h2 k (by omega);omega
 ·omega
theorem LowTo.keep{m i r:Nat}{B:Nat->Int}(h:LowTo m B i (r:Int))(hi:¬B i<B r):LowTo m B (i+1) (r:Int):=by
 rcases h with⟨h1,_⟩|⟨q,h1,h2,h3,h4,h5⟩
 ·omega
 ·obtain rfl:r=q:=by omega
  refine .inr ⟨r,rfl,h2,by omega,h4,fun k hk=>?_⟩
  by_cases e:k=i
  ·rw[e];omega
  ·exact h5 k (by omega)
theorem LowTo.next{m i r:Nat}{B:Nat->Int}(h:LowTo m B i (r:Int))(him:i<m)(hi:B i<B r):LowTo m B (i+1) (i:Int):=by
 rcases h with⟨h1,_⟩|⟨q,h1,h2,h3,h4,h5⟩
 ·omega
 ·obtain rfl:r=q:=by omega
  refine .inr ⟨i,rfl,him,by omega,by omega,fun k hk=>?_⟩
  by_cases e:k=i
  ·rw[e];exact Int.le_refl _
  ·have:=h5 k (by omega);omega
theorem zXg(w:World)(base:Nat)(L:TbLay)(P:LA.LP)(s:LA.St)(o lim:Nat)(g:Nat->Int)(oi li:Int)(hoi:oi=o)(hli:li=lim)(hP:LA.LPIn P)(ho:LA.Obj P o lim g)(h:LA.Ok P s)(hM:TbMem base w L P.m P.N s.bs s.T s.den)(hb:base<=w.heap.size) :
  Calls prog 104 #[.pointer (some ⟨L.b,0,none⟩),.int .i64 oi,.int .i64 li] w fun e w'=>∃(s':LA.St) (b:Int),e=.returned (.int .i64 b)/\LA.Ok P s'/\(lim<=P.n+P.m->LA.NoArt P s->LA.NoArt P s')/\((b = -1/\∀k,k<lim->0<=s'.T o k)\/∃c:Nat,b=c/\LA.Enters o lim s' c/\∀i,i<P.m->s'.T i c<=0)/\TbMem base w' L P.m P.N s'.bs s'.T s'.den/\Below base w w':=by
 subst hoi;subst hli;exact zW6 w base L P s o lim g hP ho h hM hb
theorem vZ7(w:World)(base:Nat)(L:TbLay)(P:LA.LP)(s:LA.St)(ci:Int)(r c:Nat)(hci:ci=c)(hP:LA.LPIn P)(ht:LA.Tabl P s.bs s.T s.den)(hM:TbMem base w L P.m P.N s.bs s.T s.den)(hb:base<=w.heap.size)(hr:r<P.m)(hc:c<=P.n+P.m)(hne:s.T r c≠0) :
  Calls prog 158 #[.pointer (some ⟨L.b,0,none⟩),.int .i64 r,.int .i64 ci] w fun e w'=>e=.returned (.tuple #[])/\TbMem base w' L P.m P.N (s.piv r c).bs (s.piv r c).T (s.piv r c).den/\Below base w w':=by
 subst hci;exact zKf w base L P s hP ht hM hb r c hr hc hne
structure Drv(P:LA.LP)(s:LA.St)(i:Nat):Prop where
 ok:LA.Ok P s
 out:∀k,k<i->s.bs k<P.n+P.m
 zero:∀k,k<P.m->s.bs k=P.n+P.m->s.T k P.last=0
theorem Drv.skip{P:LA.LP}{s:LA.St}{i:Nat}(h:Drv P s i)(him:i<P.m)(hi:s.bs i≠P.n+P.m):Drv P s (i+1):=
 ⟨h.ok,fun k hk=>by
  by_cases e:k=i
  ·rw[e];have:=h.ok.bas i him;omega
  ·exact h.out k (by omega),h.zero⟩
theorem Drv.drive{P:LA.LP}{s:LA.St}{i c:Nat}(h:Drv P s i)(him:i<P.m)(hi:s.bs i=P.n+P.m)(hc:c<P.n+P.m)(hne:s.T i c≠0):Drv P (s.piv i c) (i+1):=
 ⟨h.ok.drive him (h.zero i him hi) hc hne,fun k hk=>by
  show LA.pivB s.bs i c k<_;unfold LA.pivB
  by_cases e:k=i
  ·rw[if_pos e];exact hc
  ·rw[if_neg e];exact h.out k (by omega),fun k hk e=>by
  have e2:LA.pivB s.bs i c k=P.n+P.m:=e;unfold LA.pivB at e2
  by_cases e3:k=i
  ·rw[if_pos e3] at e2;omega
  ·rw[if_neg e3] at e2;exact absurd (h.ok.inj hk him (by rw[e2,hi])) e3⟩
theorem vWq(w:World)(base:Nat)(L:TbLay)(P:LA.LP)(hP:LA.LPIn P)(hM:TbMem base w L P.m P.N (fun i=>P.n+i) P.T0 1)(hb:base<=w.heap.size) :
  Calls prog 102 #[.pointer (some ⟨L.b,0,none⟩)] w fun e w'=>∃(s':LA.St) (ok:Bool),e=.returned (.bool ok)/\LA.Ok P s'/\(ok=true->LA.NoArt P s')/\(ok=false->(∀j,j<P.n+P.m+1->0<=s'.T (P.m+1) j)/\s'.T (P.m+1) P.last<0)/\TbMem base w' L P.m P.N s'.bs s'.T s'.den/\Below base w w':=by
 obtain⟨Lb,LgR,LcR,Lblk,LAB,LcB⟩:=L;have hm6:=hP.m;have hn6:=hP.n;have HP:=lHd hP;have HM0:=lHd hM;have hBT:∀i,i<P.m->P.T0 i P.last=P.b i:=fun i hi=>by unfold LA.LP.T0;rw[if_pos hi,LA.t0_last]
 have HBT:=lHd hBT;obtain⟨a,ha⟩:∃a,Hid (P.n+P.m=a):=⟨_,lHd rfl⟩;have ha14:a<=12:=by have:=ha.out;omega
 have hN:Hid (P.N=a+2):=lHd (by have:=ha.out;unfold LA.LP.N;omega);have hl:Hid (P.last=a+1):=lHd (by have:=ha.out;unfold LA.LP.last;omega);rw[hN.out] at hM;obtain⟨m,hm⟩:∃m,Hid (P.m=m):=⟨_,lHd rfl⟩;rw[hm.out] at hM hm6;have HM:=lHd hM;have hx0:=hM.box0;have hx1:=hM.box1;have hxm:=hM.out m (by omega);have hm3:(m:Int)<(m:Int)+2:=by omega
 dsimp only at hx0 hx1 hxm;clear hBT hP hM hn6;go_enter func102,ntmps102
 go_wp2_with fail
 go_loopw [5,29] (fun s x wr=>∃(i:Nat) (b:Int),i<=m/\x=.int .i64 i/\s=.int .i64 b/\Hid (LowTo m (fun k=>P.T0 k (a+1)) i b)/\Below w.heap.size w wr) (fun _ x _=>m-(intOf x).toNat)
 case atStart=>exact⟨0,-1,zKk _,rfl,rfl,lHd (.inl ⟨rfl,fun k hk=>by omega⟩),bch⟩
 case round=>
  obtain⟨i,b,hi,rfl,rfl,HL,hB1⟩:=hrel;obtain⟨w1,rfl⟩:∃wo:World,wo=wr:=⟨_,rfl⟩;have hM1:=HM.out.below hB1
  by_cases hlt:i<m
  ·have hi2:i<m+2:=by omega
   have hi3:(i:Int)<(m:Int)+2:=by omega
   have hy0:=hM1.box0;have hyo:=hM1.out i hi2;have hyc:=(hM1.cell (i:=i) (j:=a+1) hi2 (by omega)).1;dsimp only at hy0 hyo hyc;have HSK:=lHd (HL.out.skip (i:=i));obtain⟨x,hx⟩:∃x,Hid (P.T0 i (a+1)=x):=⟨_,lHd rfl⟩;rw[hx.out] at hyc
   (try dsimp only at HSK)
   rw[hx.out] at HSK
   by_cases hneg:x<0
   ·have hd:decide (x<0)=true:=zWo hneg;have HNG:=lHd hneg;rcases HL.out with⟨hb',_⟩|⟨r,hb',hrm,hri,hrp,_⟩
    ·subst hb';have HFI:=lHd (HL.out.first hlt (by(try dsimp only);rw[hx.out];exact hneg));clear hneg
     go_wp2_with fail
     go_quiet (fail)
     go_wp2
     go_roundw
     case rel=>exact⟨i+1,(i:Int),by omega,by go_num,rfl,lHd (HFI.out),bch⟩
     case measure=>simp[intOf];omega
    ·subst hb';have hr2:r<m+2:=by omega
     have hr3:(r:Int)<(m:Int)+2:=by omega
     have hr4:decide ((r:Int)<0)=false:=zVa (by omega);have hyor:=hM1.out r hr2;have hyrl:=(hM1.cell (i:=r) (j:=a+1) hr2 (by omega)).1;dsimp only at hyor hyrl;have HK:=lHd (HL.out.keep (i:=i));have HX:=lHd (HL.out.next hlt)
     (try dsimp only at HK HX)
     rw[hx.out] at HK HX;obtain⟨z,hz⟩:∃z,Hid (P.T0 r (a+1)=z):=⟨_,lHd rfl⟩;rw[hz.out] at hyrl HK HX;clear hrp
     by_cases hcmp:x<z
     ·have HC:=lHd hcmp;have hd2:=zWo hcmp;clear hcmp
      go_wp2_with fail
      go_quiet (fail)
      go_wp2
      go_roundw
      case rel=>exact⟨i+1,(i:Int),by omega,by go_num,rfl,lHd (HX.out HC.out),bch⟩
      case measure=>simp[intOf];omega
     ·have HC:=lHd hcmp;have hd2:=zVa hcmp;clear hcmp
      go_wp2_with fail
      go_quiet (fail)
      go_wp2
      go_roundw
      case rel=>exact⟨i+1,(r:Int),by omega,by go_num,rfl,lHd (HK.out HC.out),bch⟩
      case measure=>simp[intOf];omega
   ·have hd:decide (x<0)=false:=zVa hneg;have HNG:=lHd (show 0<=x by omega);clear hneg
    go_wp2_with fail
    go_quiet (fail)
    go_wp2
    go_roundw
    case rel=>exact⟨i+1,b,by omega,by go_num,rfl,lHd (HSK.out HNG.out),bch⟩
    case measure=>simp[intOf];omega
  ·obtain rfl:m=i:=by omega
   have hB1b:=hB1.mono hb;rcases HL.out with⟨hb',hall⟩|⟨r,hb',hrm,hri,hrp,hmin⟩
   ·subst hb';have HOK:Hid (LA.Ok P ⟨fun i=>P.n+i,P.T0,1⟩):=lHd (LA.Ok.plain fun k hk=>by
     rw[<- HBT.out k hk,hl.out];exact hall k (by rw[<- hm.out];exact hk))
    clear hall;go_wp2;go_ret;exact⟨⟨fun i=>P.n+i,P.T0,1⟩,true,rfl,HOK.out,fun _ k hk=>Nat.add_lt_add_left hk _,(fun h=>by cases h),HM0.out.below bch,bch⟩
   ·subst hb';have hneg2:P.b r<0:=by rw[<- HBT.out r (by rw[hm.out];exact hrm),hl.out];exact hrp
    have HFST:Hid (LA.Ok P (LA.St.piv ⟨fun i=>P.n+i,P.T0,1⟩ r (P.n+P.m))):=lHd (LA.Ok.first (by rw[hm.out];exact hrm) hneg2 fun k hk=>by
     rw[<- HBT.out k hk,<- HBT.out r (by rw[hm.out];exact hrm),hl.out];exact hmin k (by rw[<- hm.out];exact hk))
    have hr4:¬((r:Int)<0):=by omega
    clear hmin hrp hneg2
    go_wp2_with fail
    refine(vZ7 _ base ⟨Lb,LgR,LcR,Lblk,LAB,LcB⟩ P ⟨fun i=>P.n+i,P.T0,1⟩ _ r (P.n+P.m) (by rw[ha.out];omega) HP.out (LA.Tabl.start P) (HM0.out.below bch) (yJ1 hb hB1.size) (by rw[hm.out];exact hrm) (Nat.le_refl _) (by show P.T0 r (P.n+P.m)≠0;unfold LA.LP.T0;rw[if_pos (by rw[hm.out];exact hrm),LA.t0_art];omega)).mono ?_;rintro e w2 ⟨rfl,hM2,hB2⟩;have hB12:=hB1b.trans hB2
    go_wp2_with fail
    refine(zXg _ base ⟨Lb,LgR,LcR,Lblk,LAB,LcB⟩ P _ (P.m+1) (P.n+P.m+1) P.g1 _ _ (by rw[hm.out];omega) (by rw[ha.out];omega) HP.out (LA.obj_art P) HFST.out (hM2.below bch) (yJ1 hb hB12.size)).mono ?_;rintro e w3 ⟨s3,b3,rfl,hok3,-,hfin,hM3,hB3⟩;have hB13:=hB12.trans hB3;have HOK3:=lHd hok3;have HALL:Hid (∀j,j<P.n+P.m+1->0<=s3.T (P.m+1) j):=lHd (by
     rcases hfin with⟨_,h⟩|⟨c,_,hE,hle⟩
     ·exact h
     ·exfalso;have h1:=LA.art_bounded hok3 (c:=c) (by have:=hE.1;unfold LA.LP.N;omega) hle;have:=hE.2.1;omega)
    clear hfin hok3 HFST hM2;have HM3':=lHd hM3;rw[hm.out,hN.out] at hM3;have HM3:=lHd hM3;have hz0:=hM3.box0;have hz1:=hM3.box1;have hzo:=hM3.out (m+1) (by omega);have hzc:=(hM3.cell (i:=m+1) (j:=a+1) (by omega) (by omega)).1;dsimp only at hz0 hz1 hzo hzc;obtain⟨x,hx⟩:∃x,Hid (s3.T (m+1) (a+1)=x):=⟨_,lHd rfl⟩;rw[hx.out] at hzc
    by_cases hneg:x<0
    ·have HNG:=lHd (show s3.T (P.m+1) P.last<0 by rw[hm.out,hl.out,hx.out];exact hneg);go_wp2;go_ret;exact⟨s3,false,rfl,HOK3.out,(fun h=>by cases h),fun _=>⟨HALL.out,HNG.out⟩,HM3'.out.below bch,bch⟩
    ·have HDR:Hid (Drv P s3 0):=lHd ⟨HOK3.out,(fun k hk=>by omega),fun k hk he=>LA.art_zero HOK3.out (by rw[hm.out,hl.out,hx.out];omega) hk he⟩;clear hM3
     go_wp2_with fail
     (try simp only[show a+2-1=a+1 from rfl])
     go_loopw [101] (fun x wr=>∃(i:Nat) (s:LA.St),i<=m/\x=.int .i64 i/\Hid (Drv P s i)/\TbMem base wr ⟨Lb,LgR,LcR,Lblk,LAB,LcB⟩ m (a+2) s.bs s.T s.den/\Below base w wr) (fun x _=>m-(intOf x).toNat)
     case atStart=>exact⟨0,s3,zKk _,rfl,HDR,HM3.out.below bch,bch⟩
     case round=>
      obtain⟨i,s4,hi,rfl,HD,hM4,hB4⟩:=hrel;obtain⟨w4,rfl⟩:∃wo:World,wo=wr:=⟨_,rfl⟩;have HD4:=lHd hM4
      by_cases hlt:i<m
      ·have hi2:i<m+2:=by omega
       have hi3:(i:Int)<(m:Int)+2:=by omega
       obtain⟨g,hA,hg1,hg2,hg3,hg4⟩:=hM4.bas hlt;have hy0:=hM4.box0;have hyo:=hM4.out i hi2;dsimp only at hA hy0 hyo;subst hA
       by_cases hba:s4.bs i=a
       ·have hne:((s4.bs i:Int) !=(a:Int))=false:=by simp[hba]
        have hne2:¬ ¬((s4.bs i:Int)=(a:Int)):=by omega
        obtain⟨c0,hc0,hc1⟩:=LA.art_row HD.out.ok (r:=i) (by rw[hm.out];exact hlt) (by rw[ha.out];exact hba);have HC1:=lHd hc1;rw[ha.out] at hc0;have HBA:=lHd hba;rw[hba] at hg3;clear hba hc1 hne2 hne
        go_wp2_with fail
        go_loopw [9] (fun x wr=>∃c:Nat,c<=c0/\x=.int .i64 c/\Below w4.heap.size w4 wr) (fun x _=>c0-(intOf x).toNat)
        case atStart=>exact⟨0,zKk _,rfl,bch⟩
        case round=>
         obtain⟨c,hc,rfl,hB5⟩:=hrel;obtain⟨w5,rfl⟩:∃wo:World,wo=wr:=⟨_,rfl⟩;have hM5:=HD4.out.below hB5;have hB45:=hB4.trans (hB5.mono (yJ1 hb hB4.size));have hu0:=hM5.box0;have huo:=hM5.out i hi2;have huc:=(hM5.cell (i:=i) (j:=c) hi2 (by omega)).1;dsimp only at hu0 huo huc;obtain⟨x,hx⟩:∃x,Hid (s4.T i c=x):=⟨_,lHd rfl⟩;rw[hx.out] at huc
         by_cases hxz:x=0
         ·subst hxz;have hcc:Hid (c+1<=c0):=lHd (by
           rcases vVq c c0 with h|h
           ·exact h
           ·exfalso;have:c=c0:=by omega
            rw[<- this,hx.out] at HC1;exact HC1.out rfl)
          go_wp2
          go_roundw
          case rel=>exact⟨c+1,hcc.out,by go_num,bch⟩
          case measure=>have:=hcc.out;simp[intOf];omega
         ·have HXZ:=lHd (show s4.T i c≠0 by rw[hx.out];exact hxz);have hxe:=beq_eq_false_iff_ne.2 hxz
          go_wp2_with fail
          refine(vZ7 _ base ⟨Lb,LgR,LcR,Lblk,some ⟨g,0,none⟩,LcB⟩ P s4 _ i c rfl HP.out HD.out.ok.toTabl (by rw[hm.out,hN.out];exact hM5.below bch) (yJ1 hb hB45.size) (by rw[hm.out];exact hlt) (by rw[ha.out];omega) HXZ.out).mono ?_;rintro e w6 ⟨rfl,hM6,hB6⟩;rw[hm.out,hN.out] at hM6;go_wp2
          go_roundw
          case rel=>exact⟨i+1,s4.piv i c,by omega,by go_num,lHd (HD.out.drive (by rw[hm.out];exact hlt) (by rw[ha.out];exact HBA.out) (by rw[ha.out];omega) HXZ.out),hM6.below bch,hB45.trans hB6⟩
          case measure=>simp[intOf];omega
       ·have HBA:=lHd (show s4.bs i≠P.n+P.m by rw[ha.out];exact hba);have hne2:¬((s4.bs i:Int)=(a:Int)):=by omega
        obtain⟨v,hv⟩:∃v,Hid (s4.bs i=v):=⟨_,lHd rfl⟩;rw[hv.out] at hg3 hne2 hba;go_wp2
        go_roundw
        case rel=>exact⟨i+1,s4,by omega,by go_num,lHd (HD.out.skip (by rw[hm.out];exact hlt) HBA.out),HD4.out.below bch,bch⟩
        case measure=>simp[intOf];omega
      ·obtain rfl:m=i:=by omega
       go_wp2;go_ret;exact⟨s4,true,rfl,HD.out.ok,fun _ k hk=>HD.out.out k (by rw[<- hm.out];exact hk),(fun h=>by cases h),by rw[hm.out,hN.out];exact HD4.out.below bch,bch⟩
theorem blt{w:World}{a:Addr}{v:Value}(h:w.cell? a=some v):a.block<w.heap.size:=zQ2 w a h
structure VecV where
 nums:List Int
 den:Int
def VecsRead(w:World)(A:Option Addr)(vs:List VecV):Prop:=∀k v,vs[k]? = some v->∃g B c,A=some ⟨g,0,none⟩/\w.cell? ⟨g,k*2,none⟩=some (.slice B v.nums.length c)/\w.cell? ⟨g,k*2+1,none⟩=some (.int .i64 v.den)/\Ints w B v.nums/\v.nums.length<=9223372036854775807
theorem VecsRead.below{w w':World}{A:Option Addr}{vs:List VecV}(h:VecsRead w A vs)(hb:Below w.heap.size w w'):VecsRead w' A vs:=fun k v hv=>by
 obtain⟨g,B,c,h1,h2,h3,h4,h5⟩:=h k v hv;exact⟨g,B,c,h1,(hb.cell (blt h2)).trans h2,(hb.cell (blt h3)).trans h3,h4.below hb,h5⟩
theorem VecsRead.nil(w:World)(A:Option Addr):VecsRead w A []:=fun k v h=>by simp at h
theorem VecsRead.one{w:World}{g:Nat}{B:Option Addr}{c:Nat}{x:List Int}{d:Int}(h1:w.cell? ⟨g,0,none⟩=some (.slice B x.length c))(h2:w.cell? ⟨g,1,none⟩=some (.int .i64 d))(h3:Ints w B x)(h4:x.length<=9223372036854775807):VecsRead w (some ⟨g,0,none⟩) [⟨x,d⟩]:=fun k v hv=>by
 cases k with
 |zero=>simp at hv;subst hv;exact⟨g,B,c,rfl,h1,h2,h3,h4⟩
 |succ k=>simp at hv
section
def zKl(n:Nat)(f:Int->Int):List Int:=(List.range n).map fun(q:Nat)=>f (q:Int)
theorem zJm(n:Nat)(f:Int->Int):(zKl n f).length=n:=by simp[zKl]
theorem xKo{n q:Nat}{f:Int->Int}(h:q<n):(zKl n f)[q]? = some (f (q:Int)):=by simp[zKl,h]
theorem vZa{n:Nat}{f g:Int->Int}(h:∀q:Nat,q<n->f (q:Int)=g (q:Int)):zKl n f=zKl n g:=by
 unfold zKl;refine List.map_congr_left fun q hq=>h q (yYq.1 hq)
def vZb(V:Int->Int->Int)(p q x:Int):Int->Int->Int:=fun p' q'=>if p'=p/\q'=q then x else V p' q'
theorem vZc{n p q:Nat}{V:Int->Int->Int}{x:Int}:(zKl n (V (p:Int))).set q x=zKl n (vZb V p q x p):=by
 apply List.ext_getElem?;intro i;rw[List.getElem?_set,zJm]
 by_cases hi:i<n
 ·rw[xKo hi,xKo hi]
  by_cases e:q=i
  ·subst e;rw[if_pos rfl,if_pos hi];unfold vZb;rw[if_pos ⟨rfl,rfl⟩]
  ·rw[if_neg e];unfold vZb;rw[if_neg (by omega)]
 ·rw[vXn (l:=zKl n (V (p:Int))) (by rw[zJm];omega),vXn (l:=zKl n _) (by rw[zJm];omega)]
  split<;>simp<;>omega
theorem vZd{n p p' q:Nat}{V:Int->Int->Int}{x:Int}(h:p'≠p):zKl n (vZb V p q x (p':Int))=zKl n (V (p':Int)):=by
 refine vZa fun i _=>?_
 unfold vZb;rw[if_neg (by omega)]
def vVr(V:Int->Int->Int)(p q x:Int):Int->Int->Int:=fun p' q'=>if(p'=p/\q'=q)\/(p'=q/\q'=p) then x else V p' q'
theorem vZe(V:Int->Int->Int)(p q x:Int):vZb (vZb V p q x) q p x=vVr V p q x:=by
 funext a b;unfold vZb vVr
 by_cases h1:a=q/\b=p
 ·rw[if_pos h1,if_pos (.inr h1)]
 ·by_cases h2:a=p/\b=q
  ·rw[if_neg h1,if_pos h2,if_pos (.inl h2)]
  ·rw[if_neg h1,if_neg h2,if_neg (by rintro(h|h);exact h2 h;exact h1 h)]
theorem yJ2(V:Int->Int->Int)(p q x:Int):vZb (vZb V q p x) p q x=vVr V p q x:=by
 rw[vZe];funext a b;unfold vVr
 by_cases h:(a=p/\b=q)\/(a=q/\b=p)
 ·rw[if_pos h,if_pos h.symm]
 ·rw[if_neg h,if_neg (fun k=>h k.symm)]
def yZe(V:Int->Int->Int)(p q x:Int):Int->Int->Int:=if x<V p q then vVr V p q x else V
theorem zVb{V:Int->Int->Int}{p q x:Int}(h:¬x<V p q):yZe V p q x=V:=if_neg h
theorem zVc{V:Int->Int->Int}{p q x:Int}(h:x<V p q):yZe V p q x=vVr V p q x:=if_pos h
structure Tbl(w:World)(g:Nat)(bs:List Nat)(n:Nat)(V:Int->Int->Int):Prop where
 arr:Arr w g 22 (bs.map fun b=>Value.slice (some ⟨b,0,none⟩) n n)
 len:bs.length=n
 rows:∀(p b:Nat),bs[p]? = some b->IArr w b (zKl n (V (p:Int)))
 diff:∀b∈bs,b≠g
 nodup:bs.Nodup
section
variable {w w':World}{g n:Nat}{bs:List Nat}{V:Int->Int->Int}
theorem Tbl.lt(h:Tbl w g bs n V):g<w.heap.size/\∀b∈bs,b<w.heap.size:=⟨h.arr.lt,fun b hb=>by
 obtain⟨i,hi,rfl⟩:=List.getElem_of_mem hb;exact Arr.lt (h.rows i _ (lGe hi))⟩
theorem Tbl.same(h:Tbl w g bs n V)(hg:w'.heap[g]? = w.heap[g]?)(hb:∀b∈bs,w'.heap[b]? = w.heap[b]?):Tbl w' g bs n V:=
 ⟨hg.trans h.arr,h.len,fun p b hp=>(hb b (lMg hp)).trans (h.rows p b hp),h.diff,h.nodup⟩
theorem Tbl.below(h:Tbl w g bs n V)(hb:Below w.heap.size w w'):Tbl w' g bs n V:=h.same (hb.block g h.lt.1) (fun b hm=>hb.block b (h.lt.2 b hm))
theorem Tbl.at_(h:Tbl w g bs n V){p q:Int}(hp:0<=p/\p<(n:Int))(hq:0<=q/\q<(n:Int)) :
  ∃b,Hid (bs[p.toNat]? = some b)/\w.cell? ⟨g,p.toNat,none⟩=some (.slice (some ⟨b,0,none⟩) n n)/\w.cell? ⟨b,q.toNat,none⟩=some (.int .i64 (V p q))/\w.frozen? ⟨b,q.toNat,none⟩=false:=by
 have hpl:p.toNat<bs.length:=by rw[h.len];omega
 refine⟨bs[p.toNat],lHd (lGe hpl),?_,?_,Arr.free (h.rows _ _ (lGe hpl)) _⟩
 ·rw[h.arr.cell];simp[hpl]
 ·have hr:=h.rows _ _ (lGe hpl);have e:((p.toNat:Nat):Int)=p:=by omega
  rw[e] at hr;rw[Arr.cell hr,vQ4,xKo (by omega)];have e2:((q.toNat:Nat):Int)=q:=by omega
  rw[e2];rfl
theorem Tbl.store(h:Tbl w g bs n V){p q:Int}{b:Nat}(hp:0<=p)(hq:0<=q)(hb:bs[p.toNat]? = some b)(x:Int):Tbl (w.setCell ⟨b,q.toNat,none⟩ (.int .i64 x)) g bs n (vZb V p q x):=by
 have hm:=lMg hb;refine⟨h.arr.far (h.diff b hm) _,h.len,fun i c hc=>?_,h.diff,h.nodup⟩
 by_cases e:i=p.toNat
 ·subst e;rw[hb] at hc;injection hc with hc
  subst hc;have h1:=(h.rows _ _ hb).set_ q.toNat x;rw[vZc] at h1;have e1:((p.toNat:Nat):Int)=p:=by omega
  have e2:((q.toNat:Nat):Int)=q:=by omega
  rw[e1,e2] at h1;rw[e1];exact h1
 ·have hne:b≠c:=fun hh=>by
   subst hh;obtain⟨h1,h2⟩:=zQ1.1 hb;obtain⟨h3,h4⟩:=zQ1.1 hc;exact e ((List.getElem_inj h.nodup).1 (h4.trans h2.symm))
  have h1:=(h.rows i c hc).far (p:=⟨b,q.toNat,none⟩) hne (.int .i64 x);have e1:((p.toNat:Nat):Int)=p:=by omega
  have e2:((q.toNat:Nat):Int)=q:=by omega
  have h2:=vZd (n:=n) (q:=q.toNat) (V:=V) (x:=x) e;rw[e1,e2] at h2;rw[h2];exact h1
end
structure Wr(bs:List Nat)(w w':World):Prop where
 os:w'.os=w.os
 tape:w'.tape=w.tape
 output:w'.output=w.output
 size:w.heap.size<=w'.heap.size
 block:∀k,k<w.heap.size->k∉bs->w'.heap[k]? = w.heap[k]?
section
variable {bs:List Nat}{a w w':World}
theorem Wr.refl(bs:List Nat)(w:World):Wr bs w w:=⟨rfl,rfl,rfl,Nat.le_refl _,fun _ _ _=>rfl⟩
theorem Wr.of(h:Below w.heap.size w w'):Wr bs w w':=⟨h.os,h.tape,h.output,h.size,fun k hk _=>h.block k hk⟩
theorem Wr.trans(h:Wr bs a w)(k:Wr bs w w'):Wr bs a w':=⟨k.os.trans h.os,k.tape.trans h.tape,k.output.trans h.output,yJ1 h.size k.size,fun i hi hn=>(k.block i (Nat.lt_of_lt_of_le hi h.size) hn).trans (h.block i hi hn)⟩
theorem Wr.below{B:Nat}(h:Wr bs w w')(hB:B<=w.heap.size)(hb:∀b∈bs,B<=b):Below B w w':=⟨h.os,h.tape,h.output,h.size,fun k hk=>h.block k (by omega) (fun hm=>by have:=hb k hm;omega)⟩
theorem Wr.set_(h:Wr bs a w){p:Addr}(hp:p.block∈bs)(u:Value):Wr bs a (w.setCell p u):=
 h.trans ⟨rfl,rfl,rfl,by simp[World.setCell],fun k hk hn=>Below.heap_setCell _ _ _ _ (fun e=>hn (by rw[e];exact hp))⟩
theorem Cls.wr{l:List (Nat×Nat×Value)}{K:Nat}(hW:Wr bs w w')(hK:∀b∈bs,b<K)(hC:Cls w l)(hl:∀x∈l,K<=x.1):Cls w' l:=by
 induction l with
 |nil=>trivial
 |cons x r ih=>
  obtain⟨b,k,v⟩:=x;obtain⟨⟨h1,h2⟩,h3⟩:=hC;have hlt:=zQ2 w ⟨b,k,none⟩ h1;have hne:w'.heap[b]? = w.heap[b]?:=hW.block b hlt (fun e=>by
   have h4:=hK b e;have h5:K<=b:=hl (b,k,v) (by simp);omega)
  exact⟨⟨(World.cell?_of_block (w:=w) hne).trans h1,(World.frozen?_of_block (w:=w) hne).trans h2⟩,ih h3 (fun x hx=>hl x (by simp[hx]))⟩
end
def Cov(V:Int->Int->Int)(l:List Int)(k j:Nat)(o:Int):Prop:=
 0<=o/\(∀(a b:Nat) (p q:Int),(a<k/\b<=a\/a=k/\b<j)->l[a]? = some p->l[b]? = some q->V p q<=o) /\
  ∀z,0<=z->(∀(a b:Nat) (p q:Int),(a<k/\b<=a\/a=k/\b<j)->l[a]? = some p->l[b]? = some q->V p q<=z)->o<=z
theorem Cov.start(V:Int->Int->Int)(l:List Int):Cov V l 0 0 0:=⟨Int.le_refl _,fun a b p q h=>by omega,fun z hz _=>hz⟩
theorem Cov.step{V:Int->Int->Int}{l:List Int}{k j:Nat}{o p q m:Int}(h:Cov V l k j o)(hp:l[k]? = some p)(hq:l[j]? = some q)(hm:m=if o<V p q then V p q else o):Cov V l k (j+1) m:=by
 obtain⟨h0,h1,h2⟩:=h;have hm1:o<=m/\V p q<=m/\(m=o\/m=V p q):=by
  rw[hm];split<;>omega
 refine⟨by omega,fun a b p' q' hab ha hb=>?_,fun z hz hall=>?_⟩
 ·by_cases e:a=k/\b=j
  ·obtain⟨rfl,rfl⟩:=e;rw[hp] at ha;rw[hq] at hb;injection ha with ha;injection hb with hb
   subst ha;subst hb;omega
  ·have:=h1 a b p' q' (by omega) ha hb;omega
 ·have h3:=h2 z hz (fun a b p' q' hab ha hb=>hall a b p' q' (by omega) ha hb);have h4:=hall k j p q (by omega) hp hq;omega
theorem Cov.row{V:Int->Int->Int}{l:List Int}{k:Nat}{o:Int}(h:Cov V l k (k+1) o):Cov V l (k+1) 0 o:=
 ⟨h.1,fun a b p q hab=>h.2.1 a b p q (by omega),fun z hz hall=>h.2.2 z hz fun a b p q hab=>hall a b p q (by omega)⟩
theorem Cov.end_{V:Int->Int->Int}{l:List Int}{k:Nat}{o:Int}(h:Cov V l k 0 o)(hk:l.length<=k)(hs:∀p∈l,∀q∈l,V p q=V q p):o=valP V l:=by
 refine Int.le_antisymm (h.2.2 _ xZ5 fun a b p q _ ha hb=>xZl (lMg ha) (lMg hb)) (xXw h.1 fun p hp q hq=>?_);obtain⟨a,ha⟩:=List.mem_iff_getElem?.1 hp;obtain⟨b,hb⟩:=List.mem_iff_getElem?.1 hq;have hal:=(zQ1.1 ha).1;have hbl:=(zQ1.1 hb).1;rcases vVq a b with h1|h1
 ·rw[hs p hp q hq];exact h.2.1 b a q p (by omega) hb ha
 ·exact h.2.1 a b p q (by omega) ha hb
def sumN(l:List Nat)(f:Nat->Nat):Nat:=(l.map f).sum
theorem uXg{f g:Nat->Nat}:∀ {l:List Nat},(∀x∈l,f x<=g x)->sumN l f<=sumN l g
 | [],_=>Nat.le_refl _
 |x::l,h=>by
  have h1:=uXg (l:=l) (f:=f) (g:=g) (fun y hy=>h y (List.mem_cons_of_mem _ hy));have h2:=h x (vVp ..);simp only[sumN,List.map_cons,List.sum_cons] at *;omega
theorem vJo{f g:Nat->Nat}:∀ {l:List Nat},(∀x∈l,f x<=g x)->(∃x∈l,f x<g x)->sumN l f<sumN l g
 | [],_,h=>by obtain⟨x,hx,_⟩:=h;cases hx
 |x::l,h,hx=>by
  obtain⟨y,hy,hlt⟩:=hx;have h2:=h x (vVp ..);have h3:=uXg (l:=l) (f:=f) (g:=g) (fun y hy=>h y (List.mem_cons_of_mem _ hy));rcases yQ6.1 hy with e|e
  ·subst e;simp only[sumN,List.map_cons,List.sum_cons] at *;omega
  ·have h1:=vJo (l:=l) (f:=f) (g:=g) (fun y hy=>h y (List.mem_cons_of_mem _ hy)) ⟨y,e,hlt⟩;simp only[sumN,List.map_cons,List.sum_cons] at *;omega
def zWu(n:Nat)(V:Int->Int->Int):Nat:=sumN (List.range n) fun p=>sumN (List.range n) fun q=>(V (p:Int) (q:Int)).toNat
theorem yW1{n:Nat}{U V:Int->Int->Int}(h:∀p q,Rng n p->Rng n q->U p q<=V p q){p q:Int}(hp:Rng n p)(hq:Rng n q)(h0:0<=U p q)(hlt:U p q<V p q):zWu n U<zWu n V:=by
 unfold Rng at *;have hr:∀x∈List.range n,(0:Int)<=(x:Int)/\(x:Int)<(n:Int):=fun x hx=>by have:=yYq.1 hx;omega
 refine vJo (fun a ha=>uXg fun b hb=>?_) ⟨p.toNat,yYq.2 (by omega),vJo (fun b hb=>?_) ⟨q.toNat,yYq.2 (by omega),?_⟩⟩
 ·have:=h a b (hr a ha) (hr b hb);omega
 ·have e:((p.toNat:Nat):Int)=p:=by omega
  rw[e];have:=h p b hp (hr b hb);omega
 ·have e:((p.toNat:Nat):Int)=p:=by omega
  have e2:((q.toNat:Nat):Int)=q:=by omega
  rw[e,e2];omega
structure PAb(n:Nat)(st:List Int)(ops:List OpV)(V:Int->Int->Int):Prop where
 all:∀p q,Rng n p->Rng n q->InV (V p q)
 zero:∀p∈st,∀q∈st,V p q=0
 sym:∀p q,Rng n p->Rng n q->V p q=V q p
 great:∀U,PFix n st ops U->∀p q,Rng n p->Rng n q->U p q<=V p q
section
variable {n:Nat}{st:List Int}{ops:List OpV}{V:Int->Int->Int}
theorem yJ3{U:Int->Int->Int}(h:PFix n st ops U):PFix n st ops (fun p q=>U q p):=by
 refine⟨fun p q hp hq=>h.all q p hq hp,fun p hp q hq=>h.zero q hq p hp,fun o ho p q l hp hq ha=>?_⟩;have h1:=h.closed o ho q p l hq hp ha.symm;have h2:valP (fun p q=>U q p) l=valP U l:=Int.le_antisymm (xXw xZ5 fun p hp q hq=>xZl hq hp) (xXw xZ5 fun p hp q hq=>xZl (V:=fun p q=>U q p) hq hp);show U q p<=_;rw[h2];exact h1
theorem PAb.set_(h:PAb n st ops V){p q x:Int}(hp:Rng n p)(hq:Rng n q)(hx:InV x)(hb:∀U,PFix n st ops U->U p q<=x):PAb n st ops (yZe V p q x):=by
 by_cases hlt:x<V p q
 ·rw[zVc hlt];refine⟨fun a b ha hb=>?_,fun a ha b hbb=>?_,fun a b ha hb=>?_,fun U hU a b ha hb2=>?_⟩
  ·unfold vVr;split
   ·exact hx
   ·exact h.all a b ha hb
  ·unfold vVr;rw[if_neg]
   ·exact h.zero a ha b hbb
   ·have hx0:0<=x:=hx.1;rintro(⟨rfl,rfl⟩|⟨rfl,rfl⟩)
    ·have:=h.zero a ha b hbb;omega
    ·have:=h.zero b hbb a ha;omega
  ·unfold vVr
   by_cases e:(a=p/\b=q)\/(a=q/\b=p)
   ·rw[if_pos e,if_pos (by rcases e with e|e;exact .inr ⟨e.2,e.1⟩;exact .inl ⟨e.2,e.1⟩)]
   ·rw[if_neg e,if_neg (by rintro(k|k);exact e (.inr ⟨k.2,k.1⟩);exact e (.inl ⟨k.2,k.1⟩))];exact h.sym a b ha hb
  ·unfold vVr
   split
   ·rename_i e
    rcases e with⟨rfl,rfl⟩|⟨rfl,rfl⟩
    ·exact hb U hU
    ·exact hb _ (yJ3 hU)
   ·exact h.great U hU a b ha hb2
 ·rw[zVb hlt];exact h
theorem PAb.set_lt(h:PAb n st ops V){p q x:Int}(hp:Rng n p)(hq:Rng n q)(hx:InV x)(hlt:x<V p q):zWu n (yZe V p q x)<zWu n V:=by
 rw[zVc hlt];have hs:=h.sym p q hp hq;refine yW1 (p:=p) (q:=q) (fun a b ha hb=>?_) hp hq ?_ ?_
 ·unfold vVr;split
  ·rename_i e
   rcases e with⟨rfl,rfl⟩|⟨rfl,rfl⟩<;>omega
  ·exact Int.le_refl _
 ·unfold vVr;rw[if_pos (.inl ⟨rfl,rfl⟩)];exact hx.1
 ·unfold vVr;rw[if_pos (.inl ⟨rfl,rfl⟩)];exact hlt
structure Use(n:Nat)(st:List Int)(ops:List OpV)(V0 V:Int->Int->Int)(b:Bool)(P:Prop):Prop where
 ab:PAb n st ops V
 down:b=true->zWu n V<zWu n V0
 keep:b=false->V=V0/\P
theorem Use.set_{V0:Int->Int->Int}{b:Bool}{P P':Prop}(h:Use n st ops V0 V b P){p q x:Int}(hp:Rng n p)(hq:Rng n q)(hx:InV x)(hb:∀U,PFix n st ops U->U p q<=x)(hP:V=V0->P->V0 p q<=x->P') :
  Use n st ops V0 (yZe V p q x) (decide (x<V p q)||b) P':=by
 refine⟨h.ab.set_ hp hq hx hb,fun hc=>?_,fun hc=>?_⟩
 ·by_cases hlt:x<V p q
  ·have h1:=h.ab.set_lt hp hq hx hlt
   cases b with
   |true=>have:=h.down rfl;omega
   |false=>rw[(h.keep rfl).1] at h1 ⊢;exact h1
  ·rw[zVb hlt];refine h.down ?_;simpa[hlt] using hc
 ·simp only[Bool.or_eq_false_iff,decide_eq_false_iff_not] at hc;obtain⟨h1,h2⟩:=h.keep hc.2;rw[zVb hc.1];exact⟨h1,hP h1 h2 (by rw[<- h1];omega)⟩
theorem Use.imp{V0:Int->Int->Int}{b:Bool}{P P':Prop}(h:Use n st ops V0 V b P)(hP:V=V0->P->P'):Use n st ops V0 V b P':=⟨h.ab,h.down,fun hb=>⟨(h.keep hb).1,hP (h.keep hb).1 (h.keep hb).2⟩⟩
end
theorem yW2(A:Option Addr)(n c k:Nat)(hk:k<=c)(hc2:c<=9223372036854775807) :
  ∀(i:Int),i=(k:Int)->∀(w:World),(Instr.slice 22 (.slice A n c) none (some (.int .i64 i)) none).run prog w=.ok (.slice A k c) w:=by
 rintro i rfl w;have h0:(0:Int)<=k:=by omega
 have h1:(k:Int)<=c:=by omega
 simp[go_sem,underlying22,h0,h1]
 try omega
theorem xWi(w:World)(g n c:Nat)(bs:List Nat)(V:Int->Int->Int)(hT:Tbl w g bs n V)(A:Option Addr)(l:List Int)(hI:Ints w A l)(hc:l.length<=c)(hc2:c<=9223372036854775807)(hn:n<=1000)(hl:∀x∈l,0<=x/\x<(n:Int))(hs:∀p∈l,∀q∈l,V p q=V q p) :
  Calls prog 37 #[.slice (some ⟨g,0,none⟩) n n,.slice A l.length c] w fun e w'=>e=.returned (.int .i64 (valP V l))/\w=w':=by
 have HS:=lHd hs;have HX:=lHd hl;have HC:∀(k:Nat),k<l.length->∀(i:Int),i=(k:Int)+1->∀(w:World),(Instr.slice 22 (.slice A l.length c) none (some (.int .i64 i)) none).run prog w=.ok (.slice A (k+1) c) w:=fun k hk i hi w=>yW2 A l.length c (k+1) (by omega) hc2 i (by omega) w
 clear hs hl;go_enter func37,ntmps37;go_wp2
 go_loop [5,12] (fun a i=>∃(k:Nat) (o:Int),k<=l.length/\i=.int .i64 k/\a=.int .i64 o/\Hid (Cov V l k 0 o)) (fun _ i=>l.length-(intOf i).toNat)
 case atStart=>exact⟨0,0,zKk _,rfl,rfl,lHd (Cov.start V l)⟩
 case round=>
  obtain⟨k,o,hk,rfl,rfl,hC⟩:=hrel
  by_cases hlt:k<l.length
  ·obtain⟨ad,x,rfl,hx,hcx⟩:=hI.at_ hlt;obtain⟨x0,x1⟩:=HX.out x (lMg hx.out);have hcut:=HC k hlt;go_wp2
   go_loop [5,22] (fun a i=>∃(j:Nat) (o:Int),j<=k+1/\i=.int .i64 j/\a=.int .i64 o/\Hid (Cov V l k j o)) (fun _ i=>k+1-(intOf i).toNat)
   case atStart=>exact⟨0,o,by omega,rfl,rfl,hC⟩
   case round=>
    obtain⟨j,o1,hj,rfl,rfl,hC1⟩:=hrel
    by_cases hjl:j<k+1
    ·obtain⟨ad',y,e,hy,hcy⟩:=hI.at_ (k:=j) (by omega);injection e with e
     subst e;obtain⟨y0,y1⟩:=HX.out y (lMg hy.out);obtain⟨b,hb,hg,hcv,hfv⟩:=hT.at_ ⟨x0,x1⟩ ⟨y0,y1⟩;go_wp2
     go_round
     case rel=>exact⟨j+1,_,by omega,by go_num,rfl,lHd (hC1.out.step hx.out hy.out (by first|rfl|(simp only[Int.max_def];split<;>split<;>omega)))⟩
     case measure=>simp[intOf];omega
    ·obtain rfl:j=k+1:=by omega
     go_wp2
     go_round
     case rel=>exact⟨k+1,o1,by omega,by go_num,rfl,lHd hC1.out.row⟩
     case measure=>simp[intOf];omega
  ·have HE:=lHd (hC.out.end_ (by omega) HS.out);go_wp2;go_ret;exact⟨xVq HE.out,rfl⟩
theorem Wr.drew{bs:List Nat}{a w:World}(h:Wr bs a w):Wr bs a w.drew:=⟨h.os,h.tape,h.output,h.size,h.block⟩
theorem Tbl.drew{w:World}{g n:Nat}{bs:List Nat}{V:Int->Int->Int}(h:Tbl w g bs n V):Tbl w.drew g bs n V:=⟨h.arr,h.len,h.rows,h.diff,h.nodup⟩
theorem yW3(w:World)(g n:Nat)(bs:List Nat)(V:Int->Int->Int)(hT:Tbl w g bs n V)(hn:n<=1000)(p q x:Int)(hp:0<=p/\p<(n:Int))(hq:0<=q/\q<(n:Int))(hx:¬x<V p q) :
  Calls prog 136 #[.slice (some ⟨g,0,none⟩) n n,.int .i64 p,.int .i64 q,.int .i64 x] w fun e w'=>e=.returned (.bool false)/\Tbl w' g bs n (yZe V p q x)/\Wr bs w w':=by
 obtain⟨p0,p1⟩:=hp;obtain⟨q0,q1⟩:=hq;obtain⟨b,hb,hg,hcv,hfv⟩:=hT.at_ ⟨p0,p1⟩ ⟨q0,q1⟩;have HE:=lHd (zVb hx);have hge:x>=V p q:=by omega
 go_enter func136,ntmps136;go_wp2;go_ret;exact⟨rfl,by rw[HE.out];exact hT,Wr.refl _ _⟩
theorem yV3(w:World)(g n:Nat)(bs:List Nat)(V:Int->Int->Int)(hT:Tbl w g bs n V)(hn:n<=1000)(p q x:Int)(hp:0<=p/\p<(n:Int))(hq:0<=q/\q<(n:Int))(hx:x<V p q) :
  Calls prog 136 #[.slice (some ⟨g,0,none⟩) n n,.int .i64 p,.int .i64 q,.int .i64 x] w fun e w'=>e=.returned (.bool true)/\Tbl w' g bs n (yZe V p q x)/\Wr bs w w':=by
 obtain⟨p0,p1⟩:=hp;obtain⟨q0,q1⟩:=hq;obtain⟨b,hb,hg,hcv,hfv⟩:=hT.at_ ⟨p0,p1⟩ ⟨q0,q1⟩;obtain⟨b',hb',hg',hcv',hfv'⟩:=hT.at_ ⟨q0,q1⟩ ⟨p0,p1⟩;have HE:=lHd (zVc hx);have hge:¬x>=V p q:=by omega
 have hm:=lHd (lMg hb.out);have hm':=lHd (lMg hb'.out);have T1:=hT.store p0 q0 hb.out x;have T2:=hT.store q0 p0 hb'.out x;obtain⟨b2,e2,-,hcA,hfA⟩:=T1.at_ ⟨q0,q1⟩ ⟨p0,p1⟩;obtain⟨b3,e3,-,hcB,hfB⟩:=T2.at_ ⟨p0,p1⟩ ⟨q0,q1⟩;obtain rfl:b2=b':=by have:=e2.out;rw[hb'.out] at this;injection this with this;exact this.symm
 obtain rfl:b3=b:=by have:=e3.out;rw[hb.out] at this;injection this with this;exact this.symm
 have HT1:=lHd (show Tbl ((w.setCell ⟨b3,q.toNat,none⟩ (.int .i64 x)).setCell ⟨b2,p.toNat,none⟩ (.int .i64 x)) g bs n (yZe V p q x) by rw[HE.out,<- vZe];exact T1.store q0 p0 hb'.out x);have HT2:=lHd (show Tbl ((w.setCell ⟨b2,p.toNat,none⟩ (.int .i64 x)).setCell ⟨b3,q.toNat,none⟩ (.int .i64 x)) g bs n (yZe V p q x) by rw[HE.out,<- yJ2];exact T2.store p0 q0 hb.out x);have HW1:=lHd (show Wr bs w (((w.setCell ⟨b3,q.toNat,none⟩ (.int .i64 x)).setCell ⟨b2,p.toNat,none⟩ (.int .i64 x)).drew) from(((Wr.refl bs w).set_ (p:=⟨b3,q.toNat,none⟩) hm.out _).set_ (p:=⟨b2,p.toNat,none⟩) hm'.out _).drew);have HW2:=lHd (show Wr bs w (((w.setCell ⟨b2,p.toNat,none⟩ (.int .i64 x)).setCell ⟨b3,q.toNat,none⟩ (.int .i64 x)).drew) from(((Wr.refl bs w).set_ (p:=⟨b2,p.toNat,none⟩) hm'.out _).set_ (p:=⟨b3,q.toNat,none⟩) hm.out _).drew);clear T1 T2;go_enter func136,ntmps136;go_wp2
 go_region
 all_goals (go_wp2;go_ret;(first|exact⟨rfl,HT1.out.drew,HW1.out⟩|exact⟨rfl,HT2.out.drew,HW2.out⟩))
theorem vZf(w:World)(g n:Nat)(bs:List Nat)(V:Int->Int->Int)(hT:Tbl w g bs n V)(hn:n<=1000)(p q x:Int)(hp:0<=p/\p<(n:Int))(hq:0<=q/\q<(n:Int))(v:Bool)(hv:decide (x<V p q)=v) :
  Calls prog 136 #[.slice (some ⟨g,0,none⟩) n n,.int .i64 p,.int .i64 q,.int .i64 x] w fun e w'=>e=.returned (.bool v)/\Tbl w' g bs n (yZe V p q x)/\Wr bs w w':=by
 cases v with
 |true=>exact yV3 w g n bs V hT hn p q x hp hq (of_decide_eq_true hv)
 |false=>exact yW3 w g n bs V hT hn p q x hp hq (of_decide_eq_false hv)
theorem xY1{w:World}{k:Nat}{q:Int}(h:w.cell? ⟨k,0,none⟩=some (.int .i64 q)):Ints w (some ⟨k,0,none⟩) [q]:=fun j u hu=>by
 cases j with
 |zero=>simp at hu;subst hu;exact⟨_,rfl,h⟩
 |succ j=>simp at hu
theorem xYs(A B:Option Addr)(c d:Nat)(s:List Int)(q:Int)(w:World)(v:Bool)(hI:Ints w A s)(hJ:Ints w B [q])(hl:s.length<=9223372036854775807)(hs:s.Pairwise (· < ·))(hv:decide (q∈s)=v) :
  Calls prog 89 #[.slice A s.length c,.slice B 1 d] w fun e w'=>e=.returned (.bool v)/\w=w':=
 vJ3 A B c d s [q] w v hI hJ hl (by simp) hs (by simp) (by rw[<- hv];simp)
theorem yJ4(w:World)(A B:Option Addr)(c d:Nat)(l k:List Int)(hA:Ints w A l)(hB:Ints w B k)(hl:l.length<=100000000000)(hk:k.length<=100000000000)(hnil:B=none->d=0) :
  Calls prog 137 #[.slice A l.length c,.slice B k.length d] w fun e w'=>∃v,e=.returned v/\OwnI w.heap.size w' v (zQ9 l k [])/\Below w.heap.size w w':=by
 go_enter func137,ntmps137
 go_wp2_with fail
 refine(vYp _ A B none c d 0 l k [] hA hB (Ints.nil _ _) hl hk (by simp) (by simp) hnil).mono ?_;rintro e w9 ⟨v9,rfl,ho9,hB9⟩;go_wp2;go_ret;exact⟨_,rfl,ho9,hB9⟩
theorem vJp{l k:List Int}{n:Nat}(hl:∀x∈l,0<=x/\x<(n:Int))(hk:∀x∈k,0<=x/\x<(n:Int)):∀x∈zQ9 l k [],0<=x/\x<(n:Int):=fun x hx=>by
 rcases zJs.1 hx with h|h
 ·exact hk x h
 ·exact hl x h.1
section
variable {n:Nat}{st:List Int}{ops:List OpV}{V U:Int->Int->Int}{o:OpV}{p q:Int}
theorem xVb(hU:PFix n st ops U)(h:PAb n st ops V){l:List Int}(hl:∀x∈l,Rng n x){c:Int}(hc:InV c):xXf (valP U l) c<=xXf (valP V l) c:=
 xWq (xVg hU.all hl) hc (xVg h.all hl) hc (yXm fun a ha b hb=>h.great U hU a b (hl a ha) (hl b hb)) (Int.le_refl _)
theorem yV4(h:PAb n st ops V)(hops:zZ5 n ops)(ho:o∈ops)(hp:p∈o.add)(hq:q∈o.add):∀U,PFix n st ops U->U p q<=xXf (valP V o.pre) o.cost:=fun U hU=>by
 have h1:=hops o ho;exact Int.le_trans (hU.closed o ho p q o.pre (h1.2.1 p hp) (h1.2.1 q hq) (.both hp hq)) (xVb hU h h1.1 (xYw hops ho))
theorem yW4(hp:p∈o.add)(hq:q∉o.add)(hd:q∉o.del):Arc o p q (zQ9 o.pre [q] []):=.left hp hq hd fun x=>by
 rw[zJs];simp
theorem yV5(h:PAb n st ops V)(hops:zZ5 n ops)(ho:o∈ops)(hp:p∈o.add)(hr:Rng n q)(hq:q∉o.add)(hd:q∉o.del):∀U,PFix n st ops U->U p q<=xXf (valP V (zQ9 o.pre [q] [])) o.cost:=fun U hU=>by
 have h1:=hops o ho;have ha:=yW4 hp hq hd;exact Int.le_trans (hU.closed o ho p q _ (h1.2.1 p hp) hr ha) (xVb hU h (ha.rng h1.1 (h1.2.1 p hp) hr) (xYw hops ho))
def zJf(n:Nat)(V:Int->Int->Int)(o:OpV)(p:Int):Prop:=(∀q∈o.add,V p q<=xXf (valP V o.pre) o.cost)/\∀q,Rng n q->q∉o.add->q∉o.del->V p q<=xXf (valP V (zQ9 o.pre [q] [])) o.cost
def xZn(n:Nat)(V:Int->Int->Int)(o:OpV):Prop:=∀p q l,Rng n p->Rng n q->Arc o p q l->V p q<=xXf (valP V l) o.cost
theorem vJq(h:PAb n st ops V)(hd:∀p∈o.add,zJf n V o p):xZn n V o:=fun p q l hp hq ha=>by
 cases ha with
 |both h1 h2=>exact(hd p h1).1 q h2
 |left h1 h2 h3 h4=>
  rw[zQa (V:=V) (m:=zQ9 o.pre [q] []) (fun x=>by rw[h4 x,zJs];simp)];exact(hd p h1).2 q hq h2 h3
 |right h1 h2 h3 h4=>
  rw[zQa (V:=V) (m:=zQ9 o.pre [p] []) (fun x=>by rw[h4 x,zJs];simp),h.sym p q hp hq];exact(hd q h1).2 p hp h2 h3
theorem zJ9{P:Int->Prop}{l:List Int}{k:Nat}(hk:¬k<l.length)(h:∀x∈l.take k,P x):∀x∈l,P x:=by rwa [zQd (by omega)] at h
theorem zKm{P:Int->Prop}{l:List Int}{k:Nat}{x:Int}(hx:l[k]? = some x)(h:∀y∈l.take k,P y)(h1:P x):∀y∈l.take (k+1),P y:=fun y hy=>by
 rw[vXd,hx] at hy;rcases vJn.1 hy with e|e
 ·exact h y e
 ·have:y=x:=by simpa using e
  rw[this];exact h1
end
theorem yW5(wz w:World)(hz:Below wz.heap.size wz w)(o:OpV)(A0 A1 A2:Option Addr)(c0 c1 c2:Nat)(hm:OpMem wz A0 A1 A2 o)(hnp:xK4 A0 o.pre c0)(g n:Nat)(bs:List Nat)(V:Int->Int->Int)(hT:Tbl w g bs n V)(hbs:∀b∈bs,wz.heap.size<=b)(hn:n<=1000)
  (st:List Int) (ops:List OpV) (hops:zZ5 n ops) (ho:o∈ops) (hs0:SetP o.pre (n:Int)) (hs1:SetP o.add (n:Int)) (hs2:SetP o.del (n:Int)) (hV:PAb n st ops V) :
  Calls prog 90 #[.slice (some ⟨g,0,none⟩) n n,.agg #[.slice A0 o.pre.length c0,.slice A1 o.add.length c1,.slice A2 o.del.length c2,.int .i64 o.cost]] w fun e w'=>∃b V',e=.returned (.bool b)/\Tbl w' g bs n V'/\Wr bs w w'/\Use n st ops V V' b (xZn n V o):=by
 have HC0:=lHd (xYw hops ho);have HOP:=lHd (hops o ho);have hKb:=hT.lt.2;have hc02:=hnp.2.2;have hlpre:o.pre.length<=100000000000:=by have:=SetP.length hs0 (by omega);omega
 have hladd:o.add.length<=9223372036854775807:=by have:=SetP.length hs1 (by omega);omega
 have hldel:o.del.length<=9223372036854775807:=by have:=SetP.length hs2 (by omega);omega
 have HS0:=lHd hs0;have HS1:=lHd hs1;have HS2:=lHd hs2;have HSYM:=lHd (fun p hp q hq=>hV.sym p q (HOP.out.1 p hp) (HOP.out.1 q hq):∀p∈o.pre,∀q∈o.pre,V p q=V q p);have HVI:=lHd (xVg hV.all HOP.out.1);have HU0:Hid (Use n st ops V V false (∀p∈o.add.take 0,zJf n V o p)):=lHd ⟨hV,(fun h=>by cases h),fun _=>⟨rfl,by simp⟩⟩;have HV:=lHd hV;obtain⟨cst,hcst⟩:∃cst,Hid (xXf (valP V o.pre) o.cost=cst):=⟨_,lHd rfl⟩;have HCI:=lHd (show InV cst by rw[<- hcst.out];exact xZs HVI.out HC0.out);have HB2:=lHd (fun p q (hp:p∈o.add) (hq:q∈o.add)=>show ∀U,PFix n st ops U->U p q<=cst by rw[<- hcst.out];exact yV4 hV hops ho hp hq);have HOPS:=lHd hops;have HOO:=lHd ho;clear hs0 hs1 hs2 hV hops ho;go_enter func90,ntmps90
 go_wp2_with fail
 go_quiet (first|(go_at_call 37;exact Calls.quiet_of_same ((xWi _ g n c0 bs V (hT.below bch) A0 o.pre (hm.pre.below bch) hnp.2.1 hc02 hn HOP.out.1 HSYM.out).mono fun _ _ h=>⟨h.1,h.2.symm⟩))|(go_at_call 132;exact Calls.quiet_of_same ((zQz _ _ _ HVI.out HC0.out).mono fun _ _ h=>⟨h.1,h.2.symm⟩)))
 rw[hcst.out]
 go_wp2_with fail
 go_loopw [5,23] (fun ch i wr=>∃(k:Nat) (Vc:Int->Int->Int) (bc:Bool),k<=o.add.length/\i=.int .i64 k/\ch=.bool bc/\Tbl wr g bs n Vc/\Wr bs w wr/\Cls wr [(w.heap.size,0,.slice A0 o.pre.length c0),(w.heap.size,1,.slice A1 o.add.length c1),(w.heap.size,2,.slice A2 o.del.length c2),(w.heap.size,3,.int .i64 o.cost)]/\Hid (Use n st ops V Vc bc (∀p∈o.add.take k,zJf n V o p))) (fun _ i _=>o.add.length-(intOf i).toNat)
 case atStart=>exact⟨0,V,false,zKk _,rfl,rfl,hT.below bch,Wr.of bch,(by simp[Cls,go_sem]),HU0⟩
 case round=>
  obtain⟨k,Vc,bc,hk,rfl,rfl,hTr,hWr,hCr,hU⟩:=hrel;obtain⟨w1,rfl⟩:∃wo:World,wo=wr:=⟨_,rfl⟩;have hBzr:=hz.trans (hWr.below hz.size hbs);have Fr:=hCr.f;have yr:=hCr.blk (b:=w.heap.size) (k:=3) (v:=.int .i64 o.cost) (by simp)
  by_cases hlt:k<o.add.length
  ·obtain⟨ad,p,hA1,hp,hpc⟩:=(hm.add.below hBzr).at_ hlt;have HP:=lHd (lMg hp.out);obtain⟨p0,p1⟩:=HOP.out.2.1 p HP.out;subst hA1;have HU2:Hid (Use n st ops V Vc bc ((∀p∈o.add.take k,zJf n V o p)/\∀q∈o.add.take 0,V p q<=cst)):=lHd (hU.out.imp fun _ h=>⟨h,by simp⟩)
   go_wp2_with fail
   go_loopw [5,30] (fun ch i wr=>∃(j:Nat) (Vc:Int->Int->Int) (bc:Bool),j<=o.add.length/\i=.int .i64 j/\ch=.bool bc/\Tbl wr g bs n Vc/\Wr bs w wr/\Cls wr [(w.heap.size,0,.slice A0 o.pre.length c0),(w.heap.size,1,.slice (some ad) o.add.length c1),(w.heap.size,2,.slice A2 o.del.length c2),(w.heap.size,3,.int .i64 o.cost)]/\Hid (Use n st ops V Vc bc ((∀p∈o.add.take k,zJf n V o p)/\∀q∈o.add.take j,V p q<=cst))) (fun _ i _=>o.add.length-(intOf i).toNat)
   case atStart=>exact⟨0,Vc,bc,zKk _,rfl,rfl,hTr.below bch,hWr.trans (Wr.of bch),(Cls.below (w:=w1) bch hCr),HU2⟩
   case round=>
    obtain⟨j,Vd,bd,hj,rfl,rfl,hTs,hWs,hCs,hU2⟩:=hrel;obtain⟨w2,rfl⟩:∃wo:World,wo=wr:=⟨_,rfl⟩;have hBzs:=hz.trans (hWs.below hz.size hbs);have ys:=hCs.blk (b:=w.heap.size) (k:=3) (v:=.int .i64 o.cost) (by simp)
    by_cases hjl:j<o.add.length
    ·obtain⟨ad',q,e,hq,hqc⟩:=(hm.add.below hBzs).at_ hjl;injection e with e
     subst e;have HQ:=lHd (lMg hq.out);obtain⟨q0,q1⟩:=HOP.out.2.1 q HQ.out;have HN:=lHd (hU2.out.set_ (p:=p) (q:=q) (x:=cst) (P':=(∀p∈o.add.take k,zJf n V o p)/\∀q∈o.add.take (j+1),V p q<=cst) ⟨p0,p1⟩ ⟨q0,q1⟩ HCI.out (HB2.out p q HP.out HQ.out) (fun _ h hle=>⟨h.1,zKm hq.out h.2 hle⟩))
     cases hdd:decide (cst<Vd p q)
     all_goals
      have HD:=lHd hdd;rw[hdd] at HN;clear hdd
      go_wp2_with fail
      refine(vZf _ g n bs Vd (hTs.below bch) hn p q cst ⟨p0,p1⟩ ⟨q0,q1⟩ _ HD.out).mono ?_;rintro e w3 ⟨rfl,hT3,hW3⟩;have hC3:=Cls.wr hW3 hKb (l:=[(w.heap.size,0,.slice A0 o.pre.length c0),(w.heap.size,1,.slice (some ad) o.add.length c1),(w.heap.size,2,.slice A2 o.del.length c2),(w.heap.size,3,.int .i64 o.cost)]) (Cls.below (w:=w2) bch hCs) (by simp);have hW3':=(hWs.trans (Wr.of bch)).trans hW3;go_wp2
      go_roundw
      case rel=>exact⟨j+1,_,_,by omega,by go_num,rfl,hT3.below bch,hW3'.trans (Wr.of bch),(Cls.below (w:=w3) bch hC3),HN⟩
      case measure=>simp[intOf];omega
    ·have HU3:Hid (Use n st ops V Vd bd ((∀p∈o.add.take k,zJf n V o p)/\(∀q∈o.add,V p q<=cst)/\∀q:Nat,q<0->(q:Int)∉o.add->(q:Int)∉o.del->V p (q:Int)<=xXf (valP V (zQ9 o.pre [(q:Int)] [])) o.cost)):=lHd (hU2.out.imp fun _ h=>⟨h.1,zJ9 hjl h.2,fun q h=>by omega⟩)
     go_wp2_with fail
     go_loopw [5,45] (fun ch i wr=>∃(j:Nat) (Vc:Int->Int->Int) (bc:Bool),j<=n/\i=.int .i64 j/\ch=.bool bc/\Tbl wr g bs n Vc/\Wr bs w wr/\Cls wr [(w.heap.size,0,.slice A0 o.pre.length c0),(w.heap.size,1,.slice (some ad) o.add.length c1),(w.heap.size,2,.slice A2 o.del.length c2),(w.heap.size,3,.int .i64 o.cost)]/\Hid (Use n st ops V Vc bc ((∀p∈o.add.take k,zJf n V o p)/\(∀q∈o.add,V p q<=cst)/\∀q:Nat,q<j->(q:Int)∉o.add->(q:Int)∉o.del->V p (q:Int)<=xXf (valP V (zQ9 o.pre [(q:Int)] [])) o.cost))) (fun _ i _=>n-(intOf i).toNat)
     case atStart=>exact⟨0,Vd,bd,zKk _,rfl,rfl,hTs.below bch,hWs.trans (Wr.of bch),(Cls.below (w:=w2) bch hCs),HU3⟩
     case round=>
      obtain⟨q,Ve,be,hqn,rfl,rfl,hTt,hWt,hCt,hU3⟩:=hrel;obtain⟨w4,rfl⟩:∃wo:World,wo=wr:=⟨_,rfl⟩;have hBzt:=hz.trans (hWt.below hz.size hbs);have Ft:=hCt.f;have yt:=hCt.blk (b:=w.heap.size) (k:=3) (v:=.int .i64 o.cost) (by simp);have ytp:w.heap.size<w4.heap.size+1:=(by omega);have ytq:w.heap.size<w4.heap.size+1+1:=(by omega)
      by_cases hql:q<n
      ·have HQR:=lHd (show Rng n (q:Int) from⟨by omega,by omega⟩)
       by_cases hqa:(q:Int)∈o.add
       ·have HD:=lHd (zWo hqa);have HN:Hid (Use n st ops V Ve be ((∀p∈o.add.take k,zJf n V o p)/\(∀q∈o.add,V p q<=cst)/\∀i:Nat,i<q+1->(i:Int)∉o.add->(i:Int)∉o.del->V p (i:Int)<=xXf (valP V (zQ9 o.pre [(i:Int)] [])) o.cost)):=lHd (hU3.out.imp fun _ h=>⟨h.1,h.2.1,fun i hi h1 h2=>by
         rcases vVq i q with h3|h3
         ·exact h.2.2 i h3 h1 h2
         ·obtain rfl:i=q:=by omega
          exact absurd hqa h1⟩)
        clear hqa
        go_wp2_with fail
        refine(xYs _ _ _ _ o.add q _ true (hm.add.below bch) (xY1 (by simp[go_sem])) hladd (SetP.pairwise HS1.out) HD.out).mono ?_;rintro e w9 ⟨rfl,rfl⟩;go_wp2
        go_roundw
        case rel=>exact⟨q+1,_,_,by omega,by go_num,rfl,hTt.below bch,hWt.trans (Wr.of bch),(Cls.below (w:=w4) bch hCt),HN⟩
        case measure=>simp[intOf];omega
       ·have HD:=lHd (zVa hqa)
        by_cases hqd:(q:Int)∈o.del
        ·have HD2:=lHd (zWo hqd);have HN:Hid (Use n st ops V Ve be ((∀p∈o.add.take k,zJf n V o p)/\(∀q∈o.add,V p q<=cst)/\∀i:Nat,i<q+1->(i:Int)∉o.add->(i:Int)∉o.del->V p (i:Int)<=xXf (valP V (zQ9 o.pre [(i:Int)] [])) o.cost)):=lHd (hU3.out.imp fun _ h=>⟨h.1,h.2.1,fun i hi h1 h2=>by
          rcases vVq i q with h3|h3
          ·exact h.2.2 i h3 h1 h2
          ·obtain rfl:i=q:=by omega
           exact absurd hqd h2⟩)
         clear hqa hqd
         go_wp2_with fail
         refine(xYs _ _ _ _ o.add q _ false (hm.add.below bch) (xY1 (by simp[go_sem])) hladd (SetP.pairwise HS1.out) HD.out).mono ?_;rintro e w9 ⟨rfl,rfl⟩
         go_wp2_with fail
         refine(xYs _ _ _ _ o.del q _ true (hm.del.below bch) (xY1 (by simp[go_sem])) hldel (SetP.pairwise HS2.out) HD2.out).mono ?_;rintro e w9 ⟨rfl,rfl⟩;go_wp2
         go_roundw
         case rel=>exact⟨q+1,_,_,by omega,by go_num,rfl,hTt.below bch,hWt.trans (Wr.of bch),(Cls.below (w:=w4) bch hCt),HN⟩
         case measure=>simp[intOf];omega
        ·have HD2:=lHd (zVa hqd);have HB3:=lHd (yV5 hU3.out.ab HOPS.out HOO.out HP.out HQR.out hqa hqd);have HL:=lHd (vJp (l:=o.pre) (k:=[(q:Int)]) HS0.out.1 (fun x hx=>by rw[yY9.1 hx];exact HQR.out));have HSY:=lHd (fun p hp q hq=>hU3.out.ab.sym p q (HL.out p hp) (HL.out q hq):∀a∈zQ9 o.pre [(q:Int)] [],∀b∈zQ9 o.pre [(q:Int)] [],Ve a b=Ve b a);have HVI3:=lHd (xVg hU3.out.ab.all HL.out);obtain⟨val,hval⟩:∃val,Hid (xXf (valP Ve (zQ9 o.pre [(q:Int)] [])) o.cost=val):=⟨_,lHd rfl⟩;have HXI:=lHd (show InV val by rw[<- hval.out];exact xZs HVI3.out HC0.out);have HN:=lHd (hU3.out.set_ (p:=p) (q:=(q:Int)) (x:=val) (P':=(∀p∈o.add.take k,zJf n V o p)/\(∀q∈o.add,V p q<=cst)/\∀i:Nat,i<q+1->(i:Int)∉o.add->(i:Int)∉o.del->V p (i:Int)<=xXf (valP V (zQ9 o.pre [(i:Int)] [])) o.cost) ⟨p0,p1⟩ HQR.out HXI.out (by rw[<- hval.out];exact HB3.out) (fun he h hle=>⟨h.1,h.2.1,fun i hi h1 h2=>by
          rcases vVq i q with h3|h3
          ·exact h.2.2 i h3 h1 h2
          ·obtain rfl:i=q:=by omega
           rw[<- he] at hle ⊢;rw[hval.out];exact hle⟩))
         clear hqa hqd
         go_wp2_with fail
         refine(xYs _ _ _ _ o.add q _ false (hm.add.below bch) (xY1 (by simp[go_sem])) hladd (SetP.pairwise HS1.out) HD.out).mono ?_;rintro e w9 ⟨rfl,rfl⟩
         go_wp2_with fail
         refine(xYs _ _ _ _ o.del q _ false (hm.del.below bch) (xY1 (by simp[go_sem])) hldel (SetP.pairwise HS2.out) HD2.out).mono ?_;rintro e w9 ⟨rfl,rfl⟩
         go_upto_region 15 with(fail)
         go_cut [12] (fun s12 wx=>s12=.int .i64 val/\Tbl wx g bs n Ve/\Wr bs w wx/\Cls wx [(w.heap.size,0,.slice A0 o.pre.length c0),(w.heap.size,1,.slice (some ad) o.add.length c1),(w.heap.size,2,.slice A2 o.del.length c2),(w.heap.size,3,.int .i64 o.cost)])
         case first=>
          have HE:=Below.refl w4.heap.size w4;have hU3':=hval
          go_region_held3 (fun W=>W.cell? ⟨w.heap.size,0,none⟩=some (.slice A0 o.pre.length c0)/\W.cell? ⟨w.heap.size,3,none⟩=some (.int .i64 o.cost)) (first|exact hK|simp[go_sem,Ft,yt,ytp,ytq]|go_keep) (first|(go_at_call 137;refine(yJ4 _ _ _ _ _ o.pre [(q:Int)] (hm.pre.below bch) (xY1 (by simp[go_sem])) hlpre (by simp) (fun h=>by cases h)).mono ?_;rintro e w5 ⟨v5,rfl,ho5,hB5⟩;have HE':=xJ3 w4 hB5 bch;clear HE;have HE:=HE';clear HE';have ds5:=HE.size;have C5:=Cls.below (w:=w4) HE hCt;have F5:=C5;simp only[Cls,and_true] at F5;have hK:w5.cell? ⟨w.heap.size,0,none⟩=some (.slice A0 o.pre.length c0)/\w5.cell? ⟨w.heap.size,3,none⟩=some (.int .i64 o.cost):=(by simp[F5]);clear hB5;obtain⟨A5,c5,rfl,-,hI5⟩:=ho5.form;have hcap:=OwnI.cap_le ho5;have hcam:=OwnI.cap_max ho5)|(go_at_call 37;refine(xWi _ g n c5 bs Ve (hTt.below bch) A5 (zQ9 o.pre [(q:Int)] []) (hI5.below bch) hcap hcam hn HL.out HSY.out).mono ?_;rintro e wx ⟨rfl,hW⟩;rw[<- hW];clear hW wx)|(go_at_call 132;refine(zQz _ _ _ HVI3.out HC0.out).mono ?_;rintro e wx ⟨rfl,hW⟩;rw[<- hW];clear hW wx))
          all_goals
           go_wp2_with fail
           go_meet
           exact⟨by rw[hval.out],hTt.below bch,hWt.trans (Wr.of bch),(Cls.below (w:=w4) bch hCt)⟩
         case rest=>
          obtain⟨w6,rfl⟩:∃wo:World,wo=wc:=⟨_,rfl⟩;obtain⟨rfl,hT6,hW6,hC6⟩:=hcut
          cases hdd:decide (val<Ve p (q:Int))
          all_goals
           have HDD:=lHd hdd;rw[hdd] at HN;clear hdd
           go_wp2_with fail
           refine(vZf _ g n bs Ve (hT6.below bch) hn p (q:Int) val ⟨p0,p1⟩ HQR.out _ HDD.out).mono ?_;rintro e w7 ⟨rfl,hT7,hW7⟩;have hC7:=Cls.wr hW7 hKb (l:=[(w.heap.size,0,.slice A0 o.pre.length c0),(w.heap.size,1,.slice (some ad) o.add.length c1),(w.heap.size,2,.slice A2 o.del.length c2),(w.heap.size,3,.int .i64 o.cost)]) (Cls.below (w:=w6) bch hC6) (by simp);have hW7':=(hW6.trans (Wr.of bch)).trans hW7;go_wp2
           go_roundw
           case rel=>exact⟨q+1,_,_,by omega,by go_num,rfl,hT7.below bch,hW7'.trans (Wr.of bch),(Cls.below (w:=w7) bch hC7),HN⟩
           case measure=>simp[intOf];omega
      ·have HN:Hid (Use n st ops V Ve be (∀p∈o.add.take (k+1),zJf n V o p)):=lHd (hU3.out.imp fun _ h=>zKm hp.out h.1 ⟨fun q hq=>by rw[hcst.out];exact h.2.1 q hq,fun i hi h1 h2=>by
        have h3:=h.2.2 i.toNat (by have:=hi.1;have:=hi.2;omega);have e:((i.toNat:Nat):Int)=i:=by have:=hi.1;omega
        rw[e] at h3;exact h3 h1 h2⟩)
       go_wp2
       go_roundw
       case rel=>exact⟨k+1,_,_,by omega,by go_num,rfl,hTt.below bch,hWt.trans (Wr.of bch),(Cls.below (w:=w4) bch hCt),HN⟩
       case measure=>simp[intOf];omega
  ·have HF:=lHd (show Use n st ops V Vc bc (xZn n V o) from hU.out.imp fun _ h=>vJq HV.out (zJ9 hlt h));go_wp2;go_ret;exact⟨_,_,rfl,hTr,hWr,HF.out⟩
end
