/-
  Lemmas.
-/
import Init
set_option linter.unusedVariables false
set_option linter.unusedSimpArgs false
set_option maxRecDepth 100000
set_option maxHeartbeats 4000000
namespace Go.Proofs.YtjjjeohejhmpoaaGreat
section
namespace LA
def sumN:Nat->(Nat->Int)->Int
 |0,_=>0
 |n+1,f=>sumN n f+f n
theorem sumN_congr{n:Nat}{f g:Nat->Int}(h:∀i,i<n->f i=g i):sumN n f=sumN n g:=by
 induction n with
 |zero=>rfl
 |succ n ih=>rw[sumN,sumN,ih fun i hi=>h i (by omega),h n (by omega)]
theorem uXk(n:Nat):sumN n (fun _=>0)=0:=by
 induction n with
 |zero=>rfl
 |succ n ih=>rw[sumN,ih];rfl
theorem sumN_eq_zero{n:Nat}{f:Nat->Int}(h:∀i,i<n->f i=0):sumN n f=0:=by
 rw[sumN_congr h,uXk]
theorem uXm(n:Nat)(f g:Nat->Int):sumN n (fun i=>f i+g i)=sumN n f+sumN n g:=by
 induction n with
 |zero=>rfl
 |succ n ih=>simp only[sumN,ih];omega
theorem sumN_mul(n:Nat)(c:Int)(f:Nat->Int):sumN n (fun i=>c*f i)=c*sumN n f:=by
 induction n with
 |zero=>simp[sumN]
 |succ n ih=>simp only[sumN,ih,Int.mul_add]
theorem xXv(n:Nat)(f:Nat->Int):sumN n (fun i=>- f i) = - sumN n f:=by
 induction n with
 |zero=>simp[sumN]
 |succ n ih=>simp only[sumN,ih];omega
theorem xYb(n m:Nat)(f:Nat->Nat->Int):sumN n (fun i=>sumN m (fun j=>f i j))=sumN m (fun j=>sumN n (fun i=>f i j)):=by
 induction n with
 |zero=>simp only[sumN];rw[uXk]
 |succ n ih=>simp only[sumN];rw[ih,<- uXm]
theorem uXg{n:Nat}{f g:Nat->Int}(h:∀i,i<n->f i<=g i):sumN n f<=sumN n g:=by
 induction n with
 |zero=>exact Int.le_refl _
 |succ n ih=>
  have h1:=ih fun i hi=>h i (by omega)
  have h2:=h n (by omega);simp only[sumN];omega
theorem xK9{n:Nat}{f:Nat->Int}(h:∀i,i<n->0<=f i):0<=sumN n f:=by
 have:=uXg h;rw[uXk] at this;exact this
theorem xZ0(n:Nat)(c:Int)(f:Nat->Int):sumN n (fun i=>f i*c)=sumN n f*c:=by
 rw[Int.mul_comm,<- sumN_mul];exact sumN_congr fun i _=>Int.mul_comm _ _
theorem uXj{n k:Nat}(f:Nat->Int)(hk:k<n)(h:∀i,i<n->i≠k->f i=0):sumN n f=f k:=by
 induction n with
 |zero=>omega
 |succ n ih=>
  rw[sumN]
  by_cases e:k=n
  ·subst e;rw[sumN_eq_zero fun i hi=>h i (by omega) (by omega)];omega
  ·rw[ih (by omega) fun i hi hne=>h i (by omega) hne,h n (by omega) (by omega)];omega
theorem xXk{n k:Nat}(f:Nat->Int)(hk:k<n):sumN n f=f k+sumN n (fun i=>if i=k then 0 else f i):=by
 have h1:sumN n f=sumN n (fun i=>(if i=k then f i else 0)+(if i=k then 0 else f i)):=sumN_congr fun i _=>by split<;>omega
 rw[h1,uXm,uXj (k:=k) (fun i=>if i=k then f i else 0) hk (fun i _ hne=>by simp[hne])];simp
theorem vYz(n:Nat)(f:Nat->Int):sumN (n+1) f=f 0+sumN n (fun i=>f (i+1)):=by
 induction n with
 |zero=>simp[sumN]
 |succ n ih=>rw[sumN,ih];simp only[sumN];omega
theorem vQf{n:Nat}{f:Nat->Int}{b:Int}(h:∀i,i<n->-b<=f i/\f i<=b) : -(n*b)<=sumN n f/\sumN n f<=n*b:=by
 induction n with
 |zero=>simp[sumN]
 |succ n ih=>
  have h1:=ih fun i hi=>h i (by omega)
  have h2:=h n (by omega);have e:((n+1:Nat):Int)*b=n*b+b:=by rw[Int.natCast_add,Int.add_mul];simp
  rw[e];simp only[sumN];omega
def skip(k i:Nat):Nat:=if i<k then i else i+1
theorem yZ9{n j:Nat}(f:Nat->Int)(hj:j<=n):sumN n (fun k=>f (skip j k))=sumN (n+1) (fun k=>if k=j then 0 else f k):=by
 induction n with
 |zero=>
   have:j=0:=by omega
   subst this;simp[sumN]
 |succ n ih=>
  by_cases e:j=n+1
  ·subst e;rw[sumN,sumN_congr (f:=fun k=>f (skip (n+1) k)) (g:=f) fun i hi=>by unfold skip;rw[if_pos (by omega)]];rw[sumN,sumN,sumN_congr (f:=fun k=>if k=n+1 then 0 else f k) (g:=f) fun i hi=>by simp;omega];simp[skip]
  ·rw[sumN,ih (by omega)]
   conv=>rhs;rw[sumN]
   have h1:skip j n=n+1:=by unfold skip;rw[if_neg (by omega)]
   rw[h1,if_neg (by omega)]
def sg(j:Nat):Int:=if j%2=0 then 1 else -1
theorem zYb(j:Nat):sg (j+1) = - sg j:=by
 unfold sg;rcases Nat.mod_two_eq_zero_or_one j with h|h
 ·rw[if_neg (by omega),if_pos h]
 ·rw[if_pos (by omega),if_neg (by omega)];rfl
theorem sg_sq(j:Nat):sg j*sg j=1:=by unfold sg;split<;>rfl
theorem zYc(j:Nat):sg j=1\/sg j = -1:=by unfold sg;split<;>simp
def det:Nat->(Nat->Nat->Int)->Int
 |0,_=>1
 |M+1,a=>sumN (M+1) fun j=>sg j*a 0 j*det M fun i k=>a (i+1) (skip j k)
theorem xX3(M:Nat)(a:Nat->Nat->Int):det (M+1) a=sumN (M+1) fun j=>sg j*a 0 j*det M fun i k=>a (i+1) (skip j k):=rfl
theorem xZ7{M j k:Nat}(hk:k<M):skip j k<M+1:=by unfold skip;split<;>omega
theorem zYd(j k:Nat):skip j k≠j:=by unfold skip;split<;>omega
theorem xJr{M:Nat}{a b:Nat->Nat->Int}(h:∀i,i<M->∀j,j<M->a i j=b i j):det M a=det M b:=by
 induction M generalizing a b with
 |zero=>rfl
 |succ M ih=>
  rw[xX3,xX3];refine sumN_congr fun j hj=>?_
  rw[h 0 (by omega) j hj,ih fun i hi k hk=>h (i+1) (by omega) _ (xZ7 hk)]
def xJx(a:Nat->Nat->Int)(q:Nat)(u:Nat->Int):Nat->Nat->Int:=fun i j=>if j=q then u i else a i j
theorem xKa{M:Nat}{a b c:Nat->Nat->Int}{q:Nat}{x y:Int}(hq:q<M)(h0:∀i,i<M->a i q=x*b i q+y*c i q)
  (h1:∀i,i<M->∀j,j<M->j≠q->a i j=b i j/\a i j=c i j):det M a=x*det M b+y*det M c:=by
 induction M generalizing a b c q with
 |zero=>omega
 |succ M ih=>
  rw[xX3,xX3,xX3,<- sumN_mul,<- sumN_mul,<- uXm];refine sumN_congr fun j hj=>?_
  by_cases e:j=q
  ·subst e;have e1:det M (fun i k=>a (i+1) (skip j k))=det M (fun i k=>b (i+1) (skip j k)):=xJr fun i hi k hk=>(h1 _ (by omega) _ (xZ7 hk) (zYd _ _)).1
   have e2:det M (fun i k=>a (i+1) (skip j k))=det M (fun i k=>c (i+1) (skip j k)):=xJr fun i hi k hk=>(h1 _ (by omega) _ (xZ7 hk) (zYd _ _)).2
   rw[h0 0 (by omega),<- e1,<- e2]
   grind
  ·have hb:=(h1 0 (by omega) j hj e).1;have hc:=(h1 0 (by omega) j hj e).2;have hM:0<M:=by omega
   have ih2:=ih (a:=fun i k=>a (i+1) (skip j k)) (b:=fun i k=>b (i+1) (skip j k)) (c:=fun i k=>c (i+1) (skip j k)) (q:=if q<j then q else q-1) (by split<;>omega)
    (fun i hi=>by
     have e3:skip j (if q<j then q else q-1)=q:=by unfold skip;(repeat' split)<;>omega
     show a (i+1) _=_;simp only[e3];exact h0 _ (by omega))
    (fun i hi k hk hne=>by
     refine h1 _ (by omega) _ (xZ7 hk) fun e4=>hne ?_
     revert e4;unfold skip;(repeat' split)<;>omega)
   rw[ih2,<- hb,<- hc]
   grind
theorem zZ9{M:Nat}{a b:Nat->Nat->Int}{q:Nat}(hq:q+1<M)(h0:∀i,i<M->a i q=b i (q+1))(h1:∀i,i<M->a i (q+1)=b i q)
  (h2:∀i,i<M->∀j,j<M->j≠q->j≠q+1->a i j=b i j):det M a = - det M b:=by
 induction M generalizing a b q with
 |zero=>omega
 |succ M ih=>
  rw[xX3,xX3];have hA:=xXk (n:=M+1) (k:=q) (fun j=>sg j*a 0 j*det M fun i k=>a (i+1) (skip j k)) (by omega);have hA2:=xXk (n:=M+1) (k:=q+1) (fun i=>if i=q then 0 else(fun j=>sg j*a 0 j*det M fun i k=>a (i+1) (skip j k)) i) (by omega);have hB:=xXk (n:=M+1) (k:=q) (fun j=>sg j*b 0 j*det M fun i k=>b (i+1) (skip j k)) (by omega);have hB2:=xXk (n:=M+1) (k:=q+1) (fun i=>if i=q then 0 else(fun j=>sg j*b 0 j*det M fun i k=>b (i+1) (skip j k)) i) (by omega);rw[hA,hA2,hB,hB2];have hrest:sumN (M+1) (fun i=>if i=q+1 then 0 else if i=q then 0 else(fun j=>sg j*a 0 j*det M fun i k=>a (i+1) (skip j k)) i) = - sumN (M+1) (fun i=>if i=q+1 then 0 else if i=q then 0 else(fun j=>sg j*b 0 j*det M fun i k=>b (i+1) (skip j k)) i):=by
   rw[<- xXv];refine sumN_congr fun j hj=>?_
   by_cases e1:j=q+1
   ·simp[e1]
   by_cases e2:j=q
   ·simp[e2]
   simp only[e1,e2,if_false];have e3:=ih (a:=fun i k=>a (i+1) (skip j k)) (b:=fun i k=>b (i+1) (skip j k)) (q:=if q<j then q else q-1) (by split<;>omega)
    (fun i hi=>by
     have h3:skip j (if q<j then q else q-1)=q:=by unfold skip;(repeat' split)<;>omega
     have h4:skip j ((if q<j then q else q-1)+1)=q+1:=by unfold skip;(repeat' split)<;>omega
     show a (i+1) _=b (i+1) _;rw[h3,h4];exact h0 _ (by omega))
    (fun i hi=>by
     have h3:skip j (if q<j then q else q-1)=q:=by unfold skip;(repeat' split)<;>omega
     have h4:skip j ((if q<j then q else q-1)+1)=q+1:=by unfold skip;(repeat' split)<;>omega
     show a (i+1) _=b (i+1) _;rw[h3,h4];exact h1 _ (by omega))
    (fun i hi k hk hn1 hn2=>h2 _ (by omega) _ (xZ7 hk) (fun e4=>hn1 (by revert e4;unfold skip;(repeat' split)<;>omega)) (fun e4=>hn2 (by revert e4;unfold skip;(repeat' split)<;>omega)))
   rw[e3,h2 0 (by omega) j hj e2 e1]
   grind
  rw[hrest];have d1:det M (fun i k=>a (i+1) (skip q k))=det M (fun i k=>b (i+1) (skip (q+1) k)):=xJr fun i hi k hk=>by
   by_cases c1:k<q
   ·rw[show skip q k=k by unfold skip;rw[if_pos c1],show skip (q+1) k=k by unfold skip;rw[if_pos (by omega)]];exact h2 _ (by omega) _ (by omega) (by omega) (by omega)
   ·by_cases c2:k=q
    ·rw[show skip q k=q+1 by unfold skip;rw[if_neg c1];omega,show skip (q+1) k=q by unfold skip;rw[if_pos (by omega)];exact c2];exact h1 _ (by omega)
    ·rw[show skip q k=k+1 by unfold skip;rw[if_neg c1],show skip (q+1) k=k+1 by unfold skip;rw[if_neg (by omega)]];exact h2 _ (by omega) _ (by omega) (by omega) (by omega)
  have d2:det M (fun i k=>a (i+1) (skip (q+1) k))=det M (fun i k=>b (i+1) (skip q k)):=xJr fun i hi k hk=>by
   by_cases c1:k<q
   ·rw[show skip q k=k by unfold skip;rw[if_pos c1],show skip (q+1) k=k by unfold skip;rw[if_pos (by omega)]];exact h2 _ (by omega) _ (by omega) (by omega) (by omega)
   ·by_cases c2:k=q
    ·rw[show skip q k=q+1 by unfold skip;rw[if_neg c1];omega,show skip (q+1) k=q by unfold skip;rw[if_pos (by omega)];exact c2];exact h0 _ (by omega)
    ·rw[show skip q k=k+1 by unfold skip;rw[if_neg c1],show skip (q+1) k=k+1 by unfold skip;rw[if_neg (by omega)]];exact h2 _ (by omega) _ (by omega) (by omega) (by omega)
  have hne:¬(q+1=q):=by omega
  simp only[hne,if_false,d1,d2,h0 0 (by omega),h1 0 (by omega),zYb]
  grind
theorem vXg{M:Nat}:∀ {d:Nat} {a:Nat->Nat->Int} {q:Nat},q+d+1<M->(∀i,i<M->a i q=a i (q+d+1))->det M a=0
 |0,a,q,hq,h=>by
  have:=zZ9 (a:=a) (b:=a) hq h (fun i hi=>(h i hi).symm) (fun _ _ _ _ _ _=>rfl);omega
 |d+1,a,q,hq,h=>by
  have h1:=zZ9 (a:=a) (b:=fun i j=>if j=q+d+1 then a i (q+d+2) else if j=q+d+2 then a i (q+d+1) else a i j) (q:=q+d+1) (by omega)
   (fun i hi=>by simp) (fun i hi=>by simp) (fun i hi j hj e1 e2=>by simp[e1,show j≠q+d+2 by omega])
  rw[h1,vXg (d:=d) (q:=q) (by omega) (fun i hi=>by
   have h2:q≠q+d+1:=by omega
   have h3:q≠q+d+2:=by omega
   simp only[if_neg h2,if_neg h3,if_true];exact h i hi)]
  rfl
theorem xW3{M:Nat}{a:Nat->Nat->Int}{q p:Nat}(hq:q<M)(hp:p<M)(hne:q≠p)(h:∀i,i<M->a i q=a i p):det M a=0:=by
 rcases Nat.lt_or_gt_of_ne hne with h1|h1
 ·obtain⟨d,rfl⟩:∃d,p=q+d+1:=⟨p-q-1,by omega⟩;exact vXg hp h
 ·obtain⟨d,rfl⟩:∃d,q=p+d+1:=⟨q-p-1,by omega⟩;exact vXg hq fun i hi=>(h i hi).symm
theorem zZa{M:Nat}{a b:Nat->Nat->Int}{r:Nat}(hr:r+1<M)(h0:∀j,j<M->a r j=b (r+1) j)(h1:∀j,j<M->a (r+1) j=b r j)
  (h2:∀i,i<M->∀j,j<M->i≠r->i≠r+1->a i j=b i j):det M a = - det M b:=by
 induction M generalizing a b r with
 |zero=>omega
 |succ M ih=>
  match r,hr with
  |r+1,hr=>
   rw[xX3,xX3,<- xXv];refine sumN_congr fun j hj=>?_
   rw[ih (a:=fun i k=>a (i+1) (skip j k)) (b:=fun i k=>b (i+1) (skip j k)) (r:=r) (by omega) (fun k hk=>h0 _ (xZ7 hk)) (fun k hk=>h1 _ (xZ7 hk))
    (fun i hi k hk e1 e2=>h2 _ (by omega) _ (xZ7 hk) (by omega) (by omega)),h2 0 (by omega) j hj (by omega) (by omega)]
   grind
  |0,hr=>
   obtain⟨K,rfl⟩:∃K,M=K+1:=⟨M-1,by omega⟩;have key:∀c:Nat->Nat->Int,det (K+1+1) c=sumN (K+2) fun j=>sumN (K+2) fun k=>if k=j then 0 else(if k<j then 1 else -1)*(sg j*sg k*c 0 j*c 1 k*det K fun i l=>c (i+2) (skip (max j k) (skip (min j k) l))):=fun c=>by
    rw[xX3];refine sumN_congr fun j hj=>?_
    rw[xX3,<- sumN_mul];rw[<- yZ9 (n:=K+1) (j:=j) (fun k=>(if k<j then 1 else -1)*(sg j*sg k*c 0 j*c 1 k*det K fun i l=>c (i+2) (skip (max j k) (skip (min j k) l)))) (by omega)];refine sumN_congr fun k hk=>?_
    by_cases e:k<j
    ·have e1:skip j k=k:=by unfold skip;rw[if_pos e]
     rw[e1,if_pos e,Nat.max_eq_left (by omega),Nat.min_eq_right (by omega)]
     grind
    ·have e1:skip j k=k+1:=by unfold skip;rw[if_neg e]
     rw[e1,if_neg (by omega),Nat.max_eq_right (by omega),Nat.min_eq_left (by omega),zYb];have e2:∀l,skip j (skip k l)=skip (k+1) (skip j l):=fun l=>by
      unfold skip;(repeat' split)<;>omega
     simp only[e2]
     grind
   rw[key a,key b,xYb (K+2) (K+2) (fun j k=>if k=j then 0 else(if k<j then 1 else -1)*(sg j*sg k*b 0 j*b 1 k*det K fun i l=>b (i+2) (skip (max j k) (skip (min j k) l)))),<- xXv];refine sumN_congr fun j hj=>?_
   rw[<- xXv];refine sumN_congr fun k hk=>?_
   by_cases e:k=j
   ·simp[e]
   rw[if_neg e,if_neg (Ne.symm e),Nat.max_comm k j,Nat.min_comm k j];have e1:(det K fun i l=>a (i+2) (skip (max j k) (skip (min j k) l)))=det K fun i l=>b (i+2) (skip (max j k) (skip (min j k) l)):=xJr fun i hi l hl=>h2 _ (by omega) _ (by
    have:=xZ7 (j:=min j k) hl;have:=xZ7 (j:=max j k) this;exact this) (by omega) (by omega)
   rw[e1,h0 j hj,h1 k hk]
   by_cases e2:k<j
   ·rw[if_pos e2,if_neg (by omega)];grind
   ·rw[if_neg e2,if_pos (by omega)];grind
theorem yZa{M:Nat}:∀ {d:Nat} {a:Nat->Nat->Int} {q:Nat},q+d+1<M->(∀j,j<M->a q j=a (q+d+1) j)->det M a=0
 |0,a,q,hq,h=>by
  have:=zZa (a:=a) (b:=a) hq h (fun i hi=>(h i hi).symm) (fun _ _ _ _ _ _=>rfl);omega
 |d+1,a,q,hq,h=>by
  have h1:=zZa (a:=a) (b:=fun j i=>if j=q+d+1 then a (q+d+2) i else if j=q+d+2 then a (q+d+1) i else a j i) (r:=q+d+1) (by omega)
   (fun i hi=>by simp) (fun i hi=>by simp) (fun j hj i hi e1 e2=>by simp[e1,show j≠q+d+2 by omega])
  rw[h1,yZa (d:=d) (q:=q) (by omega) (fun i hi=>by
   have h2:q≠q+d+1:=by omega
   have h3:q≠q+d+2:=by omega
   simp only[if_neg h2,if_neg h3,if_true];exact h i hi)]
  rfl
theorem vQg{M:Nat}(c:Nat->Nat->Int)(v:Nat->Int){j:Nat}(hj:j<M):∀p,p<=j ->
  det M (fun i k=>if k=0 then v i else if k<=j then c i (k-1) else c i k)=sg p*det M (fun i k=>if k<p then c i k else if k=p then v i else if k<=j then c i (k-1) else c i k)
 |0,_=>by
  show _=1*_;rw[Int.one_mul];refine xJr fun i hi k hk=>?_
  simp
 |p+1,hp=>by
  rw[vQg c v hj p (by omega),zYb];rw[zZ9 (M:=M) (a:=fun i k=>if k<p then c i k else if k=p then v i else if k<=j then c i (k-1) else c i k) (b:=fun i k=>if k<p+1 then c i k else if k=p+1 then v i else if k<=j then c i (k-1) else c i k) (q:=p) (by omega)
   (fun i hi=>by simp) (fun i hi=>by simp;rw[if_neg (by omega),if_pos (by omega)]) (fun i hi k hk e1 e2=>by
    by_cases h:k<p
    ·simp[h,show k<p+1 by omega]
    ·simp[h,e1,e2,show ¬k<p+1 by omega])]
  grind
theorem yZb{M:Nat}(c:Nat->Nat->Int)(v:Nat->Int){t:Nat}(ht:t<M):sumN M (fun j=>c t j*det M (xJx c j v))=v t*det M c:=by
 have h0:det (M+1) (fun i j=>if j=0 then v (if i=0 then t else i-1) else c (if i=0 then t else i-1) (j-1))=0:=
  yZa (d:=t) (q:=0) (by omega) (fun j hj=>by simp)
 rw[xX3,vYz] at h0;have e1:(det M fun i k=>if skip 0 k=0 then v (if i+1=0 then t else i+1-1) else c (if i+1=0 then t else i+1-1) (skip 0 k-1))=det M c:=xJr fun i hi k hk=>by
  simp[skip]
 have e2:sumN M (fun j=>sg (j+1)*(if j+1=0 then v (if(0:Nat)=0 then t else 0-1) else c (if(0:Nat)=0 then t else 0-1) (j+1-1))*det M fun i k=>if skip (j+1) k=0 then v (if i+1=0 then t else i+1-1) else c (if i+1=0 then t else i+1-1) (skip (j+1) k-1)) = - sumN M (fun j=>c t j*det M (xJx c j v)):=by
  rw[<- xXv];refine sumN_congr fun j hj=>?_
  have e3:(det M fun i k=>if skip (j+1) k=0 then v (if i+1=0 then t else i+1-1) else c (if i+1=0 then t else i+1-1) (skip (j+1) k-1))=sg j*det M (xJx c j v):=by
   have e4:=vQg c v hj j (Nat.le_refl _);have e5:det M (fun i k=>if k<j then c i k else if k=j then v i else if k<=j then c i (k-1) else c i k)=det M (xJx c j v):=xJr fun i hi k hk=>by
    unfold xJx
    by_cases h:k<j
    ·simp[h,show k≠j by omega]
    ·by_cases h':k=j
     ·simp[h']
     ·simp[h,h',show ¬k<=j by omega]
   rw[<- e5,<- e4];refine xJr fun i hi k hk=>?_
   simp only[skip,Nat.add_sub_cancel]
   by_cases h:k=0
   ·simp[h]
   ·by_cases h':k<=j
    ·simp[h,h',show k<j+1 by omega]
    ·simp[h,h',show ¬k<j+1 by omega]
  rw[e3,zYb];simp;have:=sg_sq j
  grind
 rw[e1,e2] at h0;have e6:sg 0=1:=rfl;simp[e6] at h0;omega
end LA
end
section
namespace LA
theorem xX9(a:Nat->Nat->Int)(q:Nat)(u:Nat->Int)(i:Nat):xJx a q u i q=u i:=by simp[xJx]
theorem xXe(a:Nat->Nat->Int){q j:Nat}(u:Nat->Int)(i:Nat)(h:j≠q):xJx a q u i j=a i j:=by simp[xJx,h]
theorem vWr{M:Nat}(c:Nat->Nat->Int){q:Nat}(hq:q<M)(n:Nat)(x:Nat->Int)(u:Nat->Nat->Int) :
  det M (xJx c q fun i=>sumN n fun k=>x k*u k i)=sumN n fun k=>x k*det M (xJx c q (u k)):=by
 induction n with
 |zero=>
  have h:=xKa (M:=M) (a:=xJx c q fun i=>sumN 0 fun k=>x k*u k i) (b:=c) (c:=c) (x:=0) (y:=0) hq (fun i _=>by simp[xJx,sumN]) ;simp only[sumN];have h2:=xKa (M:=M) (a:=xJx c q fun i=>(0:Int)) (b:=xJx c q fun i=>(0:Int)) (c:=xJx c q fun i=>(0:Int)) (x:=0) (y:=0) hq (fun i _=>by simp[xJx]) (fun i _ j _ _=>⟨rfl,rfl⟩);rw[h2];simp
 |succ n ih=>
  rw[sumN,<- ih];have h:=xKa (M:=M) (a:=xJx c q fun i=>sumN (n+1) fun k=>x k*u k i) (b:=xJx c q fun i=>sumN n fun k=>x k*u k i) (c:=xJx c q (u n)) (x:=1) (y:=x n) hq (fun i _=>by simp[xJx,sumN]) (fun i _ j _ e=>by simp[xJx,e]);rw[h];omega
theorem yQq{M:Nat}(c:Nat->Nat->Int){q p:Nat}(hq:q<M)(hp:p<M)(hne:q≠p)(u v:Nat->Int) :
  det M (xJx (xJx c q u) p v) = - det M (xJx (xJx c q v) p u):=by
 have hs:∀w z:Nat->Int,det M (xJx (xJx c q (fun i=>w i+z i)) p (fun i=>w i+z i))=0:=fun w z=>
  xW3 hq hp hne fun i _=>by rw[xXe _ _ _ hne,xX9,xX9]
 have h0:=hs u v;have hu:det M (xJx (xJx c q u) p u)=0:=xW3 hq hp hne fun i _=>by rw[xXe _ _ _ hne,xX9,xX9]
 have hv:det M (xJx (xJx c q v) p v)=0:=xW3 hq hp hne fun i _=>by rw[xXe _ _ _ hne,xX9,xX9]
 have h1:=xKa (M:=M) (a:=xJx (xJx c q (fun i=>u i+v i)) p (fun i=>u i+v i)) (b:=xJx (xJx c q (fun i=>u i+v i)) p u) (c:=xJx (xJx c q (fun i=>u i+v i)) p v) (x:=1) (y:=1) hp (fun i _=>by simp[xJx]) (fun i _ j _ e=>by simp[xJx,e]);have h2:∀w:Nat->Int,det M (xJx (xJx c q (fun i=>u i+v i)) p w)=det M (xJx (xJx c q u) p w)+det M (xJx (xJx c q v) p w):=fun w=>by
  have h:=xKa (M:=M) (a:=xJx (xJx c q (fun i=>u i+v i)) p w) (b:=xJx (xJx c q u) p w) (c:=xJx (xJx c q v) p w) (x:=1) (y:=1) hq (fun i _=>by simp[xJx,hne]) (fun i _ j _ e=>by simp[xJx,e]);rw[h];omega
 have h3:=h2 u;have h4:=h2 v;omega
theorem yQr{M:Nat}(c:Nat->Nat->Int){i r:Nat}(hi:i<M)(hr:r<M)(hne:i≠r)(u v:Nat->Int) :
  det M c*det M (xJx (xJx c r u) i v)=det M (xJx c i v)*det M (xJx c r u)-det M (xJx c i u)*det M (xJx c r v):=by
 have h0:det M (xJx (xJx c r u) i fun t=>v t*det M c)=det M (xJx (xJx c r u) i fun t=>sumN M fun j=>det M (xJx c j v)*c t j):=xJr fun t ht j _=>by
  by_cases e:j=i
  ·subst e;rw[xX9,xX9,<- yZb c v ht];exact sumN_congr fun k _=>Int.mul_comm _ _
  ·rw[xXe _ _ _ e,xXe _ _ _ e]
 have h1:=xKa (M:=M) (a:=xJx (xJx c r u) i fun t=>v t*det M c) (b:=xJx (xJx c r u) i v) (c:=xJx (xJx c r u) i v) (x:=det M c) (y:=0) hi (fun t _=>by simp[xJx,Int.mul_comm]) (fun t _ j _ e=>by simp[xJx,e]);rw[h0,vWr _ hi M (fun j=>det M (xJx c j v)) (fun j t=>c t j)] at h1;have h2:sumN M (fun k=>det M (xJx c k v)*det M (xJx (xJx c r u) i fun t=>c t k))=det M (xJx c i v)*det M (xJx c r u)-det M (xJx c i u)*det M (xJx c r v):=by
  rw[xXk (k:=i) _ hi,uXj (k:=r) _ hr]
  ·have e1:det M (xJx (xJx c r u) i fun t=>c t i)=det M (xJx c r u):=xJr fun t _ j _=>by
    by_cases e:j=i
    ·subst e;rw[xX9,xXe _ _ _ hne]
    ·rw[xXe _ _ _ e]
   have e2:det M (xJx (xJx c r u) i fun t=>c t r) = - det M (xJx c i u):=by
    rw[yQq c hr hi (Ne.symm hne)];congr 1;exact xJr fun t _ j _=>by
     by_cases e:j=i
     ·subst e;rw[xX9,xX9]
     ·rw[xXe _ _ _ e,xXe _ _ _ e]
      by_cases e':j=r
      ·subst e';rw[xX9]
      ·rw[xXe _ _ _ e']
   rw[e1,if_neg (Ne.symm hne),e2]
   grind
  ·intro k hk hkr
   by_cases e:k=i
   ·simp[e]
   ·rw[if_neg e,xW3 (a:=xJx (xJx c r u) i fun t=>c t k) (q:=i) (p:=k) hi hk (Ne.symm e) (fun t _=>by rw[xX9,xXe _ _ _ e,xXe _ _ _ hkr])];simp
 rw[h2] at h1;rw[h1];simp
theorem vWs{M:Nat}{a:Nat->Nat->Int}{q:Nat}(hq:q<M)(h:∀i,i<M->a i q=0):det M a=0:=by
 rw[xKa (M:=M) (a:=a) (b:=a) (c:=a) (x:=0) (y:=0) hq (fun i hi=>by rw[h i hi];simp) (fun _ _ _ _ _=>⟨rfl,rfl⟩)];simp
theorem vZ8{M:Nat}:∀ {k:Nat} {a:Nat->Nat->Int} {q:Nat},q<M+1->k<M+1->(∀i,i<M+1->a i q=if i=k then 1 else 0) ->
  det (M+1) a=det M (fun i j=>a (skip k i) (skip q j))\/det (M+1) a = - det M (fun i j=>a (skip k i) (skip q j))
 |0,a,q,hq,hk,h=>by
  have e:det (M+1) a=sg q*det M (fun i j=>a (skip 0 i) (skip q j)):=by
   rw[xX3,uXj (k:=q) _ hq fun j hj hne=>by
    by_cases hM:M=0
    ·omega
    ·rw[vWs (M:=M) (q:=if q<j then q else q-1) (by split<;>omega) fun i hi=>by
      have e3:skip j (if q<j then q else q-1)=q:=by unfold skip;(repeat' split)<;>omega
      rw[e3,h _ (by omega)];simp]
     simp]
   rw[h 0 (by omega)];simp[skip]
  rcases zYc q with h1|h1<;>rw[e,h1]<;>simp
 |k+1,a,q,hq,hk,h=>by
  have h1:=zZa (M:=M+1) (a:=a) (b:=fun i j=>if i=k then a (k+1) j else if i=k+1 then a k j else a i j) (r:=k) (by omega) (fun j _=>by simp) (fun j _=>by simp) (fun i _ j _ e1 e2=>by simp[e1,e2]);have h2:=vZ8 (M:=M) (k:=k) (a:=fun i j=>if i=k then a (k+1) j else if i=k+1 then a k j else a i j) (q:=q) hq (by omega) (fun i hi=>by
   by_cases e1:i=k
   ·simp[e1,h (k+1) hk]
   ·by_cases e2:i=k+1
    ·simp[e2,h k (by omega)]
    ·simp[e1,e2,h i hi])
  have h3:det M (fun i j=>if skip k i=k then a (k+1) (skip q j) else if skip k i=k+1 then a k (skip q j) else a (skip k i) (skip q j))=det M (fun i j=>a (skip (k+1) i) (skip q j)):=xJr fun i _ j _=>by
   rw[if_neg (zYd k i)]
   by_cases e:i=k
   ·rw[if_pos (by unfold skip;rw[if_neg (by omega)];omega)];rw[show skip (k+1) i=k by unfold skip;rw[if_pos (by omega)];exact e]
   ·rw[if_neg (by unfold skip;split<;>omega)];rw[show skip (k+1) i=skip k i by unfold skip;(repeat' split)<;>omega]
  rw[h3] at h2;omega
theorem abs_mul{a b x y:Int}(hx : -x<=a/\a<=x)(hy : -y<=b/\b<=y) : -(x*y)<=a*b/\a*b<=x*y:=by
 have hx0:0<=x:=by omega
 have hy0:0<=y:=by omega
 have h1:a*b<=x*y:=by
  have:=Int.mul_nonneg (show 0<=x-a by omega) (show 0<=y+b by omega);have:=Int.mul_nonneg (show 0<=x+a by omega) (show 0<=y-b by omega)
  grind
 have h2 : -(x*y)<=a*b:=by
  have:=Int.mul_nonneg (show 0<=x-a by omega) (show 0<=y-b by omega);have:=Int.mul_nonneg (show 0<=x+a by omega) (show 0<=y+b by omega)
  grind
 exact⟨h1 |> fun _=>h2,h1⟩
theorem zXh{M:Nat}{a:Nat->Nat->Int}{R H:Int}(h0:∀j,j<M+1->-R<=a 0 j/\a 0 j<=R)
  (h1:∀j,j<M+1->-H<=det M (fun i k=>a (i+1) (skip j k))/\det M (fun i k=>a (i+1) (skip j k))<=H) :
  -(((M+1:Nat):Int)*(R*H))<=det (M+1) a/\det (M+1) a<=((M+1:Nat):Int)*(R*H):=by
 rw[xX3];refine vQf fun j hj=>?_
 have h2 : -R<=sg j*a 0 j/\sg j*a 0 j<=R:=by
  have:=h0 j hj;rcases zYc j with e|e<;>rw[e]<;>omega
 exact abs_mul h2 (h1 j hj)
def xYr(x:Int):Int:=if 0<=x then x else -x
def xZf(n:Nat)(x y:Nat->Int):Int:=sumN n fun j=>sumN j fun k=>xYr (x j*y k-x k*y j)
def Conv(f:Int->Int):Prop:=∀t,-4<=t->t<=4->8*f t<=(4-t)*f (-4)+(4+t)*f 4
theorem Conv.sum{n:Nat}{f:Nat->Int->Int}(h:∀i,i<n->Conv (f i)):Conv fun t=>sumN n fun i=>f i t:=by
 intro t h1 h2;simp only;rw[<- sumN_mul,<- sumN_mul,<- sumN_mul,<- uXm];exact uXg fun i hi=>h i hi t h1 h2
theorem Conv.aff(A B:Int):Conv fun t=>xYr (A*t+B):=by
 intro t h1 h2;have e1:xYr (A * -4+B)>=A * -4+B/\xYr (A * -4+B)>=-(A * -4+B):=by unfold xYr;split<;>omega
 have e2:xYr (A*4+B)>=A*4+B/\xYr (A*4+B)>=-(A*4+B):=by unfold xYr;split<;>omega
 show 8*xYr (A*t+B)<=(4-t)*xYr (A * -4+B)+(4+t)*xYr (A*4+B);have a1:=Int.mul_nonneg (show 0<=4-t by omega) (show 0<=xYr (A * -4+B)-(A * -4+B) by omega);have a2:=Int.mul_nonneg (show 0<=4-t by omega) (show 0<=xYr (A * -4+B)+(A * -4+B) by omega);have a3:=Int.mul_nonneg (show 0<=4+t by omega) (show 0<=xYr (A*4+B)-(A*4+B) by omega);have a4:=Int.mul_nonneg (show 0<=4+t by omega) (show 0<=xYr (A*4+B)+(A*4+B) by omega);have e3:xYr (A*t+B)=A*t+B\/xYr (A*t+B) = -(A*t+B):=by unfold xYr;split<;>omega
 rcases e3 with e|e<;>rw[e]<;>grind
theorem Conv.congr{f g:Int->Int}(h:∀t,f t=g t)(hf:Conv f):Conv g:=by
 rw[show g=f from(funext h).symm];exact hf
theorem Conv.le{f:Int->Int}(h:Conv f){K t:Int}(h1 : -4<=t)(h2:t<=4)(h3:f (-4)<=K)(h4:f 4<=K):f t<=K:=by
 have e:=h t h1 h2;have a1:=Int.mul_nonneg (show 0<=4-t by omega) (show 0<=K-f (-4) by omega);have a2:=Int.mul_nonneg (show 0<=4+t by omega) (show 0<=K-f 4 by omega);have e5:(4-t)*(K-f (-4))+(4+t)*(K-f 4)=8*K-((4-t)*f (-4)+(4+t)*f 4):=by grind
 omega
def upd(x:Nat->Int)(q:Nat)(t:Int):Nat->Int:=fun i=>if i=q then t else x i
theorem yQs(x:Nat->Int)(q:Nat):upd x q (x q)=x:=funext fun i=>by unfold upd;split<;>simp_all
theorem vJi(n:Nat)(x y:Nat->Int)(q:Nat):Conv fun t=>xZf n (upd x q t) y:=by
 refine Conv.sum fun j _=>Conv.sum fun k hk=>?_
 by_cases e:j=q
 ·subst e;exact(Conv.aff (y k) (- (x k*y j))).congr fun t=>by
   simp[upd,show k≠j by omega];congr 1;grind
 ·by_cases e':k=q
  ·subst e';exact(Conv.aff (- y j) (x j*y k)).congr fun t=>by
    simp[upd,e];congr 1;grind
  ·exact(Conv.aff 0 (x j*y k-x k*y j)).congr fun t=>by
    simp[upd,e,e']
theorem yQt(x:Int):xYr (-x)=xYr x:=by unfold xYr;(repeat' split)<;>omega
theorem zXi(n:Nat)(x y:Nat->Int):xZf n x y=xZf n y x:=
 sumN_congr fun j _=>sumN_congr fun k _=>by
  rw[<- yQt];congr 1;grind
theorem xVa{n:Nat}{y:Nat->Int}{K:Int}(h:∀x:Nat->Int,(∀i,i<n->x i=4\/x i = -4)->xZf n x y<=K) :
  ∀q (x:Nat->Int),(∀i,i<n->-4<=x i/\x i<=4)->(∀i,i<n->q<=i->x i=4\/x i = -4)->xZf n x y<=K
 |0,x,_,h2=>h x fun i hi=>h2 i hi (Nat.zero_le _)
 |q+1,x,h1,h2=>by
  by_cases hq:q<n
  ·have hh:∀s:Int,s=4\/s = -4->xZf n (upd x q s) y<=K:=fun s hs=>by
    refine xVa h q _ (fun i hi=>?_) (fun i hi hqi=>?_)
    ·unfold upd;split
     ·omega
     ·exact h1 i hi
    ·unfold upd;split
     ·exact hs
     ·exact h2 i hi (by omega)
   have:=(vJi n x y q).le (K:=K) (h1 q hq).1 (h1 q hq).2 (hh _ (.inr rfl)) (hh _ (.inl rfl))
   rwa [yQs] at this
  ·exact xVa h q x h1 fun i hi hqi=>by omega
theorem zXj{n:Nat}{K:Int}(h:∀x y:Nat->Int,(∀i,i<n->x i=4\/x i = -4)->(∀i,i<n->y i=4\/y i = -4)->xZf n x y<=K)
  {x y:Nat->Int} (hx:∀i,i<n->-4<=x i/\x i<=4) (hy:∀i,i<n->-4<=y i/\y i<=4):xZf n x y<=K:=by
 refine xVa (fun x hx'=>?_) n x hx (fun i hi h=>by omega);rw[zXi];refine xVa (fun y hy'=>?_) n y hy (fun i hi h=>by omega);rw[zXi];exact h x y hx' hy'
def sgn(b:Bool):Int:=if b then 4 else -4
theorem uJj:∀a b c d e f g h i j:Bool,
  let x:Nat->Int:=fun k=>sgn (match k with|0=>a|1=>b|2=>c|3=>d|_=>e)
  let y:Nat->Int:=fun k=>sgn (match k with|0=>f|1=>g|2=>h|3=>i|_=>j)
  xZf 5 x y<=192:=by decide
theorem uJk:∀a b c f g h:Bool,
  let x:Nat->Int:=fun k=>sgn (match k with|0=>a|1=>b|_=>c)
  let y:Nat->Int:=fun k=>sgn (match k with|0=>f|1=>g|_=>h)
  xZf 3 x y<=64:=by decide
theorem zJ6{x:Int}(h:x=4\/x = -4):x=sgn (decide (x=4)):=by rcases h with rfl|rfl<;>rfl
theorem zJ7{n:Nat}{x x' y y':Nat->Int}(hx:∀i,i<n->x i=x' i)(hy:∀i,i<n->y i=y' i):xZf n x y=xZf n x' y':=
 sumN_congr fun j hj=>sumN_congr fun k hk=>by rw[hx j hj,hx k (by omega),hy j hj,hy k (by omega)]
theorem yQu{x y:Nat->Int}(hx:∀i,i<5->-4<=x i/\x i<=4)(hy:∀i,i<5->-4<=y i/\y i<=4):xZf 5 x y<=192:=by
 refine zXj (fun x y hx hy=>?_) hx hy;have:=uJj (decide (x 0=4)) (decide (x 1=4)) (decide (x 2=4)) (decide (x 3=4)) (decide (x 4=4)) (decide (y 0=4)) (decide (y 1=4)) (decide (y 2=4)) (decide (y 3=4)) (decide (y 4=4));simp only at this;rw[zJ7 (x':=x) (y':=y)] at this
 ·exact this
 all_goals
  intro i hi
  match i,hi with
  |0,_=>exact(zJ6 (by first|exact hx 0 (by omega)|exact hy 0 (by omega))).symm
  |1,_=>exact(zJ6 (by first|exact hx 1 (by omega)|exact hy 1 (by omega))).symm
  |2,_=>exact(zJ6 (by first|exact hx 2 (by omega)|exact hy 2 (by omega))).symm
  |3,_=>exact(zJ6 (by first|exact hx 3 (by omega)|exact hy 3 (by omega))).symm
  |4,_=>exact(zJ6 (by first|exact hx 4 (by omega)|exact hy 4 (by omega))).symm
theorem yQv{x y:Nat->Int}(hx:∀i,i<3->-4<=x i/\x i<=4)(hy:∀i,i<3->-4<=y i/\y i<=4):xZf 3 x y<=64:=by
 refine zXj (fun x y hx hy=>?_) hx hy;have:=uJk (decide (x 0=4)) (decide (x 1=4)) (decide (x 2=4)) (decide (y 0=4)) (decide (y 1=4)) (decide (y 2=4));simp only at this;rw[zJ7 (x':=x) (y':=y)] at this
 ·exact this
 all_goals
  intro i hi
  match i,hi with
  |0,_=>exact(zJ6 (by first|exact hx 0 (by omega)|exact hy 0 (by omega))).symm
  |1,_=>exact(zJ6 (by first|exact hx 1 (by omega)|exact hy 1 (by omega))).symm
  |2,_=>exact(zJ6 (by first|exact hx 2 (by omega)|exact hy 2 (by omega))).symm
end LA
end
section
namespace LA
theorem zQj(x:Int) : -xYr x<=x/\x<=xYr x:=by unfold xYr;split<;>omega
def Bd(M:Nat)(a:Nat->Nat->Int):Prop:=∀i,i<M->∀j,j<M->-4<=a i j/\a i j<=4
theorem Bd.first{M:Nat}{a:Nat->Nat->Int}(h:Bd (M+1) a)(j:Nat):Bd M (fun i l=>a (i+1) (skip j l)):=fun i hi l hl=>h _ (by omega) _ (xZ7 hl)
theorem yYk{a:Nat->Nat->Int}(h:Bd 1 a) : -4<=det 1 a/\det 1 a<=4:=by
 have:=h 0 (by omega) 0 (by omega);have e:det 1 a=a 0 0:=by simp[det,sumN,sg]
 rw[e];exact this
theorem uJ5{a:Nat->Nat->Int}(h:Bd 2 a) : -32<=det 2 a/\det 2 a<=32:=by
 have : -(((1+1:Nat):Int)*(4*4))<=det 2 a/\det 2 a<=((1+1:Nat):Int)*(4*4):=zXh (M:=1) (a:=a) (R:=4) (H:=4) (fun j hj=>h 0 (by omega) j hj) (fun j hj=>yYk (h.first j));omega
theorem yK9(a:Nat->Nat->Int):det 2 a=a 0 0*a 1 1-a 0 1*a 1 0:=by
 simp[det,sumN,sg,skip];grind
theorem vKc{a:Nat->Nat->Int}(h:Bd 3 a) : -256<=det 3 a/\det 3 a<=256:=by
 have e:det 3 a=a 0 0*(a 1 1*a 2 2-a 1 2*a 2 1)-a 0 1*(a 1 0*a 2 2-a 1 2*a 2 0)+a 0 2*(a 1 0*a 2 1-a 1 1*a 2 0):=by
  rw[xX3];simp only[sumN,yK9];simp[sg,skip];grind
 have hp:=yQv (x:=a 1) (y:=a 2) (fun i hi=>h 1 (by omega) i hi) (fun i hi=>h 2 (by omega) i hi);have ep:xZf 3 (a 1) (a 2)=xYr (a 1 1*a 2 0-a 1 0*a 2 1)+xYr (a 1 2*a 2 0-a 1 0*a 2 2)+xYr (a 1 2*a 2 1-a 1 1*a 2 2):=by
  simp[xZf,sumN];omega
 have b0:=abs_mul (h 0 (by omega) 0 (by omega)) (zQj (a 1 2*a 2 1-a 1 1*a 2 2));have b1:=abs_mul (h 0 (by omega) 1 (by omega)) (zQj (a 1 2*a 2 0-a 1 0*a 2 2));have b2:=abs_mul (h 0 (by omega) 2 (by omega)) (zQj (a 1 1*a 2 0-a 1 0*a 2 1));have e2:det 3 a = - (a 0 0*(a 1 2*a 2 1-a 1 1*a 2 2))+a 0 1*(a 1 2*a 2 0-a 1 0*a 2 2)-a 0 2*(a 1 1*a 2 0-a 1 0*a 2 1):=by rw[e];grind
 omega
theorem uJ6{a:Nat->Nat->Int}(h:Bd 4 a) : -4096<=det 4 a/\det 4 a<=4096:=by
 have : -(((3+1:Nat):Int)*(4*256))<=det 4 a/\det 4 a<=((3+1:Nat):Int)*(4*256):=zXh (M:=3) (a:=a) (R:=4) (H:=256) (fun j hj=>h 0 (by omega) j hj) (fun j hj=>vKc (h.first j));omega
def xVj(a:Nat->Nat->Int)(k j:Nat):Int:=det 3 fun i l=>a (i+2) (skip j (skip k l))
theorem yZn(a:Nat->Nat->Int):det 5 a=sumN 5 fun j=>sumN j fun k=>sg (j+k+1)*(a 0 k*a 1 j-a 0 j*a 1 k)*xVj a k j:=by
 have hD:∀j k,(det 3 fun i l=>a (i+1+1) (skip j (skip k l)))=if k<j then xVj a k j else xVj a j (k+1):=fun j k=>by
  unfold xVj
  by_cases e:k<j
  ·rw[if_pos e]
  ·rw[if_neg e];refine xJr fun i _ l _=>?_
   have e2:skip j (skip k l)=skip (k+1) (skip j l):=by unfold skip;(repeat' split)<;>omega
   rw[e2]
 rw[xX3];have e4:∀j,(det 4 fun i k=>a (i+1) (skip j k))=sumN 4 fun k=>sg k*a 1 (skip j k)*if k<j then xVj a k j else xVj a j (k+1):=fun j=>by
  rw[xX3];refine sumN_congr fun k _=>?_
  rw[<- hD]
 simp only[e4];simp[sumN,sg,skip]
 grind
theorem yYl{a:Nat->Nat->Int}(h:Bd 5 a) : -49152<=det 5 a/\det 5 a<=49152:=by
 have hm:∀k j,-256<=xVj a k j/\xVj a k j<=256:=fun k j=>vKc fun i hi l hl=>h _ (by omega) _ (xZ7 (xZ7 hl))
 have hp:=yQu (x:=a 1) (y:=a 0) (fun i hi=>h 1 (by omega) i hi) (fun i hi=>h 0 (by omega) i hi);have ht:∀j k,-(xYr (a 1 j*a 0 k-a 1 k*a 0 j)*256)<=sg (j+k+1)*(a 0 k*a 1 j-a 0 j*a 1 k)*xVj a k j/\sg (j+k+1)*(a 0 k*a 1 j-a 0 j*a 1 k)*xVj a k j<=xYr (a 1 j*a 0 k-a 1 k*a 0 j)*256:=fun j k=>by
  refine abs_mul ?_ (hm k j);have h1:=zQj (a 1 j*a 0 k-a 1 k*a 0 j);have e:a 0 k*a 1 j-a 0 j*a 1 k=a 1 j*a 0 k-a 1 k*a 0 j:=by grind
  rw[e];rcases zYc (j+k+1) with e|e<;>rw[e]<;>omega
 rw[yZn];have h1:(sumN 5 fun j=>sumN j fun k=>sg (j+k+1)*(a 0 k*a 1 j-a 0 j*a 1 k)*xVj a k j)<=sumN 5 fun j=>sumN j fun k=>256*xYr (a 1 j*a 0 k-a 1 k*a 0 j):=
  uXg fun j _=>uXg fun k _=>by have:=(ht j k).2;omega
 have h2 : -(sumN 5 fun j=>sumN j fun k=>256*xYr (a 1 j*a 0 k-a 1 k*a 0 j))<=sumN 5 fun j=>sumN j fun k=>sg (j+k+1)*(a 0 k*a 1 j-a 0 j*a 1 k)*xVj a k j:=by
  rw[<- xXv];refine uXg fun j _=>?_
  rw[<- xXv];exact uXg fun k _=>by have:=(ht j k).1;omega
 have e:(sumN 5 fun j=>sumN j fun k=>256*xYr (a 1 j*a 0 k-a 1 k*a 0 j))=256*xZf 5 (a 1) (a 0):=by
  unfold xZf;rw[<- sumN_mul];exact sumN_congr fun j _=>sumN_mul _ _ _
 omega
theorem uJ7{a:Nat->Nat->Int}(h:Bd 6 a) : -1179648<=det 6 a/\det 6 a<=1179648:=by
 have : -(((5+1:Nat):Int)*(4*49152))<=det 6 a/\det 6 a<=((5+1:Nat):Int)*(4*49152):=zXh (M:=5) (a:=a) (R:=4) (H:=49152) (fun j hj=>h 0 (by omega) j hj) (fun j hj=>yYl (h.first j));omega
theorem vKd{M:Nat}{a:Nat->Nat->Int}(hM:M<=5)(h:Bd M a) : -49152<=det M a/\det M a<=49152:=by
 match M,hM,h with
 |0,_,_=>simp[det]
 |1,_,h=>have:=yYk h;omega
 |2,_,h=>have:=uJ5 h;omega
 |3,_,h=>have:=vKc h;omega
 |4,_,h=>have:=uJ6 h;omega
 |5,_,h=>exact yYl h
theorem vKe{M:Nat}{a:Nat->Nat->Int}(hM:M<=6)(h:Bd M a) : -1179648<=det M a/\det M a<=1179648:=by
 rcases Nat.lt_or_ge M 6 with h1|h1
 ·have:=vKd (by omega) h;omega
 ·obtain rfl:M=6:=by omega
  exact uJ7 h
theorem zWv{M:Nat}{a:Nat->Nat->Int}{q k:Nat}(hM:M<=6)(hq:q<M)(hk:k<M)(hu:∀i,i<M->a i q=if i=k then 1 else 0)
  (h:∀i,i<M->∀j,j<M->j≠q->-4<=a i j/\a i j<=4) : -49152<=det M a/\det M a<=49152:=by
 obtain⟨N,rfl⟩:∃N,M=N+1:=⟨M-1,by omega⟩;have h1:=vKd (M:=N) (a:=fun i j=>a (skip k i) (skip q j)) (by omega) (fun i hi j hj=>h _ (xZ7 hi) _ (xZ7 hj) (zYd _ _));rcases vZ8 hq hk hu with e|e<;>rw[e]<;>omega
end LA
end
section
namespace LA
structure LP where
 m:Nat
 n:Nat
 A:Nat->Nat->Int
 b:Nat->Int
 c:Nat->Int
def LP.t0(P:LP)(i j:Nat):Int:=if j<P.n then P.A i j else if j<P.n+P.m then(if j=P.n+i then 1 else 0) else if j=P.n+P.m then -1 else P.b i
def LP.N(P:LP):Nat:=P.n+P.m+2
def LP.last(P:LP):Nat:=P.n+P.m+1
def LP.g0(P:LP)(j:Nat):Int:=if j<P.n then-P.c j else 0
def LP.g1(P:LP)(j:Nat):Int:=if j=P.n+P.m then 1 else 0
def LP.cols(P:LP)(bs:Nat->Nat):Nat->Nat->Int:=fun i k=>P.t0 i (bs k)
def LP.col(P:LP)(j:Nat):Nat->Int:=fun i=>P.t0 i j
def LP.obj(P:LP)(g:Nat->Int)(bs:Nat->Nat)(T:Nat->Nat->Int)(den:Int)(j:Nat):Int:=den*g j-sumN P.m fun i=>g (bs i)*T i j
structure Tab(P:LP)(bs:Nat->Nat)(T:Nat->Nat->Int)(den:Int):Prop where
 pos:0<den
 bas:∀i,i<P.m->bs i<=P.n+P.m
 ex:∃s:Int,(s=1\/s = -1)/\den=s*det P.m (P.cols bs)/\∀i,i<P.m->∀j,j<P.N->T i j=s*det P.m (xJx (P.cols bs) i (P.col j))
section
variable {P:LP}{bs:Nat->Nat}{T:Nat->Nat->Int}{den:Int}
theorem uJ1(P:LP)(bs:Nat->Nat)(i:Nat):xJx (P.cols bs) i (P.col (bs i))=P.cols bs:=by
 funext a j;unfold xJx LP.cols LP.col
 split
 ·next h=>rw[h]
 ·rfl
theorem vQc(P:LP)(bs:Nat->Nat)(r c:Nat):xJx (P.cols bs) r (P.col c)=P.cols (fun i=>if i=r then c else bs i):=by
 funext a j;unfold xJx LP.cols LP.col;simp only
 split<;>rfl
theorem Tab.at_basis(h:Tab P bs T den){i k:Nat}(hi:i<P.m)(hk:k<P.m):T i (bs k)=if k=i then den else 0:=by
 obtain⟨s,_,h1,h2⟩:=h.ex;have hb:=h.bas k hk;rw[h2 i hi _ (by unfold LP.N;omega)]
 by_cases e:k=i
 ·subst e;rw[if_pos rfl,uJ1,h1]
 ·rw[if_neg e,xW3 (a:=xJx (P.cols bs) i (P.col (bs k))) (q:=i) (p:=k) hi hk (Ne.symm e) (fun t _=>by rw[xX9,xXe _ _ _ e];rfl)];simp
theorem Tab.inj(h:Tab P bs T den){i k:Nat}(hi:i<P.m)(hk:k<P.m)(e:bs i=bs k):i=k:=by
 have h1:=h.at_basis (i:=k) hk hi;have h2:=h.at_basis (i:=k) hk hk;have hp:=h.pos;rw[e,h2,if_pos rfl] at h1
 by_cases e2:i=k
 ·exact e2
 ·rw[if_neg e2] at h1;omega
theorem Tab.column(h:Tab P bs T den){t j:Nat}(ht:t<P.m)(hj:j<P.N):den*P.t0 t j=sumN P.m fun i=>T i j*P.t0 t (bs i):=by
 obtain⟨s,_,h1,h2⟩:=h.ex;have hc:=yZb (P.cols bs) (P.col j) ht;rw[h1];have e:(sumN P.m fun i=>T i j*P.t0 t (bs i))=s*sumN P.m fun i=>P.cols bs t i*det P.m (xJx (P.cols bs) i (P.col j)):=by
  rw[<- sumN_mul];refine sumN_congr fun i hi=>?_
  rw[h2 i hi j hj];unfold LP.cols
  grind
 rw[e,hc];unfold LP.col
 grind
theorem xQn(P:LP){i k:Nat}(hk:k<P.m):P.t0 i (P.n+k)=if k=i then 1 else 0:=by
 unfold LP.t0;rw[if_neg (by omega),if_pos (by omega)]
 by_cases e:k=i
 ·rw[if_pos (by omega),if_pos e]
 ·rw[if_neg (by omega),if_neg e]
theorem t0_art(P:LP)(i:Nat):P.t0 i (P.n+P.m) = -1:=by
 unfold LP.t0;rw[if_neg (by omega),if_neg (by omega),if_pos rfl]
theorem t0_last(P:LP)(i:Nat):P.t0 i P.last=P.b i:=by
 unfold LP.t0 LP.last;rw[if_neg (by omega),if_neg (by omega),if_neg (by omega)]
theorem vQd(P:LP){i j:Nat}(h:j<P.n):P.t0 i j=P.A i j:=by unfold LP.t0;rw[if_pos h]
theorem Tab.row(h:Tab P bs T den){i j:Nat}(hi:i<P.m)(hj:j<P.N):T i j=sumN P.m fun k=>P.t0 k j*T i (P.n+k):=by
 obtain⟨s,_,h1,h2⟩:=h.ex;rw[h2 i hi j hj];have e:det P.m (xJx (P.cols bs) i (P.col j))=det P.m (xJx (P.cols bs) i fun t=>sumN P.m fun k=>P.t0 k j*P.col (P.n+k) t):=xJr fun t ht q _=>by
  by_cases e:q=i
  ·subst e;rw[xX9,xX9,uXj (k:=t) _ ht fun k hk hne=>by
    show _*P.t0 t (P.n+k)=0;rw[xQn P hk,if_neg hne];simp]
   show _=_*P.t0 t (P.n+t);rw[xQn P ht,if_pos rfl];simp[LP.col]
  ·rw[xXe _ _ _ e,xXe _ _ _ e]
 rw[e,vWr _ hi,<- sumN_mul];refine sumN_congr fun k hk=>?_
 rw[h2 i hi _ (by unfold LP.N;omega)]
 grind
theorem Tab.obj_basis(h:Tab P bs T den)(g:Nat->Int){k:Nat}(hk:k<P.m):P.obj g bs T den (bs k)=0:=by
 unfold LP.obj;rw[uXj (k:=k) _ hk fun i hi hne=>by rw[h.at_basis hi hk,if_neg (Ne.symm hne)];simp];rw[h.at_basis hk hk,if_pos rfl]
 grind
theorem Tab.obj_row(h:Tab P bs T den){g:Nat->Int}(hg:∀k,k<P.m->g (P.n+k)=0){j:Nat}(hj:j<P.N) :
  P.obj g bs T den j=den*g j+sumN P.m fun k=>P.t0 k j*P.obj g bs T den (P.n+k):=by
 have e1:(sumN P.m fun i=>g (bs i)*T i j)=sumN P.m fun k=>P.t0 k j*sumN P.m fun i=>g (bs i)*T i (P.n+k):=by
  have e2:(sumN P.m fun i=>g (bs i)*T i j)=sumN P.m fun i=>sumN P.m fun k=>P.t0 k j*(g (bs i)*T i (P.n+k)):=sumN_congr fun i hi=>by
   rw[h.row hi hj,<- sumN_mul];exact sumN_congr fun k _=>by grind
  rw[e2,xYb];exact sumN_congr fun k _=>by rw[sumN_mul]
 have e3:(sumN P.m fun k=>P.t0 k j*P.obj g bs T den (P.n+k)) = - sumN P.m fun k=>P.t0 k j*sumN P.m fun i=>g (bs i)*T i (P.n+k):=by
  rw[<- xXv];refine sumN_congr fun k hk=>?_
  unfold LP.obj;rw[hg k hk]
  grind
 rw[e3,<- e1];unfold LP.obj;omega
def pivQ(T:Nat->Nat->Int)(den:Int)(r c i j:Nat):Int:=if i=r then T r j else(T i j*T r c-T i c*T r j).tdiv den
def pivT(T:Nat->Nat->Int)(den:Int)(r c i j:Nat):Int:=if T r c<0 then-pivQ T den r c i j else pivQ T den r c i j
def vK2(T:Nat->Nat->Int)(r c:Nat):Int:=if T r c<0 then-T r c else T r c
def pivB(bs:Nat->Nat)(r c:Nat):Nat->Nat:=fun i=>if i=r then c else bs i
theorem Tab.exact(h:Tab P bs T den){s:Int}(hs:s=1\/s = -1)(h1:den=s*det P.m (P.cols bs))(h2:∀i,i<P.m->∀j,j<P.N->T i j=s*det P.m (xJx (P.cols bs) i (P.col j)))
  {r c i j:Nat} (hr:r<P.m) (hc:c<P.N) (hi:i<P.m) (hne:i≠r) (hj:j<P.N) :
  T i j*T r c-T i c*T r j=den*(s*det P.m (xJx (P.cols (pivB bs r c)) i (P.col j))):=by
 have hp:=yQr (P.cols bs) hi hr hne (P.col c) (P.col j);have e:xJx (P.cols bs) r (P.col c)=P.cols (pivB bs r c):=vQc P bs r c;rw[e] at hp;rw[h2 i hi j hj,h2 r hr c hc,h2 i hi c hc,h2 r hr j hj,h1,e]
 grind
theorem Tab.pivQ_eq(h:Tab P bs T den){s:Int}(hs:s=1\/s = -1)(h1:den=s*det P.m (P.cols bs))(h2:∀i,i<P.m->∀j,j<P.N->T i j=s*det P.m (xJx (P.cols bs) i (P.col j)))
  {r c i j:Nat} (hr:r<P.m) (hc:c<P.N) (hi:i<P.m) (hj:j<P.N):pivQ T den r c i j=s*det P.m (xJx (P.cols (pivB bs r c)) i (P.col j)):=by
 unfold pivQ
 by_cases e:i=r
 ·subst e;rw[if_pos rfl,h2 i hi j hj];congr 1;exact xJr fun t _ q _=>by
   by_cases e:q=i
   ·subst e;rw[xX9,xX9]
   ·rw[xXe _ _ _ e,xXe _ _ _ e];unfold LP.cols pivB;simp[e]
 ·rw[if_neg e,h.exact hs h1 h2 hr hc hi e hj];exact Int.mul_tdiv_cancel_left _ (by have:=h.pos;omega)
theorem Tab.pivot(h:Tab P bs T den){r c:Nat}(hr:r<P.m)(hc:c<=P.n+P.m)(h0:T r c≠0):Tab P (pivB bs r c) (pivT T den r c) (vK2 T r c):=by
 obtain⟨s,hs,h1,h2⟩:=h.ex;have hcN:c<P.N:=by unfold LP.N;omega
 have hd:T r c=s*det P.m (P.cols (pivB bs r c)):=by
  rw[h2 r hr c hcN,vQc];rfl
 refine⟨by unfold vK2;split<;>omega,fun i hi=>?_,?_⟩
 ·unfold pivB;split
  ·exact hc
  ·exact h.bas i hi
 ·by_cases e:T r c<0
  ·refine⟨-s,by omega,by unfold vK2;rw[if_pos e,hd];grind,fun i hi j hj=>?_⟩;unfold pivT;rw[if_pos e,h.pivQ_eq hs h1 h2 hr hcN hi hj]
   grind
  ·refine⟨s,hs,by unfold vK2;rw[if_neg e,hd],fun i hi j hj=>?_⟩;unfold pivT;rw[if_neg e,h.pivQ_eq hs h1 h2 hr hcN hi hj]
theorem Tab.pivQ_mul(h:Tab P bs T den){r c i j:Nat}(hr:r<P.m)(hc:c<P.N)(hi:i<P.m)(hne:i≠r)(hj:j<P.N) :
  den*pivQ T den r c i j=T i j*T r c-T i c*T r j:=by
 obtain⟨s,hs,h1,h2⟩:=h.ex;rw[h.pivQ_eq hs h1 h2 hr hc hi hj,h.exact hs h1 h2 hr hc hi hne hj]
theorem Tab.obj_exact(h:Tab P bs T den)(g:Nat->Int){r c j:Nat}(hr:r<P.m)(hc:c<P.N)(hj:j<P.N) :
  P.obj g bs T den j*T r c-P.obj g bs T den c*T r j=den*P.obj g (pivB bs r c) (pivQ T den r c) (T r c) j:=by
 unfold LP.obj;have e1:den*sumN P.m (fun i=>g (pivB bs r c i)*pivQ T den r c i j)=den*(g c*T r j)+sumN P.m fun i=>g (bs i)*(T i j*T r c-T i c*T r j):=by
  rw[xXk (k:=r) _ hr,Int.mul_add,xXk (n:=P.m) (k:=r) (fun i=>g (bs i)*(T i j*T r c-T i c*T r j)) hr];have e2:g (bs r)*(T r j*T r c-T r c*T r j)=0:=by grind
  rw[e2,<- sumN_mul];have e3:g (pivB bs r c r)*pivQ T den r c r j=g c*T r j:=by unfold pivB pivQ;simp
  rw[e3];have e4:(sumN P.m fun i=>den*if i=r then 0 else g (pivB bs r c i)*pivQ T den r c i j)=sumN P.m fun i=>if i=r then 0 else g (bs i)*(T i j*T r c-T i c*T r j):=sumN_congr fun i hi=>by
   by_cases e:i=r
   ·simp[e]
   ·rw[if_neg e,if_neg e,<- h.pivQ_mul hr hc hi e hj];unfold pivB;rw[if_neg e]
    grind
  rw[e4];omega
 have e5:(sumN P.m fun i=>g (bs i)*(T i j*T r c-T i c*T r j))=T r c*(sumN P.m fun i=>g (bs i)*T i j)-T r j*sumN P.m fun i=>g (bs i)*T i c:=by
  rw[<- sumN_mul,<- sumN_mul,Int.sub_eq_add_neg,<- xXv,<- uXm];exact sumN_congr fun i _=>by grind
 have e6:=e1;rw[e5] at e6
 grind
end
end LA
end
section
namespace LA
theorem uJx{M:Nat}{a:Nat->Nat->Int}(h:∀i,i<M->∀j,j<M->a i j=if i=j then 1 else 0):det M a=1:=by
 induction M generalizing a with
 |zero=>rfl
 |succ M ih=>
  rw[xX3,uXj (k:=0) _ (by omega) fun j hj hne=>by rw[h 0 (by omega) j hj,if_neg (Ne.symm hne)];simp];rw[h 0 (by omega) 0 (by omega),ih fun i hi k hk=>by
   show a (i+1) (skip 0 k)=_;have e:skip 0 k=k+1:=rfl;rw[e,h _ (by omega) _ (by omega)]
   by_cases e2:i=k
   ·subst e2;simp
   ·rw[if_neg (by omega),if_neg e2]]
  rfl
structure Tabl(P:LP)(bs:Nat->Nat)(T:Nat->Nat->Int)(den:Int):Prop extends Tab P bs T den where
 goal:∀j,j<P.N->T P.m j=P.obj P.g0 bs T den j
 art:∀j,j<P.N->T (P.m+1) j=P.obj P.g1 bs T den j
def LP.T0(P:LP)(i j:Nat):Int:=if i<P.m then P.t0 i j else if i=P.m then P.g0 j else P.g1 j
theorem zJn(P:LP)(k:Nat):P.g0 (P.n+k)=0:=by unfold LP.g0;rw[if_neg (by omega)]
theorem zJo(P:LP){k:Nat}(hk:k<P.m):P.g1 (P.n+k)=0:=by unfold LP.g1;rw[if_neg (by omega)]
theorem Tabl.start(P:LP):Tabl P (fun i=>P.n+i) P.T0 1:=by
 have hid:det P.m (P.cols fun i=>P.n+i)=1:=uJx fun i hi j hj=>by
  unfold LP.cols;rw[xQn P hj]
  by_cases e:i=j
  ·rw[if_pos e,if_pos e.symm]
  ·rw[if_neg e,if_neg (Ne.symm e)]
 refine { pos:=by omega,bas:=fun i hi=>by omega,ex:=⟨1,.inl rfl,by rw[hid];rfl,fun i hi j hj=>?_⟩,goal:=fun j hj=>?_,art:=fun j hj=>?_ }
 ·have h:=yZb (P.cols fun i=>P.n+i) (P.col j) hi;rw[hid,uXj (k:=i) _ hi fun k hk hne=>by
   unfold LP.cols;rw[xQn P hk,if_neg hne];simp] at h
  have e:P.cols (fun i=>P.n+i) i i=1:=by unfold LP.cols;rw[xQn P hi,if_pos rfl]
  rw[e] at h;unfold LP.T0;rw[if_pos hi];have e2:P.t0 i j=P.col j i:=rfl;rw[e2];omega
 ·unfold LP.T0 LP.obj;rw[if_neg (by omega),if_pos rfl,sumN_eq_zero fun i hi=>by rw[zJn];simp];omega
 ·unfold LP.T0 LP.obj;rw[if_neg (by omega),if_neg (by omega),sumN_eq_zero fun i hi=>by rw[zJo P hi];simp];omega
section
variable {P:LP}{bs:Nat->Nat}{T:Nat->Nat->Int}{den:Int}
theorem yWe(P:LP)(g:Nat->Int)(bs:Nat->Nat)(T:Nat->Nat->Int)(den:Int)(j:Nat):P.obj g bs (fun i j=>- T i j) (-den) j = - P.obj g bs T den j:=by
 unfold LP.obj;have:(sumN P.m fun i=>g (bs i) * - T i j) = - sumN P.m fun i=>g (bs i)*T i j:=by
  rw[<- xXv];exact sumN_congr fun i _=>by grind
 rw[this];grind
theorem yJg(h:Tab P bs T den)(g:Nat->Int){r c j i:Nat}(hr:r<P.m)(hc:c<P.N)(hj:j<P.N)(hi:P.m<=i)(h0:∀j,j<P.N->T i j=P.obj g bs T den j) :
  pivT T den r c i j=P.obj g (pivB bs r c) (pivT T den r c) (vK2 T r c) j:=by
 have e1:pivQ T den r c i j=P.obj g (pivB bs r c) (pivQ T den r c) (T r c) j:=by
  unfold pivQ;rw[if_neg (by omega),h0 j hj,h0 c hc,h.obj_exact g hr hc hj];exact Int.mul_tdiv_cancel_left _ (by have:=h.pos;omega)
 unfold vK2
 by_cases e:T r c<0
 ·rw[if_pos e];have e2:pivT T den r c=fun i j=>- pivQ T den r c i j:=by funext i j;unfold pivT;rw[if_pos e]
  rw[e2,yWe,<- e1]
 ·rw[if_neg e];have e2:pivT T den r c=pivQ T den r c:=by funext i j;unfold pivT;rw[if_neg e]
  rw[e2,<- e1]
theorem Tabl.pivot(h:Tabl P bs T den){r c:Nat}(hr:r<P.m)(hc:c<=P.n+P.m)(h0:T r c≠0):Tabl P (pivB bs r c) (pivT T den r c) (vK2 T r c):=
 {h.toTab.pivot hr hc h0 with
  goal:=fun j hj=>yJg h.toTab P.g0 hr (by unfold LP.N;omega) hj (by omega) h.goal
  art:=fun j hj=>yJg h.toTab P.g1 hr (by unfold LP.N;omega) hj (by omega) h.art }
theorem Tabl.exact_div(h:Tabl P bs T den){r c i j:Nat}(hr:r<P.m)(hc:c<P.N)(hi:i<P.m+2)(hne:i≠r)(hj:j<P.N) :
  den*pivQ T den r c i j=T i j*T r c-T i c*T r j:=by
 by_cases e:i<P.m
 ·exact h.pivQ_mul hr hc e hne hj
 ·have hx:∃g,∀j,j<P.N->T i j=P.obj g bs T den j:=by
   rcases (by omega:i=P.m\/i=P.m+1) with rfl|rfl
   ·exact⟨_,h.goal⟩
   ·exact⟨_,h.art⟩
  obtain⟨g,h0⟩:=hx;unfold pivQ;rw[if_neg hne,h0 j hj,h0 c hc,h.obj_exact g hr hc hj,Int.mul_tdiv_cancel_left _ (by have:=h.pos;omega)]
structure LPIn(P:LP):Prop where
 m:P.m<=6
 n:P.n<=6
 A:∀i,i<P.m->∀j,j<P.n->-4<=P.A i j/\P.A i j<=4
 b:∀i,i<P.m->-20<=P.b i/\P.b i<=20
 c:∀j,j<P.n->-20<=P.c j/\P.c j<=20
theorem LPIn.t0(hP:LPIn P){i j:Nat}(hi:i<P.m)(hj:j<=P.n+P.m) : -4<=P.t0 i j/\P.t0 i j<=4:=by
 unfold LP.t0
 by_cases e:j<P.n
 ·rw[if_pos e];exact hP.A i hi j e
 ·rw[if_neg e];split
  ·split<;>omega
  ·rw[if_pos (by omega)];omega
theorem LPIn.g0(hP:LPIn P)(j:Nat) : -20<=P.g0 j/\P.g0 j<=20:=by
 unfold LP.g0;split
 ·next h=>have:=hP.c j h;omega
 ·omega
theorem LP.g1_in(P:LP)(j:Nat) : -1<=P.g1 j/\P.g1 j<=1:=by unfold LP.g1;split<;>omega
theorem Tab.le_den(h:Tab P bs T den)(hP:LPIn P):den<=1179648:=by
 obtain⟨s,hs,h1,_⟩:=h.ex;have:=vKe (M:=P.m) (a:=P.cols bs) hP.m fun i hi j hj=>hP.t0 hi (h.bas j hj)
 rcases hs with rfl|rfl<;>omega
theorem Tab.le_col(h:Tab P bs T den)(hP:LPIn P){i j:Nat}(hi:i<P.m)(hj:j<=P.n+P.m) : -1179648<=T i j/\T i j<=1179648:=by
 obtain⟨s,hs,_,h2⟩:=h.ex;have:=vKe (M:=P.m) (a:=xJx (P.cols bs) i (P.col j)) hP.m fun t ht k hk=>by
  by_cases e:k=i
  ·subst e;rw[xX9];exact hP.t0 ht hj
  ·rw[xXe _ _ _ e];exact hP.t0 ht (h.bas k hk)
 rw[h2 i hi j (by unfold LP.N;omega)];rcases hs with rfl|rfl<;>omega
theorem Tab.le_slack(h:Tab P bs T den)(hP:LPIn P){i k:Nat}(hi:i<P.m)(hk:k<P.m) : -49152<=T i (P.n+k)/\T i (P.n+k)<=49152:=by
 obtain⟨s,hs,_,h2⟩:=h.ex;have:=zWv (M:=P.m) (a:=xJx (P.cols bs) i (P.col (P.n+k))) (q:=i) (k:=k) hP.m hi hk (fun t ht=>by
  rw[xX9];show P.t0 t (P.n+k)=_;rw[xQn P hk]
  by_cases e:t=k
  ·rw[if_pos e,if_pos e.symm]
  ·rw[if_neg e,if_neg (Ne.symm e)]) fun t ht q hq hne=>by
   rw[xXe _ _ _ hne];exact hP.t0 ht (h.bas q hq)
 rw[h2 i hi _ (by unfold LP.N;omega)];rcases hs with rfl|rfl<;>omega
theorem yJh{m:Nat}{f:Nat->Int}{B:Int}(hm:m<=6)(h:∀i,i<m->-B<=f i/\f i<=B)(hB:0<=B) : -(6*B)<=sumN m f/\sumN m f<=6*B:=by
 have h1:=vQf h;have h2:(m:Int)*B<=6*B:=Int.mul_le_mul_of_nonneg_right (by omega) hB;omega
theorem Tab.le_last(h:Tab P bs T den)(hP:LPIn P){i:Nat}(hi:i<P.m) : -5898240<=T i P.last/\T i P.last<=5898240:=by
 rw[h.row hi (by unfold LP.last LP.N;omega)];have:=yJh (m:=P.m) (f:=fun k=>P.t0 k P.last*T i (P.n+k)) (B:=20*49152) hP.m (fun k hk=>by
  rw[t0_last];exact abs_mul (hP.b k hk) (h.le_slack hP hi hk)) (by omega)
 omega
theorem Tab.le_any(h:Tab P bs T den)(hP:LPIn P){i j:Nat}(hi:i<P.m)(hj:j<P.N) : -5898240<=T i j/\T i j<=5898240:=by
 by_cases e:j<=P.n+P.m
 ·have:=h.le_col hP hi e;omega
 ·obtain rfl:j=P.last:=by unfold LP.N at hj;unfold LP.last;omega
  exact h.le_last hP hi
theorem Tab.obj_le(h:Tab P bs T den)(hP:LPIn P){g:Nat->Int}{G:Int}(hG:0<=G)(hg:∀j,-G<=g j/\g j<=G){j:Nat}{B D:Int}(hB:0<=B)(hj:∀i,i<P.m->-B<=T i j/\T i j<=B)(hd:g j=0\/D=den*G)(hD:0<=D) :
  -(D+6*(G*B))<=P.obj g bs T den j/\P.obj g bs T den j<=D+6*(G*B):=by
 have h1:=yJh (m:=P.m) (f:=fun i=>g (bs i)*T i j) (B:=G*B) hP.m (fun i hi=>abs_mul (hg _) (hj i hi)) (Int.mul_nonneg hG hB);have h2 : -D<=den*g j/\den*g j<=D:=by
  rcases hd with e|e
  ·rw[e];omega
  ·rw[e];exact abs_mul (by have:=h.pos;omega) (hg j)
 unfold LP.obj;omega
theorem Tabl.goal_last(h:Tabl P bs T den)(hP:LPIn P) : -707788800<=T P.m P.last/\T P.m P.last<=707788800:=by
 rw[h.goal _ (by unfold LP.last LP.N;omega)];have:=h.obj_le hP (g:=P.g0) (G:=20) (by omega) hP.g0 (j:=P.last) (B:=5898240) (D:=0) (by omega) (fun i hi=>h.le_last hP hi) (.inl (by unfold LP.g0 LP.last;rw[if_neg (by omega)])) (by omega);omega
theorem Tabl.goal_slack(h:Tabl P bs T den)(hP:LPIn P){k:Nat}(hk:k<P.m) : -5898240<=T P.m (P.n+k)/\T P.m (P.n+k)<=5898240:=by
 rw[h.goal _ (by unfold LP.N;omega)];have:=h.obj_le hP (g:=P.g0) (G:=20) (by omega) hP.g0 (j:=P.n+k) (B:=49152) (D:=0) (by omega) (fun i hi=>h.le_slack hP hi hk) (.inl (zJn P k)) (by omega);omega
theorem Tabl.goal_any(h:Tabl P bs T den)(hP:LPIn P){j:Nat}(hj:j<P.N) : -707788800<=T P.m j/\T P.m j<=707788800:=by
 by_cases e:j<=P.n+P.m
 ·rw[h.goal _ hj];have hd:=h.le_den hP;have hp:=h.pos;have:=h.obj_le hP (g:=P.g0) (G:=20) (by omega) hP.g0 (j:=j) (B:=1179648) (D:=den*20) (by omega) (fun i hi=>h.le_col hP hi e) (.inr rfl) (by omega);omega
 ·obtain rfl:j=P.last:=by unfold LP.N at hj;unfold LP.last;omega
  exact h.goal_last hP
theorem Tabl.art_slack(h:Tabl P bs T den)(hP:LPIn P){k:Nat}(hk:k<P.m) : -294912<=T (P.m+1) (P.n+k)/\T (P.m+1) (P.n+k)<=294912:=by
 rw[h.art _ (by unfold LP.N;omega)];have:=h.obj_le hP (g:=P.g1) (G:=1) (by omega) P.g1_in (j:=P.n+k) (B:=49152) (D:=0) (by omega) (fun i hi=>h.le_slack hP hi hk) (.inl (zJo P hk)) (by omega);omega
theorem Tabl.art_any(h:Tabl P bs T den)(hP:LPIn P){j:Nat}(hj:j<P.N) : -707788800<=T (P.m+1) j/\T (P.m+1) j<=707788800:=by
 rw[h.art _ hj];have hd:=h.le_den hP;have hp:=h.pos;have:=h.obj_le hP (g:=P.g1) (G:=1) (by omega) P.g1_in (j:=j) (B:=5898240) (D:=den*1) (by omega) (fun i hi=>h.le_any hP hi hj) (.inr rfl) (by omega);omega
theorem Tabl.le(h:Tabl P bs T den)(hP:LPIn P){i j:Nat}(hi:i<P.m+2)(hj:j<P.N) : -707788800<=T i j/\T i j<=707788800:=by
 by_cases e:i<P.m
 ·have:=h.le_any hP e hj;omega
 ·rcases (by omega:i=P.m\/i=P.m+1) with rfl|rfl
  ·exact h.goal_any hP hj
  ·exact h.art_any hP hj
end
end LA
end
section
namespace LA
theorem yK0:∀(N:Nat) (f:Nat->Nat),(∀k,k<=N->f k<N)->∃a b,a<b/\b<=N/\f a=f b
 |0,f,h=>absurd (h 0 (Nat.le_refl _)) (by omega)
 |N+1,f,h=>by
  by_cases hx:∃a,a<N+1/\f a=f (N+1)
  ·obtain⟨a,h1,h2⟩:=hx;exact⟨a,N+1,h1,Nat.le_refl _,h2⟩
  ·have hne:∀a,a<=N->f a≠f (N+1):=fun a ha e=>hx ⟨a,by omega,e⟩
   obtain⟨a,b,h1,h2,h3⟩:=yK0 N (fun k=>if f k<f (N+1) then f k else f k-1) (fun k hk=>by
    have h1:=h k (by omega);have h2:=h (N+1) (Nat.le_refl _);have h3:=hne k hk
    split<;>omega)
   refine⟨a,b,h1,by omega,?_⟩;have h4:=hne a (by omega);have h5:=hne b h2
   split at h3<;>split at h3<;>omega
def vQ2(V:Nat)(f:Nat->Nat):Nat->Nat
 |0=>0
 |n+1=>vQ2 V f n*V+f n
theorem yXn{V:Nat}{f:Nat->Nat}:∀ {n:Nat},(∀i,i<n->f i<V)->vQ2 V f n<V^n
 |0,_=>by simp[vQ2]
 |n+1,h=>by
  have h1:=yXn (n:=n) fun i hi=>h i (by omega)
  have h2:=h n (by omega);rw[vQ2,Nat.pow_succ];have h3:(vQ2 V f n+1)*V<=V^n*V:=Nat.mul_le_mul_right _ h1;rw[Nat.add_mul] at h3;omega
theorem vQ3{V:Nat}{f g:Nat->Nat}:∀ {n:Nat},(∀i,i<n->f i<V)->(∀i,i<n->g i<V)->vQ2 V f n=vQ2 V g n->∀i,i<n->f i=g i
 |0,_,_,_,i,hi=>absurd hi (by omega)
 |n+1,hf,hg,h,i,hi=>by
  have h1:=hf n (by omega);have h2:=hg n (by omega);rw[vQ2,vQ2] at h;have h3:f n=g n:=by
   have e1:(vQ2 V f n*V+f n)%V=f n:=by rw[Nat.add_comm,Nat.add_mul_mod_self_right,Nat.mod_eq_of_lt h1]
   have e2:(vQ2 V g n*V+g n)%V=g n:=by rw[Nat.add_comm,Nat.add_mul_mod_self_right,Nat.mod_eq_of_lt h2]
   rw[<- e1,<- e2,h]
  have h4:vQ2 V f n=vQ2 V g n:=Nat.eq_of_mul_eq_mul_right (show 0<V by omega) (by omega);rcases Nat.lt_or_ge i n with h5|h5
  ·exact vQ3 (fun i hi=>hf i (by omega)) (fun i hi=>hg i (by omega)) h4 i h5
  ·rw[show i=n by omega];exact h3
structure St where
 bs:Nat->Nat
 T:Nat->Nat->Int
 den:Int
def Enters(o lim:Nat)(s:St)(c:Nat):Prop:=c<lim/\s.T o c<0/\∀k,k<c->0<=s.T o k
def Leaves(P:LP)(s:St)(c r:Nat):Prop:=r<P.m/\0<s.T r c/\∀i,i<P.m->0<s.T i c ->
 s.T r P.last*s.T i c<s.T i P.last*s.T r c\/(s.T r P.last*s.T i c=s.T i P.last*s.T r c/\s.bs r<=s.bs i)
def St.piv(s:St)(r c:Nat):St:=⟨pivB s.bs r c,pivT s.T s.den r c,vK2 s.T r c⟩
def Step(P:LP)(o lim:Nat)(s s':St):Prop:=∃c r,Enters o lim s c/\Leaves P s c r/\s'=s.piv r c
structure Ok(P:LP)(s:St):Prop extends Tabl P s.bs s.T s.den where
 rhs:∀i,i<P.m->0<=s.T i P.last
structure Obj(P:LP)(o lim:Nat)(g:Nat->Int):Prop where
 le:P.m<=o
 lt:o<P.m+2
 lim:lim<=P.n+P.m+1
 slack:∀k,k<P.m->g (P.n+k)=0
 row:∀s:St,Tabl P s.bs s.T s.den->∀j,j<P.N->s.T o j=P.obj g s.bs s.T s.den j
theorem obj_goal(P:LP):Obj P P.m (P.n+P.m) P.g0:=⟨Nat.le_refl _,by omega,by omega,fun k _=>zJn P k,fun s h=>h.goal⟩
theorem obj_art(P:LP):Obj P (P.m+1) (P.n+P.m+1) P.g1:=⟨by omega,by omega,Nat.le_refl _,fun k hk=>zJo P hk,fun s h=>h.art⟩
section
variable {P:LP}{o lim:Nat}{g:Nat->Int}{s s':St}
theorem xQf(P:LP):P.last<P.N:=by unfold LP.last LP.N;omega
theorem zY7{T:Nat->Nat->Int}{den:Int}{r c:Nat}(h:0<T r c)(i j:Nat):pivT T den r c i j=pivQ T den r c i j:=by unfold pivT;rw[if_neg (by omega)]
theorem zY8{T:Nat->Nat->Int}{r c:Nat}(h:0<T r c):vK2 T r c=T r c:=by unfold vK2;rw[if_neg (by omega)]
theorem Ok.step(h:Ok P s)(hl:lim<=P.n+P.m+1)(hs:Step P o lim s s'):Ok P s':=by
 obtain⟨c,r,he,⟨hr,hp,hmin⟩,rfl⟩:=hs;have hc:c<=P.n+P.m:=by have:=he.1;omega
 have hcN:c<P.N:=by unfold LP.N;omega
 refine { h.toTabl.pivot hr hc (by omega) with rhs:=fun i hi=>?_ };show 0<=pivT s.T s.den r c i P.last;rw[zY7 hp]
 by_cases e:i=r
 ·subst e;unfold pivQ;rw[if_pos rfl];exact h.rhs i hi
 ·have h1:=h.toTabl.exact_div hr hcN (by omega:i<P.m+2) e (xQf P);have h2:0<=s.T i P.last*s.T r c-s.T i c*s.T r P.last:=by
   by_cases h3:0<s.T i c
   ·have h4:=hmin i hi h3;have e1:s.T r P.last*s.T i c=s.T i c*s.T r P.last:=Int.mul_comm _ _;omega
   ·have h4:=Int.mul_nonneg (h.rhs i hi) (show 0<=s.T r c by omega);have h5:=Int.mul_nonneg (show 0<=- s.T i c by omega) (h.rhs r hr);rw[Int.neg_mul] at h5;omega
  rw[<- h1] at h2;exact Int.nonneg_of_mul_nonneg_right h2 h.pos |> fun h=>h
theorem zQb(ho:Obj P o lim g)(h:Ok P s)(hs:Step P o lim s s'):∃c r,Enters o lim s c/\Leaves P s c r/\s'=s.piv r c /\
  s.den*s'.T o P.last=s.T o P.last*s'.den-s.T o c*s.T r P.last/\s'.den=s.T r c:=by
 obtain⟨c,r,he,hl,rfl⟩:=hs;have hc:c<=P.n+P.m:=by have:=he.1;have:=ho.lim;omega
 have hcN:c<P.N:=by unfold LP.N;omega
 refine⟨c,r,he,hl,rfl,?_,zY8 hl.2.1⟩;show s.den*pivT s.T s.den r c o P.last=s.T o P.last*vK2 s.T r c-_;rw[zY7 hl.2.1,zY8 hl.2.1];exact h.toTabl.exact_div hl.1 hcN ho.lt (by have:=hl.1;have:=ho.le;omega) (xQf P)
end
structure Run(P:LP)(o lim:Nat)(g:Nat->Int)(st:Nat->St):Prop where
 obj:Obj P o lim g
 ok:∀k,Ok P (st k)
 step:∀k,Step P o lim (st k) (st (k+1))
section
variable {P:LP}{o lim:Nat}{g:Nat->Int}{st:Nat->St}
def le2(a b:St)(o l:Nat):Prop:=a.T o l*b.den<=b.T o l*a.den
theorem zWn{a b c:St}{o l:Nat}(ha:0<a.den)(hb:0<b.den)(hc:0<c.den)(h1:le2 a b o l)(h2:le2 b c o l):le2 a c o l:=by
 unfold le2 at *;have h3:=Int.mul_le_mul_of_nonneg_right h1 (Int.le_of_lt hc);have h4:=Int.mul_le_mul_of_nonneg_right h2 (Int.le_of_lt ha);have h5:b.den*(a.T o l*c.den)<=b.den*(c.T o l*a.den):=by grind
 exact Int.le_of_mul_le_mul_left h5 hb
theorem Run.le_succ(h:Run P o lim g st)(k:Nat):le2 (st k) (st (k+1)) o P.last:=by
 obtain⟨c,r,he,hl,e,h1,h2⟩:=zQb h.obj (h.ok k) (h.step k);have h3:=Int.mul_nonneg (show 0<=-((st k).T o c) by have:=he.2.1;omega) ((h.ok k).rhs r hl.1);unfold le2;rw[Int.neg_mul] at h3;have e1:(st k).den*(st (k+1)).T o P.last=(st (k+1)).T o P.last*(st k).den:=Int.mul_comm _ _;omega
theorem Run.le_add(h:Run P o lim g st)(k:Nat):∀d,le2 (st k) (st (k+d)) o P.last
 |0=>by unfold le2;exact Int.le_refl _
 |d+1=>zWn (h.ok _).pos (h.ok _).pos (h.ok _).pos (h.le_add k d) (h.le_succ (k+d))
theorem Run.le_of(h:Run P o lim g st){i j:Nat}(hij:i<=j):le2 (st i) (st j) o P.last:=by
 obtain⟨d,rfl⟩:=Nat.le.dest hij;exact h.le_add i d
theorem vYq{P:LP}{s s':St}(h:Tabl P s.bs s.T s.den)(h':Tabl P s'.bs s'.T s'.den)(e:∀i,i<P.m->s.bs i=s'.bs i):s.den=s'.den/\∀i,i<P.m+2->∀j,j<P.N->s.T i j=s'.T i j:=by
 obtain⟨x,hx,a1,a2⟩:=h.ex;obtain⟨y,hy,b1,b2⟩:=h'.ex;have hcol:∀i j,j<P.m->P.cols s.bs i j=P.cols s'.bs i j:=fun i j hj=>by unfold LP.cols;rw[e j hj]
 have hdet:=xJr fun i _ j hj=>hcol i j hj
 have hp:=h.pos;have hp':=h'.pos;have hxy:x=y:=by
  rw[hdet] at a1;rcases hx with rfl|rfl<;>rcases hy with rfl|rfl<;>omega
 subst hxy;have hd:s.den=s'.den:=by rw[a1,b1,hdet]
 have hT:∀i,i<P.m->∀j,j<P.N->s.T i j=s'.T i j:=fun i hi j hj=>by
  rw[a2 i hi j hj,b2 i hi j hj];congr 1;exact xJr fun t _ q hq=>by
   unfold xJx
   split
   ·rfl
   ·exact hcol t q hq
 have hobj:∀g j,j<P.N->P.obj g s.bs s.T s.den j=P.obj g s'.bs s'.T s'.den j:=fun g j hj=>by
  unfold LP.obj;rw[hd,sumN_congr (g:=fun i=>g (s'.bs i)*s'.T i j) fun i hi=>by rw[e i hi,hT i hi j hj]]
 refine⟨hd,fun i hi j hj=>?_⟩
 by_cases c:i<P.m
 ·exact hT i c j hj
 ·rcases (by omega:i=P.m\/i=P.m+1) with rfl|rfl
  ·rw[h.goal j hj,h'.goal j hj,hobj _ j hj]
  ·rw[h.art j hj,h'.art j hj,hobj _ j hj]
theorem Run.cycle(h:Run P o lim g st):∃a b,a<b/\∀i,i<P.m->(st a).bs i=(st b).bs i:=by
 have hb:∀k i,i<P.m->(st k).bs i<P.n+P.m+1:=fun k i hi=>by have:=(h.ok k).bas i hi;omega
 obtain⟨a,b,h1,_,h2⟩:=yK0 ((P.n+P.m+1)^P.m) (fun k=>vQ2 (P.n+P.m+1) (st k).bs P.m) (fun k _=>yXn (hb k));exact⟨a,b,h1,vQ3 (hb a) (hb b) h2⟩
end
end LA
end
section
namespace LA
theorem yYf{n:Nat}{f:Nat->Int}(h:0<sumN n f):∃i,i<n/\0<f i:=by
 by_cases hx:∃i,i<n/\0<f i
 ·exact hx
 ·have:sumN n f<=sumN n fun _=>0:=uXg fun i hi=>by
   rcases Int.lt_or_le 0 (f i) with h1|h1
   ·exact absurd ⟨i,hi,h1⟩ hx
   ·exact h1
  rw[uXk] at this;omega
theorem cross{P:LP}{g:Nat->Int}{s s':St}(h:Tabl P s.bs s.T s.den)(h':Tabl P s'.bs s'.T s'.den)(hg:∀k,k<P.m->g (P.n+k)=0){c:Nat}(hc:c<P.N) :
  P.obj g s'.bs s'.T s'.den c*s.den-sumN P.m (fun i=>P.obj g s'.bs s'.T s'.den (s.bs i)*s.T i c)=s'.den*P.obj g s.bs s.T s.den c:=by
 have hb:∀i,i<P.m->s.bs i<P.N:=fun i hi=>by have:=h.bas i hi;unfold LP.N;omega
 have e1:sumN P.m (fun i=>P.obj g s'.bs s'.T s'.den (s.bs i)*s.T i c)=s'.den*sumN P.m (fun i=>g (s.bs i)*s.T i c)+sumN P.m fun k=>P.obj g s'.bs s'.T s'.den (P.n+k)*(s.den*P.t0 k c):=by
  have e2:sumN P.m (fun i=>P.obj g s'.bs s'.T s'.den (s.bs i)*s.T i c)=sumN P.m fun i=>s'.den*(g (s.bs i)*s.T i c)+sumN P.m fun k=>P.obj g s'.bs s'.T s'.den (P.n+k)*(s.T i c*P.t0 k (s.bs i)):=sumN_congr fun i hi=>by
   rw[h'.obj_row hg (hb i hi),Int.add_mul,<- xZ0];congr 1
   ·grind
   ·exact sumN_congr fun k _=>by grind
  rw[e2,uXm,sumN_mul,xYb];congr 1;refine sumN_congr fun k hk=>?_
  rw[sumN_mul,h.column hk hc]
 have e3:=h'.obj_row hg hc;have e4:(sumN P.m fun k=>P.obj g s'.bs s'.T s'.den (P.n+k)*(s.den*P.t0 k c))=s.den*sumN P.m fun k=>P.t0 k c*P.obj g s'.bs s'.T s'.den (P.n+k):=by
  rw[<- sumN_mul];exact sumN_congr fun k _=>by grind
 rw[e1,e4];have e5:P.obj g s.bs s.T s.den c=s.den*g c-sumN P.m fun i=>g (s.bs i)*s.T i c:=rfl
 rw[e5,e3]
 grind
section
variable {P:LP}{o lim:Nat}{g:Nat->Int}{st:Nat->St}
theorem Run.false(h:Run P o lim g st):False:=by
 obtain⟨a,b,hab,heq⟩:=h.cycle;obtain⟨C,hC⟩:=Classical.axiomOfChoice h.step;obtain⟨R,hR⟩:=Classical.axiomOfChoice hC;have hE:=fun k=>(hR k).1
 have hL:=fun k=>(hR k).2.1
 have hS:=fun k=>(hR k).2.2
 have hcl:∀k,C k<=P.n+P.m:=fun k=>by have:=(hE k).1;have:=h.obj.lim;omega
 have hcN:∀k,C k<P.N:=fun k=>by have:=hcl k;unfold LP.N;omega
 have hbN:∀k i,i<P.m->(st k).bs i<P.N:=fun k i hi=>by have:=(h.ok k).bas i hi;unfold LP.N;omega
 have hobj:=fun k j hj=>h.obj.row _ (h.ok k).toTabl j hj
 have hbs:∀k i,(st (k+1)).bs i=if i=R k then C k else(st k).bs i:=fun k i=>by rw[hS];rfl
 have hbas0:∀k i,i<P.m->(st k).T o ((st k).bs i)=0:=fun k i hi=>by rw[hobj k _ (hbN k i hi)];exact(h.ok k).obj_basis g hi
 have hnew:∀k i,i<P.m->(st k).bs i≠C k:=fun k i hi e=>by
  have h1:=hbas0 k i hi;rw[e] at h1;have:=(hE k).2.1;omega
 obtain⟨hden,hT⟩:=vYq (h.ok a).toTabl (h.ok b).toTabl heq;have hzero:∀k,a<=k->k<b->(st k).T (R k) P.last=0:=fun k h1 h2=>by
  obtain⟨d1,d2,_,_,_,_,_⟩:=zQb h.obj (h.ok k) (h.step k);have hl1:=h.le_succ k;have hl2:=h.le_of (show k+1<=b by omega);have hl3:=h.le_of h1;have hl4:le2 (st (k+1)) (st a) o P.last:=by
   unfold le2 at hl2 ⊢;rw[hden,hT o h.obj.lt P.last (xQf P)];exact hl2
  have hl5:=zWn (h.ok (k+1)).pos (h.ok a).pos (h.ok k).pos hl4 hl3;have hval:(st k).den*(st (k+1)).T o P.last=(st k).T o P.last*(st (k+1)).den-(st k).T o (C k)*(st k).T (R k) P.last:=by
   rw[hS];show(st k).den*pivT (st k).T (st k).den (R k) (C k) o P.last=_*vK2 (st k).T (R k) (C k)-_;rw[zY7 (hL k).2.1,zY8 (hL k).2.1];exact(h.ok k).toTabl.exact_div (hL k).1 (hcN k) h.obj.lt (by have:=(hL k).1;have:=h.obj.le;omega) (xQf P)
  unfold le2 at hl1 hl5;have h3:(st k).T o (C k)*(st k).T (R k) P.last=0:=by
   have e1:(st k).den*(st (k+1)).T o P.last=(st (k+1)).T o P.last*(st k).den:=Int.mul_comm _ _;omega
  have h4:=(hE k).2.1;rcases Int.mul_eq_zero.1 h3 with e|e
  ·omega
  ·exact e
 have hkeep:∀k,a<=k->k<b->∀i,i<P.m->((st (k+1)).T i P.last=0↔(st k).T i P.last=0):=fun k h1 h2 i hi=>by
  have h0:=hzero k h1 h2;have e:(st (k+1)).T i P.last=pivQ (st k).T (st k).den (R k) (C k) i P.last:=by
   rw[hS];exact zY7 (hL k).2.1 _ _
  rw[e]
  by_cases c:i=R k
  ·subst c;unfold pivQ;rw[if_pos rfl]
  ·have h3:=(h.ok k).toTabl.exact_div (hL k).1 (hcN k) (by omega:i<P.m+2) c (xQf P);rw[h0,Int.mul_zero,Int.sub_zero] at h3;have hp:=(h.ok k).pos;have hq:=(hL k).2.1;constructor
   ·intro h4;rw[h4,Int.mul_zero] at h3;rcases Int.mul_eq_zero.1 h3.symm with e|e
    ·exact e
    ·omega
   ·intro h4;rw[h4,Int.zero_mul] at h3;rcases Int.mul_eq_zero.1 h3 with e|e
    ·omega
    ·exact e
 have hall:∀d,a+d<=b->∀i,i<P.m->((st (a+d)).T i P.last=0↔(st a).T i P.last=0):=fun d=>by
  induction d with
  |zero=>intro _ i _;exact Iff.rfl
  |succ d ih=>intro hd i hi;exact(hkeep (a+d) (by omega) (by omega) i hi).trans (ih (by omega) i hi)
 have hall2:∀k,a<=k->k<=b->∀i,i<P.m->((st k).T i P.last=0↔(st a).T i P.last=0):=fun k h1 h2 i hi=>by
  obtain⟨d,rfl⟩:=Nat.le.dest h1;exact hall d h2 i hi
 have hrow:∀i,i<P.m->(∀k,a<=k->k<b->R k≠i)->∀d,a+d<=b->(st (a+d)).bs i=(st a).bs i:=fun i hi hno d=>by
  induction d with
  |zero=>intro _;rfl
  |succ d ih=>
   intro hd;rw[show a+(d+1)=a+d+1 by omega,hbs,if_neg (Ne.symm (hno (a+d) (by omega) (by omega))),ih (by omega)]
 have hstay:∀v,(∀k,a<=k->k<b->(st k).bs (R k)≠v)->∀x d,a<=x->x+d<=b->(∃i,i<P.m/\(st x).bs i=v)->∃i,i<P.m/\(st (x+d)).bs i=v:=fun v hno x d hx=>by
  induction d with
  |zero=>intro _ hv;exact hv
  |succ d ih=>
   intro hd hv;obtain⟨i,hi,e⟩:=ih (by omega) hv;refine⟨i,hi,?_⟩;rw[show x+(d+1)=x+d+1 by omega,hbs,if_neg]
   ·exact e
   ·rintro rfl;exact hno (x+d) (by omega) (by omega) e
 have hback:∀v,(∃i,i<P.m/\(st b).bs i=v)->∃i,i<P.m/\(st a).bs i=v:=fun v ⟨i,hi,e⟩=>⟨i,hi,by rw[heq i hi];exact e⟩
 have hleave:∀v x y,a<=x->x<=b->a<=y->y<=b->(∃i,i<P.m/\(st x).bs i=v)->(¬ ∃i,i<P.m/\(st y).bs i=v)->∃k,a<=k/\k<b/\(st k).bs (R k)=v:=fun v x y hx hx2 hy hy2 h1 h2=>by
  refine Classical.byContradiction fun hno=>h2 ?_
  have hno2:∀k,a<=k->k<b->(st k).bs (R k)≠v:=fun k h3 h4 e=>hno ⟨k,h3,h4,e⟩
  rcases Nat.le_total x y with hxy|hxy
  ·obtain⟨d,rfl⟩:=Nat.le.dest hxy;exact hstay v hno2 x d hx hy2 h1
  ·obtain⟨d,e⟩:=Nat.le.dest hx2;have h3:=hstay v hno2 x d hx (by omega) h1;rw[e] at h3;obtain⟨d2,e2⟩:=Nat.le.dest hy;have h4:=hstay v hno2 a d2 (Nat.le_refl _) (by omega) (hback v h3);rw[e2] at h4;exact h4
 have hmax:∀d,a+d<b->∃k0,a<=k0/\k0<=a+d/\∀k,a<=k->k<=a+d->(st k).bs (R k)<=(st k0).bs (R k0):=fun d=>by
  induction d with
  |zero=>intro _;exact⟨a,Nat.le_refl _,Nat.le_refl _,fun k h1 h2=>by rw[show k=a by omega];exact Nat.le_refl _⟩
  |succ d ih=>
   intro hd;obtain⟨k0,h1,h2,h3⟩:=ih (by omega)
   by_cases hc:(st (a+d+1)).bs (R (a+d+1))<=(st k0).bs (R k0)
   ·refine⟨k0,h1,by omega,fun k h4 h5=>?_⟩
    by_cases e:k=a+d+1
    ·rw[e];exact hc
    ·exact h3 k h4 (by omega)
   ·refine⟨a+d+1,by omega,by omega,fun k h4 h5=>?_⟩
    by_cases e:k=a+d+1
    ·rw[e];exact Nat.le_refl _
    ·have:=h3 k h4 (by omega);omega
 obtain⟨k0,hk1,hk2,hk3⟩:=hmax (b-1-a) (by omega);have hk2:k0<b:=by omega
 have hk3:∀k,a<=k->k<b->(st k).bs (R k)<=(st k0).bs (R k0):=fun k h1 h2=>hk3 k h1 (by omega)
 obtain⟨q,hq⟩:∃q,(st k0).bs (R k0)=q:=⟨_,rfl⟩;rw[hq] at hk3;have hR0:=(hL k0).1;have hin:∀k,a<=k->k<b->C k<=q:=fun k h1 h2=>by
  obtain⟨k',h3,h4,h5⟩:=hleave (C k) (k+1) k (by omega) (by omega) h1 (by omega) ⟨R k,(hL k).1,by rw[hbs,if_pos rfl]⟩ (fun⟨i,hi,e⟩=>hnew k i hi e);rw[<- h5];exact hk3 k' h3 h4
 have hCq:C k0<q:=by
  have h1:=hin k0 hk1 hk2;have h2:=hnew k0 (R k0) hR0;rw[hq] at h2;omega
 have hent:∃j,a<=j/\j<b/\C j=q:=by
  refine Classical.byContradiction fun hno=>?_
  have hout:∀x d,a<=x->x+d<=b->(¬ ∃i,i<P.m/\(st x).bs i=q)->¬ ∃i,i<P.m/\(st (x+d)).bs i=q:=fun x d hx=>by
   induction d with
   |zero=>intro _ hv;exact hv
   |succ d ih=>
    intro hd hv ⟨i,hi,e⟩;rw[show x+(d+1)=x+d+1 by omega,hbs] at e
    by_cases c:i=R (x+d)
    ·rw[if_pos c] at e;exact hno ⟨x+d,by omega,by omega,e⟩
    ·rw[if_neg c] at e;exact ih (by omega) hv ⟨i,hi,e⟩
  have h1:¬ ∃i,i<P.m/\(st (k0+1)).bs i=q:=fun⟨i,hi,e⟩=>by
   rw[hbs] at e
   by_cases c:i=R k0
   ·rw[if_pos c] at e;omega
   ·rw[if_neg c] at e;exact c ((h.ok k0).inj hi hR0 (by rw[e,hq]))
  obtain⟨d,e⟩:=Nat.le.dest (show k0+1<=b by omega);have h2:=hout (k0+1) d (by omega) (by omega) h1;rw[e] at h2;have h3:¬ ∃i,i<P.m/\(st a).bs i=q:=fun⟨i,hi,e⟩=>h2 ⟨i,hi,by rw[<- heq i hi];exact e⟩
  obtain⟨d2,e2⟩:=Nat.le.dest hk1;have h4:=hout a d2 (Nat.le_refl _) (by omega) h3;rw[e2] at h4;exact h4 ⟨R k0,hR0,hq⟩
 obtain⟨j,hj1,hj2,hj3⟩:=hent;have hEj:=hE j;rw[hj3] at hEj;have hx:=cross (g:=g) (h.ok k0).toTabl (h.ok j).toTabl h.obj.slack (hcN k0);rw[<- hobj j _ (hcN k0),<- hobj k0 _ (hcN k0)] at hx;have hx2:sumN P.m (fun i=>P.obj g (st j).bs (st j).T (st j).den ((st k0).bs i)*(st k0).T i (C k0))=sumN P.m fun i=>(st j).T o ((st k0).bs i)*(st k0).T i (C k0):=sumN_congr fun i hi=>by rw[hobj j _ (hbN k0 i hi)]
 rw[hx2] at hx;have hpos:0<sumN P.m fun i=>(st j).T o ((st k0).bs i)*(st k0).T i (C k0):=by
  have h1:=Int.mul_nonneg (hEj.2.2 (C k0) hCq) (Int.le_of_lt (h.ok k0).pos);have h2:=Int.mul_pos (h.ok j).pos (show 0 < - (st k0).T o (C k0) by have:=(hE k0).2.1;omega);rw[Int.mul_neg] at h2;omega
 obtain⟨i,hi,hterm⟩:=yYf hpos;have hir:i≠R k0:=by
  rintro rfl;rw[hq] at hterm;have:=Int.mul_pos (show 0 < - (st j).T o q by have:=hEj.2.1;omega) (hL k0).2.1;rw[Int.neg_mul] at this;omega
 have hvj:¬ ∃i',i'<P.m/\(st j).bs i'=(st k0).bs i:=fun⟨i',hi',e⟩=>by
  have h1:=hbas0 j i' hi';rw[e] at h1;rw[h1] at hterm;omega
 obtain⟨k',h1,h2,h3⟩:=hleave _ k0 j hk1 (by omega) hj1 (by omega) ⟨i,hi,rfl⟩ hvj;have hvq:(st k0).bs i<q:=by
  have h4:=hk3 k' h1 h2;rw[h3] at h4;have h5:(st k0).bs i≠q:=fun e=>hir ((h.ok k0).inj hi hR0 (by rw[e,hq]))
  omega
 have hTi:0<(st k0).T i (C k0):=by
  have h4:=hEj.2.2 _ hvq;rcases Int.lt_or_le 0 ((st k0).T i (C k0)) with h5|h5
  ·exact h5
  ·have:=Int.mul_nonneg h4 (show 0<=- (st k0).T i (C k0) by omega);rw[Int.mul_neg] at this;omega
 have hz:(st k0).T i P.last=0:=by
  have hpiv:∃k,a<=k/\k<b/\R k=i:=by
   refine Classical.byContradiction fun hno=>?_
   have hno2:∀k,a<=k->k<b->R k≠i:=fun k h4 h5 e=>hno ⟨k,h4,h5,e⟩
   obtain⟨d1,e1⟩:=Nat.le.dest hk1;obtain⟨d2,e2⟩:=Nat.le.dest hj1;have r1:=hrow i hi hno2 d1 (by omega);have r2:=hrow i hi hno2 d2 (by omega);rw[e1] at r1;rw[e2] at r2;exact hvj ⟨i,hi,by rw[r2,r1]⟩
  obtain⟨k,h4,h5,h6⟩:=hpiv;have h7:=hzero k h4 h5;rw[h6] at h7;exact(hall2 k0 hk1 (by omega) i hi).2 ((hall2 k h4 (by omega) i hi).1 h7)
 have h8:=(hL k0).2.2 i hi hTi;rw[hzero k0 hk1 hk2,hz,hq] at h8;omega
theorem ends(next:St->Option St)(ho:Obj P o lim g)(hn:∀s s',Ok P s->next s=some s'->Step P o lim s s'){s:St}(h:Ok P s) :
  ∃(k:Nat) (f:Nat->St),f 0=s/\(∀i,i<k->next (f i)=some (f (i+1)))/\next (f k)=none/\∀i,i<=k->Ok P (f i):=by
 let f:Nat->St:=fun k=>Nat.rec s (fun _ x=>(next x).getD x) k
 have hf:∀k,f (k+1)=(next (f k)).getD (f k):=fun k=>rfl
 by_cases hx:∃k,next (f k)=none
 ·
  obtain⟨k,hk,hlt⟩:∃k,next (f k)=none/\∀i,i<k->next (f i)≠none:=by
   obtain⟨k,hk⟩:=hx
   induction k using Nat.strongRecOn with
   |ind k ih=>
    by_cases hy:∃i,i<k/\next (f i)=none
    ·obtain⟨i,hi,hn⟩:=hy;exact ih i hi hn
    ·exact⟨k,hk,fun i hi hn=>hy ⟨i,hi,hn⟩⟩
  have hst:∀i,i<k->next (f i)=some (f (i+1)):=fun i hi=>by
   cases e:next (f i) with
   |none=>exact absurd e (hlt i hi)
   |some x=>rw[hf,e];rfl
  refine⟨k,f,rfl,hst,hk,fun i=>?_⟩
  induction i with
  |zero=>intro _;exact h
  |succ i ih=>intro hi;exact(ih (by omega)).step ho.lim (hn _ _ (ih (by omega)) (hst i (by omega)))
 ·exfalso;have hst:∀i,next (f i)=some (f (i+1)):=fun i=>by
   cases e:next (f i) with
   |none=>exact absurd ⟨i,e⟩ hx
   |some x=>rw[hf,e];rfl
  have hok:∀i,Ok P (f i):=fun i=>by
   induction i with
   |zero=>exact h
   |succ i ih=>exact ih.step ho.lim (hn _ _ ih (hst i))
  exact Run.false (st:=f) ⟨ho,hok,fun i=>hn _ _ (hok i) (hst i)⟩
end
end LA
end
section
namespace LA
section
variable {P:LP}{o lim:Nat}{g:Nat->Int}
theorem Enters.uniq{s:St}{c c':Nat}(h:Enters o lim s c)(h':Enters o lim s c'):c=c':=by
 rcases Nat.lt_trichotomy c c' with h1|h1|h1
 ·have:=h'.2.2 c h1;have:=h.2.1;omega
 ·exact h1
 ·have:=h.2.2 c' h1;have:=h'.2.1;omega
theorem Leaves.uniq{s:St}(hs:Ok P s){c r r':Nat}(h:Leaves P s c r)(h':Leaves P s c r'):r=r':=by
 have h1:=h.2.2 r' h'.1 h'.2.1;have h2:=h'.2.2 r h.1 h.2.1;have e:s.bs r=s.bs r':=by omega
 exact hs.inj h.1 h'.1 e
theorem Step.uniq{s s' s2:St}(hs:Ok P s)(h:Step P o lim s s')(h':Step P o lim s s2):s'=s2:=by
 obtain⟨c,r,a1,a2,rfl⟩:=h;obtain⟨c',r',b1,b2,rfl⟩:=h';obtain rfl:=a1.uniq b1;obtain rfl:=a2.uniq hs b2;rfl
theorem steps(ho:Obj P o lim g){s:St}(h:Ok P s):∃(k:Nat) (f:Nat->St),f 0=s/\(∀i,i<=k->Ok P (f i))/\(∀i,i<k->Step P o lim (f i) (f (i+1)))/\∀i,i<=k->∀s',Step P o lim (f i) s'->i<k/\f (i+1)=s':=by
 let next:St->Option St:=fun s=>@dite _ (∃s',Step P o lim s s') (Classical.propDecidable _) (fun h=>some h.choose) (fun _=>none)
 have hn:∀s s',next s=some s'->Step P o lim s s':=fun s s' e=>by
  by_cases hx:∃s',Step P o lim s s'
  ·have e2:next s=some hx.choose:=dif_pos hx;rw[e2] at e;injection e with e
   rw[<- e];exact hx.choose_spec
  ·have e2:next s=none:=dif_neg hx;rw[e2] at e;cases e
 obtain⟨k,f,h0,h1,h2,h3⟩:=ends next ho (fun s s' _ e=>hn s s' e) h;refine⟨k,f,h0,h3,fun i hi=>hn _ _ (h1 i hi),fun i hi s' hs=>?_⟩;have hik:i<k:=by
  rcases Nat.lt_or_ge i k with h4|h4
  ·exact h4
  ·obtain rfl:i=k:=by omega
   have hx:∃s',Step P o lim (f i) s':=⟨s',hs⟩;have e2:next (f i)=some hx.choose:=dif_pos hx;rw[e2] at h2;cases h2
 exact⟨hik,(hn _ _ (h1 i hik)).uniq (h3 i hi) hs⟩
end
theorem Ok.plain{P:LP}(h:∀i,i<P.m->0<=P.b i):Ok P ⟨fun i=>P.n+i,P.T0,1⟩:=
 { Tabl.start P with rhs:=fun i hi=>by show 0<=P.T0 i P.last;unfold LP.T0;rw[if_pos hi,t0_last];exact h i hi }
theorem Ok.first{P:LP}{low:Nat}(hl:low<P.m)(hneg:P.b low<0)(hmin:∀i,i<P.m->P.b low<=P.b i) :
  Ok P (St.piv ⟨fun i=>P.n+i,P.T0,1⟩ low (P.n+P.m)):=by
 have ha:∀i,i<P.m->P.T0 i (P.n+P.m) = -1:=fun i hi=>by unfold LP.T0;rw[if_pos hi,t0_art]
 have hb:∀i,i<P.m->P.T0 i P.last=P.b i:=fun i hi=>by unfold LP.T0;rw[if_pos hi,t0_last]
 refine { (Tabl.start P).pivot hl (Nat.le_refl _) (by rw[ha low hl];omega) with rhs:=fun i hi=>?_ };show 0<=pivT P.T0 1 low (P.n+P.m) i P.last;unfold pivT;rw[ha low hl,if_pos (by omega)];unfold pivQ
 by_cases e:i=low
 ·subst e;rw[if_pos rfl,hb i hi];omega
 ·rw[if_neg e,ha low hl,ha i hi,hb i hi,hb low hl,Int.tdiv_one];have:=hmin i hi;omega
section
variable {P:LP}{s:St}
theorem art_bounded(h:Ok P s){c:Nat}(hc:c<P.N)(hle:∀i,i<P.m->s.T i c<=0):0<=s.T (P.m+1) c:=by
 rw[h.art c hc];unfold LP.obj;have h1:0<=s.den*P.g1 c:=Int.mul_nonneg (Int.le_of_lt h.pos) (by unfold LP.g1;split<;>omega);have h2:(sumN P.m fun i=>P.g1 (s.bs i)*s.T i c)<=sumN P.m fun _=>0:=uXg fun i hi=>by
  have h3:=hle i hi;unfold LP.g1
  split<;>omega
 rw[uXk] at h2;omega
theorem art_zero(h:Ok P s)(hl:0<=s.T (P.m+1) P.last){i:Nat}(hi:i<P.m)(hb:s.bs i=P.n+P.m):s.T i P.last=0:=by
 rw[h.art _ (xQf P)] at hl;unfold LP.obj at hl;have e:P.g1 P.last=0:=by unfold LP.g1 LP.last;rw[if_neg (by omega)]
 rw[e,xXk (k:=i) _ hi,hb] at hl;have e2:P.g1 (P.n+P.m)=1:=by unfold LP.g1;rw[if_pos rfl]
 rw[e2] at hl;have h1:=h.rhs i hi;have h2:0<=sumN P.m fun k=>if k=i then 0 else P.g1 (s.bs k)*s.T k P.last:=xK9 fun k hk=>by
  split
  ·omega
  ·refine Int.mul_nonneg ?_ (h.rhs k hk);unfold LP.g1;split<;>omega
 omega
theorem art_row(h:Ok P s){r:Nat}(hr:r<P.m)(hb:s.bs r=P.n+P.m):∃c,c<P.n+P.m/\s.T r c≠0:=by
 refine Classical.byContradiction fun hno=>?_
 have h0:∀k,k<P.m->s.T r (P.n+k)=0:=fun k hk=>Classical.byContradiction fun h1=>hno ⟨P.n+k,by omega,h1⟩
 have h1:=h.row hr (show P.n+P.m<P.N by unfold LP.N;omega);rw[sumN_eq_zero fun k hk=>by rw[h0 k hk];simp] at h1;have h2:=h.at_basis hr hr;rw[hb,if_pos rfl,h1] at h2;have:=h.pos;omega
theorem Ok.drive(h:Ok P s){r c:Nat}(hr:r<P.m)(hz:s.T r P.last=0)(hc:c<P.n+P.m)(hne:s.T r c≠0):Ok P (s.piv r c):=by
 refine { h.toTabl.pivot hr (by omega) hne with rhs:=fun i hi=>?_ };show 0<=pivT s.T s.den r c i P.last;have hcN:c<P.N:=by unfold LP.N;omega
 unfold pivT
 by_cases e:i=r
 ·subst e;unfold pivQ;rw[if_pos rfl,hz]
  split<;>omega
 ·have h1:=h.toTabl.exact_div hr hcN (by omega:i<P.m+2) e (xQf P);rw[hz,Int.mul_zero,Int.sub_zero] at h1;have h2:=h.rhs i hi;have hp:=h.pos
  split
  ·next hn=>
   have h3:=Int.mul_nonneg h2 (show 0<=- s.T r c by omega);rw[Int.mul_neg,<- h1,<- Int.mul_neg] at h3;rcases Int.lt_or_le (- pivQ s.T s.den r c i P.last) 0 with h4|h4
   ·have:=Int.mul_neg_of_pos_of_neg hp h4;omega
   ·exact h4
  ·next hn=>
   have h3:=Int.mul_nonneg h2 (show 0<=s.T r c by omega);rw[<- h1] at h3;rcases Int.lt_or_le (pivQ s.T s.den r c i P.last) 0 with h4|h4
   ·have:=Int.mul_neg_of_pos_of_neg hp h4;omega
   ·exact h4
def NoArt(P:LP)(s:St):Prop:=∀i,i<P.m->s.bs i<P.n+P.m
theorem NoArt.step{lim o:Nat}{s':St}(h:NoArt P s)(hl:lim<=P.n+P.m)(hs:Step P o lim s s'):NoArt P s':=by
 obtain⟨c,r,he,_,rfl⟩:=hs;intro i hi;show pivB s.bs r c i<_;unfold pivB
 split
 ·have:=he.1;omega
 ·exact h i hi
def ptV(P:LP)(s:St)(col:Nat)(j:Nat):Int:=sumN P.m fun i=>if s.bs i=j then s.T i col else 0
theorem pt_at(h:Tabl P s.bs s.T s.den)(col:Nat){i:Nat}(hi:i<P.m):ptV P s col (s.bs i)=s.T i col:=by
 unfold ptV;rw[uXj (k:=i) _ hi fun k hk hne=>if_neg fun e=>hne (h.inj hk hi e),if_pos rfl]
theorem pt_out(col:Nat){j:Nat}(h:∀i,i<P.m->s.bs i≠j):ptV P s col j=0:=sumN_eq_zero fun i hi=>if_neg (h i hi)
theorem zKw(P:LP)(s:St)(col:Nat)(f:Nat->Int):sumN P.n (fun j=>f j*ptV P s col j)=sumN P.m fun i=>if s.bs i<P.n then f (s.bs i)*s.T i col else 0:=by
 have e1:sumN P.n (fun j=>f j*ptV P s col j)=sumN P.n fun j=>sumN P.m fun i=>if s.bs i=j then f j*s.T i col else 0:=sumN_congr fun j _=>by
  unfold ptV;rw[<- sumN_mul];exact sumN_congr fun i _=>by split<;>simp
 rw[e1,xYb];refine sumN_congr fun i hi=>?_
 by_cases h:s.bs i<P.n
 ·rw[if_pos h,uXj (k:=s.bs i) _ h fun j _ hne=>if_neg (Ne.symm hne),if_pos rfl]
 ·rw[if_neg h];exact sumN_eq_zero fun j hj=>if_neg (by omega)
theorem zXm(h:Tabl P s.bs s.T s.den)(hno:NoArt P s){col k:Nat}(hc:col<P.N)(hk:k<P.m) :
  s.den*P.t0 k col=sumN P.n (fun j=>P.A k j*ptV P s col j)+ptV P s col (P.n+k):=by
 rw[h.column hk hc,zKw];unfold ptV;rw[<- uXm];refine sumN_congr fun i hi=>?_
 have hb:=hno i hi
 by_cases h1:s.bs i<P.n
 ·rw[if_pos h1,vQd P h1,if_neg (by omega)];grind
 ·obtain⟨q,hq⟩:∃q,s.bs i=P.n+q:=⟨s.bs i-P.n,by omega⟩;rw[if_neg h1,hq,xQn P (by omega)]
  by_cases e:q=k
  ·rw[if_pos e,if_pos (by omega)];simp
  ·rw[if_neg e,if_neg (by omega)];simp
theorem vZl(h:Tabl P s.bs s.T s.den){col:Nat}(hc:col<P.N):s.T P.m col=s.den*P.g0 col+sumN P.n fun j=>P.c j*ptV P s col j:=by
 rw[h.goal col hc,zKw];unfold LP.obj;have e:(sumN P.m fun i=>if s.bs i<P.n then P.c (s.bs i)*s.T i col else 0) = - sumN P.m fun i=>P.g0 (s.bs i)*s.T i col:=by
  rw[<- xXv];refine sumN_congr fun i _=>?_
  unfold LP.g0
  split
  ·grind
  ·simp
 rw[e];omega
theorem point_ok(h:Ok P s)(hno:NoArt P s):(∀j,0<=ptV P s P.last j)/\∀k,k<P.m->sumN P.n (fun j=>P.A k j*ptV P s P.last j)<=P.b k*s.den:=by
 have hn:∀j,0<=ptV P s P.last j:=fun j=>xK9 fun i hi=>by
  split
  ·exact h.rhs i hi
  ·omega
 refine⟨hn,fun k hk=>?_⟩;have h1:=zXm h.toTabl hno (xQf P) hk;rw[t0_last] at h1;have h2:=hn (P.n+k);have e:P.b k*s.den=s.den*P.b k:=Int.mul_comm _ _;omega
theorem optimal_ok(h:Ok P s)(hno:NoArt P s)(hopt:∀j,j<P.n+P.m->0<=s.T P.m j) :
  (∀k,k<P.m->0<=s.T P.m (P.n+k))/\(∀j,j<P.n->P.c j*s.den<=sumN P.m fun k=>P.A k j*s.T P.m (P.n+k)) /\
  sumN P.n (fun j=>P.c j*ptV P s P.last j)=s.T P.m P.last/\sumN P.m (fun k=>P.b k*s.T P.m (P.n+k))=s.T P.m P.last:=by
 have hrow:∀j,j<P.N->s.T P.m j=s.den*P.g0 j+sumN P.m fun k=>P.t0 k j*s.T P.m (P.n+k):=fun j hj=>by
  have h1:=h.obj_row (g:=P.g0) (fun k _=>zJn P k) hj;rw[<- h.goal j hj] at h1;rw[h1];congr 1;exact sumN_congr fun k hk=>by rw[h.goal _ (by unfold LP.N;omega)]
 have hgl:P.g0 P.last=0:=by unfold LP.g0 LP.last;rw[if_neg (by omega)]
 refine⟨fun k hk=>hopt _ (by omega),fun j hj=>?_,?_,?_⟩
 ·have h1:=hopt j (by omega);have h2:=hrow j (by unfold LP.N;omega);have h3:P.g0 j = - P.c j:=by unfold LP.g0;rw[if_pos hj]
  have h4:(sumN P.m fun k=>P.t0 k j*s.T P.m (P.n+k))=sumN P.m fun k=>P.A k j*s.T P.m (P.n+k):=sumN_congr fun k _=>by rw[vQd P hj]
  rw[h3,h4] at h2;have e:s.den * - P.c j = - (P.c j*s.den):=by grind
  omega
 ·have h1:=vZl h.toTabl (xQf P);rw[hgl] at h1;omega
 ·have h1:=hrow P.last (xQf P);rw[hgl] at h1;have h4:(sumN P.m fun k=>P.t0 k P.last*s.T P.m (P.n+k))=sumN P.m fun k=>P.b k*s.T P.m (P.n+k):=sumN_congr fun k _=>by rw[t0_last]
  omega
def rayV(P:LP)(s:St)(c j:Nat):Int:=if j=c then s.den else-ptV P s c j
theorem ray_ok(h:Ok P s)(hno:NoArt P s){c:Nat}(hc:c<P.n+P.m)(hneg:s.T P.m c<0)(hle:∀i,i<P.m->s.T i c<=0) :
  (∀j,0<=rayV P s c j)/\(∀k,k<P.m->sumN P.n (fun j=>P.A k j*rayV P s c j)<=0)/\0<sumN P.n fun j=>P.c j*rayV P s c j:=by
 have hcN:c<P.N:=by unfold LP.N;omega
 have hp:=h.pos;have hpt:∀j,ptV P s c j<=0:=fun j=>by
  have:ptV P s c j<=sumN P.m fun _=>0:=uXg fun i hi=>by
   split
   ·exact hle i hi
   ·omega
  rw[uXk] at this;exact this
 have hout:∀i,i<P.m->s.bs i≠c:=fun i hi e=>by
  have h1:=h.obj_basis P.g0 hi;rw[<- h.goal _ (by have:=h.bas i hi;unfold LP.N;omega),e] at h1;omega
 have hsum:∀f:Nat->Int,sumN P.n (fun j=>f j*rayV P s c j)=(if c<P.n then f c*s.den else 0)-sumN P.n fun j=>f j*ptV P s c j:=fun f=>by
  by_cases hcn:c<P.n
  ·rw[if_pos hcn,xXk (k:=c) (fun j=>f j*rayV P s c j) hcn,xXk (k:=c) (fun j=>f j*ptV P s c j) hcn];have e1:rayV P s c c=s.den:=by unfold rayV;rw[if_pos rfl]
   have e2:=pt_out c hout;have e3:(sumN P.n fun j=>if j=c then 0 else f j*rayV P s c j) = - sumN P.n fun j=>if j=c then 0 else f j*ptV P s c j:=by
    rw[<- xXv];refine sumN_congr fun j _=>?_
    by_cases e:j=c
    ·simp[e]
    ·rw[if_neg e,if_neg e];unfold rayV;rw[if_neg e];grind
   rw[e1,e2,e3];grind
  ·rw[if_neg hcn];have e3:(sumN P.n fun j=>f j*rayV P s c j) = - sumN P.n fun j=>f j*ptV P s c j:=by
    rw[<- xXv];refine sumN_congr fun j hj=>?_
    unfold rayV;rw[if_neg (by omega)];grind
   rw[e3];omega
 refine⟨fun j=>?_,fun k hk=>?_,?_⟩
 ·unfold rayV;have:=hpt j
  split<;>omega
 ·rw[hsum];have h1:=zXm h.toTabl hno hcN hk;have h2:=hpt (P.n+k)
  by_cases hcn:c<P.n
  ·rw[if_pos hcn];rw[vQd P hcn] at h1;have e:P.A k c*s.den=s.den*P.A k c:=Int.mul_comm _ _;omega
  ·rw[if_neg hcn];obtain⟨q,rfl⟩:∃q,c=P.n+q:=⟨c-P.n,by omega⟩;rw[xQn P (by omega)] at h1;have:0<=s.den*(if q=k then 1 else 0:Int):=Int.mul_nonneg (Int.le_of_lt hp) (by split<;>omega);omega
 ·rw[hsum];have h1:=vZl h.toTabl hcN
  by_cases hcn:c<P.n
  ·rw[if_pos hcn];have e1:P.g0 c = - P.c c:=by unfold LP.g0;rw[if_pos hcn]
   rw[e1] at h1;have e:s.den * - P.c c = - (P.c c*s.den):=by grind
   omega
  ·rw[if_neg hcn];have e1:P.g0 c=0:=by unfold LP.g0;rw[if_neg hcn]
   rw[e1] at h1;omega
theorem refuted_ok(h:Ok P s)(hopt:∀j,j<P.n+P.m+1->0<=s.T (P.m+1) j)(hneg:s.T (P.m+1) P.last<0) :
  (∀k,k<P.m->0<=s.T (P.m+1) (P.n+k))/\(∀j,j<P.n->0<=sumN P.m fun k=>P.A k j*s.T (P.m+1) (P.n+k))/\sumN P.m (fun k=>P.b k*s.T (P.m+1) (P.n+k))<0:=by
 have hrow:∀j,j<P.N->s.T (P.m+1) j=s.den*P.g1 j+sumN P.m fun k=>P.t0 k j*s.T (P.m+1) (P.n+k):=fun j hj=>by
  have h1:=h.obj_row (g:=P.g1) (fun k hk=>zJo P hk) hj;rw[<- h.art j hj] at h1;rw[h1];congr 1;exact sumN_congr fun k hk=>by rw[h.art _ (by unfold LP.N;omega)]
 refine⟨fun k hk=>hopt _ (by omega),fun j hj=>?_,?_⟩
 ·have h1:=hopt j (by omega);have h2:=hrow j (by unfold LP.N;omega);have h3:P.g1 j=0:=by unfold LP.g1;rw[if_neg (by omega)]
  have h4:(sumN P.m fun k=>P.t0 k j*s.T (P.m+1) (P.n+k))=sumN P.m fun k=>P.A k j*s.T (P.m+1) (P.n+k):=sumN_congr fun k _=>by rw[vQd P hj]
  rw[h3,h4] at h2;omega
 ·have h1:=hrow P.last (xQf P);have h3:P.g1 P.last=0:=by unfold LP.g1 LP.last;rw[if_neg (by omega)]
  have h4:(sumN P.m fun k=>P.t0 k P.last*s.T (P.m+1) (P.n+k))=sumN P.m fun k=>P.b k*s.T (P.m+1) (P.n+k):=sumN_congr fun k _=>by rw[t0_last]
  rw[h3,h4] at h1;omega
end
end LA
end
section
namespace LA
def IsPt(P:LP)(x:Nat->Int)(d:Int):Prop:=(∀k,k<P.m->sumN P.n (fun j=>P.A k j*x j)<=P.b k*d)/\∀j,j<P.n->0<=x j
def IsDu(P:LP)(y:Nat->Int)(e:Int):Prop:=(∀j,j<P.n->P.c j*e<=sumN P.m fun k=>P.A k j*y k)/\∀k,k<P.m->0<=y k
def IsRef(P:LP)(y:Nat->Int):Prop:=(∀j,j<P.n->0<=sumN P.m fun k=>P.A k j*y k)/\(∀k,k<P.m->0<=y k)/\sumN P.m (fun k=>P.b k*y k)<0
def IsRay(P:LP)(d:Nat->Int):Prop:=(∀k,k<P.m->sumN P.n (fun j=>P.A k j*d j)<=0)/\(∀j,j<P.n->0<=d j)/\0<sumN P.n fun j=>P.c j*d j
def valP(P:LP)(x:Nat->Int):Int:=sumN P.n fun j=>P.c j*x j
def valD(P:LP)(y:Nat->Int):Int:=sumN P.m fun k=>P.b k*y k
section
variable {P:LP}
theorem zQk(P:LP)(x y:Nat->Int):sumN P.n (fun j=>x j*sumN P.m fun k=>P.A k j*y k)=sumN P.m fun k=>y k*sumN P.n fun j=>P.A k j*x j:=by
 have e:sumN P.n (fun j=>x j*sumN P.m fun k=>P.A k j*y k)=sumN P.n fun j=>sumN P.m fun k=>x j*(P.A k j*y k):=sumN_congr fun j _=>by rw[sumN_mul]
 rw[e,xYb];refine sumN_congr fun k _=>?_
 rw[<- sumN_mul];exact sumN_congr fun j _=>by grind
theorem weak{x y:Nat->Int}{d e:Int}(hx:IsPt P x d)(hy:IsDu P y e):valP P x*e<=valD P y*d:=by
 have h1:valP P x*e=sumN P.n fun j=>x j*(P.c j*e):=by
  unfold valP;rw[<- xZ0];exact sumN_congr fun j _=>by grind
 have h2:=uXg fun j hj=>Int.mul_le_mul_of_nonneg_left (hy.1 j hj) (hx.2 j hj)
 have h3:=uXg fun k hk=>Int.mul_le_mul_of_nonneg_left (hx.1 k hk) (hy.2 k hk)
 have h4:valD P y*d=sumN P.m fun k=>y k*(P.b k*d):=by
  unfold valD;rw[<- xZ0];exact sumN_congr fun j _=>by grind
 rw[zQk] at h2;omega
theorem no_point{x y:Nat->Int}{d:Int}(hd:0<d)(hx:IsPt P x d)(hy:IsRef P y):False:=by
 have h2:=xK9 fun j hj=>Int.mul_nonneg (hx.2 j hj) (hy.1 j hj)
 have h3:=uXg fun k hk=>Int.mul_le_mul_of_nonneg_left (hx.1 k hk) (hy.2.1 k hk)
 have h4:(sumN P.m fun k=>y k*(P.b k*d))=(sumN P.m fun k=>P.b k*y k)*d:=by
  rw[<- xZ0];exact sumN_congr fun j _=>by grind
 rw[zQk] at h2;have h5:=Int.mul_neg_of_neg_of_pos hy.2.2 hd;omega
theorem no_ray{r y:Nat->Int}{e:Int}(he:0<e)(hr:IsRay P r)(hy:IsDu P y e):False:=by
 have h1:(sumN P.n fun j=>P.c j*r j)*e=sumN P.n fun j=>r j*(P.c j*e):=by
  rw[<- xZ0];exact sumN_congr fun j _=>by grind
 have h2:=uXg fun j hj=>Int.mul_le_mul_of_nonneg_left (hy.1 j hj) (hr.2.1 j hj)
 have h3:(sumN P.m fun k=>y k*sumN P.n fun j=>P.A k j*r j)<=sumN P.m fun _=>0:=uXg fun k hk=>by
  have:=Int.mul_nonneg (hy.2 k hk) (show 0<=- sumN P.n fun j=>P.A k j*r j by have:=hr.1 k hk;omega);rw[Int.mul_neg] at this;omega
 rw[uXk] at h3;rw[zQk] at h2;have h5:=Int.mul_pos hr.2.2 he;omega
end
def Outcome(P:LP)(status num den:Int):Prop:=
 (status=1/\0<den/\(∃x d,0<d/\IsPt P x d/\valP P x*den=num*d)/\∃y e,0<e/\IsDu P y e/\valD P y*den=num*e) \/
 (status=2/\num=0/\den=0/\∃y,IsRef P y) \/
 (status=3/\num=0/\den=0/\(∃x d,0<d/\IsPt P x d)/\∃r,IsRay P r)
section
variable {P Q:LP}{s s' num num' den den':Int}
end
end LA
end
section
theorem vZg(a b:Int):Int.gcd b (a.tmod b)=Int.gcd a b:=by
 have h:=Int.natAbs_tmod a b;unfold Int.gcd;rw[h,Nat.gcd_comm b.natAbs,<- Nat.gcd_rec,Nat.gcd_comm]
theorem yJ5(a b:Int)(hb:b≠0):(a.tmod b).natAbs<b.natAbs:=by
 rw[Int.natAbs_tmod];exact Nat.mod_lt _ (by omega)
def zVd(n d:Int):Int:=if n < -1000000000\/1000000000<n\/d<1\/1000000000<d then 3 else if Int.gcd n d=1 then 0 else 5
theorem zKn{n d:Int}(h:n < -1000000000\/1000000000<n\/d<1\/1000000000<d):zVd n d=3:=by unfold zVd;rw[if_pos h]
theorem zKo{n d:Int}(h:¬(n < -1000000000\/1000000000<n\/d<1\/1000000000<d))(g:Int.gcd n d=1):zVd n d=0:=by unfold zVd;rw[if_neg h,if_pos g]
theorem yJ6{n d:Int}(h:¬(n < -1000000000\/1000000000<n\/d<1\/1000000000<d))(g:¬Int.gcd n d=1):zVd n d=5:=by unfold zVd;rw[if_neg h,if_neg g]
def qs(n d:Int):Int:=if d<0 then -n else n
def qn(n d:Int):Int:=qs n d/(Int.gcd n d:Int)
def qd(n d:Int):Int:=qs d d/(Int.gcd n d:Int)
def vZh(n d:Int):Prop:=-1000000000<=qn n d/\qn n d<=1000000000/\qd n d<=1000000000
instance (n d:Int):Decidable (vZh n d):=by unfold vZh;infer_instance
def rn(n d:Int):Int:=if vZh n d then qn n d else 0
def rd(n d:Int):Int:=if vZh n d then qd n d else 0
def rc(n d:Int):Int:=if vZh n d then 0 else 10
def ri(n d:Int):Int:=if vZh n d then 0 else -1
theorem xVc{n d:Int}(hd:d≠0):1<=(Int.gcd n d:Int):=by
 have:Int.gcd n d≠0:=fun h=>hd (Int.gcd_eq_zero_iff.1 h).2
 omega
theorem yYx{g n d:Int}(h:g∣n):g∣qs n d:=by
 unfold qs;split
 ·exact(Int.dvd_neg).2 h
 ·exact h
theorem vZi(n d:Int):qn n d*(Int.gcd n d:Int)=qs n d:=Int.ediv_mul_cancel (yYx (Int.gcd_dvd_left ..))
theorem zKp(n d:Int):qd n d*(Int.gcd n d:Int)=qs d d:=Int.ediv_mul_cancel (yYx (Int.gcd_dvd_right ..))
theorem yW6{d:Int}(hd:d≠0):1<=qs d d:=by unfold qs;split<;>omega
theorem vVs{a b:Int}(h:1<=a*b)(hb:1<=b):1<=a:=by
 rcases Int.lt_or_le 0 a with h1|h1
 ·omega
 ·have:=Int.mul_nonpos_of_nonpos_of_nonneg h1 (show 0<=b by omega);omega
theorem zKq{n d:Int}(hd:d≠0):1<=qd n d:=vVs (by rw[zKp];exact yW6 hd) (xVc hd)
theorem uJs(n d:Int):qs n d*d=n*qs d d:=by
 unfold qs;split
 ·rw[Int.mul_neg,Int.neg_mul]
 ·rfl
theorem uJt{a b c:Int}(hc:c≠0)(h:a*c=b*c):a=b:=Int.eq_of_mul_eq_mul_right hc h
theorem q_mul{n d:Int}(hd:d≠0):qn n d*d=n*qd n d:=by
 have hg:=xVc (n:=n) hd;refine uJt (c:=(Int.gcd n d:Int)) (by omega) ?_;have h1:=vZi n d;have h2:=zKp n d;have h3:=uJs n d
 grind
theorem uJu{n d:Int}(hd:d≠0):Int.gcd (qn n d) (qd n d)=1:=by
 have hg:=xVc (n:=n) hd;have h:Int.gcd (qn n d*(Int.gcd n d:Int)) (qd n d*(Int.gcd n d:Int))=Int.gcd n d:=by
  rw[vZi,zKp];unfold qs
  split<;>simp
 rw[Int.gcd_mul_right] at h;simp only[Int.natAbs_natCast] at h;have hg':0<Int.gcd n d:=by omega
 exact Nat.eq_of_mul_eq_mul_right hg' (by rw[h,Nat.one_mul])
end
