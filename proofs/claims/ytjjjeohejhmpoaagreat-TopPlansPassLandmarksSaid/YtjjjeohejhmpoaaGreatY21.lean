/-
  Lemmas.
-/
import Derived.Test.YtjjjeohejhmpoaaGreatY6
set_option linter.unusedVariables false
set_option linter.unusedSimpArgs false
set_option maxRecDepth 100000
set_option maxHeartbeats 4000000
namespace Go.Proofs.YtjjjeohejhmpoaaGreat
open Go.RowKit Go.Proofs.Tryz
def xWp(bs:Nat->Nat)(T:Nat->Nat->Int)(col i j:Nat):Int:=LA.sumN i fun k=>if bs k=j then T k col else 0
theorem yY3{bs:Nat->Nat}{T:Nat->Nat->Int}{col i:Nat}(h:∀ k,k < i->bs k≠bs i):xWp bs T col (i+1) (bs i)=T i col:=by
 show LA.sumN i _+_=_;rw[LA.sumN_eq_zero fun k hk=>if_neg (h k hk)];simp
theorem zWa{bs:Nat->Nat}{T:Nat->Nat->Int}{col i j:Nat}(h:bs i≠j):xWp bs T col (i+1) j=xWp bs T col i j:=by
 show LA.sumN i _+(if bs i=j then T i col else 0)=_;rw[if_neg h,Int.add_zero];rfl
theorem vYj(w:World)(base:Nat)(L:TbLay)(m N n:Nat)(bs:Nat->Nat)(T:Nat->Nat->Int)(den:Int)(col:Nat)(sg:Int)(hM:TbMem base w L m N bs T den)(hcol:col < N)(hsg:sg=1\/sg = -1)(hTB:∀ i,i < m->-1000000000<=T i col/\T i col<=1000000000)(hinj:∀ i k,i < m->k < m->bs i=bs k->i=k)(hm6:m<=6)(hn6:n<=100) :
  Calls prog 105 #[.pointer (some ⟨L.b,0,none⟩),.int .i64 n,.int .i64 col,.int .i64 sg] w fun e w'=>∃ g:Nat,e=.returned (.slice (some ⟨g,0,none⟩) n n)/\w.heap.size<=g/\IArr w' g (xJd n fun j=>sg * xWp bs T col m j)/\Below w.heap.size w w':=by
 obtain⟨Lb,LgR,LcR,Lblk,LAB,LcB⟩:=L;have HTB:=lHd hTB;have HIN:=lHd hinj;have HM:=lHd hM;have hsb:=hM.sepB;have hx1:=hM.box1;have hlt1:=xQ3 w _ hx1;have hx0:=hM.box0;have hlt0:=xQ3 w _ (hM.out 0 (by omega));dsimp only at hx1 hlt1 hx0 hlt0;have hmk:=xQu n (by omega);have HMP:=lHd (xWj n);have hsg1 : -1<=sg/\sg<=1:=by omega
 clear hTB hinj hM hsb hsg;go_enter func105,ntmps105
 go_wp2_with fail
 go_loopw [19] (fun x wr=>∃ i:Nat,i<=m/\x=.int .i64 i/\Below w.heap.size w wr/\IArr wr w.heap.size (xJd n fun j=>sg * xWp bs T col i j)) (fun x _=>m - (intOf x).toNat)
 case atStart=>exact⟨0,xY1 _,rfl,bch,by
  have h:=IArr.made w n w.heap.size rfl;rw[HMP.out,xJc (g:=fun j=>sg * xWp bs T col 0 j) fun j _=>by unfold xWp;simp[LA.sumN]] at h;simpa using h⟩
 case round=>
  obtain⟨i,hi,rfl,hB1,hA1⟩:=hrel;obtain⟨w1,rfl⟩:∃ wo:World,wo=wr:=⟨_,rfl⟩;have hM1:=HM.out.below hB1
  by_cases hlt:i < m
  ·have hi2:i < m+2:=by omega
   have hi3:(i:Int) < (m:Int)+2:=by omega
   obtain⟨g,hA,hg1,hg2,hg3,hg4⟩:=hM1.bas hlt;have hy0:=hM1.box0;have hyo:=hM1.out i hi2;have hyc:=(hM1.cell (i:=i) (j:=col) hi2 hcol).1;dsimp only at hA hy0 hyo hyc;subst hA;have hTb:=HTB.out i hlt;obtain⟨v,hv⟩:∃ v,Hid (bs i=v):=⟨_,lHd rfl⟩;obtain⟨x,hx⟩:∃ x,Hid (T i col=x):=⟨_,lHd rfl⟩;rw[hv.out] at hg3;rw[hx.out] at hyc hTb;have hmul:=LA.abs_mul hsg1 hTb;obtain⟨hmul1,hmul2⟩:=hmul;obtain⟨p,hp⟩:∃ p,Hid (sg * x=p):=⟨_,lHd rfl⟩;have hwp:IntKind.i64.wrap (sg * x)=p:=by rw[hp.out] at hmul1 hmul2 ⊢;exact Go.IntWalk.i64_in _ (by omega)
   by_cases hvn:v < n
   ·have hvn':decide ((v:Int) < (n:Int))=true:=xY8 (by omega);obtain⟨z,hz,hzc,hzf⟩:=hA1.cell (i:=v) (by rw[xJj];exact hvn);clear hz;go_wp2
    go_roundw
    case rel=>exact⟨i+1,by omega,by go_num,bch,(by
     have h:=hA1.set_ v p;rw[xXy] at h;rw[xJc (g:=fun j=>if j=v then p else sg * xWp bs T col i j) fun j _=>by
      by_cases e:j=v
      ·rw[if_pos e,e,<- hv.out,yY3 (fun k hk e2=>by have:=HIN.out k i (by omega) hlt e2;omega),hx.out,hp.out]
      ·rw[if_neg e,zWa (by rw[hv.out];exact fun e2=>e e2.symm)]]
     exact h.below bch)⟩
    case measure=>simp[intOf];omega
   ·have hvn':decide ((v:Int) < (n:Int))=false:=xVg (by omega);go_wp2
    go_roundw
    case rel=>exact⟨i+1,by omega,by go_num,bch,(by
     rw[xJc (g:=fun j=>sg * xWp bs T col i j) fun j hj=>by rw[zWa (by rw[hv.out];omega)]];exact hA1.below bch)⟩
    case measure=>simp[intOf];omega
  ·obtain rfl:m=i:=by omega
   go_wp2;go_ret;exact⟨w.heap.size,rfl,Nat.le_refl _,hA1.below bch,bch⟩
def atL(x:List Int)(j:Nat):Int:=(x[j]?).getD 0
theorem vJc{n j:Nat}(f:Nat->Int)(h:j < n):atL (xJd n f) j=f j:=by unfold atL;rw[xKc f h];rfl
structure VOk(n:Nat)(x:List Int)(d:Int):Prop where
 len:x.length=n
 pos:0 < d
 dle:d<=100000000
 le:∀ a∈x,-100000000<=a/\a<=100000000
 one:xQ2 d x=1
theorem vWd{a g B:Int}(hg:0 < g)(hd:g∣a)(h : -B<=a/\a<=B) : -B<=a.tdiv g/\a.tdiv g<=B:=xQw hg (xX1 hd) h
theorem yQh{d:Int}{x:List Int}(hd0:0 < d)(hd1:d<=100000000)(hx:∀ a∈x,-100000000<=a/\a<=100000000):VOk x.length (xQv d x) (d.tdiv (xQ2 d x)):=by
 have hg:=xZo (xs:=x) hd0;refine⟨xZq _ _,yVj hd0,(vWd hg (xZp x d).1 ⟨by omega,hd1⟩).2,fun a ha=>?_,yVi hd0⟩;unfold xQv at ha;obtain⟨b,hb,rfl⟩:=zQ1.1 ha;exact vWd hg ((xZp x d).2 b hb) (hx b hb)
theorem zV5(d:Int)(x:List Int)(j:Nat):xQ2 d x * atL (xQv d x) j=atL x j:=by
 unfold atL;rcases zZ2 j x.length with h | h
 ·obtain⟨y,h1,h2⟩:=yJf (d:=d) (lGe h);rw[h1,lGe h];exact h2
 ·rw[xWi h,xWi (by rw[xZq];exact h)];simp
theorem zJk(d:Int)(x:List Int):xQ2 d x * d.tdiv (xQ2 d x)=d:=xX1 (xZp x d).1
section
variable {P:LA.LP}{g:Int}{x x':Nat->Int}{d d':Int}
theorem xV7{a b:Int}(hg:0 < g)(h:g * a<=g * b):a<=b:=Int.le_of_mul_le_mul_left h hg
theorem zXb{a b:Int}(hg:0 < g)(h:g * a < g * b):a < b:=Int.lt_of_mul_lt_mul_left h (Int.le_of_lt hg)
theorem xZz{n:Nat}(A:Nat->Int)(h:∀ j,j < n->x j=g * x' j):LA.sumN n (fun j=>A j * x j)=g * LA.sumN n fun j=>A j * x' j:=by
 rw[<- LA.sumN_mul];exact LA.sumN_congr fun j hj=>by rw[h j hj];grind
theorem xKl{a:Int}(hg:0 < g)(h:0<=g * a):0<=a:=xV7 hg (by rw[Int.mul_zero];exact h)
theorem yQi(hg:0 < g)(hx:∀ j,j < P.n->x j=g * x' j)(hd:d=g * d')(h:LA.IsPt P x d):LA.IsPt P x' d':=
 ⟨fun k hk=>xV7 hg (by
  have h1:=h.1 k hk;rw[xZz _ hx,hd] at h1;have:g * (P.b k * d')=P.b k * (g * d'):=by grind
  omega),fun j hj=>xKl hg (by rw[<- hx j hj];exact h.2 j hj)⟩
theorem yQj(hg:0 < g)(hx:∀ j,j < P.m->x j=g * x' j)(hd:d=g * d')(h:LA.IsDu P x d):LA.IsDu P x' d':=
 ⟨fun k hk=>xV7 hg (by
  have h1:=h.1 k hk;rw[xZz _ hx,hd] at h1;have:g * (P.c k * d')=P.c k * (g * d'):=by grind
  omega),fun j hj=>xKl hg (by rw[<- hx j hj];exact h.2 j hj)⟩
theorem vWe(hg:0 < g)(hx:∀ j,j < P.m->x j=g * x' j)(h:LA.IsRef P x):LA.IsRef P x':=
 ⟨fun k hk=>xKl hg (by rw[<- xZz _ hx];exact h.1 k hk),fun j hj=>xKl hg (by rw[<- hx j hj];exact h.2.1 j hj),zXb hg (by rw[<- xZz _ hx,Int.mul_zero];exact h.2.2)⟩
theorem vWf(hg:0 < g)(hx:∀ j,j < P.n->x j=g * x' j)(h:LA.IsRay P x):LA.IsRay P x':=
 ⟨fun k hk=>xV7 hg (by rw[<- xZz _ hx,Int.mul_zero];exact h.1 k hk),fun j hj=>xKl hg (by rw[<- hx j hj];exact h.2.1 j hj),zXb hg (by rw[<- xZz _ hx,Int.mul_zero];exact h.2.2)⟩
end
structure SolOpt(P:LA.LP)(num den:Int)(x:List Int)(dx:Int)(y:List Int)(dy:Int):Prop where
 dpos:0 < den
 cop:Int.gcd num den=1
 nle : -707788800<=num/\num<=707788800
 dle:den<=1179648
 xok:VOk P.n x dx
 yok:VOk P.m y dy
 px:LA.IsPt P (atL x) dx
 py:LA.IsDu P (atL y) dy
 vx:LA.valP P (atL x) * den=num * dx
 vy:LA.valD P (atL y) * den=num * dy
def SolOut(P:LA.LP)(st num den:Int)(x:List Int)(dx:Int)(y:List Int)(dy:Int)(r:List Int)(dr:Int):Prop:=
 (st=1/\SolOpt P num den x dx y dy/\r=[]/\dr=0) \/
 (st=2/\num=0/\den=0/\x=[]/\dx=0/\r=[]/\dr=0/\VOk P.m y dy/\LA.IsRef P (atL y)) \/
 (st=3/\num=0/\den=0/\y=[]/\dy=0/\VOk P.n x dx/\VOk P.n r dr/\LA.IsPt P (atL x) dx/\LA.IsRay P (atL r))
theorem SolOut.out{P:LA.LP}{st num den dx dy dr:Int}{x y r:List Int}(h:SolOut P st num den x dx y dy r dr):LA.Outcome P st num den:=by
 rcases h with ⟨h1,h2,_⟩ | ⟨h1,h2,h3,_,_,_,_,h4,h5⟩ | ⟨h1,h2,h3,_,_,h4,h5,h6,h7⟩
 ·exact .inl ⟨h1,h2.dpos,⟨_,dx,h2.xok.pos,h2.px,h2.vx⟩,_,dy,h2.yok.pos,h2.py,h2.vy⟩
 ·exact .inr (.inl ⟨h1,h2,h3,_,h5⟩)
 ·exact .inr (.inr ⟨h1,h2,h3,⟨_,dx,h4.pos,h6⟩,_,h7⟩)
section
variable {P:LA.LP}{s:LA.St}
theorem yYt(hP:LA.LPIn P)(h:LA.Ok P s){col:Nat}{B:Int}(hB:0<=B)(hc:∀ i,i < P.m->-B<=s.T i col/\s.T i col<=B)(j:Nat) : -B<=LA.ptV P s col j/\LA.ptV P s col j<=B:=by
 by_cases e:∃ i,i < P.m/\s.bs i=j
 ·obtain⟨i,hi,rfl⟩:=e;rw[LA.pt_at h.toTabl col hi];exact hc i hi
 ·rw[LA.pt_out col fun i hi e2=>e ⟨i,hi,e2⟩];omega
def zJl(P:LA.LP)(s:LA.St):List Int:=xJd P.n fun j=>1 * xWp s.bs s.T (P.n+P.m+1) P.m j
def zZy(P:LA.LP)(s:LA.St)(o:Nat):List Int:=xJd P.m fun k=>s.T o (P.n+k)
def vK1(P:LA.LP)(s:LA.St)(c:Nat):List Int:=xJd P.n fun j=>if j=c then s.den else -1 * xWp s.bs s.T c P.m j
theorem yKi{j:Nat}(hj:j < P.n):atL (zJl P s) j=LA.ptV P s P.last j:=by
 unfold zJl;rw[vJc _ hj,Int.one_mul];rfl
theorem vWg{o k:Nat}(hk:k < P.m):atL (zZy P s o) k=s.T o (P.n+k):=by unfold zZy;rw[vJc _ hk]
theorem yKj{c j:Nat}(hj:j < P.n):atL (vK1 P s c) j=LA.rayV P s c j:=by
 unfold vK1;rw[vJc _ hj];unfold LA.rayV
 split
 ·rfl
 ·rw[Int.neg_mul,Int.one_mul];rfl
theorem zV6{n:Nat}{f:Nat->Int}{a:Int}(h:a∈xJd n f):∃ j,j < n/\a=f j:=by
 unfold xJd at h;obtain⟨j,hj,e⟩:=zQ1.1 h;exact⟨j,vJp.1 hj,e.symm⟩
theorem vWh(hP:LA.LPIn P)(h:LA.Ok P s):∀ a∈zJl P s,-5898240<=a/\a<=5898240:=fun a ha=>by
 obtain⟨j,hj,rfl⟩:=zV6 ha;rw[Int.one_mul];exact yYt hP h (B:=5898240) (by omega) (fun i hi=>h.le_last hP hi) j
theorem vWi(hP:LA.LPIn P)(h:LA.Ok P s){c:Nat}(hc:c<=P.n+P.m):∀ a∈vK1 P s c,-1179648<=a/\a<=1179648:=fun a ha=>by
 obtain⟨j,hj,rfl⟩:=zV6 ha;have h1:=yYt hP h (B:=1179648) (by omega) (fun i hi=>h.le_col hP hi hc) j;have h2:=h.le_den hP;have h3:=h.pos
 split
 ·omega
 ·have e:xWp s.bs s.T c P.m j=LA.ptV P s c j:=rfl;rw[e,Int.neg_mul,Int.one_mul];omega
theorem vWj(hP:LA.LPIn P)(h:LA.Ok P s):∀ a∈zZy P s P.m,-5898240<=a/\a<=5898240:=fun a ha=>by
 obtain⟨j,hj,rfl⟩:=zV6 ha;exact h.goal_slack hP hj
theorem vWk(hP:LA.LPIn P)(h:LA.Ok P s):∀ a∈zZy P s (P.m+1),-294912<=a/\a<=294912:=fun a ha=>by
 obtain⟨j,hj,rfl⟩:=zV6 ha;exact h.art_slack hP hj
theorem zV7{n:Nat}{d B:Int}{f:Nat->Int}(hd0:0 < d)(hd1:d<=100000000)(hB:B<=100000000)(hx:∀ a∈xJd n f,-B<=a/\a<=B):VOk n (xQv d (xJd n f)) (d.tdiv (xQ2 d (xJd n f))):=by
 have h:=yQh (x:=xJd n f) hd0 hd1 (fun a ha=>by have:=hx a ha;omega);rw[xJj] at h;exact h
theorem yYu(hP:LA.LPIn P)(h:LA.Ok P s)(hno:LA.NoArt P s):VOk P.n (xQv s.den (zJl P s)) (s.den.tdiv (xQ2 s.den (zJl P s)))/\LA.IsPt P (atL (xQv s.den (zJl P s))) (s.den.tdiv (xQ2 s.den (zJl P s)))/\xQ2 s.den (zJl P s) * LA.valP P (atL (xQv s.den (zJl P s)))=LA.valP P (LA.ptV P s P.last):=by
 have hd:=h.le_den hP;have hp:=h.pos;have hg:=xZo (xs:=zJl P s) hp;have hat:∀ j,j < P.n->LA.ptV P s P.last j=xQ2 s.den (zJl P s) * atL (xQv s.den (zJl P s)) j:=fun j hj=>by rw[zV5,yKi hj]
 have h1:=LA.point_ok h hno;refine⟨zV7 hp (by omega) (B:=5898240) (by omega) (vWh hP h),yQi hg hat (zJk _ _).symm ⟨h1.2,fun j _=>h1.1 j⟩,?_⟩;unfold LA.valP;rw[xZz _ hat]
theorem yKk(hP:LA.LPIn P)(h:LA.Ok P s)(hno:LA.NoArt P s){c:Nat}(hc:c < P.n+P.m)(hneg:s.T P.m c < 0)(hle:∀ i,i < P.m->s.T i c<=0) :
  SolOut P 3 0 0 (xQv s.den (zJl P s)) (s.den.tdiv (xQ2 s.den (zJl P s))) [] 0 (xQv s.den (vK1 P s c)) (s.den.tdiv (xQ2 s.den (vK1 P s c))):=by
 have hd:=h.le_den hP;have hp:=h.pos;have hg:=xZo (xs:=vK1 P s c) hp;have h1:=LA.ray_ok h hno hc hneg hle;have h2:=yYu hP h hno;have hat:∀ j,j < P.n->LA.rayV P s c j=xQ2 s.den (vK1 P s c) * atL (xQv s.den (vK1 P s c)) j:=fun j hj=>by rw[zV5,yKj hj]
 exact .inr (.inr ⟨rfl,rfl,rfl,rfl,rfl,h2.1,zV7 hp (by omega) (B:=1179648) (by omega) (vWi hP h (by omega)),h2.2.1,vWf hg hat ⟨h1.2.1,fun j _=>h1.1 j,h1.2.2⟩⟩)
theorem yQk(hP:LA.LPIn P)(h:LA.Ok P s)(hopt:∀ j,j < P.n+P.m+1->0<=s.T (P.m+1) j)(hneg:s.T (P.m+1) P.last < 0) :
  SolOut P 2 0 0 [] 0 (xQv s.den (zZy P s (P.m+1))) (s.den.tdiv (xQ2 s.den (zZy P s (P.m+1)))) [] 0:=by
 have hd:=h.le_den hP;have hp:=h.pos;have hg:=xZo (xs:=zZy P s (P.m+1)) hp;have h1:=LA.refuted_ok h hopt hneg;have hat:∀ k,k < P.m->s.T (P.m+1) (P.n+k)=xQ2 s.den (zZy P s (P.m+1)) * atL (xQv s.den (zZy P s (P.m+1))) k:=fun k hk=>by rw[zV5,vWg hk]
 refine .inr (.inl ⟨rfl,rfl,rfl,rfl,rfl,rfl,rfl,zV7 hp (by omega) (B:=294912) (by omega) (vWk hP h),vWe (x:=fun k=>s.T (P.m+1) (P.n+k)) hg hat ⟨h1.2.1,h1.1,h1.2.2⟩⟩)
theorem yKl{n d B:Int}(hd:0 < d)(h : -B<=n/\n<=B) : -B<=qn n d/\qn n d<=B:=by
 have e:qs n d=n:=by unfold qs;rw[if_neg (by omega)]
 have h1:=vZi n d;rw[e,Int.mul_comm] at h1;exact xQw (by have:=xVc (n:=n) (d:=d) (by omega);omega) h1 h
theorem uJh{n d B:Int}(hd:0 < d)(h:d<=B):qd n d<=B:=by
 have e:qs d d=d:=by unfold qs;rw[if_neg (by omega)]
 have h1:=zKp n d;rw[e,Int.mul_comm] at h1;exact (xQw (B:=B) (by have:=xVc (n:=n) (d:=d) (by omega);omega) h1 ⟨by omega,h⟩).2
theorem yKm{n d:Int}(hd:0 < d)(h1:d<=1000000000)(h : -1000000000<=n/\n<=1000000000):vZh n d:=⟨(yKl hd h).1,(yKl hd h).2,uJh hd h1⟩
theorem yKn(hP:LA.LPIn P)(h:LA.Ok P s)(hno:LA.NoArt P s)(hopt:∀ j,j < P.n+P.m->0<=s.T P.m j) :
  rc (s.T P.m P.last) s.den=0/\ri (s.T P.m P.last) s.den=0/\SolOut P 1 (rn (s.T P.m P.last) s.den) (rd (s.T P.m P.last) s.den) (xQv s.den (zJl P s)) (s.den.tdiv (xQ2 s.den (zJl P s))) (xQv s.den (zZy P s P.m)) (s.den.tdiv (xQ2 s.den (zZy P s P.m))) [] 0:=by
 have hd:=h.le_den hP;have hp:=h.pos;have hg:=xZo (xs:=zJl P s) hp;have hg2:=xZo (xs:=zZy P s P.m) hp;have hgl:=h.goal_last hP;obtain⟨o1,o2,o3,o4⟩:=LA.optimal_ok h hno hopt;obtain⟨p1,p2,p3⟩:=yYu hP h hno;have hfit:=yKm (n:=s.T P.m P.last) hp (by omega) (by omega);have hat:∀ k,k < P.m->s.T P.m (P.n+k)=xQ2 s.den (zZy P s P.m) * atL (xQv s.den (zZy P s P.m)) k:=fun k hk=>by rw[zV5,vWg hk]
 have hq:=q_mul (n:=s.T P.m P.last) (d:=s.den) (by omega);have hqd:=zKq (n:=s.T P.m P.last) (d:=s.den) (by omega);have ev:LA.valP P (LA.ptV P s P.last)=s.T P.m P.last:=o3;have key:∀ {g v d':Int},0 < g->g * v=s.T P.m P.last->g * d'=s.den->v * qd (s.T P.m P.last) s.den=qn (s.T P.m P.last) s.den * d':=fun {g v d'} hg h1 h2=>by
  rw[<- h1,<- h2] at hq ⊢;refine Int.eq_of_mul_eq_mul_left (show g≠0 by omega) ?_
  grind
 refine⟨by unfold rc;rw[if_pos hfit],by unfold ri;rw[if_pos hfit],.inl ⟨rfl,?_,rfl,rfl⟩⟩;have er:rn (s.T P.m P.last) s.den=qn (s.T P.m P.last) s.den:=by unfold rn;rw[if_pos hfit]
 have ed:rd (s.T P.m P.last) s.den=qd (s.T P.m P.last) s.den:=by unfold rd;rw[if_pos hfit]
 rw[er,ed];refine⟨by omega,uJu (by omega),yKl hp hgl,uJh hp hd,p1,zV7 hp (by omega) (B:=5898240) (by omega) (vWj hP h),p2,yQj (x:=fun k=>s.T P.m (P.n+k)) hg2 hat (zJk _ _).symm ⟨o2,o1⟩,key hg (by rw[p3,ev]) (zJk _ _),key hg2 ?_ (zJk _ _)⟩;rw[<- o4];unfold LA.valD;rw[xZz _ hat]
end
theorem yQl(N n m:Nat)(f:Nat->Int)(h:n+m<=N):((xJd N f).drop n).take m=xJd m fun k=>f (n+k):=by
 apply List.ext_getElem?;intro i;rw[List.getElem?_take]
 split
 ·next hi=>rw[List.getElem?_drop,xKc f (by omega),xKc _ hi]
 ·next hi=>rw[xWi (by rw[xJj];omega)]
theorem Ints.take{w:World}{A:Option Addr}{xs:List Int}(h:Ints w A xs)(k:Nat):Ints w A (xs.take k):=fun j u hu=>by
 rw[List.map_take,List.getElem?_take] at hu
 split at hu
 ·exact h j u hu
 ·cases hu
theorem vZ1(g N n m:Nat)(hN:n+m < N)(hN2:N<=1000):∃ A':Option Addr,(∀ (w:World) (f:Nat->Int),IArr w g (xJd N f)->Ints w A' (xJd m fun k=>f (n+k))) /\
  ∀ (i j:Int),i=(n:Int)->j=(n:Int)+(m:Int)->∀ (w:World),(Instr.slice 22 (.slice (some ⟨g,0,none⟩) N N) (some (.int .i64 i)) (some (.int .i64 j)) none).run prog w=.ok (.slice A' m (N - n)) w:=by
 refine⟨(some (⟨g,0,none⟩:Addr)).map (·.add n),fun w f h=>?_,?_⟩
 ·rw[<- yQl N n m f (by omega)];exact (Ints.drop h.ints n).take m
 ·rintro i j rfl rfl w;have h0:(0:Int)<=n:=by omega
  have h1:(n:Int)<=(n:Int)+m:=by omega
  have h2:(0:Int)<=(n:Int)+m:=by omega
  have h3:(n:Int)+(m:Int)<=N:=by omega
  have h4:¬ N=n:=by omega
  have h5:((n:Int)+(m:Int)).toNat=n+m:=by omega
  simp[go_sem,underlying22,h0,h1,h3,h4,h5]
  try omega
def zZc(T X:Nat->Nat->Int)(r i j:Nat):Nat->Nat->Int:=fun a b=>if a≠r/\(a < i\/(a=i/\b < j)) then X a b else T a b
theorem vVn(T X:Nat->Nat->Int)(r a b:Nat):zZc T X r 0 0 a b=T a b:=by unfold zZc;rw[if_neg (by omega)]
theorem vWt(T X:Nat->Nat->Int)(r a b:Nat):zZc T X r (r+1) 0 a b=zZc T X r r 0 a b:=by
 unfold zZc
 by_cases e:a≠r/\(a < r\/a=r/\b < 0)
 ·rw[if_pos e,if_pos (by omega)]
 ·rw[if_neg e,if_neg (by omega)]
theorem vWu(T X:Nat->Nat->Int){r i j a b:Nat}(h:i≠r):zZc T X r i (j+1) a b=if a=i/\b=j then X i j else zZc T X r i j a b:=by
 unfold zZc
 by_cases e:a=i/\b=j
 ·obtain⟨rfl,rfl⟩:=e;rw[if_pos (by omega),if_pos ⟨rfl,rfl⟩]
 ·rw[if_neg e]
  by_cases e2:a≠r/\(a < i\/a=i/\b < j)
  ·rw[if_pos e2,if_pos (by omega)]
  ·rw[if_neg e2,if_neg (by omega)]
theorem yQw(T X:Nat->Nat->Int){r i N a b:Nat}(h:b < N):zZc T X r (i+1) 0 a b=zZc T X r i N a b:=by
 unfold zZc
 by_cases e:a≠r/\(a < i\/a=i/\b < N)
 ·rw[if_pos e,if_pos (by omega)]
 ·rw[if_neg e,if_neg (by omega)]
theorem yQx{T X:Nat->Nat->Int}{r M a b:Nat}(h:a < M)(hr:∀ j,X r j=T r j):zZc T X r M 0 a b=X a b:=by
 unfold zZc
 by_cases e:a=r
 ·subst e;rw[if_neg (by omega)];exact (hr b).symm
 ·rw[if_pos (by omega)]
theorem yKt(T X:Nat->Nat->Int)(r i j:Nat):zZc T X r i j i j=T i j:=by unfold zZc;rw[if_neg (by omega)]
theorem uJl(T X:Nat->Nat->Int)(r i j b:Nat):zZc T X r i j r b=T r b:=by unfold zZc;rw[if_neg (by omega)]
theorem vWv(T X:Nat->Nat->Int)(r i b:Nat):zZc T X r i 0 i b=T i b:=by unfold zZc;rw[if_neg (by omega)]
def vJj(X:Nat->Nat->Int)(i j:Nat):Nat->Nat->Int:=fun a b=>if a < i\/(a=i/\b < j) then - X a b else X a b
theorem vVo(X:Nat->Nat->Int)(a b:Nat):vJj X 0 0 a b=X a b:=by unfold vJj;rw[if_neg (by omega)]
theorem yKu(X:Nat->Nat->Int)(i j:Nat):vJj X i j i j=X i j:=by unfold vJj;rw[if_neg (by omega)]
theorem vWw(X:Nat->Nat->Int){i j a b:Nat}:vJj X i (j+1) a b=if a=i/\b=j then - X i j else vJj X i j a b:=by
 unfold vJj
 by_cases e:a=i/\b=j
 ·obtain⟨rfl,rfl⟩:=e;rw[if_pos (by omega),if_pos ⟨rfl,rfl⟩]
 ·rw[if_neg e]
  by_cases e2:a < i\/a=i/\b < j
  ·rw[if_pos e2,if_pos (by omega)]
  ·rw[if_neg e2,if_neg (by omega)]
theorem yQy(X:Nat->Nat->Int){i N a b:Nat}(h:b < N):vJj X (i+1) 0 a b=vJj X i N a b:=by
 unfold vJj
 by_cases e:a < i\/a=i/\b < N
 ·rw[if_pos e,if_pos (by omega)]
 ·rw[if_neg e,if_neg (by omega)]
theorem yQz(X:Nat->Nat->Int){M a b:Nat}(h:a < M):vJj X M 0 a b = - X a b:=by unfold vJj;rw[if_pos (by omega)]
theorem yV0(w:World)(base:Nat)(L:TbLay)(m N:Nat)(bs:Nat->Nat)(T X:Nat->Nat->Int)(den p:Int)(r c:Nat)(hM:TbMem base w L m N bs T den)(hb:base<=w.heap.size)(hr:r < m)(hc:c < N)(hp:T r c=p)(hX:∀ i j,i < m+2->j < N->i≠r->(T i j * p - T i c * T r j).tdiv den=X i j)(hXr:∀ j,X r j=T r j)(hd0:0 < den)(hd1:den<=1000000000)(hTB:∀ i j,i < m+2->j < N->-1000000000<=T i j/\T i j<=1000000000)(hXB:∀ i j,i < m+2->j < N->-1000000000<=X i j/\X i j<=1000000000)(hm6:m<=6)(hN:N<=100) :
  Calls prog 158 #[.pointer (some ⟨L.b,0,none⟩),.int .i64 r,.int .i64 c] w fun e w'=>e=.returned (.tuple #[])/\TbMem base w' L m N (LA.pivB bs r c) (fun i j=>if p < 0 then - X i j else X i j) (if p < 0 then -p else p)/\Below base w w':=by
 have HX:=lHd hX;have HXR:=lHd hXr;have HTB:=lHd hTB;have HXB:=lHd hXB;have hcr:=(hM.cell (i:=r) (j:=c) (by omega) hc).1;rw[hp] at hcr;have HP:=lHd hp;have hpb : -1000000000<=p/\p<=1000000000:=by rw[<- hp];exact hTB r c (by omega) hc
 obtain⟨hpb1,hpb2⟩:=hpb;have hr2:r < m+2:=by omega
 have hr3:(r:Int) < (m:Int)+2:=by omega
 have hx0:=hM.box0;have hxr:=hM.out r (by omega);have hsb:=hM.sepB;obtain⟨hsb1,hsb2,hsb3,hsb4⟩:=hsb;clear hX hXr hTB hXB hp;go_enter func158,ntmps158
 go_wp2_with fail
 go_loopw [29] (fun x wr=>∃ i:Nat,i<=m+2/\x=.int .i64 i/\TbMem base wr L m N bs (zZc T X r i 0) den/\Below base w wr) (fun x _=>m+2 - (intOf x).toNat)
 case atStart=>exact⟨0,xY1 _,rfl,(hM.below bch).congr (fun _ _=>rfl) (fun a _ c _=>vVn T X r a c),bch⟩
 case round=>
  obtain⟨i,hi,rfl,hM1,hB1⟩:=hrel;obtain⟨w1,rfl⟩:∃ wo:World,wo=wr:=⟨_,rfl⟩
  by_cases hlt:i < m+2
  ·have ho:=hM1.out i hlt
   by_cases hir:i=r
   ·subst hir;go_wp2
    go_roundw
    case rel=>exact⟨i+1,by omega,by go_num,(hM1.below bch).congr (fun _ _=>rfl) (fun a _ c _=>vWt T X i a c),hB1⟩
    case measure=>simp[intOf];omega
   ·have hir':¬ ((i:Int)=(r:Int)):=by omega
    have hrc:=(hM1.cell (i:=i) (j:=c) hlt hc).1;have e1:=vWv T X r i c;rw[e1] at hrc;obtain⟨q,hq⟩:∃ q,Hid (T i c=q):=⟨_,lHd rfl⟩;have hqb:=HTB.out i c hlt hc;rw[hq.out] at hrc hqb;obtain⟨hqb1,hqb2⟩:=hqb;clear e1
    go_wp2_with fail
    (try simp only[show decide ((i:Int) < (m:Int)+2)=true from xY8 (by omega),show ((i:Int) == (r:Int))=false from beq_eq_false_iff_ne.2 (by omega)])
    go_loopw [43] (fun x wr=>∃ j:Nat,j<=N/\x=.int .i64 j/\TbMem base wr L m N bs (zZc T X r i j) den/\Below base w wr) (fun x _=>N - (intOf x).toNat)
    case atStart=>exact⟨0,xY1 _,rfl,hM1.below bch,hB1⟩
    case round=>
     obtain⟨j,hj,rfl,hM2,hB2⟩:=hrel;obtain⟨w2,rfl⟩:∃ wo:World,wo=wr:=⟨_,rfl⟩
     by_cases hlt2:j < N
     ·have hcc:=hM2.cell (i:=i) (j:=j) hlt hlt2;have hcd:=(hM2.cell (i:=r) (j:=j) (by omega) hlt2).1;have e1:=yKt T X r i j;have e2:=uJl T X r i j j;rw[e1] at hcc;rw[e2] at hcd;obtain⟨hcc1,hcc2⟩:=hcc;have hy0:=hM2.box0;have hy2:=hM2.box2;have hyr:=hM2.out r (by omega);have hAB:=HTB.out i j hlt hlt2;have hDB:=HTB.out r j (by omega) hlt2;have hXE:=HX.out i j hlt hlt2 hir;rw[hq.out] at hXE;obtain⟨a,ha⟩:∃ a,Hid (T i j=a):=⟨_,lHd rfl⟩;obtain⟨d,hd⟩:∃ d,Hid (T r j=d):=⟨_,lHd rfl⟩;obtain⟨x,hx⟩:∃ x,Hid (X i j=x):=⟨_,lHd rfl⟩;rw[ha.out] at hcc1 hAB hXE;rw[hd.out] at hcd hDB hXE;rw[hx.out] at hXE;have hm1:=LA.abs_mul hAB ⟨hpb1,hpb2⟩;have hm2:=LA.abs_mul ⟨hqb1,hqb2⟩ hDB;obtain⟨hm3,hm4⟩:=hm1;obtain⟨hm5,hm6'⟩:=hm2;clear e1 e2 hAB hDB;have hblk:=(hM2.sep i hlt).1;have hdne:¬ den=0:=by omega
      go_wp2_with fail
      refine xJ5 27 (by kernel_rfl) (by kernel_rfl) ?_;simp only[zQl,List.take_zero,List.drop_succ_cons,List.drop_zero]
      repeat still_step
      refine wpStill_nil ?_;go_wp2
      go_roundw
      case rel=>exact⟨j+1,by omega,by go_num,((hM2.set hlt x (j:=j) (T':=zZc T X r i (j+1)) (fun a' _ c' _=>by rw[vWu T X hir,hx.out])).below bch),bch⟩
      case measure=>simp[intOf];omega
     ·obtain rfl:j=N:=by omega
      go_wp2
      go_roundw
      case rel=>exact⟨i+1,by omega,by go_num,(hM2.below bch).congr (fun _ _=>rfl) (fun a' _ c' hc'=>yQw T X hc'),bch⟩
      case measure=>simp[intOf];omega
  ·obtain rfl:i=m+2:=by omega
   have hM3:TbMem base w1 L m N bs X den:=hM1.congr (fun _ _=>rfl) (fun a' ha' c' hc'=>(yQx ha' HXR.out).symm);obtain⟨g,hA,hg1,hg2,hg3,hg4⟩:=hM3.bas hr;have hz1:=hM3.box1;rw[hA] at hz1;have hz2:=hM3.box2;have hz3:=hM3.free2;have hgb:=hsb4 _ hA;obtain⟨hgb1,hgb2⟩:=hgb;have hgb1:¬ g=L.b:=hgb1;have hgb1':¬ L.b=g:=fun e=>hgb1 e.symm
   have hM4:=((hM3.setBas hA c (r:=r)).setDen p);have hne0:¬ L.gR=L.b:=fun e=>hsb3 e.symm
   by_cases hpn:p < 0
   ·have hM5:=hM4.setDen (-p);have HPN:=lHd hpn;have HM5:=lHd hM5;have hf4:=hM5.box0;have hf5:=hM4.free2;clear hM4 hM5
    go_wp2_with fail
    go_loopw [98] (fun x wr=>∃ i:Nat,i<=m+2/\x=.int .i64 i/\TbMem base wr L m N (LA.pivB bs r c) (vJj X i 0) (-p)/\Below base w wr) (fun x _=>m+2 - (intOf x).toNat)
    case atStart=>exact⟨0,xY1 _,rfl,(HM5.out.below bch).congr (fun _ _=>rfl) (fun a _ c _=>vVo X a c),bch⟩
    case round=>
     obtain⟨i,hi,rfl,hN1,hB3⟩:=hrel;obtain⟨w3,rfl⟩:∃ wo:World,wo=wr:=⟨_,rfl⟩
     by_cases hlt:i < m+2
     ·have ho:=hN1.out i hlt
      go_wp2_with fail
      (try simp only[show decide ((i:Int) < (m:Int)+2)=true from xY8 (by omega)])
      go_loopw [104] (fun x wr=>∃ j:Nat,j<=N/\x=.int .i64 j/\TbMem base wr L m N (LA.pivB bs r c) (vJj X i j) (-p)/\Below base w wr) (fun x _=>N - (intOf x).toNat)
      case atStart=>exact⟨0,xY1 _,rfl,hN1.below bch,hB3⟩
      case round=>
       obtain⟨j,hj,rfl,hN2,hB4⟩:=hrel;obtain⟨w4,rfl⟩:∃ wo:World,wo=wr:=⟨_,rfl⟩
       by_cases hlt2:j < N
       ·have hcc:=hN2.cell (i:=i) (j:=j) hlt hlt2;have hAB:=HXB.out i j hlt hlt2;rw[yKu] at hcc;obtain⟨a,ha⟩:∃ a,Hid (X i j=a):=⟨_,lHd rfl⟩;rw[ha.out] at hcc hAB;obtain⟨hcc1,hcc2⟩:=hcc;obtain⟨hAB1,hAB2⟩:=hAB;have hblk:=(hN2.sep i hlt).1;go_wp2
        go_roundw
        case rel=>exact⟨j+1,by omega,by go_num,((hN2.set hlt (-a) (j:=j) (T':=vJj X i (j+1)) (fun a' _ c' _=>by rw[vWw,ha.out])).below bch),bch⟩
        case measure=>simp[intOf];omega
       ·obtain rfl:j=N:=by omega
        go_wp2
        go_roundw
        case rel=>exact⟨i+1,by omega,by go_num,(hN2.below bch).congr (fun _ _=>rfl) (fun a' _ c' hc'=>yQy X hc'),bch⟩
        case measure=>simp[intOf];omega
     ·obtain rfl:i=m+2:=by omega
      go_wp2
      go_end0
      refine⟨rfl,(hN1.below bch).congr (fun _ _=>rfl) (fun a' ha' c' _=>?_),bch⟩;rw[yQz X ha']
   ·have hpn':decide (p < 0)=false:=xVg hpn;go_wp2
    go_end0
    exact⟨rfl,hM4,bch⟩
theorem zKf(w:World)(base:Nat)(L:TbLay)(P:LA.LP)(s:LA.St)(hP:LA.LPIn P)(ht:LA.Tabl P s.bs s.T s.den)(hM:TbMem base w L P.m P.N s.bs s.T s.den)(hb:base<=w.heap.size)(r c:Nat)(hr:r < P.m)(hc:c<=P.n+P.m)(hne:s.T r c≠0) :
  Calls prog 158 #[.pointer (some ⟨L.b,0,none⟩),.int .i64 r,.int .i64 c] w fun e w'=>e=.returned (.tuple #[])/\TbMem base w' L P.m P.N (s.piv r c).bs (s.piv r c).T (s.piv r c).den/\Below base w w':=by
 have hcN:c < P.N:=by unfold LA.LP.N;omega
 have ht2:=ht.pivot hr hc hne;have hle:=ht.le_den hP;have hN14:P.N<=100:=by unfold LA.LP.N;have:=hP.m;have:=hP.n;omega
 refine (yV0 w base L P.m P.N s.bs s.T (LA.pivQ s.T s.den r c) s.den (s.T r c) r c hM hb hr hcN rfl (fun i j _ _ hir=>?_) (fun j=>?_) ht.pos (by omega) (fun i j hi hj=>?_) (fun i j hi hj=>?_) hP.m hN14).mono fun e w' h=>⟨h.1,h.2.1.congr (fun _ _=>rfl) (fun _ _ _ _=>rfl),h.2.2⟩
 ·unfold LA.pivQ;rw[if_neg hir]
 ·unfold LA.pivQ;rw[if_pos rfl]
 ·have:=ht.le hP hi hj;omega
 ·have:=ht2.le hP hi hj;unfold LA.pivT at this
  split at this <;> omega
def LvTo(m l:Nat)(bs:Nat->Nat)(T:Nat->Nat->Int)(c i:Nat)(b:Int):Prop:=
 (b = -1/\∀ k,k < i->T k c<=0)\/∃ r:Nat,b=r/\r < m/\r < i/\0 < T r c/\∀ k,k < i->0 < T k c->T r l * T k c < T k l * T r c\/(T r l * T k c=T k l * T r c/\bs r<=bs k)
section
variable {m l:Nat}{bs:Nat->Nat}{T:Nat->Nat->Int}{c i:Nat}{b:Int}
theorem LvTo.skip(h:LvTo m l bs T c i b)(hi:T i c<=0):LvTo m l bs T c (i+1) b:=by
 rcases h with ⟨h1,h2⟩ | ⟨r,h1,h2,h3,h4,h5⟩
 ·refine .inl ⟨h1,fun k hk=>?_⟩
  by_cases e:k=i
  ·rw[e];exact hi
  ·exact h2 k (by omega)
 ·refine .inr ⟨r,h1,h2,by omega,h4,fun k hk hp=>?_⟩
  by_cases e:k=i
  ·rw[e] at hp;omega
  ·exact h5 k (by omega) hp
theorem LvTo.first(h:LvTo m l bs T c i (-1))(him:i < m)(hi:0 < T i c):LvTo m l bs T c (i+1) (i:Int):=by
 rcases h with ⟨_,h2⟩ | ⟨r,h1,_⟩
 ·refine .inr ⟨i,rfl,him,by omega,hi,fun k hk hp=>?_⟩
  by_cases e:k=i
  ·rw[e];exact .inr ⟨rfl,Nat.le_refl _⟩
  ·have:=h2 k (by omega);omega
 ·omega
theorem LvTo.keep{r:Nat}(h:LvTo m l bs T c i (r:Int))(hi:0 < T i c)(hn:¬ (T i l * T r c < T r l * T i c\/(T i l * T r c=T r l * T i c/\bs i < bs r))):LvTo m l bs T c (i+1) (r:Int):=by
 rcases h with ⟨h1,_⟩ | ⟨q,h1,h2,h3,h4,h5⟩
 ·omega
 ·obtain rfl:r=q:=by omega
  refine .inr ⟨r,rfl,h2,by omega,h4,fun k hk hp=>?_⟩
  by_cases e:k=i
  ·rw[e]
   by_cases e2:T i l * T r c=T r l * T i c
   ·exact .inr ⟨e2.symm,by omega⟩
   ·exact .inl (by omega)
  ·exact h5 k (by omega) hp
theorem LvTo.next{r:Nat}(h:LvTo m l bs T c i (r:Int))(him:i < m)(hi:0 < T i c)(hn:T i l * T r c < T r l * T i c\/(T i l * T r c=T r l * T i c/\bs i < bs r)):LvTo m l bs T c (i+1) (i:Int):=by
 rcases h with ⟨h1,_⟩ | ⟨q,h1,h2,h3,h4,h5⟩
 ·omega
 ·obtain rfl:r=q:=by omega
  refine .inr ⟨i,rfl,him,by omega,hi,fun k hk hp=>?_⟩
  by_cases e:k=i
  ·rw[e];exact .inr ⟨rfl,Nat.le_refl _⟩
  ·have h6:=h5 k (by omega) hp;have m1:T i l * T k c * T r c=T i l * T r c * T k c:=by grind
   have m2:T k l * T i c * T r c=T k l * T r c * T i c:=by grind
   have m3:T r l * T i c * T k c=T r l * T k c * T i c:=by grind
   rcases hn with hn | ⟨hn,hb⟩
   ·left;have a1:=Int.mul_lt_mul_of_pos_right hn hp;have a2:T r l * T k c * T i c<=T k l * T r c * T i c:=Int.mul_le_mul_of_nonneg_right (by omega) (Int.le_of_lt hi);exact Int.lt_of_mul_lt_mul_right (a:=T r c) (by omega) (Int.le_of_lt h4)
   ·rcases h6 with h6 | ⟨h6,h7⟩
    ·left;have a2:=Int.mul_lt_mul_of_pos_right h6 hi;exact Int.lt_of_mul_lt_mul_right (a:=T r c) (by rw[m1,m2,hn,m3];exact a2) (Int.le_of_lt h4)
    ·right;refine⟨Int.eq_of_mul_eq_mul_right (a:=T r c) (by omega) (by rw[m1,m2,hn,m3,h6]),by omega⟩
end
theorem zWr(w:World)(base:Nat)(L:TbLay)(m n:Nat)(bs:Nat->Nat)(T:Nat->Nat->Int)(den:Int)(c:Nat)(hM:TbMem base w L m (n+1) bs T den)(hc:c < n+1)(hTB:∀ i j,i < m+2->j < n+1->-1000000000<=T i j/\T i j<=1000000000)(hm6:m<=6)(hN:n<=100) :
  Calls prog 160 #[.pointer (some ⟨L.b,0,none⟩),.int .i64 c] w fun e w'=>∃ b:Int,e=.returned (.int .i64 b)/\LvTo m n bs T c m b/\Below w.heap.size w w':=by
 obtain⟨Lb,LgR,LcR,Lblk,LAB,LcB⟩:=L;have HTB:=lHd hTB;have hx0:=hM.box0;have hx1:=hM.box1;dsimp only at hx0 hx1;clear hTB;go_enter func160,ntmps160
 go_wp2_with fail
 go_loopw [5,16] (fun s x wr=>∃ (i:Nat) (b:Int),i<=m/\x=.int .i64 i/\s=.int .i64 b/\Hid (LvTo m n bs T c i b)/\Below w.heap.size w wr) (fun _ x _=>m - (intOf x).toNat)
 case atStart=>exact⟨0,-1,xY1 _,rfl,rfl,lHd (.inl ⟨rfl,fun k hk=>by omega⟩),bch⟩
 case round=>
  obtain⟨i,b,hi,rfl,rfl,HL,hB1⟩:=hrel;obtain⟨w1,rfl⟩:∃ wo:World,wo=wr:=⟨_,rfl⟩;have hM1:=hM.below hB1
  by_cases hlt:i < m
  ·have hi2:i < m+2:=by omega
   have hi3:(i:Int) < (m:Int)+2:=by omega
   have hy0:=hM1.box0;have hyo:=hM1.out i hi2;have hyc:=(hM1.cell (i:=i) (j:=c) hi2 hc).1;dsimp only at hy0 hyo hyc;obtain⟨x,hx⟩:∃ x,Hid (T i c=x):=⟨_,lHd rfl⟩;rw[hx.out] at hyc
   by_cases hx0':x<=0
   ·have HX0:=lHd hx0';go_wp2
    go_roundw
    case rel=>exact⟨i+1,b,by omega,by go_num,rfl,lHd (HL.out.skip (by rw[hx.out];exact HX0.out)),bch⟩
    case measure=>simp[intOf];omega
   ·have HX0:=lHd (show 0 < T i c by rw[hx.out];omega);rcases HL.out with ⟨hb,_⟩ | ⟨r,hb,hrm,hri,hrp,_⟩
    ·subst hb;go_wp2
     go_roundw
     case rel=>exact⟨i+1,i,by omega,by go_num,rfl,lHd (HL.out.first hlt HX0.out),bch⟩
     case measure=>simp[intOf];omega
    ·subst hb;have hr2:r < m+2:=by omega
     have hr3:(r:Int) < (m:Int)+2:=by omega
     have hr4:¬ ((r:Int) < 0):=by omega
     have hyor:=hM1.out r hr2;have hyrc:=(hM1.cell (i:=r) (j:=c) hr2 hc).1;have hyrl:=(hM1.cell (i:=r) (j:=n) hr2 (by omega)).1;have hyil:=(hM1.cell (i:=i) (j:=n) hi2 (by omega)).1;have hy1:=hM1.box1;obtain⟨g,hA,hg1,hg2,hg3,hg4⟩:=hM1.bas hlt;obtain⟨g',hA',_,_,hg3',_⟩:=hM1.bas hrm;obtain rfl:g=g':=by rw[hA] at hA';injection hA' with h;injection h
     dsimp only at hyor hyrc hyrl hyil hy1 hA;subst hA;have b1:=LA.abs_mul (HTB.out i n hi2 (by omega)) (HTB.out r c hr2 hc);have b2:=LA.abs_mul (HTB.out r n hr2 (by omega)) (HTB.out i c hi2 hc);have HK:=lHd (HL.out.keep HX0.out);have HN:=lHd (HL.out.next hlt HX0.out);obtain⟨z,hz⟩:∃ z,Hid (T r c=z):=⟨_,lHd rfl⟩;obtain⟨u,hu⟩:∃ z,Hid (T r n=z):=⟨_,lHd rfl⟩;obtain⟨v,hv⟩:∃ z,Hid (T i n=z):=⟨_,lHd rfl⟩;rw[hz.out] at hyrc b1 HK HN;rw[hu.out] at hyrl b2 HK HN;rw[hv.out] at hyil b1 HK HN;rw[hx.out] at b2 HK HN;obtain⟨p,hp⟩:∃ p,v * z=p:=⟨_,rfl⟩;obtain⟨q,hq⟩:∃ q,u * x=q:=⟨_,rfl⟩;rw[hp] at b1 HK HN;rw[hq] at b2 HK HN;obtain⟨b11,b12⟩:=b1;obtain⟨b21,b22⟩:=b2;have hwp:IntKind.i64.wrap (v * z)=p:=by rw[hp];exact Go.IntWalk.i64_in _ (by omega)
     have hwq:IntKind.i64.wrap (u * x)=q:=by rw[hq];exact Go.IntWalk.i64_in _ (by omega)
     clear hp hq hrp HX0
     go_wp2_with fail
     go_quiet (fail)
     go_wp2_with fail
     by_cases h1:p < q
     ·have HC:=lHd (show (p < q\/(p=q/\bs i < bs r)) from .inl h1);have e1:=xY8 h1
      go_quiet (fail)
      go_wp2
      go_roundw
      case rel=>exact⟨i+1,(i:Int),by omega,by go_num,rfl,lHd (HN.out HC.out),bch⟩
      case measure=>simp[intOf];omega
     ·have e1:decide (p < q)=false:=xVg h1
      by_cases h2:p=q
      ·subst h2;have e2:decide (p=p)=true:=xY8 rfl
       by_cases h3:bs i < bs r
       ·have HC:=lHd (show (p < p\/(p=p/\bs i < bs r)) from .inr ⟨rfl,h3⟩)
        go_quiet (fail)
        go_wp2
        go_roundw
        case rel=>exact⟨i+1,(i:Int),by omega,by go_num,rfl,lHd (HN.out HC.out),bch⟩
        case measure=>simp[intOf];omega
       ·have HC:=lHd (show ¬ (p < p\/(p=p/\bs i < bs r)) by omega)
        go_quiet (fail)
        go_wp2
        go_roundw
        case rel=>exact⟨i+1,(r:Int),by omega,by go_num,rfl,lHd (HK.out HC.out),bch⟩
        case measure=>simp[intOf];omega
      ·have HC:=lHd (show ¬ (p < q\/(p=q/\bs i < bs r)) by omega);have e2:=beq_eq_false_iff_ne.2 h2
       go_quiet (fail)
       go_wp2
       go_roundw
       case rel=>exact⟨i+1,(r:Int),by omega,by go_num,rfl,lHd (HK.out HC.out),bch⟩
       case measure=>simp[intOf];omega
  ·obtain rfl:i=m:=by omega
   go_wp2;go_ret;exact⟨b,rfl,HL.out,bch⟩
theorem vXi(w:World)(base:Nat)(L:TbLay)(P:LA.LP)(s:LA.St)(hP:LA.LPIn P)(ht:LA.Tabl P s.bs s.T s.den)(hM:TbMem base w L P.m P.N s.bs s.T s.den)(c:Nat)(hc:c<=P.n+P.m) :
  Calls prog 160 #[.pointer (some ⟨L.b,0,none⟩),.int .i64 c] w fun e w'=>∃ b:Int,e=.returned (.int .i64 b)/\((b = -1/\∀ i,i < P.m->s.T i c<=0)\/∃ r:Nat,b=r/\LA.Leaves P s c r)/\Below w.heap.size w w':=by
 have hN:P.N=P.last+1:=rfl;rw[hN] at hM;refine (zWr w base L P.m P.last s.bs s.T s.den c hM (by unfold LA.LP.last;omega) (fun i j hi hj=>?_) hP.m (by have:=hP.m;have:=hP.n;unfold LA.LP.last;omega)).mono ?_
 ·have:=ht.le hP hi (show j < P.N by rw[hN];exact hj);omega
 ·rintro e w' ⟨b,rfl,h,hB⟩;refine⟨b,rfl,?_,hB⟩;rcases h with ⟨h1,h2⟩ | ⟨r,h1,h2,_,h4,h5⟩
  ·exact .inl ⟨h1,h2⟩
  ·exact .inr ⟨r,h1,h2,h4,h5⟩
theorem zW6(w:World)(base:Nat)(L:TbLay)(P:LA.LP)(s:LA.St)(o lim:Nat)(g:Nat->Int)(hP:LA.LPIn P)(ho:LA.Obj P o lim g)(h:LA.Ok P s)(hM:TbMem base w L P.m P.N s.bs s.T s.den)(hb:base<=w.heap.size) :
  Calls prog 104 #[.pointer (some ⟨L.b,0,none⟩),.int .i64 o,.int .i64 lim] w fun e w'=>∃ (s':LA.St) (b:Int),e=.returned (.int .i64 b)/\LA.Ok P s'/\(lim<=P.n+P.m->LA.NoArt P s->LA.NoArt P s')/\((b = -1/\∀ k,k < lim->0<=s'.T o k)\/∃ c:Nat,b=c/\LA.Enters o lim s' c/\∀ i,i < P.m->s'.T i c<=0)/\TbMem base w' L P.m P.N s'.bs s'.T s'.den/\Below base w w':=by
 obtain⟨K,f,hf0,hfok,hfst,hfn⟩:=LA.steps ho h;have HFOK:=lHd hfok;have HFN:=lHd hfn;have HNA:Hid (lim<=P.n+P.m->LA.NoArt P s->∀ i,i<=K->LA.NoArt P (f i)):=lHd fun hl hn i=>by
  induction i with
  | zero=>intro _;rw[hf0];exact hn
  | succ i ih=>intro hi;exact (ih (by omega)).step hl (hfst i (by omega))
 have HO:=lHd ho;have hom:=ho.lt;have hol:=ho.lim;have hlN:lim<=P.N:=by have:=ho.lim;unfold LA.LP.N;omega
 have hm6:=hP.m;have hl100:lim<=100:=by have:=ho.lim;have:=hP.n;omega
 have HP:=lHd hP;have HM:=lHd (show TbMem base w L P.m P.N (f 0).bs (f 0).T (f 0).den by rw[hf0];exact hM);have hx0:=hM.box0;clear hfok hfst hfn h ho hP hM hf0;obtain⟨m,hm⟩:∃ m,Hid (P.m=m):=⟨_,lHd rfl⟩;obtain⟨N,hN⟩:∃ N,Hid (P.N=N):=⟨_,lHd rfl⟩;rw[hm.out,hN.out] at HM;rw[hm.out] at hm6 hom hx0;rw[hN.out] at hlN;go_enter func104,ntmps104
 go_wp2_with fail
 go_loopg [7] K (fun gk x wr=>∃ i:Nat,i<=K/\Hid (i+gk=K)/\TbMem base wr L m N (f i).bs (f i).T (f i).den/\Below base w wr)
 case atStart=>exact⟨0,xY1 _,lHd (by omega),HM.out.below bch,bch⟩
 case round=>
  obtain⟨i,hi,HG,hM1,hB1⟩:=hrel;obtain⟨w1,rfl⟩:∃ wo:World,wo=wr:=⟨_,rfl⟩;have hOK:=HFOK.out i hi;have HOK:=lHd hOK;clear hOK;have hom3:(o:Int) < (m:Int)+2:=by omega
  go_wp2_with fail
  go_loopw [7] (fun x wr=>∃ c:Nat,c<=lim/\x=.int .i64 c/\Hid (∀ k,k < c->0<=(f i).T o k)/\Below w1.heap.size w1 wr) (fun x _=>lim - (intOf x).toNat)
  case atStart=>exact⟨0,xY1 _,rfl,lHd (fun k hk=>by omega),bch⟩
  case round=>
   obtain⟨c,hc,rfl,HC,hB2⟩:=hrel;obtain⟨w2,rfl⟩:∃ wo:World,wo=wr:=⟨_,rfl⟩;have hM2:=hM1.below hB2;have hB12:=hB1.trans (hB2.mono (zQd hb hB1.size))
   by_cases hlt:c < lim
   ·have hz0:=hM2.box0;have hzo:=hM2.out o hom;have hcN:c < N:=by omega
    have hzc:=(hM2.cell (i:=o) (j:=c) hom hcN).1;obtain⟨x,hx⟩:∃ x,Hid ((f i).T o c=x):=⟨_,lHd rfl⟩;rw[hx.out] at hzc
    by_cases hx0':x>=0
    ·have HX:=lHd hx0';have hd:=xY8 hx0';go_wp2
     go_roundw
     case rel=>exact⟨c+1,by omega,by go_num,lHd (fun k hk=>by
      by_cases e:k=c
      ·rw[e,hx.out];exact HX.out
      ·exact HC.out k (by omega)),bch⟩
     case measure=>simp[intOf];omega
    ·have hd:decide (x>=0)=false:=xVg hx0';have HE:=lHd (show LA.Enters o lim (f i) c from ⟨hlt,by rw[hx.out];omega,HC.out⟩);have hcl:¬ ((c:Int)=(lim:Int)):=by omega
     have hce:=beq_eq_false_iff_ne.2 hcl
     go_wp2_with fail
     refine (vXi _ base L P (f i) HP.out HOK.out.toTabl (by rw[hm.out,hN.out];exact hM2.below bch) c (by omega)).mono ?_;rintro e w3 ⟨b,rfl,hlv,hB3⟩;have hM3:=hM2.below (show Below w2.heap.size w2 w3 from xJ3 w2 hB3 bch);have hB13:=hB12.trans ((xJ3 w2 hB3 bch).mono (zQd hb hB12.size));rcases hlv with ⟨rfl,hno⟩ | ⟨r,rfl,hlv⟩
     ·have HNO:=lHd hno;clear hno;go_wp2;go_ret;exact⟨f i,c,rfl,HOK.out,fun hl hn=>HNA.out hl hn i hi,.inr ⟨c,rfl,HE.out,HNO.out⟩,by rw[hm.out,hN.out];exact hM3.below bch,bch⟩
     ·have HLV:=lHd hlv;have hrm:=hlv.1;have hrp:=hlv.2.1;obtain⟨hik,hnx⟩:=HFN.out i hi _ ⟨c,r,HE.out,hlv,rfl⟩;have HNX:=lHd hnx;have hgk:=lHd (show i+1+(gk - 1)=K/\gk - 1 < gk by have:=HG.out;omega);clear hlv hnx
      go_wp2_with fail
      refine (zKf _ base L P (f i) HP.out HOK.out.toTabl (by rw[hm.out,hN.out];exact hM3.below bch) (zQd hb hB13.size) r c hrm (by omega) (by omega)).mono ?_;rintro e w4 ⟨rfl,hM4,hB4⟩;rw[<- HNX.out,hm.out,hN.out] at hM4;go_wp2
      go_roundg (gk - 1)
      case measure=>exact hgk.out.2
      case rel=>exact⟨i+1,by omega,lHd hgk.out.1,hM4.below bch,hB13.trans hB4⟩
   ·obtain rfl:c=lim:=by omega
    go_wp2;go_ret;exact⟨f i,-1,rfl,HOK.out,fun hl hn=>HNA.out hl hn i hi,.inl ⟨rfl,HC.out⟩,by rw[hm.out,hN.out];exact hM2.below bch,bch⟩
def LowTo(m:Nat)(B:Nat->Int)(i:Nat)(b:Int):Prop:=
 (b = -1/\∀ k,k < i->0<=B k)\/∃ r:Nat,b=r/\r < m/\r < i/\B r < 0/\∀ k,k < i->B r<=B k
theorem LowTo.skip{m i:Nat}{B:Nat->Int}{b:Int}(h:LowTo m B i b)(hi:0<=B i):LowTo m B (i+1) b:=by
 rcases h with ⟨h1,h2⟩ | ⟨r,h1,h2,h3,h4,h5⟩
 ·refine .inl ⟨h1,fun k hk=>?_⟩
  by_cases e:k=i
  ·rw[e];exact hi
  ·exact h2 k (by omega)
 ·refine .inr ⟨r,h1,h2,by omega,h4,fun k hk=>?_⟩
  by_cases e:k=i
  ·rw[e];omega
  ·exact h5 k (by omega)
theorem LowTo.first{m i:Nat}{B:Nat->Int}(h:LowTo m B i (-1))(him:i < m)(hi:B i < 0):LowTo m B (i+1) (i:Int):=by
 rcases h with ⟨_,h2⟩ | ⟨r,h1,_⟩
 ·refine .inr ⟨i,rfl,him,by omega,hi,fun k hk=>?_⟩
  by_cases e:k=i
  ·rw[e];exact Int.le_refl _
  ·have:=h2 k (by omega);omega
 ·omega
theorem LowTo.keep{m i r:Nat}{B:Nat->Int}(h:LowTo m B i (r:Int))(hi:¬ B i < B r):LowTo m B (i+1) (r:Int):=by
 rcases h with ⟨h1,_⟩ | ⟨q,h1,h2,h3,h4,h5⟩
 ·omega
 ·obtain rfl:r=q:=by omega
  refine .inr ⟨r,rfl,h2,by omega,h4,fun k hk=>?_⟩
  by_cases e:k=i
  ·rw[e];omega
  ·exact h5 k (by omega)
theorem LowTo.next{m i r:Nat}{B:Nat->Int}(h:LowTo m B i (r:Int))(him:i < m)(hi:B i < B r):LowTo m B (i+1) (i:Int):=by
 rcases h with ⟨h1,_⟩ | ⟨q,h1,h2,h3,h4,h5⟩
 ·omega
 ·obtain rfl:r=q:=by omega
  refine .inr ⟨i,rfl,him,by omega,by omega,fun k hk=>?_⟩
  by_cases e:k=i
  ·rw[e];exact Int.le_refl _
  ·have:=h5 k (by omega);omega
theorem zXg(w:World)(base:Nat)(L:TbLay)(P:LA.LP)(s:LA.St)(o lim:Nat)(g:Nat->Int)(oi li:Int)(hoi:oi=o)(hli:li=lim)(hP:LA.LPIn P)(ho:LA.Obj P o lim g)(h:LA.Ok P s)(hM:TbMem base w L P.m P.N s.bs s.T s.den)(hb:base<=w.heap.size) :
  Calls prog 104 #[.pointer (some ⟨L.b,0,none⟩),.int .i64 oi,.int .i64 li] w fun e w'=>∃ (s':LA.St) (b:Int),e=.returned (.int .i64 b)/\LA.Ok P s'/\(lim<=P.n+P.m->LA.NoArt P s->LA.NoArt P s')/\((b = -1/\∀ k,k < lim->0<=s'.T o k)\/∃ c:Nat,b=c/\LA.Enters o lim s' c/\∀ i,i < P.m->s'.T i c<=0)/\TbMem base w' L P.m P.N s'.bs s'.T s'.den/\Below base w w':=by
 subst hoi;subst hli;exact zW6 w base L P s o lim g hP ho h hM hb
theorem vZ7(w:World)(base:Nat)(L:TbLay)(P:LA.LP)(s:LA.St)(ci:Int)(r c:Nat)(hci:ci=c)(hP:LA.LPIn P)(ht:LA.Tabl P s.bs s.T s.den)(hM:TbMem base w L P.m P.N s.bs s.T s.den)(hb:base<=w.heap.size)(hr:r < P.m)(hc:c<=P.n+P.m)(hne:s.T r c≠0) :
  Calls prog 158 #[.pointer (some ⟨L.b,0,none⟩),.int .i64 r,.int .i64 ci] w fun e w'=>e=.returned (.tuple #[])/\TbMem base w' L P.m P.N (s.piv r c).bs (s.piv r c).T (s.piv r c).den/\Below base w w':=by
 subst hci;exact zKf w base L P s hP ht hM hb r c hr hc hne
structure Drv(P:LA.LP)(s:LA.St)(i:Nat):Prop where
 ok:LA.Ok P s
 out:∀ k,k < i->s.bs k < P.n+P.m
 zero:∀ k,k < P.m->s.bs k=P.n+P.m->s.T k P.last=0
theorem Drv.skip{P:LA.LP}{s:LA.St}{i:Nat}(h:Drv P s i)(him:i < P.m)(hi:s.bs i≠P.n+P.m):Drv P s (i+1):=
 ⟨h.ok,fun k hk=>by
  by_cases e:k=i
  ·rw[e];have:=h.ok.bas i him;omega
  ·exact h.out k (by omega),h.zero⟩
theorem Drv.drive{P:LA.LP}{s:LA.St}{i c:Nat}(h:Drv P s i)(him:i < P.m)(hi:s.bs i=P.n+P.m)(hc:c < P.n+P.m)(hne:s.T i c≠0):Drv P (s.piv i c) (i+1):=
 ⟨h.ok.drive him (h.zero i him hi) hc hne,fun k hk=>by
  show LA.pivB s.bs i c k < _;unfold LA.pivB
  by_cases e:k=i
  ·rw[if_pos e];exact hc
  ·rw[if_neg e];exact h.out k (by omega),fun k hk e=>by
  have e2:LA.pivB s.bs i c k=P.n+P.m:=e;unfold LA.pivB at e2
  by_cases e3:k=i
  ·rw[if_pos e3] at e2;omega
  ·rw[if_neg e3] at e2;exact absurd (h.ok.inj hk him (by rw[e2,hi])) e3⟩
theorem vWq(w:World)(base:Nat)(L:TbLay)(P:LA.LP)(hP:LA.LPIn P)(hM:TbMem base w L P.m P.N (fun i=>P.n+i) P.T0 1)(hb:base<=w.heap.size) :
  Calls prog 102 #[.pointer (some ⟨L.b,0,none⟩)] w fun e w'=>∃ (s':LA.St) (ok:Bool),e=.returned (.bool ok)/\LA.Ok P s'/\(ok=true->LA.NoArt P s')/\(ok=false->(∀ j,j < P.n+P.m+1->0<=s'.T (P.m+1) j)/\s'.T (P.m+1) P.last < 0)/\TbMem base w' L P.m P.N s'.bs s'.T s'.den/\Below base w w':=by
 obtain⟨Lb,LgR,LcR,Lblk,LAB,LcB⟩:=L;have hm6:=hP.m;have hn6:=hP.n;have HP:=lHd hP;have HM0:=lHd hM;have hBT:∀ i,i < P.m->P.T0 i P.last=P.b i:=fun i hi=>by unfold LA.LP.T0;rw[if_pos hi,LA.t0_last]
 have HBT:=lHd hBT;obtain⟨a,ha⟩:∃ a,Hid (P.n+P.m=a):=⟨_,lHd rfl⟩;have ha14:a<=12:=by have:=ha.out;omega
 have hN:Hid (P.N=a+2):=lHd (by have:=ha.out;unfold LA.LP.N;omega);have hl:Hid (P.last=a+1):=lHd (by have:=ha.out;unfold LA.LP.last;omega);rw[hN.out] at hM;obtain⟨m,hm⟩:∃ m,Hid (P.m=m):=⟨_,lHd rfl⟩;rw[hm.out] at hM hm6;have HM:=lHd hM;have hx0:=hM.box0;have hx1:=hM.box1;have hxm:=hM.out m (by omega);have hm3:(m:Int) < (m:Int)+2:=by omega
 dsimp only at hx0 hx1 hxm;clear hBT hP hM hn6;go_enter func102,ntmps102
 go_wp2_with fail
 go_loopw [5,29] (fun s x wr=>∃ (i:Nat) (b:Int),i<=m/\x=.int .i64 i/\s=.int .i64 b/\Hid (LowTo m (fun k=>P.T0 k (a+1)) i b)/\Below w.heap.size w wr) (fun _ x _=>m - (intOf x).toNat)
 case atStart=>exact⟨0,-1,xY1 _,rfl,rfl,lHd (.inl ⟨rfl,fun k hk=>by omega⟩),bch⟩
 case round=>
  obtain⟨i,b,hi,rfl,rfl,HL,hB1⟩:=hrel;obtain⟨w1,rfl⟩:∃ wo:World,wo=wr:=⟨_,rfl⟩;have hM1:=HM.out.below hB1
  by_cases hlt:i < m
  ·have hi2:i < m+2:=by omega
   have hi3:(i:Int) < (m:Int)+2:=by omega
   have hy0:=hM1.box0;have hyo:=hM1.out i hi2;have hyc:=(hM1.cell (i:=i) (j:=a+1) hi2 (by omega)).1;dsimp only at hy0 hyo hyc;have HSK:=lHd (HL.out.skip (i:=i));obtain⟨x,hx⟩:∃ x,Hid (P.T0 i (a+1)=x):=⟨_,lHd rfl⟩;rw[hx.out] at hyc
   (try dsimp only at HSK)
   rw[hx.out] at HSK
   by_cases hneg:x < 0
   ·have hd:decide (x < 0)=true:=xY8 hneg;have HNG:=lHd hneg;rcases HL.out with ⟨hb',_⟩ | ⟨r,hb',hrm,hri,hrp,_⟩
    ·subst hb';have HFI:=lHd (HL.out.first hlt (by (try dsimp only);rw[hx.out];exact hneg));clear hneg
     go_wp2_with fail
     go_quiet (fail)
     go_wp2
     go_roundw
     case rel=>exact⟨i+1,(i:Int),by omega,by go_num,rfl,lHd (HFI.out),bch⟩
     case measure=>simp[intOf];omega
    ·subst hb';have hr2:r < m+2:=by omega
     have hr3:(r:Int) < (m:Int)+2:=by omega
     have hr4:decide ((r:Int) < 0)=false:=xVg (by omega);have hyor:=hM1.out r hr2;have hyrl:=(hM1.cell (i:=r) (j:=a+1) hr2 (by omega)).1;dsimp only at hyor hyrl;have HK:=lHd (HL.out.keep (i:=i));have HX:=lHd (HL.out.next hlt)
     (try dsimp only at HK HX)
     rw[hx.out] at HK HX;obtain⟨z,hz⟩:∃ z,Hid (P.T0 r (a+1)=z):=⟨_,lHd rfl⟩;rw[hz.out] at hyrl HK HX;clear hrp
     by_cases hcmp:x < z
     ·have HC:=lHd hcmp;have hd2:=xY8 hcmp;clear hcmp
      go_wp2_with fail
      go_quiet (fail)
      go_wp2
      go_roundw
      case rel=>exact⟨i+1,(i:Int),by omega,by go_num,rfl,lHd (HX.out HC.out),bch⟩
      case measure=>simp[intOf];omega
     ·have HC:=lHd hcmp;have hd2:=xVg hcmp;clear hcmp
      go_wp2_with fail
      go_quiet (fail)
      go_wp2
      go_roundw
      case rel=>exact⟨i+1,(r:Int),by omega,by go_num,rfl,lHd (HK.out HC.out),bch⟩
      case measure=>simp[intOf];omega
   ·have hd:decide (x < 0)=false:=xVg hneg;have HNG:=lHd (show 0<=x by omega);clear hneg
    go_wp2_with fail
    go_quiet (fail)
    go_wp2
    go_roundw
    case rel=>exact⟨i+1,b,by omega,by go_num,rfl,lHd (HSK.out HNG.out),bch⟩
    case measure=>simp[intOf];omega
  ·obtain rfl:m=i:=by omega
   have hB1b:=hB1.mono hb;rcases HL.out with ⟨hb',hall⟩ | ⟨r,hb',hrm,hri,hrp,hmin⟩
   ·subst hb';have HOK:Hid (LA.Ok P ⟨fun i=>P.n+i,P.T0,1⟩):=lHd (LA.Ok.plain fun k hk=>by
     rw[<- HBT.out k hk,hl.out];exact hall k (by rw[<- hm.out];exact hk))
    clear hall;go_wp2;go_ret;exact⟨⟨fun i=>P.n+i,P.T0,1⟩,true,rfl,HOK.out,fun _ k hk=>Nat.add_lt_add_left hk _,(fun h=>by cases h),HM0.out.below bch,bch⟩
   ·subst hb';have hneg2:P.b r < 0:=by rw[<- HBT.out r (by rw[hm.out];exact hrm),hl.out];exact hrp
    have HFST:Hid (LA.Ok P (LA.St.piv ⟨fun i=>P.n+i,P.T0,1⟩ r (P.n+P.m))):=lHd (LA.Ok.first (by rw[hm.out];exact hrm) hneg2 fun k hk=>by
     rw[<- HBT.out k hk,<- HBT.out r (by rw[hm.out];exact hrm),hl.out];exact hmin k (by rw[<- hm.out];exact hk))
    have hr4:¬ ((r:Int) < 0):=by omega
    clear hmin hrp hneg2
    go_wp2_with fail
    refine (vZ7 _ base ⟨Lb,LgR,LcR,Lblk,LAB,LcB⟩ P ⟨fun i=>P.n+i,P.T0,1⟩ _ r (P.n+P.m) (by rw[ha.out];omega) HP.out (LA.Tabl.start P) (HM0.out.below bch) (zQd hb hB1.size) (by rw[hm.out];exact hrm) (Nat.le_refl _) (by show P.T0 r (P.n+P.m)≠0;unfold LA.LP.T0;rw[if_pos (by rw[hm.out];exact hrm),LA.t0_art];omega)).mono ?_;rintro e w2 ⟨rfl,hM2,hB2⟩;have hB12:=hB1b.trans hB2
    go_wp2_with fail
    refine (zXg _ base ⟨Lb,LgR,LcR,Lblk,LAB,LcB⟩ P _ (P.m+1) (P.n+P.m+1) P.g1 _ _ (by rw[hm.out];omega) (by rw[ha.out];omega) HP.out (LA.obj_art P) HFST.out (hM2.below bch) (zQd hb hB12.size)).mono ?_;rintro e w3 ⟨s3,b3,rfl,hok3,-,hfin,hM3,hB3⟩;have hB13:=hB12.trans hB3;have HOK3:=lHd hok3;have HALL:Hid (∀ j,j < P.n+P.m+1->0<=s3.T (P.m+1) j):=lHd (by
     rcases hfin with ⟨_,h⟩ | ⟨c,_,hE,hle⟩
     ·exact h
     ·exfalso;have h1:=LA.art_bounded hok3 (c:=c) (by have:=hE.1;unfold LA.LP.N;omega) hle;have:=hE.2.1;omega)
    clear hfin hok3 HFST hM2;have HM3':=lHd hM3;rw[hm.out,hN.out] at hM3;have HM3:=lHd hM3;have hz0:=hM3.box0;have hz1:=hM3.box1;have hzo:=hM3.out (m+1) (by omega);have hzc:=(hM3.cell (i:=m+1) (j:=a+1) (by omega) (by omega)).1;dsimp only at hz0 hz1 hzo hzc;obtain⟨x,hx⟩:∃ x,Hid (s3.T (m+1) (a+1)=x):=⟨_,lHd rfl⟩;rw[hx.out] at hzc
    by_cases hneg:x < 0
    ·have HNG:=lHd (show s3.T (P.m+1) P.last < 0 by rw[hm.out,hl.out,hx.out];exact hneg);go_wp2;go_ret;exact⟨s3,false,rfl,HOK3.out,(fun h=>by cases h),fun _=>⟨HALL.out,HNG.out⟩,HM3'.out.below bch,bch⟩
    ·have HDR:Hid (Drv P s3 0):=lHd ⟨HOK3.out,(fun k hk=>by omega),fun k hk he=>LA.art_zero HOK3.out (by rw[hm.out,hl.out,hx.out];omega) hk he⟩;clear hM3
     go_wp2_with fail
     (try simp only[show a+2 - 1=a+1 from rfl])
     go_loopw [101] (fun x wr=>∃ (i:Nat) (s:LA.St),i<=m/\x=.int .i64 i/\Hid (Drv P s i)/\TbMem base wr ⟨Lb,LgR,LcR,Lblk,LAB,LcB⟩ m (a+2) s.bs s.T s.den/\Below base w wr) (fun x _=>m - (intOf x).toNat)
     case atStart=>exact⟨0,s3,xY1 _,rfl,HDR,HM3.out.below bch,bch⟩
     case round=>
      obtain⟨i,s4,hi,rfl,HD,hM4,hB4⟩:=hrel;obtain⟨w4,rfl⟩:∃ wo:World,wo=wr:=⟨_,rfl⟩;have HD4:=lHd hM4
      by_cases hlt:i < m
      ·have hi2:i < m+2:=by omega
       have hi3:(i:Int) < (m:Int)+2:=by omega
       obtain⟨g,hA,hg1,hg2,hg3,hg4⟩:=hM4.bas hlt;have hy0:=hM4.box0;have hyo:=hM4.out i hi2;dsimp only at hA hy0 hyo;subst hA
       by_cases hba:s4.bs i=a
       ·have hne:((s4.bs i:Int) != (a:Int))=false:=by simp[hba]
        have hne2:¬ ¬ ((s4.bs i:Int)=(a:Int)):=by omega
        obtain⟨c0,hc0,hc1⟩:=LA.art_row HD.out.ok (r:=i) (by rw[hm.out];exact hlt) (by rw[ha.out];exact hba);have HC1:=lHd hc1;rw[ha.out] at hc0;have HBA:=lHd hba;rw[hba] at hg3;clear hba hc1 hne2 hne
        go_wp2_with fail
        go_loopw [9] (fun x wr=>∃ c:Nat,c<=c0/\x=.int .i64 c/\Below w4.heap.size w4 wr) (fun x _=>c0 - (intOf x).toNat)
        case atStart=>exact⟨0,xY1 _,rfl,bch⟩
        case round=>
         obtain⟨c,hc,rfl,hB5⟩:=hrel;obtain⟨w5,rfl⟩:∃ wo:World,wo=wr:=⟨_,rfl⟩;have hM5:=HD4.out.below hB5;have hB45:=hB4.trans (hB5.mono (zQd hb hB4.size));have hu0:=hM5.box0;have huo:=hM5.out i hi2;have huc:=(hM5.cell (i:=i) (j:=c) hi2 (by omega)).1;dsimp only at hu0 huo huc;obtain⟨x,hx⟩:∃ x,Hid (s4.T i c=x):=⟨_,lHd rfl⟩;rw[hx.out] at huc
         by_cases hxz:x=0
         ·subst hxz;have hcc:Hid (c+1<=c0):=lHd (by
           rcases zZ2 c c0 with h | h
           ·exact h
           ·exfalso;have:c=c0:=by omega
            rw[<- this,hx.out] at HC1;exact HC1.out rfl)
          go_wp2
          go_roundw
          case rel=>exact⟨c+1,hcc.out,by go_num,bch⟩
          case measure=>have:=hcc.out;simp[intOf];omega
         ·have HXZ:=lHd (show s4.T i c≠0 by rw[hx.out];exact hxz);have hxe:=beq_eq_false_iff_ne.2 hxz
          go_wp2_with fail
          refine (vZ7 _ base ⟨Lb,LgR,LcR,Lblk,some ⟨g,0,none⟩,LcB⟩ P s4 _ i c rfl HP.out HD.out.ok.toTabl (by rw[hm.out,hN.out];exact hM5.below bch) (zQd hb hB45.size) (by rw[hm.out];exact hlt) (by rw[ha.out];omega) HXZ.out).mono ?_;rintro e w6 ⟨rfl,hM6,hB6⟩;rw[hm.out,hN.out] at hM6;go_wp2
          go_roundw
          case rel=>exact⟨i+1,s4.piv i c,by omega,by go_num,lHd (HD.out.drive (by rw[hm.out];exact hlt) (by rw[ha.out];exact HBA.out) (by rw[ha.out];omega) HXZ.out),hM6.below bch,hB45.trans hB6⟩
          case measure=>simp[intOf];omega
       ·have HBA:=lHd (show s4.bs i≠P.n+P.m by rw[ha.out];exact hba);have hne2:¬ ((s4.bs i:Int)=(a:Int)):=by omega
        obtain⟨v,hv⟩:∃ v,Hid (s4.bs i=v):=⟨_,lHd rfl⟩;rw[hv.out] at hg3 hne2 hba;go_wp2
        go_roundw
        case rel=>exact⟨i+1,s4,by omega,by go_num,lHd (HD.out.skip (by rw[hm.out];exact hlt) HBA.out),HD4.out.below bch,bch⟩
        case measure=>simp[intOf];omega
      ·obtain rfl:m=i:=by omega
       go_wp2;go_ret;exact⟨s4,true,rfl,HD.out.ok,fun _ k hk=>HD.out.out k (by rw[<- hm.out];exact hk),(fun h=>by cases h),by rw[hm.out,hN.out];exact HD4.out.below bch,bch⟩
def uXl(x:List Int)(d k:Int):Int:=
 if ¬ (x.length:Int)=k then 9 else if d < 1\/100000000 < d then 3 else if ¬ ∀ a∈x,-100000000<=a/\a<=100000000 then 3 else if xQ2 d x≠1 then 5 else 0
theorem uZt{x:List Int}{d k:Int}(h:¬ (x.length:Int)=k):uXl x d k=9:=by unfold uXl;rw[if_pos h]
theorem uZu{x:List Int}{d k:Int}(h:(x.length:Int)=k)(h2:d < 1\/100000000 < d):uXl x d k=3:=by unfold uXl;rw[if_neg (fun e=>e h),if_pos h2]
theorem uZv{x:List Int}{d k:Int}(h:(x.length:Int)=k)(h2:¬ (d < 1\/100000000 < d))(h3:¬ ∀ a∈x,-100000000<=a/\a<=100000000):uXl x d k=3:=by unfold uXl;rw[if_neg (fun e=>e h),if_neg h2,if_pos h3]
theorem uZw{x:List Int}{d k:Int}(h:(x.length:Int)=k)(h2:¬ (d < 1\/100000000 < d))(h3:∀ a∈x,-100000000<=a/\a<=100000000)(h4:xQ2 d x≠1):uXl x d k=5:=by unfold uXl;rw[if_neg (fun e=>e h),if_neg h2,if_neg (fun e=>e h3),if_pos h4]
theorem uZx{x:List Int}{d k:Int}(h:(x.length:Int)=k)(h2:¬ (d < 1\/100000000 < d))(h3:∀ a∈x,-100000000<=a/\a<=100000000)(h4:xQ2 d x=1):uXl x d k=0:=by unfold uXl;rw[if_neg (fun e=>e h),if_neg h2,if_neg (fun e=>e h3),if_neg (fun e=>e h4)]
theorem uZy{x:List Int}{d:Int}{n:Nat}(h:uXl x d n=0):VOk n x d:=by
 by_cases h1:(x.length:Int)=n
 ·by_cases h2:d < 1\/100000000 < d
  ·rw[uZu h1 h2] at h;omega
  ·by_cases h3:∀ a∈x,-100000000<=a/\a<=100000000
   ·by_cases h4:xQ2 d x=1
    ·exact⟨by omega,by omega,by omega,h3,h4⟩
    ·rw[uZw h1 h2 h3 h4] at h;omega
   ·rw[uZv h1 h2 h3] at h;omega
 ·rw[uZt h1] at h;omega
theorem uZ0(w:World)(A:Option Addr)(cA:Nat)(x:List Int)(d k:Int)(hI:Ints w A x)(hn:x.length<=9223372036854775807) :
  Calls prog 123 #[.agg #[.slice A x.length cA,.int .i64 d],.int .i64 k] w fun e w'=>e=.returned (.int .i64 (uXl x d k))/\Below w.heap.size w w':=by
 by_cases h1:(x.length:Int)=k
 ·have h1':((x.length:Int) != k)=false:=by simp[h1]
  by_cases h2:d < 1\/100000000 < d
  ·have HV:=lHd (uZu h1 h2);rcases h2 with h2 | h2
   ·have hd1:decide (d < 1)=true:=xY8 h2;have hd3:decide (d > 100000000)=false:=xVg (by omega);go_enter func123,ntmps123;go_wp2;refine bodyPost_ret (v:=.int .i64 3) ?_ rfl ⟨by rw[HV.out],bch⟩;simp[results,results123,go_sem]
   ·have hd1:decide (d < 1)=false:=xVg (by omega);have hd2:decide (d > 100000000)=true:=xY8 (by omega);go_enter func123,ntmps123;go_wp2;refine bodyPost_ret (v:=.int .i64 3) ?_ rfl ⟨by rw[HV.out],bch⟩;simp[results,results123,go_sem]
  ·have hd1:decide (d < 1)=false:=xVg (by omega);have hd2:decide (d > 100000000)=false:=xVg (by omega);have hd3:1<=d/\d<=100000000:=by omega
   obtain⟨hd4,hd5⟩:=hd3;have H1:=lHd h1;have H2:=lHd h2;have HLE:=lHd (fun k=>yWd (xs:=x.take k) (d:=d) (by omega));have HPO:=lHd (fun k=>xZo (xs:=x.take k) (d:=d) (by omega));obtain⟨l,hl⟩:∃ l,Hid (x.length=l):=⟨_,lHd rfl⟩;rw[hl.out] at h1 h1' hn ⊢;subst h1;clear h2;go_enter func123,ntmps123
   go_wp2_with fail
   go_loopw [5,26] (fun g y wr=>∃ j:Nat,j<=l/\y=.int .i64 j/\g=.int .i64 (xQ2 d (x.take j))/\Hid (∀ a∈x.take j,-100000000<=a/\a<=100000000)/\Below w.heap.size w wr/\Cls wr [(w.heap.size,0,.slice A l cA),(w.heap.size,1,.int .i64 d)]) (fun _ y _=>l - (intOf y).toNat)
   case atStart=>exact⟨0,xY1 _,rfl,rfl,lHd (by simp),bch,(by simp[Cls,go_sem])⟩
   case round=>
    obtain⟨j,hj,rfl,rfl,HA,hBr,hCr⟩:=hrel;obtain⟨w1,rfl⟩:∃ wo:World,wo=wr:=⟨_,rfl⟩;have Fr:=hCr.f;have yrw0:=hCr.blk (b:=w.heap.size) (k:=0) (v:=.slice A l cA) (by simp);have hg1:=HLE.out j;have hg0:=HPO.out j
    by_cases hlt:j < l
    ·obtain⟨ad,y,rfl,hy,hyc⟩:=(hI.below hBr).at_ (k:=j) (by rw[hl.out];exact hlt);have HT:=lHd (yJe (d:=d) hy.out);obtain⟨g,hg⟩:∃ g,Hid (xQ2 d (x.take j)=g):=⟨_,lHd rfl⟩;rw[hg.out] at HT hg0 hg1 ⊢
     by_cases hin : -100000000<=y/\y<=100000000
     ·have HIN:=lHd hin;obtain⟨hin1,hin2⟩:=hin
      go_wp2_with fail
      refine (xK5 _ _ _ (by omega) (by omega) HIN.out).mono ?_;rintro e w' ⟨rfl,rfl⟩
      go_wp2_with fail
      refine (yQg _ _ _ (by omega) (by omega)).mono ?_;rintro e w2 ⟨rfl,hB2⟩;have D2:=xJ3 w hB2 bch;have C2:=Cls.below (l:=[(w.heap.size,0,.slice (some ad) l cA),(w.heap.size,1,.int .i64 d)]) hB2 (by simp[Cls,go_sem,Fr]);go_wp2
      go_roundw
      case rel=>exact⟨j+1,by omega,by go_num,by rw[HT.out],lHd (fun c hc=>by
       rw[xYw,hy.out] at hc;rcases xYs.1 hc with h | h
       ·exact HA.out c h
       ·have:c=y:=by simpa using h
        rw[this];exact HIN.out),bch,Cls.below (w:=w2) bch C2⟩
      case measure=>simp[intOf];omega
     ·have HV:=lHd (uZv H1.out H2.out (fun h=>hin (h y (lMg hy.out))));have HIN:=lHd hin;clear hin
      go_wp2_with fail
      refine (xWe _ _ _ (by omega) (by omega) HIN.out).mono ?_;rintro e w' ⟨rfl,rfl⟩;go_wp2;refine bodyPost_ret (v:=.int .i64 3) ?_ rfl ⟨by rw[HV.out],bch⟩;simp[results,results123,go_sem]
    ·obtain rfl:l=j:=by omega
     have hT:=xVb (by rw[hl.out];exact Nat.le_refl _);have HA2:=lHd (show ∀ a∈x,-100000000<=a/\a<=100000000 by have h:=HA.out;rw[hT] at h;exact h);rw[hT]
     by_cases hone:xQ2 d x=1
     ·have HV:=lHd (uZx H1.out H2.out HA2.out hone);rw[hone];go_wp2;refine bodyPost_ret (v:=.int .i64 0) ?_ rfl ⟨by rw[HV.out],bch⟩;simp[results,results123,go_sem]
     ·have HV:=lHd (uZw H1.out H2.out HA2.out hone);obtain⟨g,hg⟩:∃ g,Hid (xQ2 d x=g):=⟨_,lHd rfl⟩;rw[hg.out] at hone ⊢;have hone':(g != 1)=true:=by simpa using hone
      go_wp2;refine bodyPost_ret (v:=.int .i64 5) ?_ rfl ⟨by rw[HV.out],bch⟩;simp[results,results123,go_sem]
 ·have HV:=lHd (uZt (d:=d) h1);have h1':((x.length:Int) != k)=true:=by simpa using h1
  go_enter func123,ntmps123;go_wp2;refine bodyPost_ret (v:=.int .i64 9) ?_ rfl ⟨by rw[HV.out],bch⟩;simp[results,results123,go_sem]
def uZj(n:Nat)(a b:List Int):Int:=LA.sumN n fun j=>atL a j * atL b j
theorem uZ6(k:Nat)(a b:List Int):uZj (k+1) a b=uZj k a b+atL a k * atL b k:=rfl
theorem uZz{x y X Y:Int}(hx : -X<=x/\x<=X)(hy : -Y<=y/\y<=Y) : -(X * Y)<=x * y/\x * y<=X * Y:=LA.abs_mul hx hy
theorem uQy{a:List Int}{X:Int}(hX:0<=X)(h:∀ x∈a,-X<=x/\x<=X)(j:Nat) : -X<=atL a j/\atL a j<=X:=by
 unfold atL
 cases e:a[j]? with
 | none=>simp only[Option.getD_none];omega
 | some y=>exact h y (lMg e)
theorem uQ0{a b:List Int}(ha:∀ x∈a,-100<=x/\x<=100)(hb:∀ x∈b,-100000000<=x/\x<=100000000):∀ k:Nat,-((k:Int) * 10000000000)<=uZj k a b/\uZj k a b<=(k:Int) * 10000000000
 | 0=>by unfold uZj;simp[LA.sumN]
 | k+1=>by
  have h1:=uQ0 ha hb k;have h2:=uZz (uQy (by omega) ha k) (uQy (by omega) hb k);rw[uZ6];omega
theorem uXn{a:List Int}{j:Nat}{x:Int}(h:a[j]? = some x):atL a j=x:=by unfold atL;rw[h];rfl
theorem uQ1(w:World)(A B:Option Addr)(cA cB:Nat)(a b:List Int)(n:Nat)(hla:Hid (a.length=n))(hlb:Hid (b.length=n))(hn6:n<=6)(hIa:Ints w A a)(hIb:Ints w B b)(ha:∀ x∈a,-100<=x/\x<=100)(hb:∀ x∈b,-100000000<=x/\x<=100000000) :
  Calls prog 125 #[.slice A n cA,.slice B n cB] w fun e w'=>e=.returned (.int .i64 (uZj n a b))/\Below w.heap.size w w':=by
 have HLE:=lHd (uQ0 ha hb);have HA:=lHd ha;have HB:=lHd hb;have HS:=lHd (uZ6 (a:=a) (b:=b));clear ha hb;go_enter func125,ntmps125
 go_wp2_with fail
 go_loopw [5,9] (fun s x wr=>∃ j:Nat,j<=n/\x=.int .i64 j/\s=.int .i64 (uZj j a b)/\Below w.heap.size w wr) (fun _ x _=>n - (intOf x).toNat)
 case atStart=>exact⟨0,xY1 _,rfl,rfl,bch⟩
 case round=>
  obtain⟨j,hj,rfl,rfl,hBr⟩:=hrel;obtain⟨w1,rfl⟩:∃ wo:World,wo=wr:=⟨_,rfl⟩
  by_cases hlt:j < n
  ·obtain⟨ad,x,rfl,hx,hxc⟩:=(hIa.below hBr).at_ (k:=j) (by rw[hla.out];exact hlt);obtain⟨ad2,y,rfl,hy,hyc⟩:=(hIb.below hBr).at_ (k:=j) (by rw[hlb.out];exact hlt);have h1:=HLE.out j;have hxb:=HA.out x (lMg hx.out);have hyb:=HB.out y (lMg hy.out);have hmul:=uZz hxb hyb;have HN:=lHd (show uZj (j+1) a b=uZj j a b+x * y by rw[HS.out,uXn hx.out,uXn hy.out]);obtain⟨s,hs⟩:∃ s,Hid (uZj j a b=s):=⟨_,lHd rfl⟩;rw[hs.out] at h1 HN ⊢;obtain⟨h11,h12⟩:=h1;obtain⟨hmul1,hmul2⟩:=hmul
   go_wp2_with fail
   go_quiet (fail)
   go_wp2
   go_roundw
   case rel=>exact⟨j+1,by omega,by go_num,by rw[HN.out],bch⟩
   case measure=>simp[intOf];omega
  ·obtain rfl:n=j:=by omega
   go_wp2;go_ret;exact⟨rfl,bch⟩
theorem uQj(w:World)(A:Option Addr)(cA:Nat)(l:List Int)(n:Nat)(hl:Hid (l.length=n))(hn6:n<=100)(hI:Ints w A l) :
  Calls prog 126 #[.slice A n cA] w fun e w'=>∃ ok:Bool,e=.returned (.bool ok)/\Hid (ok=true↔∃ a∈l,a < 0)/\Below w.heap.size w w':=by
 go_enter func126,ntmps126
 go_wp2_with fail
 go_loopw [7] (fun x wr=>∃ j:Nat,j<=n/\x=.int .i64 j/\Hid (∀ a∈l.take j,0<=a)/\Below w.heap.size w wr) (fun x _=>n - (intOf x).toNat)
 case atStart=>exact⟨0,xY1 _,rfl,lHd (by simp),bch⟩
 case round=>
  obtain⟨j,hj,rfl,HA,hBr⟩:=hrel;obtain⟨w1,rfl⟩:∃ wo:World,wo=wr:=⟨_,rfl⟩
  by_cases hlt:j < n
  ·obtain⟨ad,x,rfl,hx,hxc⟩:=(hI.below hBr).at_ (k:=j) (by rw[hl.out];exact hlt)
   by_cases hneg:x < 0
   ·have hd:decide (x < 0)=true:=xY8 hneg;have HN:=lHd hneg;go_wp2;refine bodyPost_ret (v:=.bool true) ?_ rfl ⟨true,rfl,lHd (iff_of_true rfl ⟨x,lMg hx.out,HN.out⟩),bch⟩;simp[results,results126,go_sem]
   ·have hd:decide (x < 0)=false:=xVg hneg;have HN:=lHd (show 0<=x by omega);go_wp2
    go_roundw
    case rel=>exact⟨j+1,by omega,by go_num,lHd (fun c hc=>by
     rw[xYw,hx.out] at hc;rcases xYs.1 hc with h | h
     ·exact HA.out c h
     ·have:c=x:=by simpa using h
      rw[this];exact HN.out),bch⟩
    case measure=>simp[intOf];omega
  ·obtain rfl:n=j:=by omega
   have HA2:=lHd (show ¬ ∃ a∈l,a < 0 from fun ⟨a,h1,h2⟩=>by
    have h:=HA.out a (by rw[xVb (by rw[hl.out];exact Nat.le_refl _)];exact h1);omega)
   go_wp2;refine bodyPost_ret (v:=.bool false) ?_ rfl ⟨false,rfl,lHd (iff_of_false (by simp) HA2.out),bch⟩;simp[results,results126,go_sem]
theorem uQ4{p:LpV}{r:List Int}{i n:Nat}(hr:p.rows[i]? = some r)(x:List Int):LA.sumN n (fun j=>p.lp.A i j * atL x j)=uZj n r x:=by
 unfold uZj;refine LA.sumN_congr fun j _=>?_
 have e:p.lp.A i j=atL r j:=by
  show (((p.rows[i]?).getD [])[j]?).getD 0=_;rw[hr];rfl
 rw[e]
theorem uQz{p:LpV}{i:Nat}{y:Int}(h:p.bounds[i]? = some y):p.lp.b i=y:=by
 show (p.bounds[i]?).getD 0=y;rw[h];rfl
theorem uVd{x:List Int}{n:Nat}(hl:x.length=n):(¬ ∃ a∈x,a < 0)↔∀ j,j < n->0<=atL x j:=by
 constructor
 ·intro h j hj;have hj':j < x.length:=by omega
  have e:=uXn (lGe hj');rw[e];rcases Int.lt_or_le x[j] 0 with h1 | h1
  ·exact absurd ⟨_,List.getElem_mem hj',h1⟩ h
  ·exact h1
 ·rintro h ⟨a,ha,hn⟩;obtain⟨j,hj⟩:=List.getElem?_of_mem ha;have h1:=h j (by have:=(xZn.1 hj).1;omega);rw[uXn hj] at h1;omega
theorem uV4{r:List Int}(h:∀ a∈r,-4<=a/\a<=4):∀ a∈r,-100<=a/\a<=100:=fun a ha=>by have:=h a ha;omega
theorem blt{w:World}{a:Addr}{v:Value}(h:w.cell? a=some v):a.block < w.heap.size:=xQ3 w a h
theorem uQ5(w:World)(AR AB AO:Option Addr)(cr cb co:Nat)(p:LpV)(hM:LpMem w AR AB AO p)(hok:LpOk p)(m n:Nat)(hrl:Hid (p.rows.length=m))(hbl:Hid (p.bounds.length=m))(hol:Hid (p.obj.length=n))(hm6:m<=6)(hn6:n<=6)(t:Int)(ht0:0<=t)(ht1:t<=100000000)(X:Option Addr)(cX:Nat)(x:List Int)(hlx:Hid (x.length=n))(hIx:Ints w X x)(hxb:∀ a∈x,-100000000<=a/\a<=100000000) :
  Calls prog 73 #[.agg #[.slice AR m cr,.slice AB m cb,.slice AO n co],.slice X n cX,.int .i64 t] w fun e w'=>∃ ok:Bool,e=.returned (.bool ok)/\Hid (ok=true↔LA.IsPt p.lp (atL x) t)/\Below w.heap.size w w':=by
 have HRO:=lHd hM.rows.llr;have HBO:=lHd hM.bounds;have HOK:=lHd hok;have HXB:=lHd hxb;have HIX:=lHd hIx;have HLM:Hid (p.lp.m=m):=lHd hrl.out;have HLN:Hid (p.lp.n=n):=lHd hol.out;clear hM hok hxb;go_enter func73,ntmps73
 go_wp2_with fail
 go_loopw [12] (fun v wr=>∃ i:Nat,i<=m/\v=.int .i64 i/\Hid (∀ k,k < i->LA.sumN n (fun j=>p.lp.A k j * atL x j)<=p.lp.b k * t)/\Below w.heap.size w wr/\Cls wr [(w.heap.size,0,.slice AR m cr),(w.heap.size,1,.slice AB m cb),(w.heap.size,2,.slice AO n co)]) (fun v _=>m - (intOf v).toNat)
 case atStart=>exact⟨0,xY1 _,rfl,lHd (fun k hk=>by omega),bch,(by simp[Cls,go_sem])⟩
 case round=>
  obtain⟨i,hi,rfl,HA,hBr,hCr⟩:=hrel;obtain⟨w1,rfl⟩:∃ wo:World,wo=wr:=⟨_,rfl⟩;have Fr:=hCr.f;have yrw0:=hCr.blk (b:=w.heap.size) (k:=0) (v:=.slice AR m cr) (by simp)
  by_cases hlt:i < m
  ·obtain⟨ad,r,R,cR,rfl,hr,hrc0,hI⟩:=HRO.out.at_ (k:=i) (by rw[hrl.out];exact hlt);obtain⟨ad2,y,rfl,hy,hyc⟩:=(HBO.out.below hBr).at_ (k:=i) (by rw[hbl.out];exact hlt);have HIR:=lHd hI;have hrc:=(hBr.cell (xQ3 w _ hrc0)).trans hrc0;have hrn:=(HOK.out.row hr.out).1;rw[hol.out] at hrn;have HRN:=lHd hrn;rw[hrn] at hrc;have HRB:=lHd (uV4 (HOK.out.row hr.out).2);have hyb:=HOK.out.bound hy.out;have hmul:=uZz (X:=20) (Y:=100000000) hyb (show -100000000<=t/\t<=100000000 by omega);obtain⟨hmul1,hmul2⟩:=hmul;obtain⟨u,hu⟩:∃ u,Hid (y * t=u):=⟨_,lHd rfl⟩;have hwu:IntKind.i64.wrap (y * t)=u:=by rw[hu.out] at hmul1 hmul2 ⊢;exact Go.IntWalk.i64_in _ (by omega)
   obtain⟨s,hs⟩:∃ s,Hid (uZj n r x=s):=⟨_,lHd rfl⟩;have HP:∀ W:World,Below w.heap.size w W->Calls prog 125 #[.slice R n cR,.slice X n cX] W fun e w'=>e=.returned (.int .i64 s)/\Below W.heap.size W w':=fun W hB=>by
    have h:=uQ1 W R X cR cX r x n HRN hlx hn6 (HIR.out.below hB) (HIX.out.below hB) HRB.out HXB.out;rw[hs.out] at h;exact h
   have HP':=lHd HP;clear hrn hrc0 hI HP hyb
   by_cases hgt:s > u
   ·have hd:decide (s > u)=true:=xY8 hgt;have HG:=lHd hgt
    go_wp2_with fail
    refine wp_region_held_drew (S:=fun W=>W.cell? ⟨w.heap.size,1,none⟩=some (.slice (some ad2) m cb)/\W.cell? (ad2.add i)=some (.int .i64 y)) (by kernel_rfl) (by exact⟨Fr.2.1.1,hyc⟩) (fun hHeld=>?_);refine tkH 0 ?_;refine tkH 1 ?_;refine tkH 3 ?_;refine tkH 4 ?_;refine tkH 5 ?_;refine tkH 6 ?_;refine tkH 7 ?_;refine tkH 8 ?_;refine tkH 9 ?_;refine hrd 2 (fun K hK=>?bo11x2)
    case bo11x2=>
     go_simp;go_at_call 125;refine (HP'.out _ bch).mono ?_;rintro e w2 ⟨rfl,hB2⟩;have D2:=xJ3 w hB2 bch;have C2:=Cls.below (l:=[(w.heap.size,0,.slice (some ad) m cr),(w.heap.size,1,.slice (some ad2) m cb),(w.heap.size,2,.slice AO n co)]) hB2 (by simp[Cls,go_sem,Fr]);have hSS:=And.intro ((hB2.cell (blt Fr.2.1.1)).trans Fr.2.1.1) ((hB2.cell (blt hyc)).trans hyc)
     go_wp2_with fail
     refine hK.out _ _ hSS (fun hHeld=>?_);clear hK K
     try simp only[ap]
     refine tkH 10 ?_;refine hdn ?_ _;go_wp2;refine bodyPost_ret (v:=.bool false) ?_ rfl ⟨false,rfl,lHd (iff_of_false (by simp) (fun h=>by
      have h1:=h.1 i (by rw[HLM.out];exact hlt);rw[HLN.out,uQ4 hr.out,hs.out,uQz hy.out,hu.out] at h1;have:=HG.out;omega)),bch⟩
     simp[results,results73,go_sem]
   ·have hd:decide (s > u)=false:=xVg hgt;have HG:=lHd (show s<=u by omega)
    go_wp2_with fail
    refine wp_region_held_drew (S:=fun W=>W.cell? ⟨w.heap.size,1,none⟩=some (.slice (some ad2) m cb)/\W.cell? (ad2.add i)=some (.int .i64 y)) (by kernel_rfl) (by exact⟨Fr.2.1.1,hyc⟩) (fun hHeld=>?_);refine tkH 0 ?_;refine tkH 1 ?_;refine tkH 3 ?_;refine tkH 4 ?_;refine tkH 5 ?_;refine tkH 6 ?_;refine tkH 7 ?_;refine tkH 8 ?_;refine tkH 9 ?_;refine hrd 2 (fun K hK=>?bo21x2)
    case bo21x2=>
     go_simp;go_at_call 125;refine (HP'.out _ bch).mono ?_;rintro e w2 ⟨rfl,hB2⟩;have D2:=xJ3 w hB2 bch;have C2:=Cls.below (l:=[(w.heap.size,0,.slice (some ad) m cr),(w.heap.size,1,.slice (some ad2) m cb),(w.heap.size,2,.slice AO n co)]) hB2 (by simp[Cls,go_sem,Fr]);have hSS:=And.intro ((hB2.cell (blt Fr.2.1.1)).trans Fr.2.1.1) ((hB2.cell (blt hyc)).trans hyc)
     go_wp2_with fail
     refine hK.out _ _ hSS (fun hHeld=>?_);clear hK K
     try simp only[ap]
     refine tkH 10 ?_;refine hdn ?_ _;go_wp2
     go_roundw
     case rel=>exact⟨i+1,by omega,by go_num,lHd (fun k hk=>by
      by_cases e:k=i
      ·subst e;rw[uQ4 hr.out,hs.out,uQz hy.out,hu.out];exact HG.out
      ·exact HA.out k (by omega)),bch,Cls.below (w:=w2) bch C2⟩
     case measure=>simp[intOf];omega
  ·obtain rfl:m=i:=by omega
   have HA2:=lHd (fun (h:∀ j,j < n->0<=atL x j)=>(show LA.IsPt p.lp (atL x) t from ⟨fun k hk=>by rw[HLN.out];exact HA.out k (by rw[<- HLM.out];exact hk),fun j hj=>h j (by rw[<- HLN.out];exact hj)⟩));have HA3:=lHd (fun (h:LA.IsPt p.lp (atL x) t) (j:Nat) (hj:j < n)=>h.2 j (by rw[HLN.out];exact hj))
   go_wp2_with fail
   refine (uQj _ X cX x n hlx (by omega) (HIX.out.below bch)).mono ?_;rintro e w2 ⟨neg,rfl,HNG,hB2⟩;have D2:=xJ3 w hB2 bch;go_wp2;refine bodyPost_ret (v:=.bool (!neg)) ?_ rfl ⟨!neg,rfl,lHd (by
    have h1:=uVd hlx.out
    cases neg with
    | true=>exact iff_of_false (by simp) fun h=>(h1.2 (HA3.out h)) (HNG.out.1 rfl)
    | false=>exact iff_of_true rfl (HA2.out (h1.1 fun h=>by have:=HNG.out.2 h;cases this))),bch⟩
   simp[results,results73,go_sem]
structure VecV where
 nums:List Int
 den:Int
def VecsRead(w:World)(A:Option Addr)(vs:List VecV):Prop:=∀ k v,vs[k]? = some v->∃ g B c,A=some ⟨g,0,none⟩/\w.cell? ⟨g,k * 2,none⟩=some (.slice B v.nums.length c)/\w.cell? ⟨g,k * 2+1,none⟩=some (.int .i64 v.den)/\Ints w B v.nums/\v.nums.length<=9223372036854775807
theorem VecsRead.below{w w':World}{A:Option Addr}{vs:List VecV}(h:VecsRead w A vs)(hb:Below w.heap.size w w'):VecsRead w' A vs:=fun k v hv=>by
 obtain⟨g,B,c,h1,h2,h3,h4,h5⟩:=h k v hv;exact⟨g,B,c,h1,(hb.cell (blt h2)).trans h2,(hb.cell (blt h3)).trans h3,h4.below hb,h5⟩
theorem VecsRead.nil(w:World)(A:Option Addr):VecsRead w A []:=fun k v h=>by simp at h
theorem VecsRead.one{w:World}{g:Nat}{B:Option Addr}{c:Nat}{x:List Int}{d:Int}(h1:w.cell? ⟨g,0,none⟩=some (.slice B x.length c))(h2:w.cell? ⟨g,1,none⟩=some (.int .i64 d))(h3:Ints w B x)(h4:x.length<=9223372036854775807):VecsRead w (some ⟨g,0,none⟩) [⟨x,d⟩]:=fun k v hv=>by
 cases k with
 | zero=>simp at hv;subst hv;exact⟨g,B,c,rfl,h1,h2,h3,h4⟩
 | succ k=>simp at hv
def uXu(f:Int×Int)(i:Int)(cs:List Int):Nat->Int×Int
 | 0=>f
 | k+1=>if (uXu f i cs k).1=0/\atL cs k≠0 then (atL cs k,i - k) else uXu f i cs k
theorem uXv{f:Int×Int}{i:Int}{cs:List Int}(h:f.1=0->f.2=0):∀ k,(uXu f i cs k).1=0->(uXu f i cs k).2=0
 | 0=>h
 | k+1=>by
  unfold uXu
  split
  ·next e=>intro h2;exact absurd h2 e.2
  ·exact uXv h k
theorem uZ3{f:Int×Int}{i:Int}{cs:List Int}{k:Nat}(h:¬ (uXu f i cs k).1=0):uXu f i cs (k+1)=uXu f i cs k:=by
 show (if _ then _ else _)=_;rw[if_neg fun e=>h e.1]
theorem uXw{f:Int×Int}{i:Int}{cs:List Int}{k:Nat}(h:atL cs k=0):uXu f i cs (k+1)=uXu f i cs k:=by
 show (if _ then _ else _)=_;rw[if_neg fun e=>e.2 h]
theorem uZ4{f:Int×Int}{i c:Int}{cs:List Int}{k:Nat}(h0:(uXu f i cs k).1=0)(hc:atL cs k=c)(h:¬ c=0):uXu f i cs (k+1)=(c,i - k):=by
 show (if _ then _ else _)=_;rw[hc,if_pos ⟨h0,h⟩]
def uXh(vs:List VecV)(n:Nat):List Int:=vs.map fun v=>uXl v.nums v.den n
theorem uXk{vs:List VecV}{n k:Nat}{v:VecV}(h:vs[k]? = some v):atL (uXh vs n) k=uXl v.nums v.den n:=uXn (by unfold uXh;rw[zJ9,h];rfl)
theorem uQ6{p:LpV}(h:(lpF p).1=0):(lpF p).2=0:=by rw[vXx (yQf h)]
theorem uZk(w:World)(AR AB AO:Option Addr)(cr cb co:Nat)(p:LpV)(hM:LpMem w AR AB AO p)(m mb n:Nat)(hrl:Hid (p.rows.length=m))(hbl:Hid (p.bounds.length=mb))(hol:Hid (p.obj.length=n))(V1 V2:Option Addr)(c1 c2 k1 k2:Nat)(vs us:List VecV)(hvl1:Hid (vs.length=k1))(hvl2:Hid (us.length=k2))(hk1:k1<=5)(hk2:k2<=5)(hV1:VecsRead w V1 vs)(hV2:VecsRead w V2 us) :
  Calls prog 72 #[.agg #[.slice AR m cr,.slice AB mb cb,.slice AO n co],.slice V1 k1 c1,.slice V2 k2 c2] w fun e w'=>e=.returned (.agg #[.int .i64 (uXu (uXu (lpF p) (-4) (uXh vs n) k1) (-4 - (k1:Int)) (uXh us m) k2).1,.int .i64 (uXu (uXu (lpF p) (-4) (uXh vs n) k1) (-4 - (k1:Int)) (uXh us m) k2).2])/\Below w.heap.size w w':=by
 have HV1:=lHd hV1;have HV2:=lHd hV2;have HLV:∀ W:World,Below w.heap.size w W->Calls prog 100 #[.agg #[.slice AR m cr,.slice AB mb cb,.slice AO n co]] W fun e w'=>e=.returned (.agg #[.int .i64 (lpF p).1,.int .i64 (lpF p).2])/\Below W.heap.size W w':=fun W hB=>by
  have h:=xKk W AR AB AO cr cb co p (hM.below hB);rw[hrl.out,hbl.out,hol.out] at h;exact h
 have HLV':=lHd HLV;have hm63:=hM.nr;have hb63:=hM.nb;have hn63:=hM.no;rw[hrl.out] at hm63;rw[hbl.out] at hb63;rw[hol.out] at hn63;obtain⟨f1,hf1⟩:∃ f:Nat->Int×Int,Hid (f=uXu (lpF p) (-4) (uXh vs n)):=⟨_,lHd rfl⟩;obtain⟨f2,hf2⟩:∃ f:Nat->Int×Int,Hid (f=uXu (f1 k1) (-4 - (k1:Int)) (uXh us m)):=⟨_,lHd rfl⟩;have HZ1:Hid (∀ k,(f1 k).1=0->(f1 k).2=0):=lHd (by rw[hf1.out];exact uXv uQ6);have HZ2:Hid (∀ k,(f2 k).1=0->(f2 k).2=0):=lHd (by rw[hf2.out];exact uXv (HZ1.out k1));have H01:Hid (f1 0=lpF p):=lHd (by rw[hf1.out];rfl);have H02:Hid (f2 0=f1 k1):=lHd (by rw[hf2.out];rfl);have HR:Hid (uXu (uXu (lpF p) (-4) (uXh vs n) k1) (-4 - (k1:Int)) (uXh us m) k2=f2 k2):=lHd (by rw[hf2.out,hf1.out]);have HO1:Hid (∀ k,¬ (f1 k).1=0->f1 (k+1)=f1 k):=lHd (fun k h=>by rw[hf1.out] at h ⊢;exact uZ3 h);have HS1:Hid (∀ k v,vs[k]? = some v->uXl v.nums v.den n=0->f1 (k+1)=f1 k):=lHd (fun k v hv h=>by rw[hf1.out];exact uXw (by rw[uXk hv];exact h));have HN1:Hid (∀ k v c,(f1 k).1=0->vs[k]? = some v->uXl v.nums v.den n=c->¬ c=0->f1 (k+1)=(c,-4 - (k:Int))):=lHd (fun k v c h0 hv hc h=>by rw[hf1.out] at h0 ⊢;exact uZ4 h0 (by rw[uXk hv];exact hc) h);have HO2:Hid (∀ k,¬ (f2 k).1=0->f2 (k+1)=f2 k):=lHd (fun k h=>by rw[hf2.out] at h ⊢;exact uZ3 h);have HS2:Hid (∀ k v,us[k]? = some v->uXl v.nums v.den m=0->f2 (k+1)=f2 k):=lHd (fun k v hv h=>by rw[hf2.out];exact uXw (by rw[uXk hv];exact h));have HN2:Hid (∀ k v c,(f2 k).1=0->us[k]? = some v->uXl v.nums v.den m=c->¬ c=0->f2 (k+1)=(c,-4 - (k1:Int) - (k:Int))):=lHd (fun k v c h0 hv hc h=>by rw[hf2.out] at h0 ⊢;exact uZ4 h0 (by rw[uXk hv];exact hc) h);rw[HR.out];rw[<- H01.out] at HLV';clear hM hV1 hV2 HLV hf1 hf2;go_enter func72,ntmps72
 go_wp2_with fail
 refine (HLV'.out _ bch).mono ?_;rintro e w1 ⟨rfl,hB1⟩;have D1:=xJ3 w hB1 bch;have d1s:=D1.size;have C1:=Cls.below (l:=[(w.heap.size,0,.slice AR m cr),(w.heap.size,1,.slice AB mb cb),(w.heap.size,2,.slice AO n co),(w.heap.size+1,0,.int .i64 0),(w.heap.size+1,1,.int .i64 0)]) hB1 (by simp[Cls,go_sem]);have F1:=C1.f;have y1w1:=C1.b 3;have y1w0:w.heap.size < w1.heap.size:=(by omega);have HL1:=hvl1;have HL2:=hvl2
 go_wp2_with fail
 go_loopw [8,19] (fun s x wr=>∃ j:Nat,j<=k1/\x=.int .i64 j/\s=.int .i64 (-4 - (j:Int))/\Below w.heap.size w wr/\Cls wr [(w.heap.size,0,.slice AR m cr),(w.heap.size,1,.slice AB mb cb),(w.heap.size,2,.slice AO n co),(w.heap.size+1,0,.int .i64 0),(w.heap.size+1,1,.int .i64 0),(w1.heap.size,0,.int .i64 (f1 j).1),(w1.heap.size,1,.int .i64 (f1 j).2)]) (fun _ x _=>k1 - (intOf x).toNat)
 case atStart=>exact⟨0,xY1 _,rfl,by simp,bch,(by simp[Cls,go_sem,F1,y1w1,y1w0])⟩
 case round=>
  obtain⟨j,hj,rfl,rfl,hBr1,hCr1⟩:=hrel;obtain⟨w2,rfl⟩:∃ wo:World,wo=wr:=⟨_,rfl⟩;have Fr1:=hCr1.f;have yr1w1:=hCr1.blk (b:=w.heap.size+1) (k:=0) (v:=.int .i64 0) (by simp);have yr1w0:w.heap.size < w2.heap.size:=(by omega);have yr1w10:=hCr1.blk (b:=w1.heap.size) (k:=0) (v:=.int .i64 (f1 j).1) (by simp)
  by_cases hlt:j < k1
  ·obtain⟨v,hv⟩:∃ v,Hid (vs[j]? = some v):=⟨vs[j]'(by rw[HL1.out];exact hlt),lHd (lGe _)⟩;obtain⟨gv,Bv,cv,hA,hvc1,hvc2,hvI,hvl⟩:=(HV1.out.below (w:=w) (w':=w2) hBr1) j v hv.out;obtain⟨x,d⟩:=v;dsimp only at hvc1 hvc2 hvI hvl;subst hA;obtain⟨lx,hlx⟩:∃ lx,Hid (x.length=lx):=⟨_,lHd rfl⟩;rw[hlx.out] at hvc1 hvl;obtain⟨c,hc⟩:∃ c,Hid (uXl x d (n:Int)=c):=⟨_,lHd rfl⟩;have HVI:=lHd hvI;have HVC:Hid (∀ W:World,Below w2.heap.size w2 W->Calls prog 123 #[.agg #[.slice Bv lx cv,.int .i64 d],.int .i64 (n:Int)] W fun e w'=>e=.returned (.int .i64 c)/\Below W.heap.size W w'):=lHd (fun W hB=>by
    have h:=uZ0 W Bv cv x d (n:Int) (HVI.out.below hB) (by rw[hlx.out];exact hvl);rw[hlx.out,hc.out] at h;exact h)
   have HOj:=lHd (HO1.out j);have HSj:=lHd (HS1.out j _ hv.out);have HNj:=lHd (fun h0=>HN1.out j _ c h0 hv.out hc.out);have HZj:=lHd (HZ1.out j);obtain⟨q,hq⟩:∃ q,Hid (f1 j=q):=⟨_,lHd rfl⟩;rw[hq.out] at HOj HSj HNj HZj Fr1 hCr1;obtain⟨a,a2⟩:=q;dsimp only at HOj HSj HNj HZj Fr1 hCr1
   go_wp2_with fail
   refine (HVC.out _ bch).mono ?_;rintro e w3 ⟨rfl,hB3⟩;have D3:=xJ3 w hB3 bch;have C3:=Cls.below (l:=[(w.heap.size,0,.slice AR m cr),(w.heap.size,1,.slice AB mb cb),(w.heap.size,2,.slice AO n co),(w.heap.size+1,0,.int .i64 0),(w.heap.size+1,1,.int .i64 0),(w1.heap.size,0,.int .i64 a),(w1.heap.size,1,.int .i64 a2)]) hB3 (by simp[Cls,go_sem,Fr1,yr1w1,yr1w0,yr1w10]);have F3:=C3.f;have y3w1:=C3.b 3;have y3w10:=C3.b 5
   by_cases ha:a=0
   ·obtain rfl:a2=0:=HZj.out ha;subst ha
    by_cases hc0:c=0
    ·have HE:=lHd (HSj.out (by rw[hc.out];exact hc0));subst hc0;go_wp2
     go_roundw
     case rel=>exact⟨j+1,by omega,by go_num,(by congr 1;omega),bch,(by rw[HE.out];simp[Cls,go_sem,F3])⟩
     case measure=>simp[intOf];omega
    ·have HE:=lHd (HNj.out rfl hc0);have hc1:(c != 0)=true:=by simpa using hc0
     go_wp2_with fail
     refine (xZj _ _ _).mono ?_;rintro e w4 ⟨rfl,hB4⟩;have D4:=xJ3 w hB4 bch;have C4:=Cls.below (l:=[(w.heap.size,0,.slice AR m cr),(w.heap.size,1,.slice AB mb cb),(w.heap.size,2,.slice AO n co),(w.heap.size+1,0,.int .i64 0),(w.heap.size+1,1,.int .i64 0),(w1.heap.size,0,.int .i64 0),(w1.heap.size,1,.int .i64 0)]) hB4 (by simp[Cls,go_sem,F3]);have F4:=C4.f;have y4w1:=C4.b 3;have y4w10:=C4.b 5;go_wp2
     go_roundw
     case rel=>exact⟨j+1,by omega,by go_num,(by congr 1;omega),bch,(by rw[HE.out];simp[Cls,go_sem,F4])⟩
     case measure=>simp[intOf];omega
   ·have HE:=lHd (HOj.out ha);have ha1:(a == 0)=false:=by simpa using ha
    go_wp2
    go_roundw
    case rel=>exact⟨j+1,by omega,by go_num,(by congr 1;omega),bch,(by rw[HE.out];simp[Cls,go_sem,F3])⟩
    case measure=>simp[intOf];omega
  ·obtain rfl:k1=j:=by omega
   rw[<- H02.out] at hCr1 Fr1
   go_wp2_with fail
   go_loopw [8,43] (fun s x wr=>∃ j:Nat,j<=k2/\x=.int .i64 j/\s=.int .i64 (-4 - (k1:Int) - (j:Int))/\Below w.heap.size w wr/\Cls wr [(w.heap.size,0,.slice AR m cr),(w.heap.size,1,.slice AB mb cb),(w.heap.size,2,.slice AO n co),(w.heap.size+1,0,.int .i64 0),(w.heap.size+1,1,.int .i64 0),(w1.heap.size,0,.int .i64 (f2 j).1),(w1.heap.size,1,.int .i64 (f2 j).2)]) (fun _ x _=>k2 - (intOf x).toNat)
   case atStart=>exact⟨0,xY1 _,rfl,by simp,bch,(by simp[Cls,go_sem,Fr1])⟩
   case round=>
    obtain⟨j,hj,rfl,rfl,hBr2,hCr2⟩:=hrel;obtain⟨w5,rfl⟩:∃ wo:World,wo=wr:=⟨_,rfl⟩;have Fr2:=hCr2.f;have yr2w1:=hCr2.blk (b:=w.heap.size+1) (k:=0) (v:=.int .i64 0) (by simp);have yr2w0:w.heap.size < w5.heap.size:=(by omega);have yr2w10:=hCr2.blk (b:=w1.heap.size) (k:=0) (v:=.int .i64 (f2 j).1) (by simp)
    by_cases hlt:j < k2
    ·obtain⟨v,hv⟩:∃ v,Hid (us[j]? = some v):=⟨us[j]'(by rw[HL2.out];exact hlt),lHd (lGe _)⟩;obtain⟨gv,Bv,cv,hA,hvc1,hvc2,hvI,hvl⟩:=(HV2.out.below (w:=w) (w':=w5) hBr2) j v hv.out;obtain⟨x,d⟩:=v;dsimp only at hvc1 hvc2 hvI hvl;subst hA;obtain⟨lx,hlx⟩:∃ lx,Hid (x.length=lx):=⟨_,lHd rfl⟩;rw[hlx.out] at hvc1 hvl;obtain⟨c,hc⟩:∃ c,Hid (uXl x d (m:Int)=c):=⟨_,lHd rfl⟩;have HVI:=lHd hvI;have HVC:Hid (∀ W:World,Below w5.heap.size w5 W->Calls prog 123 #[.agg #[.slice Bv lx cv,.int .i64 d],.int .i64 (m:Int)] W fun e w'=>e=.returned (.int .i64 c)/\Below W.heap.size W w'):=lHd (fun W hB=>by
      have h:=uZ0 W Bv cv x d (m:Int) (HVI.out.below hB) (by rw[hlx.out];exact hvl);rw[hlx.out,hc.out] at h;exact h)
     have HOj:=lHd (HO2.out j);have HSj:=lHd (HS2.out j _ hv.out);have HNj:=lHd (fun h0=>HN2.out j _ c h0 hv.out hc.out);have HZj:=lHd (HZ2.out j);obtain⟨q,hq⟩:∃ q,Hid (f2 j=q):=⟨_,lHd rfl⟩;rw[hq.out] at HOj HSj HNj HZj Fr2 hCr2;obtain⟨a,a2⟩:=q;dsimp only at HOj HSj HNj HZj Fr2 hCr2
     go_wp2_with fail
     refine (HVC.out _ bch).mono ?_;rintro e w6 ⟨rfl,hB6⟩;have D6:=xJ3 w hB6 bch;have C6:=Cls.below (l:=[(w.heap.size,0,.slice AR m cr),(w.heap.size,1,.slice AB mb cb),(w.heap.size,2,.slice AO n co),(w.heap.size+1,0,.int .i64 0),(w.heap.size+1,1,.int .i64 0),(w1.heap.size,0,.int .i64 a),(w1.heap.size,1,.int .i64 a2)]) hB6 (by simp[Cls,go_sem,Fr2,yr2w1,yr2w0,yr2w10]);have F6:=C6.f;have y6w1:=C6.b 3;have y6w10:=C6.b 5
     by_cases ha:a=0
     ·obtain rfl:a2=0:=HZj.out ha;subst ha
      by_cases hc0:c=0
      ·have HE:=lHd (HSj.out (by rw[hc.out];exact hc0));subst hc0;go_wp2
       go_roundw
       case rel=>exact⟨j+1,by omega,by go_num,(by congr 1;omega),bch,(by rw[HE.out];simp[Cls,go_sem,F6])⟩
       case measure=>simp[intOf];omega
      ·have HE:=lHd (HNj.out rfl hc0);have hc1:(c != 0)=true:=by simpa using hc0
       go_wp2_with fail
       refine (xZj _ _ _).mono ?_;rintro e w7 ⟨rfl,hB7⟩;have D7:=xJ3 w hB7 bch;have C7:=Cls.below (l:=[(w.heap.size,0,.slice AR m cr),(w.heap.size,1,.slice AB mb cb),(w.heap.size,2,.slice AO n co),(w.heap.size+1,0,.int .i64 0),(w.heap.size+1,1,.int .i64 0),(w1.heap.size,0,.int .i64 0),(w1.heap.size,1,.int .i64 0)]) hB7 (by simp[Cls,go_sem,F6]);have F7:=C7.f;have y7w1:=C7.b 3;have y7w10:=C7.b 5;go_wp2
       go_roundw
       case rel=>exact⟨j+1,by omega,by go_num,(by congr 1;omega),bch,(by rw[HE.out];simp[Cls,go_sem,F7])⟩
       case measure=>simp[intOf];omega
     ·have HE:=lHd (HOj.out ha);have ha1:(a == 0)=false:=by simpa using ha
      go_wp2
      go_roundw
      case rel=>exact⟨j+1,by omega,by go_num,(by congr 1;omega),bch,(by rw[HE.out];simp[Cls,go_sem,F6])⟩
      case measure=>simp[intOf];omega
    ·obtain rfl:k2=j:=by omega
     go_wp2;refine bodyPost_ret ?_ rfl ⟨rfl,bch⟩;simp[results,results72,go_sem,Fr2]
def Told(I:Prop)(a a2:Int)(w w':World)(e:Ending):Prop:=∃ ok:Bool,e=.returned (.tuple #[.bool ok,.agg #[.int .i64 a,.int .i64 a2]])/\Hid ((¬ a=0->ok=false)/\(a=0->(ok=true↔I)))/\Below w.heap.size w w'
theorem Told.bad{I:Prop}{a a2:Int}{w w':World}(h:¬ a=0)(hB:Below w.heap.size w w'):Told I a a2 w w' (.returned (.tuple #[.bool false,.agg #[.int .i64 a,.int .i64 a2]])):=⟨false,rfl,lHd ⟨fun _=>rfl,fun e=>absurd e h⟩,hB⟩
theorem Told.ok{I:Prop}{w w':World}{ok:Bool}(h:ok=true↔I)(hB:Below w.heap.size w w'):Told I 0 0 w w' (.returned (.tuple #[.bool ok,.agg #[.int .i64 0,.int .i64 0]])):=⟨ok,rfl,lHd ⟨fun e=>absurd rfl e,fun _=>h⟩,hB⟩
def uZs(p:LpV)(x:List Int)(d:Int):Int×Int:=if ¬ (lpF p).1=0 then lpF p else if ¬ uXl x d p.obj.length=0 then (uXl x d p.obj.length,-4) else (0,0)
theorem uZg{p:LpV}(h:(lpF p).1=0):lpF p=(0,0):=Prod.ext h (uQ6 h)
theorem uQp(p:LpV)(x:List Int)(d:Int):uXu (lpF p) (-4) (uXh [⟨x,d⟩] p.obj.length) 1=uZs p x d:=by
 have e:atL (uXh [⟨x,d⟩] p.obj.length) 0=uXl x d p.obj.length:=uXk (v:=⟨x,d⟩) rfl;unfold uZs
 by_cases h:(lpF p).1=0
 ·rw[if_neg (fun a=>a h)]
  by_cases h2:uXl x d p.obj.length=0
  ·rw[if_neg (fun a=>a h2),uXw (by rw[e];exact h2)];exact uZg h
  ·rw[if_pos h2,uZ4 (f:=lpF p) (k:=0) h e h2];rfl
 ·rw[if_pos h,uZ3 (f:=lpF p) (k:=0) h];rfl
theorem uQq{p:LpV}{x:List Int}{d:Int}(h:(uZs p x d).1=0):uZs p x d=(0,0):=by
 unfold uZs at h ⊢
 by_cases h1:(lpF p).1=0
 ·rw[if_neg (fun a=>a h1)] at h ⊢
  by_cases h2:uXl x d p.obj.length=0
  ·rw[if_neg (fun a=>a h2)]
  ·rw[if_pos h2] at h;exact absurd h h2
 ·rw[if_pos h1] at h;exact absurd h h1
theorem uQd{p:LpV}{x:List Int}{d:Int}(h:(uZs p x d).1=0):LpOk p/\VOk p.obj.length x d:=by
 unfold uZs at h
 by_cases h1:(lpF p).1=0
 ·rw[if_neg (fun a=>a h1)] at h
  by_cases h2:uXl x d p.obj.length=0
  ·exact⟨yQf h1,uZy h2⟩
  ·rw[if_pos h2] at h;exact absurd h h2
 ·rw[if_pos h1] at h;exact absurd h h1
theorem VecsRead.one_at{w:World}{g:Nat}{B:Option Addr}{c lx:Nat}{x:List Int}{d:Int}(hl:x.length=lx)(h1:w.cell? ⟨g,0,none⟩=some (.slice B lx c))(h2:w.cell? ⟨g,1,none⟩=some (.int .i64 d))(h3:Ints w B x)(h4:lx<=9223372036854775807):VecsRead w (some ⟨g,0,none⟩) [⟨x,d⟩]:=by
 subst hl;exact VecsRead.one h1 h2 h3 h4
theorem uQr(w:World)(AR AB AO:Option Addr)(cr cb co:Nat)(p:LpV)(hM:LpMem w AR AB AO p)(m mb n:Nat)(hrl:Hid (p.rows.length=m))(hbl:Hid (p.bounds.length=mb))(hol:Hid (p.obj.length=n))(X:Option Addr)(cX lx:Nat)(x:List Int)(d:Int)(hlx:Hid (x.length=lx))(hIx:Ints w X x)(hx63:lx<=9223372036854775807)(g:Nat)(h1:w.cell? ⟨g,0,none⟩=some (.slice X lx cX))(h2:w.cell? ⟨g,1,none⟩=some (.int .i64 d))(a a2:Int)(hf:Hid (uZs p x d=(a,a2))) :
  Calls prog 72 #[.agg #[.slice AR m cr,.slice AB mb cb,.slice AO n co],.slice (some ⟨g,0,none⟩) 1 1,.slice none 0 0] w fun e w'=>e=.returned (.agg #[.int .i64 a,.int .i64 a2])/\Below w.heap.size w w':=by
 have h:=uZk w AR AB AO cr cb co p hM m mb n hrl hbl hol (some ⟨g,0,none⟩) none 1 0 1 0 [⟨x,d⟩] [] (lHd rfl) (lHd rfl) (by omega) (by omega) (VecsRead.one_at hlx.out h1 h2 hIx hx63) (VecsRead.nil _ _);have e:uXu (uXu (lpF p) (-4) (uXh [⟨x,d⟩] n) 1) (-4 - ((1:Nat):Int)) (uXh [] m) 0=(a,a2):=by
  show uXu (lpF p) (-4) (uXh [⟨x,d⟩] n) 1=_;rw[<- hol.out,uQp];exact hf.out
 rw[e] at h;exact h
theorem uZb(w:World)(AR AB AO:Option Addr)(cr cb co:Nat)(p:LpV)(hM:LpMem w AR AB AO p)(m mb n:Nat)(hrl:Hid (p.rows.length=m))(hbl:Hid (p.bounds.length=mb))(hol:Hid (p.obj.length=n))(X:Option Addr)(cX lx:Nat)(x:List Int)(d:Int)(hlx:Hid (x.length=lx))(hIx:Ints w X x)(hx63:lx<=9223372036854775807)(a a2:Int)(hf:Hid (uZs p x d=(a,a2))) :
  Calls prog 25 #[.agg #[.slice AR m cr,.slice AB mb cb,.slice AO n co],.agg #[.slice X lx cX,.int .i64 d]] w fun e w'=>Told (LA.IsPt p.lp (atL x) d) a a2 w w' e:=by
 have HI:=lHd hIx;have HM:=lHd hM;clear hM;go_enter func25,ntmps25
 go_wp2_with fail
 refine (uQr _ AR AB AO cr cb co p (HM.out.below bch) m mb n hrl hbl hol X cX lx x d hlx (HI.out.below bch) hx63 (w.heap.size+1+1+1) (by simp[go_sem]) (by simp[go_sem]) a a2 hf).mono ?_;rintro e w1 ⟨rfl,hB1⟩;have D1:=xJ3 w hB1 bch;have C1:=Cls.below (l:=[(w.heap.size,0,.slice AR m cr),(w.heap.size,1,.slice AB mb cb),(w.heap.size,2,.slice AO n co),(w.heap.size+1,0,.slice X lx cX),(w.heap.size+1,1,.int .i64 d),(w.heap.size+1+1,0,.int .i64 0),(w.heap.size+1+1,1,.int .i64 0)]) hB1 (by simp[Cls,go_sem]);have F1:=C1.f;have y1w2:=C1.b 5;have y1w1:w.heap.size+1 < w1.heap.size:=(by omega);have y1w0:w.heap.size < w1.heap.size:=(by omega)
 by_cases ha:a=0
 ·have HZ:=lHd (uQd (by rw[hf.out];exact ha));have ha2:a2=0:=by
   have h:=uQq (p:=p) (x:=x) (d:=d) (by rw[hf.out];exact ha);rw[hf.out] at h;injection h with _ h
  subst ha;subst ha2;have HOK:=lHd HZ.out.1;have HVO:=lHd HZ.out.2;have hmb:mb=m:=by rw[<- hbl.out,<- hrl.out];exact HOK.out.b
  subst hmb;have hln:lx=n:=by rw[<- hlx.out,HVO.out.len];exact hol.out
  subst hln;have hm6:mb<=6:=by have:=HOK.out.m;rw[hrl.out] at this;exact this
  have hn6:lx<=6:=by have:=HOK.out.n;rw[hol.out] at this;exact this
  go_wp2_with fail
  refine (uQ5 _ AR AB AO cr cb co p (HM.out.below bch) HOK.out mb lx hrl hbl hol hm6 hn6 d (by have:=HVO.out.pos;omega) HVO.out.dle X cX x hlx (HI.out.below bch) HVO.out.le).mono ?_;rintro e w2 ⟨ok,rfl,HR,hB2⟩;have D2:=xJ3 w hB2 bch;have C2:=Cls.below (l:=[(w.heap.size,0,.slice AR mb cr),(w.heap.size,1,.slice AB mb cb),(w.heap.size,2,.slice AO lx co),(w.heap.size+1,0,.slice X lx cX),(w.heap.size+1,1,.int .i64 d),(w.heap.size+1+1,0,.int .i64 0),(w.heap.size+1+1,1,.int .i64 0),(w1.heap.size,0,.int .i64 0),(w1.heap.size,1,.int .i64 0)]) hB2 (by simp[Cls,go_sem,F1,y1w2,y1w1,y1w0]);have F2:=C2.f;have y2w2:=C2.b 5;have y2w10:=C2.b 7;go_wp2;refine bodyPost_ret (v:=.tuple #[.bool ok,.agg #[.int .i64 0,.int .i64 0]]) ?_ rfl (Told.ok (HR.out) bch);simp[results,results25,go_sem,F2]
 ·have hb1:(a == 0)=false:=by simpa using ha
  have HA:=lHd ha
  go_wp2_with fail
  go_region
  all_goals
   go_wp2;refine bodyPost_ret (v:=.tuple #[.bool false,.agg #[.int .i64 a,.int .i64 a2]]) ?_ rfl (Told.bad HA.out bch);simp[results,results25,go_sem,F1,y1w2]
