/-
  Lemmas.
-/
import Derived.Test.YtjjjeohejhmpoaaGreatX7
import Derived.Test.YtjjjeohejhmpoaaGreatX26
set_option linter.unusedVariables false
set_option linter.unusedSimpArgs false
set_option maxRecDepth 100000
set_option maxHeartbeats 4000000
namespace Go.Proofs.YtjjjeohejhmpoaaGreat
open Go.RowKit Go.Proofs.Tryz
def xQ2(d:Int)(xs:List Int):Int:=xs.foldl (fun a x=>((Int.gcd a x:Nat):Int)) d
theorem xKs(d x:Int)(xs:List Int):xQ2 d (x::xs)=xQ2 ((Int.gcd d x:Nat):Int) xs:=rfl
theorem yJd(d x:Int)(xs:List Int):xQ2 d (xs ++ [x])=((Int.gcd (xQ2 d xs) x:Nat):Int):=by unfold xQ2;rw[List.foldl_append];rfl
theorem yJe{d x:Int}{xs:List Int}{k:Nat}(h:xs[k]? = some x):xQ2 d (xs.take (k+1))=((Int.gcd (xQ2 d (xs.take k)) x:Nat):Int):=by
 rw[vXd,h];exact yJd _ _ _
theorem xZo:∀ {xs:List Int} {d:Int},0<d->0<xQ2 d xs
 | [],d,h=>h
 |x::xs,d,h=>by
  rw[xKs];refine xZo ?_;have:Int.gcd d x≠0:=fun e=>by have:=(Int.gcd_eq_zero_iff.1 e).1;omega
  omega
theorem xZp:∀(xs:List Int) (d:Int),xQ2 d xs∣d/\∀x∈xs,xQ2 d xs∣x
 | [],d=>⟨Int.dvd_refl _,fun x h=>by cases h⟩
 |x::xs,d=>by
  rw[xKs];obtain⟨h1,h2⟩:=xZp xs ((Int.gcd d x:Nat):Int);refine⟨Int.dvd_trans h1 (Int.gcd_dvd_left ..),fun y hy=>?_⟩;rcases yQ6.1 hy with rfl|hy
  ·exact Int.dvd_trans h1 (Int.gcd_dvd_right ..)
  ·exact h2 y hy
theorem yWd{xs:List Int}{d:Int}(h:0<d):xQ2 d xs<=d:=Int.le_of_dvd h (xZp xs d).1
theorem vZm{g:Int}(hg:0<g):∀(xs:List Int) (d:Int),xQ2 (g*d) (xs.map (g * ·))=g*xQ2 d xs
 | [],d=>rfl
 |x::xs,d=>by
  rw[List.map_cons,xKs,xKs];have e:((Int.gcd (g*d) (g*x):Nat):Int)=g*((Int.gcd d x:Nat):Int):=by
   rw[Int.gcd_mul_left,Int.natCast_mul];congr 1;omega
  rw[e];exact vZm hg xs _
def xQv(d:Int)(xs:List Int):List Int:=xs.map fun x=>x.tdiv (xQ2 d xs)
theorem xZq(d:Int)(xs:List Int):(xQv d xs).length=xs.length:=by unfold xQv;rw[zQl]
theorem xX1{g x:Int}(h:g∣x):g*x.tdiv g=x:=Int.mul_tdiv_cancel' h
theorem yJf{d x:Int}{xs:List Int}{k:Nat}(h:xs[k]? = some x):∃y,(xQv d xs)[k]? = some y/\xQ2 d xs*y=x:=
 ⟨_,by unfold xQv;rw[vQ4,h];rfl,xX1 ((xZp xs d).2 x (lMg h))⟩
theorem yVi{d:Int}{xs:List Int}(h:0<d):xQ2 (d.tdiv (xQ2 d xs)) (xQv d xs)=1:=by
 have hg:=xZo (xs:=xs) h;have h1:=vZm hg (xQv d xs) (d.tdiv (xQ2 d xs));have e1:=xX1 (xZp xs d).1;have e2:(xQv d xs).map (xQ2 d xs * ·)=xs:=by
  unfold xQv;rw[List.map_map]
  conv=>rhs;rw[<- List.map_id xs]
  refine List.map_congr_left fun x hx=>?_
  exact xX1 ((xZp xs d).2 x hx)
 rw[e1,e2] at h1;have:xQ2 d xs*1=xQ2 d xs*xQ2 (d.tdiv (xQ2 d xs)) (xQv d xs):=by rw[Int.mul_one];exact h1
 exact(Int.eq_of_mul_eq_mul_left (by omega) this).symm
theorem yVj{d:Int}{xs:List Int}(h:0<d):0<d.tdiv (xQ2 d xs):=by
 have hg:=xZo (xs:=xs) h;have e1:=xX1 (xZp xs d).1;rcases Int.lt_or_le 0 (d.tdiv (xQ2 d xs)) with h1|h1
 ·exact h1
 ·have:=yKo (Int.le_of_lt hg) (show 0<=- d.tdiv (xQ2 d xs) by omega);rw[Int.mul_neg,e1] at this;omega
theorem xQw{g y x B:Int}(hg:0<g)(e:g*y=x)(h : -B<=x/\x<=B) : -B<=y/\y<=B:=by
 have h1:(g-1)*y=x-y:=by rw[Int.sub_mul,e,Int.one_mul]
 rcases Int.lt_or_le y 0 with hy|hy
 ·have:=yKo (show 0<=g-1 by omega) (show 0<=-y by omega);rw[Int.mul_neg] at this;omega
 ·have:=yKo (show 0<=g-1 by omega) hy;omega
theorem yQg(a b:Int)(w:World)(ha : -4611686018427387904<=a/\a<=4611686018427387904)(hb : -4611686018427387904<=b/\b<=4611686018427387904) :
  Calls prog 159 #[.int .i64 a,.int .i64 b] w fun e w'=>e=.returned (.int .i64 (Int.gcd a b))/\Below w.heap.size w w':=by
 go_enter func159,ntmps159;go_wp2
 go_loopw [0,1] (fun x y wr=>∃m n:Int,x=.int .i64 m/\y=.int .i64 n/\Int.gcd m n=Int.gcd a b/\(-4611686018427387904<=m/\m<=4611686018427387904)/\(-4611686018427387904<=n/\n<=4611686018427387904)/\Below w.heap.size w wr) (fun _ y _=>(intOf y).natAbs)
 case atStart=>exact⟨a,b,rfl,rfl,rfl,ha,hb,Below.refl _ _⟩
 case round=>
  obtain⟨m,n,rfl,rfl,hg,hm,hn,hB⟩:=hrel;have hm1:=hm.1;have hm2:=hm.2;have hn1:=hn.1;have hn2:=hn.2;have HG:=lHd hg;have HB:=lHd hB;clear hg hm hn hB
  by_cases hz:n=0
  ·subst hz;have e:(Int.gcd a b:Int)=m.natAbs:=by rw[<- HG.out];simp
   have HE:=lHd e;clear e;go_wp2
   all_goals
    go_ret;exact⟨xVq (by rw[HE.out];omega),HB.out⟩
  ·have hz':(n==0)=false:=by simpa using hz
   have hb:=yJ5 m n hz;have hb1 : -9223372036854775808<=m.tmod n:=by omega
   have hb2:m.tmod n<=9223372036854775807:=by omega
   have ht:=vZg m n;rw[HG.out] at ht;have HT:=lHd ht;clear ht;go_wp2
   go_quiet (fail)
   go_wp2
   go_roundw
   case rel=>exact⟨n,m.tmod n,rfl,rfl,HT.out,by omega,by omega,below_drewN HB.out _⟩
   case measure=>simp only[intOf];exact hb
theorem zW0(n d:Int)(w:World)(h:n < -1000000000\/1000000000<n\/d<1\/1000000000<d) :
  Calls prog 190 #[.agg #[.int .i64 n,.int .i64 d]] w fun e w'=>e=.returned (.agg #[.int .i64 3,.int .i64 0])/\Below w.heap.size w w':=by
 have hx:n < -1000000000\/(-1000000000<=n/\1000000000<n)\/(-1000000000<=n/\n<=1000000000/\d<1)\/(-1000000000<=n/\n<=1000000000/\1<=d/\1000000000<d):=by omega
 clear h;rcases hx with h1|⟨h1,h2⟩|⟨h1,h2,h3⟩|⟨h1,h2,h3,h4⟩
 all_goals
  go_enter func190,ntmps190;go_wp2;exact bodyPost_ret (v:=.agg #[.int .i64 3,.int .i64 0]) (by simp[results,results190,go_sem]) rfl ⟨rfl,((Below.refl _ _).alloc (Nat.le_refl _) _).alloc (by simp) _⟩
theorem zXq(n d c:Int)(w:World)(h1 : -1000000000<=n)(h2:n<=1000000000)(h3:1<=d)(h4:d<=1000000000)(hg:(Int.gcd n d=1/\c=0)\/(¬Int.gcd n d=1/\c=5)) :
  Calls prog 190 #[.agg #[.int .i64 n,.int .i64 d]] w fun e w'=>e=.returned (.agg #[.int .i64 c,.int .i64 0])/\Below w.heap.size w w':=by
 rcases hg with⟨hg,rfl⟩|⟨hg,rfl⟩
 ·have hg':((Int.gcd n d:Nat):Int)=1:=by rw[hg];rfl
  have HG:=lHd hg';clear hg hg';go_enter func190,ntmps190
  go_wp2_with (go_at_call 189;go_must (refine(zVi _ _ _ (by omega) (by omega)).mono ?_;rintro e w1 ⟨he,hB⟩;rw[HG.out] at he;subst he;have F1:=Cls.below (l:=[(w.heap.size+1,0,.int .i64 0),(w.heap.size+1,1,.int .i64 0)]) hB (by simp[Cls,go_sem]);simp only[Cls,and_true] at F1;have HB:=lHd hB;clear hB))
  exact bodyPost_ret (v:=.agg #[.int .i64 0,.int .i64 0]) (by simp[results,results190,go_sem,F1]) rfl ⟨rfl,((((Below.refl _ _).alloc (Nat.le_refl _) _).alloc (by simp) _).trans (HB.out.mono (by simp<;>omega))).setCell (by simp) _ |>.setCell (by simp) _⟩
 ·have hg':(((Int.gcd n d:Nat):Int) !=1)=true:=by simp;omega
  go_enter func190,ntmps190
  go_wp2_with (go_at_call 189;go_must (refine(zVi _ _ _ (by omega) (by omega)).mono ?_;rintro e w1 ⟨rfl,hB⟩;have F1:=Cls.below (l:=[(w.heap.size+1,0,.int .i64 0),(w.heap.size+1,1,.int .i64 0)]) hB (by simp[Cls,go_sem]);simp only[Cls,and_true] at F1;have HB:=lHd hB;clear hB))
  exact bodyPost_ret (v:=.agg #[.int .i64 5,.int .i64 0]) (by simp[results,results190,go_sem,F1]) rfl ⟨rfl,((((Below.refl _ _).alloc (Nat.le_refl _) _).alloc (by simp) _).trans (HB.out.mono (by simp<;>omega))).setCell (by simp) _ |>.setCell (by simp) _⟩
theorem xKu(n d:Int)(w:World) :
  Calls prog 190 #[.agg #[.int .i64 n,.int .i64 d]] w fun e w'=>e=.returned (.agg #[.int .i64 (zVd n d),.int .i64 0])/\Below w.heap.size w w':=by
 by_cases h:n < -1000000000\/1000000000<n\/d<1\/1000000000<d
 ·rw[zKn h];exact zW0 n d w h
 ·by_cases hg:Int.gcd n d=1
  ·rw[zKo h hg];exact zXq n d 0 w (by omega) (by omega) (by omega) (by omega) (Or.inl ⟨hg,rfl⟩)
  ·rw[yJ6 h hg];exact zXq n d 5 w (by omega) (by omega) (by omega) (by omega) (Or.inr ⟨hg,rfl⟩)
theorem q_bd(n d:Int)(hd:d≠0)(h1 : -4611686018427387904<=n)(h2:n<=4611686018427387904) : -4611686018427387904<=qn n d/\qn n d<=4611686018427387904:=by
 have hg:=xVc (n:=n) hd;have h:=vZi n d;have hs:(qs n d).natAbs=n.natAbs:=by unfold qs;split<;>simp
 have h':(qn n d).natAbs*Int.gcd n d=n.natAbs:=by rw[<- hs,<- h,Int.natAbs_mul,Int.natAbs_natCast]
 have:(qn n d).natAbs<=n.natAbs:=by rw[<- h'];exact Nat.le_mul_of_pos_right _ (by omega)
 omega
theorem uJz(n d:Int)(hd:d≠0)(h1 : -4611686018427387904<=d)(h2:d<=4611686018427387904):qd n d<=4611686018427387904:=by
 have hg:=xVc (n:=n) hd;have h:=zKp n d;have hs:(qs d d).natAbs=d.natAbs:=by unfold qs;split<;>simp
 have h':(qd n d).natAbs*Int.gcd n d=d.natAbs:=by rw[<- hs,<- h,Int.natAbs_mul,Int.natAbs_natCast]
 have:(qd n d).natAbs<=d.natAbs:=by rw[<- h'];exact Nat.le_mul_of_pos_right _ (by omega)
 omega
theorem yJm(n d:Int)(hd:d<0) : -(n.tdiv ((Int.gcd n d:Nat):Int))=qn n d/\-(d.tdiv ((Int.gcd n d:Nat):Int))=qd n d:=by
 unfold qn qd qs;rw[if_pos hd,if_pos hd,<- Int.neg_tdiv,<- Int.neg_tdiv];exact⟨Int.tdiv_eq_ediv_of_dvd ((Int.dvd_neg).2 (Int.gcd_dvd_left ..)),Int.tdiv_eq_ediv_of_dvd ((Int.dvd_neg).2 (Int.gcd_dvd_right ..))⟩
theorem yJn(n d:Int)(hd:¬d<0):n.tdiv ((Int.gcd n d:Nat):Int)=qn n d/\d/((Int.gcd n d:Nat):Int)=qd n d:=by
 unfold qn qd qs;rw[if_neg hd,if_neg hd];exact⟨Int.tdiv_eq_ediv_of_dvd (Int.gcd_dvd_left ..),rfl⟩
theorem yVk{n d:Int}(hd:d≠0)(h:vZh n d):zVd (qn n d) (qd n d)=0/\rn n d=qn n d/\rd n d=qd n d/\rc n d=0/\ri n d=0:=by
 unfold rn rd rc ri;have hp:=zKq (n:=n) hd;refine⟨zKo ?_ (uJu hd),if_pos h,if_pos h,if_pos h,if_pos h⟩;unfold vZh at h;omega
theorem yVl{n d:Int}(hd:d≠0)(h:¬vZh n d):zVd (qn n d) (qd n d)=3/\rn n d=0/\rd n d=0/\rc n d=10/\ri n d = -1:=by
 unfold rn rd rc ri;have hp:=zKq (n:=n) hd;refine⟨zKn ?_,if_neg h,if_neg h,if_neg h,if_neg h⟩;unfold vZh at h;omega
theorem vY4(n d:Int)(w:World)(h1 : -4611686018427387904<=n)(h2:n<=4611686018427387904)(h3 : -4611686018427387904<=d)(h4:d<=4611686018427387904)(hd:d≠0)(hfit:vZh n d) :
  Calls prog 161 #[.int .i64 n,.int .i64 d] w fun e w'=>e=.returned (.tuple #[.agg #[.int .i64 (rn n d),.int .i64 (rd n d)],.agg #[.int .i64 (rc n d),.int .i64 (ri n d)]])/\Below w.heap.size w w':=by
 obtain⟨k0,k1,k2,k3,k4⟩:=yVk hd hfit;rw[k1,k2,k3,k4];have K0:=lHd k0;obtain⟨b1,b2⟩:=q_bd n d hd h1 h2;have b3:=zKq (n:=n) hd;have b4:=uJz n d hd h3 h4;have hg:=xVc (n:=n) hd;clear k0 k1 k2 k3 k4 hfit;have BA:=((Below.refl w.heap.size w).alloc (Nat.le_refl _) (.cells #[.int .i64 0,.int .i64 0] 38)).alloc (by simp) (.cells #[.int .i64 0,.int .i64 0] 28)
 by_cases hs:d<0
 case' pos=>obtain⟨q1,q2⟩:=yJm n d hs
 case' neg=>obtain⟨q1,q2⟩:=yJn n d hs
 all_goals
  go_enter func161,ntmps161
  go_wp2_with (go_at_call 189;go_must (refine(zVi _ _ _ (by omega) (by omega)).mono ?_;rintro e w1 ⟨rfl,B1⟩;obtain⟨C0,F1⟩:=Cls.first (l:=[(w.heap.size,0,.int .i64 0),(w.heap.size,1,.int .i64 0),(w.heap.size+1,0,.int .i64 0),(w.heap.size+1,1,.int .i64 0)]) B1 (by simp[Cls,go_sem]);simp only[Cls,and_true] at F1;have z1:w.heap.size+2<=w1.heap.size:=(by have:=B1.size;simp at this;omega)))
  go_region
  go_wp2_with (go_at_call 190;go_must (refine(xKu _ _ _).mono ?_;rintro e w2 ⟨he,hB⟩;rw[K0.out] at he;subst he;have B2:=((B1.alloc (by simp<;>omega) _).drew).trans (hB.mono (by simp<;>omega));have F2:=C0.below B2;simp only[Cls,and_true] at F2;have z2:w1.heap.size+1<=w2.heap.size:=(by have:=hB.size;simp at this;omega);have G2:Cls w2 [(w1.heap.size,0,.int .i64 (qn n d)),(w1.heap.size,1,.int .i64 (qd n d))]:=Cls.below hB (by simp[Cls,go_sem]);simp only[Cls,and_true] at G2;clear hB))
  refine bodyPost_ret ?_ rfl ⟨rfl,((((BA.trans (B2.mono (by simp<;>omega))).setCell (by simp) _).setCell (by simp) _).setCell (by simp) _).setCell (by simp) _⟩;simp[results,results161,go_sem,F2]
theorem vY5(n d:Int)(w:World)(h1 : -4611686018427387904<=n)(h2:n<=4611686018427387904)(h3 : -4611686018427387904<=d)(h4:d<=4611686018427387904)(hd:d≠0)(hfit:¬vZh n d) :
  Calls prog 161 #[.int .i64 n,.int .i64 d] w fun e w'=>e=.returned (.tuple #[.agg #[.int .i64 (rn n d),.int .i64 (rd n d)],.agg #[.int .i64 (rc n d),.int .i64 (ri n d)]])/\Below w.heap.size w w':=by
 obtain⟨k0,k1,k2,k3,k4⟩:=yVl hd hfit;rw[k1,k2,k3,k4];have K0:=lHd k0;obtain⟨b1,b2⟩:=q_bd n d hd h1 h2;have b3:=zKq (n:=n) hd;have b4:=uJz n d hd h3 h4;have hg:=xVc (n:=n) hd;clear k0 k1 k2 k3 k4 hfit;have BA:=((Below.refl w.heap.size w).alloc (Nat.le_refl _) (.cells #[.int .i64 0,.int .i64 0] 38)).alloc (by simp) (.cells #[.int .i64 0,.int .i64 0] 28)
 by_cases hs:d<0
 case' pos=>obtain⟨q1,q2⟩:=yJm n d hs
 case' neg=>obtain⟨q1,q2⟩:=yJn n d hs
 all_goals
  go_enter func161,ntmps161
  go_wp2_with (go_at_call 189;go_must (refine(zVi _ _ _ (by omega) (by omega)).mono ?_;rintro e w1 ⟨rfl,B1⟩;obtain⟨C0,F1⟩:=Cls.first (l:=[(w.heap.size,0,.int .i64 0),(w.heap.size,1,.int .i64 0),(w.heap.size+1,0,.int .i64 0),(w.heap.size+1,1,.int .i64 0)]) B1 (by simp[Cls,go_sem]);simp only[Cls,and_true] at F1;have z1:w.heap.size+2<=w1.heap.size:=(by have:=B1.size;simp at this;omega)))
  go_region
  go_wp2_with (go_at_call 190;go_must (refine(xKu _ _ _).mono ?_;rintro e w2 ⟨he,hB⟩;rw[K0.out] at he;subst he;have B2:=((B1.alloc (by simp<;>omega) _).drew).trans (hB.mono (by simp<;>omega));have F2:=C0.below B2;simp only[Cls,and_true] at F2;have z2:w1.heap.size+1<=w2.heap.size:=(by have:=hB.size;simp at this;omega);have G2:Cls w2 [(w1.heap.size,0,.int .i64 (qn n d)),(w1.heap.size,1,.int .i64 (qd n d))]:=Cls.below hB (by simp[Cls,go_sem]);simp only[Cls,and_true] at G2;clear hB))
  refine bodyPost_ret ?_ rfl ⟨rfl,((((BA.trans (B2.mono (by simp<;>omega))).setCell (by simp) _).setCell (by simp) _).setCell (by simp) _).setCell (by simp) _⟩;simp[results,results161,go_sem,F2]
theorem vY6(n d:Int)(w:World)(h1 : -4611686018427387904<=n)(h2:n<=4611686018427387904)(h3 : -4611686018427387904<=d)(h4:d<=4611686018427387904)(hd:d≠0) :
  Calls prog 161 #[.int .i64 n,.int .i64 d] w fun e w'=>e=.returned (.tuple #[.agg #[.int .i64 (rn n d),.int .i64 (rd n d)],.agg #[.int .i64 (rc n d),.int .i64 (ri n d)]])/\Below w.heap.size w w':=by
 by_cases h:vZh n d
 ·exact vY4 n d w h1 h2 h3 h4 hd h
 ·exact vY5 n d w h1 h2 h3 h4 hd h
theorem yK5(n d:Int)(h1 : -4611686018427387904<=n)(h2:n<=4611686018427387904)(h3 : -4611686018427387904<=d)(h4:d<=4611686018427387904)(hd:d≠0)(w:World) :
  Calls prog 106 #[.int .i64 n,.int .i64 d] w fun e w'=>e=.returned (.tuple #[.agg #[.int .i64 (rn n d),.int .i64 (rd n d)],.agg #[.int .i64 (rc n d),.int .i64 (ri n d)]])/\Below w.heap.size w w':=by
 have hd':(d==0)=false:=by simpa using hd
 go_enter func106,ntmps106
 go_wp2_with fail
 refine(vY6 _ _ _ (by omega) (by omega) (by omega) (by omega) (by assumption)).mono ?_;rintro e w1 ⟨rfl,hB⟩;have D1:=xJ3 w hB bch;obtain⟨C0,F1⟩:=Cls.first (l:=[(w.heap.size,0,.int .i64 0),(w.heap.size,1,.int .i64 0),(w.heap.size+1,0,.int .i64 0),(w.heap.size+1,1,.int .i64 0)]) hB (by simp[Cls,go_sem]);simp only[Cls,and_true] at F1;have B1:=hB;have hs1:=hB.size
 try simp at hs1
 have hb1:=B1.size
 try simp at hb1
 clear hB;go_wp2;refine bodyPost_ret ?_ rfl ⟨rfl,bch⟩;simp[results,results106,go_sem,F1]
section
def vJe(cs:List Int):Prop:=∀c∈cs,0<=c/\c<=1000000
end
theorem zKe(w:World)(c v d u:Int) :
  Calls prog 99 #[.agg #[.int .i64 c,.int .i64 v],.agg #[.int .i64 d,.int .i64 u]] w fun e w'=>e=.returned (.bool (decide (c<d\/(c=d/\v<u))))/\Below w.heap.size w w':=by
 by_cases h1:c<d
 ·have h1':decide (c<d)=true:=zWo h1;rw[zWo (show c<d\/(c=d/\v<u) from .inl h1)];go_enter func99,ntmps99;go_wp2;go_ret;exact⟨rfl,bch⟩
 ·have h1':decide (c<d)=false:=zVa h1
  by_cases h2:c=d
  ·have h2':(c==d)=true:=by simpa using h2
   by_cases h3:v<u
   ·have h3':decide (v<u)=true:=zWo h3;rw[zWo (show c<d\/(c=d/\v<u) from .inr ⟨h2,h3⟩)];go_enter func99,ntmps99;go_wp2;go_ret;exact⟨rfl,bch⟩
   ·have h3':decide (v<u)=false:=zVa h3;rw[zVa (show ¬(c<d\/(c=d/\v<u)) by omega)];go_enter func99,ntmps99;go_wp2;go_ret;exact⟨rfl,bch⟩
  ·have h2':(c==d)=false:=by simpa using h2
   rw[zVa (show ¬(c<d\/(c=d/\v<u)) by omega)];go_enter func99,ntmps99;go_wp2;go_ret;exact⟨rfl,bch⟩
def yZg(st:List Int)(ops:List OpV):Nat->Int->Prop
 |0,p=>p∈st
 |k+1,p=>yZg st ops k p\/∃o∈ops,(∀q∈o.pre,yZg st ops k q)/\p∈o.add
def LevI(n:Nat)(st:List Int)(ops:List OpV)(p:Int)(v:Int):Prop:=
 (v = -1/\∀k≤n,¬yZg st ops k p)\/∃k:Nat,v=(k:Int)/\k<=n/\yZg st ops k p/\∀j,j<k->¬yZg st ops j p
theorem LevI.uniq{n:Nat}{st:List Int}{ops:List OpV}{p v v':Int}(h:LevI n st ops p v)(h':LevI n st ops p v'):v=v':=by
 rcases h with⟨e,h⟩|⟨k,e,hk,h1,h2⟩<;>rcases h' with⟨e',h'⟩|⟨k',e',hk',h1',h2'⟩
 ·rw[e,e']
 ·exact absurd h1' (h k' hk')
 ·exact absurd h1 (h' k hk)
 ·rcases Nat.lt_trichotomy k k' with h3|h3|h3
  ·exact absurd h1 (h2' k h3)
  ·rw[e,e',h3]
  ·exact absurd h1' (h2 k' h3)
structure Levs(n:Nat)(st:List Int)(ops:List OpV)(V:List Int):Prop where
 len:V.length=n
 lev:∀p:Nat,p<n->LevI n st ops (p:Int) (xJ2 V (p:Int))
theorem Levs.uniq{n:Nat}{st:List Int}{ops:List OpV}{V V':List Int}(h:Levs n st ops V)(h':Levs n st ops V'):V=V':=by
 refine List.ext_getElem (by rw[h.len,h'.len]) fun i hi hj=>?_
 rw[<- xXg hi,<- xXg hj];exact(h.lev i (by rw[<- h.len];exact hi)).uniq (h'.lev i (by rw[<- h.len];exact hi))
def vYy(st:List Int)(ops:List OpV)(L i j:Nat)(p:Int):Prop:=
 ∃(k:Nat) (o:OpV),ops[k]? = some o/\(∀q∈o.pre,yZg st ops L q)/\(k<i/\p∈o.add\/k=i/\p∈o.add.take j)
structure LevSt(n:Nat)(st:List Int)(ops:List OpV)(L i j:Nat)(V:List Int):Prop where
 len:V.length=n
 old:∀p:Nat,p<n->yZg st ops L (p:Int)->∃k:Nat,xJ2 V (p:Int)=(k:Int)/\k<=L/\yZg st ops k (p:Int)/\∀j,j<k->¬yZg st ops j (p:Int)
 new:∀p:Nat,p<n->¬yZg st ops L (p:Int)->(vYy st ops L i j (p:Int)/\xJ2 V (p:Int)=(L:Int)+1)\/(¬vYy st ops L i j (p:Int)/\xJ2 V (p:Int) = -1)
section
variable {n:Nat}{st:List Int}{ops:List OpV}{L i j:Nat}{V:List Int}
theorem yZ8{o:OpV}(ho:ops[i]? = some o){m:Nat}(hm:o.add.length<=m)(p:Int):vYy st ops L (i+1) 0 p↔vYy st ops L i m p:=by
 constructor
 ·rintro⟨k,o',h1,h2,h3⟩;rcases h3 with⟨h3,h4⟩|⟨_,h4⟩
  ·rcases vVq k i with h5|h5
   ·exact⟨k,o',h1,h2,.inl ⟨h5,h4⟩⟩
   ·have:k=i:=by omega
    subst this;rw[ho] at h1;injection h1 with h1
    subst h1;exact⟨k,o,ho,h2,.inr ⟨rfl,by rw[zQd hm];exact h4⟩⟩
  ·simp at h4
 ·rintro⟨k,o',h1,h2,h3⟩;rcases h3 with⟨h3,h4⟩|⟨h3,h4⟩
  ·exact⟨k,o',h1,h2,.inl ⟨by omega,h4⟩⟩
  ·exact⟨k,o',h1,h2,.inl ⟨by omega,List.mem_of_mem_take h4⟩⟩
theorem LevSt.of_added(h:LevSt n st ops L i j V){i' j':Nat}(he:∀p,vYy st ops L i' j' p↔vYy st ops L i j p):LevSt n st ops L i' j' V:=
 ⟨h.len,h.old,fun p hp hl=>by rw[he];exact h.new p hp hl⟩
theorem LevSt.row(h:LevSt n st ops L i j V){o:OpV}(ho:ops[i]? = some o)(hm:o.add.length<=j):LevSt n st ops L (i+1) 0 V:=h.of_added (yZ8 ho hm)
end
noncomputable def levV(n:Nat)(st:List Int)(ops:List OpV):List Int:=@Classical.epsilon _ ⟨[]⟩ (Levs n st ops)
theorem Levs.eq{n:Nat}{st:List Int}{ops:List OpV}{V:List Int}(h:Levs n st ops V):V=levV n st ops:=h.uniq (@Classical.epsilon_spec _ (Levs n st ops) ⟨V,h⟩)
def uXf(V:List Int)(l:List Int):Int:=(l.map fun q=>xJ2 V q).sum
def vJu(V:List Int)(o:OpV)(p:Int):Prop:=p∈o.add/\0<xJ2 V p/\∀q∈o.pre,0<=xJ2 V q/\xJ2 V q<xJ2 V p
instance (V:List Int)(o:OpV)(p:Int):Decidable (vJu V o p):=by unfold vJu;exact inferInstance
def xQz(V:List Int)(ops:List OpV)(p:Int):Nat->Int×Int
 |0=>(-1,0)
 |i+1=>if vJu V (opAt' ops i) p/\((xQz V ops p i).1<0\/uXf V (opAt' ops i).pre<(xQz V ops p i).2) then((i:Int),uXf V (opAt' ops i).pre) else xQz V ops p i
where opAt' (ops:List OpV) (i:Nat):OpV:=(ops[i]?).getD ⟨[],[],[],0⟩
theorem zQ4{V:List Int}{ops:List OpV}{p:Int}{i:Nat}{o:OpV}(h:ops[i]? = some o):xQz V ops p (i+1)=if vJu V o p/\((xQz V ops p i).1<0\/uXf V o.pre<(xQz V ops p i).2) then((i:Int),uXf V o.pre) else xQz V ops p i:=by
 rw[xQz];have e:xQz.opAt' ops i=o:=by unfold xQz.opAt';rw[h];rfl
 rw[e]
theorem zQ5{V:List Int}{ops:List OpV}{p:Int}:∀i,i<=ops.length->0<=(xQz V ops p i).1->∃k:Nat,(xQz V ops p i).1=(k:Int)/\k<i/\∃o,ops[k]? = some o/\vJu V o p
 |0,_,h=>by simp[xQz] at h
 |i+1,hi,h=>by
  have ho:=lGe (show i<ops.length by omega);rw[zQ4 ho] at h ⊢
  split at h
  ·rename_i hg
   rw[if_pos hg];exact⟨i,rfl,by omega,_,ho,hg.1⟩
  ·rename_i hg
   rw[if_neg hg];obtain⟨k,h1,h2,h3⟩:=zQ5 i (by omega) h;exact⟨k,h1,by omega,h3⟩
structure SupSt(n:Nat)(V:List Int)(ops:List OpV)(i j:Nat)(O S:List Int):Prop where
 lenO:O.length=n
 lenS:S.length=n
 out:∀p:Nat,p<n->xJ2 O (p:Int)=(xQz V ops (p:Int) (if(∃o,ops[i]? = some o/\(p:Int)∈o.add.take j) then i+1 else i)).1
 least:∀p:Nat,p<n->xJ2 S (p:Int)=(xQz V ops (p:Int) (if(∃o,ops[i]? = some o/\(p:Int)∈o.add.take j) then i+1 else i)).2
section
variable {n:Nat}{V:List Int}{ops:List OpV}{i j:Nat}{O S:List Int}
theorem yJl{o:OpV}(ho:ops[i]? = some o)(hj:o.add.length<=j)(p:Nat):xQz V ops (p:Int) (if(∃o,ops[i]? = some o/\(p:Int)∈o.add.take j) then i+1 else i)=xQz V ops (p:Int) (i+1):=by
 split
 ·rfl
 ·rename_i h
  rw[zQ4 ho,if_neg];rintro⟨hg,_⟩;exact h ⟨o,ho,by rw[zQd hj];exact hg.1⟩
theorem vZn(p:Nat):xQz V ops (p:Int) (if(∃o,ops[i]? = some o/\(p:Int)∈o.add.take 0) then i+1 else i)=xQz V ops (p:Int) i:=by
 rw[if_neg];rintro⟨o,_,h⟩;simp at h
theorem SupSt.row(h:SupSt n V ops i j O S){o:OpV}(ho:ops[i]? = some o)(hj:o.add.length<=j):SupSt n V ops (i+1) 0 O S:=
 ⟨h.lenO,h.lenS,fun p hp=>by rw[h.out p hp,yJl ho hj,vZn],fun p hp=>by rw[h.least p hp,yJl ho hj,vZn]⟩
end
def yJo(V:List Int)(ops:List OpV)(p:Int):Int:=(xQz V ops p ops.length).1
theorem vY7{V:List Int}{ops:List OpV}{p:Int}(h:¬yJo V ops p<0):∃k o,yJo V ops p=((k:Nat):Int)/\ops[k]? = some o/\vJu V o p:=by
 obtain⟨k,h1,_,o,h2,h3⟩:=zQ5 (V:=V) (ops:=ops) (p:=p) ops.length (Nat.le_refl _) (by unfold yJo at h;omega);exact⟨k,o,h1,h2,h3⟩
section
variable {V:List Int}{ops:List OpV}
structure AchPre(n:Nat)(V:List Int)(ops:List OpV)(D:List Bool)(plan:List Int)(p:Int):Prop where
 len:D.length=ops.length
 yes:∀i:Nat,(i:Int)∈plan->i<ops.length->D[i]? = some true
 no:∀i:Nat,D[i]? = some true->(i:Int)∈plan\/∀q,xJ2 V q<=xJ2 V p->yJo V ops q≠(i:Int)
def AchPost(ops:List OpV)(D D':List Bool)(plan':List Int):Prop:=D'.length=ops.length/\∀i:Nat,i<ops.length->(D'[i]? = some true↔D[i]? = some true\/(i:Int)∈plan')
theorem AchPre.same{n:Nat}{D:List Bool}{plan:List Int}{p:Int}(h:AchPre n V ops D plan p):AchPost ops D D plan:=
 ⟨h.len,fun i hi=>⟨.inl,fun h2=>h2.elim id (fun h2=>h.yes i h2 hi)⟩⟩
theorem AchPre.planned{n:Nat}{D:List Bool}{plan:List Int}{p:Int}(h:AchPre n V ops D plan p){i:Nat}(he:yJo V ops p=(i:Int))(hd:D[i]? = some true):(i:Int)∈plan:=
 (h.no i hd).resolve_right (fun h2=>h2 p (Int.le_refl _) he)
def AchMid(ops:List OpV)(i:Nat)(D Dj:List Bool)(pj:List Int):Prop:=Dj.length=ops.length/\∀k:Nat,k<ops.length->(Dj[k]? = some true↔D[k]? = some true\/k=i\/(k:Int)∈pj)
theorem AchMid.pre{n:Nat}{D Dj:List Bool}{plan pj:List Int}{p q:Int}(h:AchPre n V ops D plan p){i:Nat}{o:OpV}(ho:ops[i]? = some o)(hg:vJu V o p)(hq:q∈o.pre)(hs:∀x∈plan,x∈pj)(hm:AchMid ops i D Dj pj):AchPre n V ops Dj pj q:=by
 refine⟨hm.1,fun k hk hkl=>(hm.2 k hkl).2 (.inr (.inr hk)),fun k hk=>?_⟩;have hkl:k<ops.length:=by rw[<- hm.1];exact(zQ1.1 hk).1
 rcases (hm.2 k hkl).1 hk with h1|h1|h1
 ·rcases h.no k h1 with h2|h2
  ·exact .inl (hs _ h2)
  ·exact .inr (fun r hr=>h2 r (by have:=(hg.2.2 q hq).2;omega))
 ·subst h1;refine .inr (fun r hr he=>?_);obtain⟨k',o',h2,h3,h4⟩:=vY7 (V:=V) (ops:=ops) (p:=r) (by omega);have:k'=k:=by omega
  subst this;rw[ho] at h3;injection h3 with h3
  subst h3;have:=(h4.2.2 q hq).2;omega
 ·exact .inl h1
theorem AchMid.step{D Dj D':List Bool}{pj p':List Int}{i:Nat}(hm:AchMid ops i D Dj pj)(h:AchPost ops Dj D' p')(hs:∀x∈pj,x∈p'):AchMid ops i D D' p':=by
 refine⟨h.1,fun k hk=>?_⟩;rw[h.2 k hk,hm.2 k hk];constructor
 ·rintro((h1|h1|h1)|h1)
  ·exact .inl h1
  ·exact .inr (.inl h1)
  ·exact .inr (.inr (hs _ h1))
  ·exact .inr (.inr h1)
 ·rintro(h1|h1|h1)
  ·exact .inl (.inl h1)
  ·exact .inl (.inr (.inl h1))
  ·exact .inr h1
theorem AchPost.pre{n:Nat}{D:List Bool}{plan:List Int}(hl:D.length=ops.length)(h:∀i:Nat,i<ops.length->(D[i]? = some true↔(i:Int)∈plan))(p:Int):AchPre n V ops D plan p:=
 ⟨hl,fun i hi hil=>(h i hil).2 hi,fun i hi=>.inl ((h i (by rw[<- hl];exact(zQ1.1 hi).1)).1 hi)⟩
end
