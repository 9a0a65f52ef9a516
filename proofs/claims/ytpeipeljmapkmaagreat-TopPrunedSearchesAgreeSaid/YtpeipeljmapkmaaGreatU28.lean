/-
  Lemmas for the law: Cw.
-/
import Derived.Test.YtpeipeljmapkmaaGreatU13
import Derived.Test.YtpeipeljmapkmaaGreatU1
set_option linter.unusedVariables false
set_option linter.unusedSimpArgs false
set_option maxRecDepth 100000
set_option maxHeartbeats 4000000
namespace Go.Proofs.YtpeipeljmapkmaaGreat
open Go.RowKit
structure ChMem{α:Type}(p:Addr)(H:World->List α->Prop)(lt:α->α->Bool):Prop where
 ord:WkOrd lt
 len:∀ w l,H w l->l.length<=1000000000000/\∃ (A:Option Addr) (c:Nat),(∀ n,Sem.run Tryz.prog (method (n+1) 131 (.pointer (some p)) "Len") w=.ok (66,.pointer (some p)) w)/\Calls Tryz.prog 66 #[.pointer (some p)] w fun e w'=>e=.returned (.int .i64 (l.length:Int))/\w=w'
 less:∀ w l (i j:Nat) x y,H w l->l[i]? = some x->l[j]? = some y->∃ (A:Option Addr) (c:Nat),(∀ n,Sem.run Tryz.prog (method (n+1) 131 (.pointer (some p)) "Less") w=.ok (200,.pointer (some p)) w)/\Calls Tryz.prog 200 #[.pointer (some p),.int .i64 (i:Int),.int .i64 (j:Int)] w fun e w'=>e=.returned (.bool (lt x y))/\H w' l
 swap:∀ w l (i j:Nat),H w l->i < l.length->j < l.length->∃ (A:Option Addr) (c:Nat),(∀ n,Sem.run Tryz.prog (method (n+1) 131 (.pointer (some p)) "Swap") w=.ok (203,.pointer (some p)) w)/\Calls Tryz.prog 203 #[.pointer (some p),.int .i64 (i:Int),.int .i64 (j:Int)] w fun e w'=>e=.returned (.tuple #[])/\H w' (xXa l i j)
section
variable {α:Type}{p:Addr}{H:World->List α->Prop}{lt:α->α->Bool}
theorem vXz(k:Nat)(h:0 < k):((k:Int) - 1) / 2=(((k - 1) / 2:Nat):Int):=by omega
def ChUp(H:World->List α->Prop)(lt:α->α->Bool)(l0:List α)(e:Ending)(w':World):Prop:=e=.returned (.tuple #[])/\∃ l,H w' l/\HeapN lt l0.length l/\l.Perm l0
theorem Chup(M:ChMem p H lt)(w:World)(l0:List α)(k0:Nat)(hH:H w l0)(hk:k0 < l0.length)(hU:HoleU lt l0.length k0 l0) :
  Calls Tryz.prog 115 #[.iface 131 (.pointer (some p)),.int .i64 (k0:Int)] w (ChUp H lt l0):=by
 obtain⟨hn,-⟩:=M.len w l0 hH;go_enter Tryz.func115,Tryz.ntmps115;go_wp2
 go_loopw [1] (fun j wr=>∃ (k:Nat) (l:List α),j=.int .i64 (k:Int)/\k < l0.length/\H wr l/\Hid (HoleU lt l0.length k l)/\Hid (l.Perm l0)) (fun j _=>(intOf j).toNat)
 case atStart=>exact⟨k0,l0,rfl,hk,hH,hU,List.Perm.refl _⟩
 case round=>
  clear hU;obtain⟨k,l,rfl,hkl,hw,hU,hP⟩:=hrel;have hll:l.length=l0.length:=hP.out.length_eq;have hkl2:k < l.length:=by omega
  have HLL:=lHd hll;clear hll hH
  by_cases h0:k=0
  ·subst h0;go_wp2
   go_end0
   exact⟨rfl,l,hw,hU.out.done0,hP.out⟩
  ·have hk0:0 < k:=by omega
   have hq:(k - 1) / 2 < l.length:=by omega
   obtain⟨x,hx⟩:∃ x,l[k]? = some x:=⟨_,lGe hkl2⟩;obtain⟨y,hy⟩:∃ y,l[(k - 1) / 2]? = some y:=⟨_,lGe hq⟩;have he:=vXz k hk0;obtain⟨A,c,hm,hc⟩:=M.less wr l k ((k - 1) / 2) x y hw hx hy;obtain⟨q,hq2⟩:∃ q,q=(k - 1) / 2:=⟨_,rfl⟩;rw[<- hq2] at he hy hq hc;have hne:¬ (q:Int)=(k:Int):=by omega
   have HX:=lHd hx;have HY:=lHd hy;have HQ:=lHd hq2;clear hx hy hq2
   cases hlt:lt x y with
   | false=>
    rw[hlt] at hc;have HT:=lHd hlt;clear hlt
    go_wp2_with (go_at_call 200;(with_reducible refine hc.mono ?_);rintro e w2 ⟨rfl,hw2⟩)
    go_end0
    refine⟨rfl,l,hw2,hU.out.done ?_,hP.out⟩;intro a b ha hb;rw[HX.out] at ha;rw[<- HQ.out,HY.out] at hb;injection ha with ha;injection hb with hb
    rw[<- ha,<- hb];exact HT.out
   | true=>
    rw[hlt] at hc;have HT:=lHd hlt;clear hlt
    go_wp2_with (go_at_call 200;(with_reducible refine hc.mono ?_);rintro e w2 ⟨rfl,hw2⟩;obtain⟨A,c,hm2,hc2⟩:=M.swap w2 l q k hw2 hq hkl2)
    go_wp2_with (go_at_call 203;(with_reducible refine hc2.mono ?_);rintro e w3 ⟨rfl,hw3⟩)
    have HU2:Hid (HoleU lt l0.length q (xXa l q k)):=by
     have h:=hU.out.up M.ord hk0 hkl (by rw[HLL.out];exact Nat.le_refl _) (fun a b ha hb=>by
      rw[HX.out] at ha;rw[<- HQ.out,HY.out] at hb;injection ha with ha;injection hb with hb
      rw[<- ha,<- hb];exact HT.out)
     rw[<- HQ.out] at h;exact h
    go_roundw
    case rel=>exact⟨q,xXa l q k,rfl,by have:=HQ.out;omega,hw3,HU2,(xXm _ _ _).trans hP.out⟩
    case measure=>have:=HQ.out;simp[intOf];omega
theorem vYr(W:WkOrd lt)(l:List α)(k:Nat):Okp lt l k k:=fun a b ha hb=>by
 rw[ha] at hb;injection hb with hb;subst hb
 cases e:lt a a with
 | false=>rfl
 | true=>have:=W.asym a a e;rw[e] at this;exact this
theorem vV6(W:WkOrd lt){n i j:Nat}{l:List α}(hm:∀ k,0 < k->k < n->(k - 1) / 2=i->Okp lt l k j)(hj:j < l.length)(h:Okp lt l j i):∀ k,0 < k->k < n->(k - 1) / 2=i->Okp lt l k i:=
 fun k h1 h2 h3 a b ha hb=>W.ntr a l[j] b (hm k h1 h2 h3 a _ ha (lGe hj)) (h _ b (lGe hj) hb)
theorem vYs(W:WkOrd lt){n i j1 j2:Nat}{l:List α}(h1:2 * i+1=j1)(h2:j1+1=j2)(h:j2 < n->Okp lt l j2 j1):∀ k,0 < k->k < n->(k - 1) / 2=i->Okp lt l k j1:=fun k k0 k1 k2=>by
 rcases (show k=j1\/k=j2 by omega) with rfl | rfl
 ·exact vYr W l k
 ·exact h k1
theorem Chtwo(W:WkOrd lt){n i j1 j2:Nat}{l:List α}(h1:2 * i+1=j1)(h2:j1+1=j2)(h:Okp lt l j1 j2):∀ k,0 < k->k < n->(k - 1) / 2=i->Okp lt l k j2:=fun k k0 k1 k2=>by
 rcases (show k=j1\/k=j2 by omega) with rfl | rfl
 ·exact h
 ·exact vYr W l k
theorem zKq{l:List α}{k p:Nat}{x y:α}(hx:l[k]? = some x)(hy:l[p]? = some y)(h:lt x y=false):Okp lt l k p:=fun a b ha hb=>by
 rw[hx] at ha;rw[hy] at hb;injection ha with ha;injection hb with hb
 rw[<- ha,<- hb];exact h
def vYt(H:World->List α->Prop)(lt:α->α->Bool)(n i0:Nat)(l0:List α)(e:Ending)(w':World):Prop:=
 ∃ (b:Bool) (l:List α),e=.returned (.bool b)/\H w' l/\l.Perm l0/\(∀ k,n<=k->l[k]? = l0[k]?)/\(b=true->HeapN lt n l)/\(b=false->l=l0/\HoleU lt n i0 l)
theorem vYu(M:ChMem p H lt)(w:World)(l0:List α)(i0 n:Nat)(hH:H w l0)(hnl:n<=l0.length)(hi0:i0 < l0.length)(hD:HoleD lt n i0 l0) :
  Calls Tryz.prog 106 #[.iface 131 (.pointer (some p)),.int .i64 (i0:Int),.int .i64 (n:Int)] w (vYt H lt n i0 l0):=by
 obtain⟨hn,-⟩:=M.len w l0 hH;go_enter Tryz.func106,Tryz.ntmps106;go_wp2
 go_loopw [7] (fun j wr=>∃ (i:Nat) (l:List α),j=.int .i64 (i:Int)/\i < l0.length/\H wr l/\Hid (Sink lt n i0 l0 i l)) (fun j _=>l0.length - (intOf j).toNat)
 case atStart=>exact⟨i0,l0,rfl,hi0,hH,hD.sink⟩
 case round=>
  clear hD;obtain⟨i,l,rfl,hil,hw,hS⟩:=hrel;have hll:l.length=l0.length:=hS.out.perm.length_eq;have hil2:i < l.length:=by omega
  have hnl2:n<=l.length:=by omega
  obtain⟨j1,hj1⟩:∃ j1,2 * i+1=j1:=⟨_,rfl⟩;obtain⟨j2,hj2⟩:∃ j2,j1+1=j2:=⟨_,rfl⟩;have he1:2 * (i:Int)+1=(j1:Int):=by omega
  have he2:(j1:Int)+1=(j2:Int):=by omega
  obtain⟨z,hz⟩:∃ z,l[i]? = some z:=⟨_,lGe hil2⟩;have HLL:=lHd hll;have HJ1:=lHd hj1;have HJ2:=lHd hj2;have hb1:j1<=4000000000000:=by omega
  have HZ:=lHd hz
  by_cases h1:n<=j1
  ·clear hll hj1 hj2 hz;have hch:∀ k,0 < k->k < n->(k - 1) / 2=i->Okp lt l k i:=fun k k0 k1 k2=>by have:=HJ1.out;omega
   by_cases hii:i0 < i
   ·have HCH:=lHd hch;clear hch;go_wp2;have hch:=HCH.out;go_ret;refine⟨_,l,rfl,hw,hS.out.perm,hS.out.beyond,fun _=>hS.out.done hch (by omega),by simp⟩
   ·have HCH:=lHd hch;clear hch;obtain rfl:i=i0:=by have:=hS.out.ge;omega
    go_wp2;have hch:=HCH.out;go_ret;refine⟨_,l,rfl,hw,hS.out.perm,hS.out.beyond,by simp,fun _=>hS.out.stay hch⟩
  ·have h1':j1 < l.length:=by omega
   have h1n:j1 < n:=by omega
   obtain⟨x,hx⟩:∃ x,l[j1]? = some x:=⟨_,lGe h1'⟩;have HX:=lHd hx;clear hll hj1 hj2 hx hz
   by_cases h2:n<=j2
   ·have HM:Hid (∀ k,0 < k->k < n->(k - 1) / 2=i->Okp lt l k j1):=lHd (vYs M.ord HJ1.out HJ2.out (fun h=>by omega))
    cases hl3:lt x z with
    | false=>
     have hch:∀ k,0 < k->k < n->(k - 1) / 2=i->Okp lt l k i:=vV6 M.ord HM.out h1' (zKq HX.out HZ.out hl3)
     by_cases hii:i0 < i
     ·have HCH:=lHd hch;clear hch;obtain⟨A,c,hm2,hc2⟩:=M.less wr l j1 i x z hw HX.out HZ.out;rw[hl3] at hc2
      go_wp2_with (go_at_call 200;(with_reducible refine hc2.mono ?_);rintro e w3 ⟨rfl,hw3⟩)
      have hch:=HCH.out;go_ret;refine⟨_,l,rfl,hw3,hS.out.perm,hS.out.beyond,fun _=>hS.out.done hch (by omega),by simp⟩
     ·have HCH:=lHd hch;clear hch;obtain rfl:i=i0:=by have:=hS.out.ge;omega
      obtain⟨A,c,hm2,hc2⟩:=M.less wr l j1 i x z hw HX.out HZ.out;rw[hl3] at hc2
      go_wp2_with (go_at_call 200;(with_reducible refine hc2.mono ?_);rintro e w3 ⟨rfl,hw3⟩)
      have hch:=HCH.out;go_ret;refine⟨_,l,rfl,hw3,hS.out.perm,hS.out.beyond,by simp,fun _=>hS.out.stay hch⟩
    | true=>
     obtain⟨A,c,hm2,hc2⟩:=M.less wr l j1 i x z hw HX.out HZ.out;rw[hl3] at hc2
     go_wp2_with (go_at_call 200;(with_reducible refine hc2.mono ?_);rintro e w3 ⟨rfl,hw3⟩;obtain⟨A,c,hm4,hc4⟩:=M.swap w3 l i j1 hw3 hil2 h1')
     go_wp2_with (go_at_call 203;refine hc4.mono ?_;rintro e w4 ⟨rfl,hw4⟩)
     have HS2:=lHd (hS.out.down M.ord (by rw[HLL.out];exact hnl) (show 0 < j1 by have:=HJ1.out;have:=HJ2.out;omega) h1n (by have:=HJ1.out;have:=HJ2.out;omega) (fun a b ha hb=>by rw[HX.out] at ha;rw[HZ.out] at hb;injection ha with ha;injection hb with hb;rw[<- ha,<- hb];exact hl3) HM.out)
     go_roundw
     case rel=>exact⟨j1,xXa l i j1,rfl,by have:=HLL.out;omega,hw4,HS2⟩
     case measure=>have:=HJ1.out;have:=HJ2.out;simp[intOf];omega
   ·have h2n:j2 < n:=by omega
    have h2':j2 < l.length:=by omega
    obtain⟨y,hy⟩:∃ y,l[j2]? = some y:=⟨_,lGe h2'⟩;have HY:=lHd hy;obtain⟨A,c,hm,hc⟩:=M.less wr l j2 j1 y x hw hy HX.out;clear hy
    cases hlt:lt y x with
    | false=>
     rw[hlt] at hc;have HT:=lHd hlt;clear hlt;have HM:Hid (∀ k,0 < k->k < n->(k - 1) / 2=i->Okp lt l k j1):=lHd (vYs M.ord HJ1.out HJ2.out (fun _=>zKq HY.out HX.out HT.out))
     cases hl3:lt x z with
     | false=>
      have hch:∀ k,0 < k->k < n->(k - 1) / 2=i->Okp lt l k i:=vV6 M.ord HM.out h1' (zKq HX.out HZ.out hl3)
      by_cases hii:i0 < i
      ·have HCH:=lHd hch;clear hch
       go_wp2_with (go_at_call 200;(with_reducible refine hc.mono ?_);rintro e w2 ⟨rfl,hw2⟩;obtain⟨A,c,hm2,hc2⟩:=M.less w2 l j1 i x z hw2 HX.out HZ.out;rw[hl3] at hc2)
       go_wp2_with (go_at_call 200;(with_reducible refine hc2.mono ?_);rintro e w3 ⟨rfl,hw3⟩)
       have hch:=HCH.out;go_ret;refine⟨_,l,rfl,hw3,hS.out.perm,hS.out.beyond,fun _=>hS.out.done hch (by omega),by simp⟩
      ·have HCH:=lHd hch;clear hch;obtain rfl:i=i0:=by have:=hS.out.ge;omega
       go_wp2_with (go_at_call 200;(with_reducible refine hc.mono ?_);rintro e w2 ⟨rfl,hw2⟩;obtain⟨A,c,hm2,hc2⟩:=M.less w2 l j1 i x z hw2 HX.out HZ.out;rw[hl3] at hc2)
       go_wp2_with (go_at_call 200;(with_reducible refine hc2.mono ?_);rintro e w3 ⟨rfl,hw3⟩)
       have hch:=HCH.out;go_ret;refine⟨_,l,rfl,hw3,hS.out.perm,hS.out.beyond,by simp,fun _=>hS.out.stay hch⟩
     | true=>
      go_wp2_with (go_at_call 200;(with_reducible refine hc.mono ?_);rintro e w2 ⟨rfl,hw2⟩;obtain⟨A,c,hm2,hc2⟩:=M.less w2 l j1 i x z hw2 HX.out HZ.out;rw[hl3] at hc2)
      go_wp2_with (go_at_call 200;(with_reducible refine hc2.mono ?_);rintro e w3 ⟨rfl,hw3⟩;obtain⟨A,c,hm4,hc4⟩:=M.swap w3 l i j1 hw3 hil2 h1')
      go_wp2_with (go_at_call 203;refine hc4.mono ?_;rintro e w4 ⟨rfl,hw4⟩)
      have HS2:=lHd (hS.out.down M.ord (by rw[HLL.out];exact hnl) (show 0 < j1 by have:=HJ1.out;have:=HJ2.out;omega) h1n (by have:=HJ1.out;have:=HJ2.out;omega) (fun a b ha hb=>by rw[HX.out] at ha;rw[HZ.out] at hb;injection ha with ha;injection hb with hb;rw[<- ha,<- hb];exact hl3) HM.out)
      go_roundw
      case rel=>exact⟨j1,xXa l i j1,rfl,by have:=HLL.out;omega,hw4,HS2⟩
      case measure=>have:=HJ1.out;have:=HJ2.out;simp[intOf];omega
    | true=>
     rw[hlt] at hc;have HT:=lHd hlt;clear hlt;have HM:Hid (∀ k,0 < k->k < n->(k - 1) / 2=i->Okp lt l k j2):=lHd (Chtwo M.ord HJ1.out HJ2.out (zKq HX.out HY.out (M.ord.asym _ _ HT.out)))
     cases hl3:lt y z with
     | false=>
      have hch:∀ k,0 < k->k < n->(k - 1) / 2=i->Okp lt l k i:=vV6 M.ord HM.out h2' (zKq HY.out HZ.out hl3)
      by_cases hii:i0 < i
      ·have HCH:=lHd hch;clear hch
       go_wp2_with (go_at_call 200;(with_reducible refine hc.mono ?_);rintro e w2 ⟨rfl,hw2⟩;obtain⟨A,c,hm2,hc2⟩:=M.less w2 l j2 i y z hw2 HY.out HZ.out;rw[hl3] at hc2)
       go_wp2_with (go_at_call 200;(with_reducible refine hc2.mono ?_);rintro e w3 ⟨rfl,hw3⟩)
       have hch:=HCH.out;go_ret;refine⟨_,l,rfl,hw3,hS.out.perm,hS.out.beyond,fun _=>hS.out.done hch (by omega),by simp⟩
      ·have HCH:=lHd hch;clear hch;obtain rfl:i=i0:=by have:=hS.out.ge;omega
       go_wp2_with (go_at_call 200;(with_reducible refine hc.mono ?_);rintro e w2 ⟨rfl,hw2⟩;obtain⟨A,c,hm2,hc2⟩:=M.less w2 l j2 i y z hw2 HY.out HZ.out;rw[hl3] at hc2)
       go_wp2_with (go_at_call 200;(with_reducible refine hc2.mono ?_);rintro e w3 ⟨rfl,hw3⟩)
       have hch:=HCH.out;go_ret;refine⟨_,l,rfl,hw3,hS.out.perm,hS.out.beyond,by simp,fun _=>hS.out.stay hch⟩
     | true=>
      go_wp2_with (go_at_call 200;(with_reducible refine hc.mono ?_);rintro e w2 ⟨rfl,hw2⟩;obtain⟨A,c,hm2,hc2⟩:=M.less w2 l j2 i y z hw2 HY.out HZ.out;rw[hl3] at hc2)
      go_wp2_with (go_at_call 200;(with_reducible refine hc2.mono ?_);rintro e w3 ⟨rfl,hw3⟩;obtain⟨A,c,hm4,hc4⟩:=M.swap w3 l i j2 hw3 hil2 h2')
      go_wp2_with (go_at_call 203;refine hc4.mono ?_;rintro e w4 ⟨rfl,hw4⟩)
      have HS2:=lHd (hS.out.down M.ord (by rw[HLL.out];exact hnl) (show 0 < j2 by have:=HJ1.out;have:=HJ2.out;omega) h2n (by have:=HJ1.out;have:=HJ2.out;omega) (fun a b ha hb=>by rw[HY.out] at ha;rw[HZ.out] at hb;injection ha with ha;injection hb with hb;rw[<- ha,<- hb];exact hl3) HM.out)
      go_roundw
      case rel=>exact⟨j2,xXa l i j2,rfl,by have:=HLL.out;omega,hw4,HS2⟩
      case measure=>have:=HJ1.out;have:=HJ2.out;simp[intOf];omega
theorem vYv(M:ChMem p H lt)(w:World)(l0:List α)(x:α)(v:Value)(hh:HeapN lt l0.length l0)(hpm:∀ n w,Sem.run Tryz.prog (method (n+1) 131 (.pointer (some p)) "Push") w=.ok (202,.pointer (some p)) w)
  (hpush:Calls Tryz.prog 202 #[.pointer (some p),v] w fun e w'=>e=.returned (.tuple #[])/\H w' (l0 ++ [x])) :
  Calls Tryz.prog 72 #[.iface 131 (.pointer (some p)),v] w (ChUp H lt (l0 ++ [x])):=by
 have HH:=lHd hh;clear hh;go_enter Tryz.func72,Tryz.ntmps72;have hh1:=HH.out.snoc rfl x;obtain⟨l1,hl1⟩:∃ l1,l0 ++ [x]=l1:=⟨_,rfl⟩;have hlen:l1.length=l0.length+1:=by rw[<- hl1];simp
 rw[<- hlen,hl1] at hh1;rw[hl1] at hpush;have hl2:(l1.length:Int) - 1=(l0.length:Int):=by omega
 have hltn:l0.length < l1.length:=by omega
 have HL1:=lHd hl1;clear hl1 hlen
 go_wp2_with (go_at_call 202;(with_reducible refine hpush.mono ?_);rintro e w1 ⟨rfl,hw1⟩;obtain⟨hn,A,c,hm,hc⟩:=M.len w1 _ hw1;have hu:=Chup M w1 _ l0.length hw1 hltn hh1;clear hh1 hpush hltn)
 go_wp2_with (go_at_call 66;(with_reducible refine hc.mono ?_);rintro e w' ⟨rfl,rfl⟩)
 go_wp2_with (go_at_call 115;(with_reducible refine hu.mono ?_);rintro e w3 ⟨rfl,hw3⟩)
 go_end0
 rw[HL1.out];exact⟨rfl,hw3⟩
def vZ0(H2:World->List α->α->Prop)(val:α->Value)(lt:α->α->Bool)(l0:List α)(e:Ending)(w':World):Prop:=
 ∃ (x:α) (l:List α),e=.returned (val x)/\H2 w' l x/\HeapN lt l.length l/\(l ++ [x]).Perm l0/\∀ y∈l0,lt y x=false
theorem Chpop(M:ChMem p H lt)(w:World)(l0:List α)(H2:World->List α->α->Prop)(val:α->Value)(hH:H w l0)(h0:0 < l0.length)(hh:HeapN lt l0.length l0)(hpm:∀ n w,Sem.run Tryz.prog (method (n+1) 131 (.pointer (some p)) "Pop") w=.ok (201,.pointer (some p)) w)
  (hpop:∀ w l x,H w (l ++ [x])->Calls Tryz.prog 201 #[.pointer (some p)] w fun e w'=>e=.returned (val x)/\H2 w' l x) :
  Calls Tryz.prog 67 #[.iface 131 (.pointer (some p))] w (vZ0 H2 val lt l0):=by
 obtain⟨hn,A,c,hm,hc⟩:=M.len w l0 hH;obtain⟨n,hn1⟩:∃ n,n+1=l0.length:=⟨l0.length - 1,by omega⟩;have hn2:(l0.length:Int) - 1=(n:Int):=by omega
 have hnl:n < l0.length:=by omega
 obtain⟨A2,c2,hm2,hs⟩:=M.swap w l0 0 n hH h0 hnl;have z0:((0:Nat):Int)=0:=rfl;rw[z0] at hs;have hlen:(xXa l0 0 n).length=n+1:=by rw[xZf];omega
 have HD:Hid (HoleD lt n 0 (xXa l0 0 n)):=HeapN.pop (by rw[hn1];exact hh) hn1;have HH:=lHd hh;have HLEN:=lHd hlen;clear hh hn1 hlen;go_enter Tryz.func67,Tryz.ntmps67
 go_wp2_with (go_at_call 66;(with_reducible refine hc.mono ?_);rintro e w' ⟨rfl,rfl⟩)
 go_wp2_with (go_at_call 203;(with_reducible refine hs.mono ?_);rintro e w2 ⟨rfl,hw2⟩)
 have hd:=vYu M w2 _ 0 n hw2 (by rw[HLEN.out];omega) (by rw[HLEN.out];omega) HD.out;rw[z0] at hd
 go_wp2_with (go_at_call 106;(with_reducible refine hd.mono ?_);rintro e w3 ⟨b,l,rfl,hw3,hp,hbe,hy,hno⟩)
 have hll:l.length=n+1:=by rw[hp.length_eq,HLEN.out]
 have hz:0 < l0.length:=h0;have hlast:l[n]? = some l0[0]:=by
  rw[hbe n (Nat.le_refl _),xQp h0 hnl]
  by_cases e0:n=0
  ·rw[if_pos rfl,lGe hz]
  ·rw[if_pos rfl,lGe hz]
 have hsplit:l=l.take n ++ [l0[0]]:=by
  have h1:=List.take_append_drop n l;have h2:l.drop n=[l0[0]]:=by
   rw[List.drop_eq_getElem_cons (by omega),List.drop_eq_nil_of_le (by omega)];have h3:=lGe (show n < l.length by omega);rw[hlast] at h3;injection h3 with h3
   rw[<- h3]
  rw[h2] at h1;exact h1.symm
 have hheap:HeapN lt n l:=by
  cases b with
  | true=>exact hy (by simp)
  | false=>exact (hno (by simp)).2.done0
 have HR:Hid (HeapN lt (l.take n).length (l.take n)/\(l.take n ++ [l0[0]]).Perm l0/\∀ y∈l0,lt y l0[0]=false):=by
  refine⟨?_,?_,?_⟩
  ·rw[List.length_take,Nat.min_eq_left (by omega)];exact hheap.take
  ·rw[<- hsplit];exact hp.trans (xXm _ _ _)
  ·intro y hyy;obtain⟨k,hk,rfl⟩:=List.getElem_of_mem hyy;exact HH.out.least M.ord (Nat.le_refl _) k hk _ _ (lGe hk) (lGe hz)
 rw[hsplit] at hw3;have hpp:=hpop w3 _ _ hw3;clear hsplit hheap hlast hll hbe hy hno hp
 go_wp2_with (go_at_call 201;(with_reducible refine hpp.mono ?_);rintro e w4 ⟨rfl,hw4⟩)
 go_ret;exact⟨_,_,rfl,hw4,HR.out⟩
end
end Go.Proofs.YtpeipeljmapkmaaGreat
