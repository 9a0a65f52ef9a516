/-
  Lemmas for the law: MB, MC, Pja, Mu1, Mu2.
-/
import Derived.Test.YtpeipeljmapkmaaGreatW1
import Init
set_option linter.unusedVariables false
set_option linter.unusedSimpArgs false
set_option maxRecDepth 100000
set_option maxHeartbeats 4000000
namespace Go.Proofs.YtpeipeljmapkmaaGreat
open Go.RowKit
section
theorem zJt{xs:List Int}{n x:Int}{k:Nat}(hx:xs[k]? = some x)(h:n∉xs.take k)(hn:¬ x=n):n∉xs.take (k+1):=by
 rw[List.take_add_one,hx];simp;exact⟨h,fun e=>hn e.symm⟩
theorem xJo{α:Type}{P:α->Prop}{xs:List α}{x:α}{k:Nat}(hx:xs[k]? = some x)(h:∀ y∈xs.take k,P y)(hn:P x):∀ y∈xs.take (k+1),P y:=by
 intro y hy;rw[List.take_add_one,hx] at hy;simp at hy;rcases hy with hy | rfl
 ·exact h y hy
 ·exact hn
theorem xX4{α:Type}{P:α->Prop}{xs:List α}{k:Nat}(hk:¬ k < xs.length)(h:∀ y∈xs.take k,P y):∀ y∈xs,P y:=by
 rw[List.take_of_length_le (by omega)] at h;exact h
theorem xWx{α:Type}{xs:List α}{x:α}{k:Nat}(hx:xs[k]? = some x):k < xs.length:=(List.getElem?_eq_some_iff.1 hx).1
def SetP(l:List Int)(n:Int):Prop:=(∀ x∈l,0<=x/\x < n)/\∀ i:Nat,∀ x y:Int,l[i]? = some x->l[i+1]? = some y->x < y
noncomputable def vWv(l:List Int)(n:Int):Bool:=@decide (SetP l n) (Classical.propDecidable _)
theorem zZb{l:List Int}{n:Int}:vWv l n=true↔SetP l n:=by unfold vWv;exact @decide_eq_true_iff _ (Classical.propDecidable _)
theorem xV3{l:List Int}{n:Int}:vWv l n=false↔¬ SetP l n:=by unfold vWv;exact @decide_eq_false_iff_not _ (Classical.propDecidable _)
theorem SetP.lt{l:List Int}{n:Int}(h:SetP l n):∀ (d i:Nat) (x y:Int),l[i]? = some x->l[i+1+d]? = some y->x < y:=by
 intro d
 induction d with
 | zero=>intro i x y hx hy;exact h.2 i x y hx hy
 | succ d ih=>
  intro i x y hx hy;have hl:=xWx hy;obtain⟨z,hz⟩:∃ z,l[i+1+d]? = some z:=⟨_,lGe (by omega)⟩;exact Int.lt_trans (ih i x z hx hz) (h.2 _ z y hz hy)
theorem SetP.mono{l:List Int}{n:Int}(h:SetP l n){i j:Nat}{x y:Int}(hij:i < j)(hx:l[i]? = some x)(hy:l[j]? = some y):x < y:=
 h.lt (j - i - 1) i x y hx (by rw[show i+1+(j - i - 1)=j by omega];exact hy)
theorem SetP.inj{l:List Int}{n:Int}(h:SetP l n){i j:Nat}{x:Int}(hx:l[i]? = some x)(hy:l[j]? = some x):i=j:=by
 rcases Nat.lt_trichotomy i j with e | e | e
 ·exact absurd (h.mono e hx hy) (by omega)
 ·exact e
 ·exact absurd (h.mono e hy hx) (by omega)
theorem SetP.nil(n:Int):SetP [] n:=⟨by simp,by simp⟩
theorem SetP.ge{l:List Int}{n:Int}(h:SetP l n):∀ (i:Nat) (x:Int),l[i]? = some x->(i:Int)<=x:=by
 intro i
 induction i with
 | zero=>intro x hx;exact (h.1 x (lMg hx)).1
 | succ i ih=>
  intro x hx;have hl:=xWx hx;obtain⟨z,hz⟩:∃ z,l[i]? = some z:=⟨_,lGe (by omega)⟩;have:=ih z hz;have:=h.2 i z x hz hx;omega
theorem SetP.length{l:List Int}{n:Int}(h:SetP l n)(hn:0<=n):(l.length:Int)<=n:=by
 rcases Nat.eq_zero_or_pos l.length with e | e
 ·omega
 ·obtain⟨z,hz⟩:∃ z,l[l.length - 1]? = some z:=⟨_,lGe (by omega)⟩;have h1:=h.ge _ _ hz;have h2:=(h.1 z (lMg hz)).2;omega
theorem SetP.ext{a b:List Int}{n m:Int}(ha:SetP a n)(hb:SetP b m)(h:∀ x,x∈a↔x∈b):a=b:=by
 have pa:a.Pairwise (· < ·):=by
  rw[List.pairwise_iff_getElem];intro i j hi hj hij;exact ha.mono hij (lGe hi) (lGe hj)
 have pb:b.Pairwise (· < ·):=by
  rw[List.pairwise_iff_getElem];intro i j hi hj hij;exact hb.mono hij (lGe hi) (lGe hj)
 have na:a.Nodup:=pa.imp (fun h=>Int.ne_of_lt h);have nb:b.Nodup:=pb.imp (fun h=>Int.ne_of_lt h);have hp:a.Perm b:=(List.perm_ext_iff_of_nodup na nb).2 h;exact hp.eq_of_pairwise (fun x y _ _ h1 h2=>by omega) pa pb
theorem SetP.pairwise{a:List Int}{n:Int}(ha:SetP a n):a.Pairwise (· < ·):=by
 rw[List.pairwise_iff_getElem];intro i j hi hj hij;exact ha.mono hij (lGe hi) (lGe hj)
theorem SetP.of_pairwise{a:List Int}{n:Int}(h1:∀ x∈a,0<=x/\x < n)(h2:a.Pairwise (· < ·)):SetP a n:=by
 refine⟨h1,fun i x y hx hy=>?_⟩;obtain⟨hi,rfl⟩:=List.getElem?_eq_some_iff.1 hx;obtain⟨hj,rfl⟩:=List.getElem?_eq_some_iff.1 hy;exact List.pairwise_iff_getElem.1 h2 i (i+1) hi hj (by omega)
theorem xVg{xs:List Int}{n x:Int}{k:Nat}(hx:xs[k]? = some x)(h:SetP (xs.take k) n)(h0:0<=x)(hn:x < n)(hp:0 < k->∀ y,xs[k - 1]? = some y->y < x):SetP (xs.take (k+1)) n:=by
 refine⟨xJo hx h.1 ⟨h0,hn⟩,fun i a b ha hb=>?_⟩;have hl:=xWx hb;rw[List.length_take] at hl;rw[List.getElem?_take_of_lt (by omega)] at ha hb
 by_cases e:i+1=k
 ·subst e;rw[hx] at hb;injection hb with hb
  subst hb;exact hp (by omega) a (by simpa using ha)
 ·exact h.2 i a b (by rw[List.getElem?_take_of_lt (by omega)];exact ha) (by rw[List.getElem?_take_of_lt (by omega)];exact hb)
theorem xKp{xs:List Int}{n x:Int}{k:Nat}(hx:xs[k]? = some x)(h:x < 0\/n<=x):¬ SetP xs n:=fun hs=>by
 have:=hs.1 x (lMg hx);omega
theorem zJu{xs:List Int}{n x y:Int}{k:Nat}(hk:0 < k)(hy:xs[k - 1]? = some y)(hx:xs[k]? = some x)(h:x<=y):¬ SetP xs n:=fun hs=>by
 have:=hs.2 (k - 1) y x hy (by rw[show k - 1+1=k by omega];exact hx);omega
theorem vVn{xs:List Int}{n:Int}{k:Nat}(hk:¬ k < xs.length)(h:SetP (xs.take k) n):SetP xs n:=by
 rw[List.take_of_length_le (by omega)] at h;exact h
theorem zZc{xs ys:List Int}{k:Nat}{x:Int}(hx:xs[k]? = some x)(hy:ys[k]? = some x)(h:xs.take k=ys.take k):xs.take (k+1)=ys.take (k+1):=by
 rw[List.take_add_one,List.take_add_one,hx,hy,h]
theorem vVo(A B:Option Addr)(c d:Nat)(xs ys:List Int)(w:World)(hI:Ints w A xs)(hJ:Ints w B ys)(hl:xs.length<=9223372036854775807)(hm:ys.length<=9223372036854775807) :
  Calls Tryz.prog 32 #[.slice A xs.length c,.slice B ys.length d] w fun e w'=>e=.returned (.bool (decide (xs=ys)))/\Below w.heap.size w w':=by
 by_cases hlen:xs.length=ys.length
 ·have hlen':((xs.length:Int) != (ys.length:Int))=false:=by simp[hlen]
  have hle1:xs.length<=ys.length:=by omega
  have hle2:ys.length<=xs.length:=by omega
  clear hlen;go_enter Tryz.func32,Tryz.ntmps32;go_wp2
  go_loopw [5] (fun i wr=>∃ k:Nat,k<=xs.length/\i=.int .i64 k/\Hid (xs.take k=ys.take k)/\Below w.heap.size w wr) (fun i _=>xs.length - (intOf i).toNat)
  case atStart=>exact⟨0,Nat.zero_le _,rfl,lHd (by simp),Below.refl _ _⟩
  case round=>
   obtain⟨k,hk,rfl,hno,hB⟩:=hrel
   by_cases hlt:k < xs.length
   ·have hlt2:k < ys.length:=by omega
    obtain⟨ad,x,rfl,hx,hc⟩:=(hI.below hB).at_ hlt;obtain⟨bd,y,rfl,hy,hd⟩:=(hJ.below hB).at_ hlt2
    by_cases hxn:x=y
    ·subst hxn;go_wp2
     go_quiet (fail)
     go_wp2
     go_roundw
     case rel=>exact⟨k+1,by omega,by go_num,lHd (zZc hx.out hy.out hno.out),below_drewN hB _⟩
     case measure=>simp[intOf];omega
    ·have hb:(x != y)=true:=by simpa using hxn
     go_wp2
     go_quiet (fail)
     go_wp2;go_ret;refine⟨xJh (decide_eq_false (fun h=>hxn ?_)).symm,below_drewN hB _⟩;have h1:=hx.out;have h2:=hy.out;rw[h,h2] at h1;injection h1 with h1
     exact h1.symm
   ·go_wp2;go_ret;refine⟨xJh (decide_eq_true ?_).symm,hB⟩;have:=hno.out;rw[List.take_of_length_le (by omega),List.take_of_length_le (by omega)] at this;exact this
 ·have hlen':((xs.length:Int) != (ys.length:Int))=true:=by simp;omega
  go_enter Tryz.func32,Tryz.ntmps32;go_wp2;go_ret;exact⟨xJh (decide_eq_false (fun h=>hlen (by rw[h]))).symm,Below.refl _ _⟩
theorem zZd(A:Option Addr)(c:Nat)(xs:List Int)(n:Int)(w:World)(hI:Ints w A xs)(hl:xs.length<=9223372036854775807) :
  Calls Tryz.prog 62 #[.slice A xs.length c,.int .i64 n] w fun e w'=>e=.returned (.bool (vWv xs n))/\w=w':=by
 go_enter Tryz.func62,Tryz.ntmps62;go_wp2
 go_loop [9] (fun i=>∃ k:Nat,k<=xs.length/\i=.int .i64 k/\Hid (SetP (xs.take k) n)) (fun i=>xs.length - (intOf i).toNat)
 case atStart=>exact⟨0,Nat.zero_le _,rfl,lHd (by simpa using SetP.nil n)⟩
 case round=>
  obtain⟨k,hk,rfl,hS⟩:=hrel
  by_cases hlt:k < xs.length
  ·obtain⟨ad,x,rfl,hx,hc⟩:=hI.at_ hlt
   by_cases h1:x < 0
   ·go_wp2;go_ret;exact⟨xJh (xV3.2 (xKp hx.out (Or.inl h1))).symm,rfl⟩
   ·by_cases h2:n<=x
    ·go_wp2;go_ret;exact⟨xJh (xV3.2 (xKp hx.out (Or.inr h2))).symm,rfl⟩
    ·by_cases hk0:k=0
     ·subst hk0;rw[add_zero] at hc;go_wp2
      go_round
      case rel=>exact⟨1,by omega,rfl,lHd (xVg hx.out hS.out (by omega) (by omega) (fun h=>absurd h (by omega)))⟩
      case measure=>simp[intOf];omega
     ·have hk1:0 < k:=by omega
      obtain⟨bd,y,e,hy,hd⟩:=hI.at_ (show k - 1 < xs.length by omega);injection e with e
      subst e
      by_cases h3:x<=y
      ·go_wp2;go_ret;exact⟨xJh (xV3.2 (zJu hk1 hy.out hx.out h3)).symm,rfl⟩
      ·go_wp2
       go_round
       case rel=>
        refine⟨k+1,by omega,by go_num,lHd (xVg hx.out hS.out (by omega) (by omega) (fun _ z hz=>?_))⟩;have:=hy.out;rw[this] at hz;injection hz with hz
        omega
       case measure=>simp[intOf];omega
  ·go_wp2;go_ret;exact⟨xJh (zZb.2 (vVn hlt hS.out)).symm,rfl⟩
theorem xJj(A:Option Addr)(c:Nat)(xs:List Int)(n:Int)(w:World)(hI:Ints w A xs)(hl:xs.length<=9223372036854775807)(h:SetP xs n) :
  Calls Tryz.prog 62 #[.slice A xs.length c,.int .i64 n] w fun e w'=>e=.returned (.bool true)/\w=w':=
 (zZd A c xs n w hI hl).mono fun e w' hh=>⟨by rw[hh.1,zZb.2 h],hh.2⟩
theorem xVt(A:Option Addr)(c:Nat)(xs:List Int)(n:Int)(w:World)(hI:Ints w A xs)(hl:xs.length<=9223372036854775807)(h:¬ SetP xs n) :
  Calls Tryz.prog 62 #[.slice A xs.length c,.int .i64 n] w fun e w'=>e=.returned (.bool false)/\w=w':=
 (zZd A c xs n w hI hl).mono fun e w' hh=>⟨by rw[hh.1,xV3.2 h],hh.2⟩
theorem zW0(x:Int)(w:World):Calls Tryz.prog 142 #[.int .i64 x] w fun e w'=>e=.returned (.bool false)/\w=w':=by
 go_enter Tryz.func142,Tryz.ntmps142;go_wp2;go_ret;exact⟨by simp,rfl⟩
theorem vXf(x:Int)(w:World):Calls Tryz.prog 120 #[.int .i64 x] w fun e w'=>e=.returned (.bool false)/\w=w':=by
 go_enter Tryz.func120,Tryz.ntmps120;go_wp2;go_ret;exact⟨by simp,rfl⟩
theorem zYc(x y:Int)(w:World):Calls Tryz.prog 119 #[.int .i64 x,.int .i64 y] w fun e w'=>e=.returned (.bool (decide (x < y)))/\w=w':=by
 by_cases h:x < y
 all_goals
  go_enter Tryz.func119,Tryz.ntmps119
  go_wp2_with fail
  refine (zW0 _ _).mono ?_;rintro e w' ⟨rfl,rfl⟩;go_wp2;go_ret;exact⟨xJh (by simp <;> omega),rfl⟩
theorem vKj{ys:List Int}(hs:ys.Pairwise (· < ·)){k:Nat}{x:Int}(lo:∀ j:Nat,∀ y:Int,j < k->ys[j]? = some y->y < x)(hi:∀ j:Nat,∀ y:Int,k<=j->ys[j]? = some y->x<=y) :
  x∈ys↔ys[k]? = some x:=by
 constructor
 ·intro h;obtain⟨j,hj⟩:=List.mem_iff_getElem?.1 h;rcases Nat.lt_trichotomy j k with e | e | e
  ·have:=lo j x e hj;omega
  ·subst e;exact hj
  ·have hl:=xWx hj;obtain⟨z,hz⟩:∃ z,ys[k]? = some z:=⟨_,lGe (by omega)⟩;have h1:=hi k z (Nat.le_refl _) hz;obtain⟨hk1,rfl⟩:=List.getElem?_eq_some_iff.1 hz;obtain⟨hj1,rfl⟩:=List.getElem?_eq_some_iff.1 hj;have:=List.pairwise_iff_getElem.1 hs k j hk1 hj1 e;omega
 ·exact fun h=>lMg h
def vKk(ys:List Int)(x:Int)(w:World)(e:Ending)(w':World):Prop:=
 ∃ k:Nat,e=.returned (.tuple #[.int .i64 k,.bool (decide (x∈ys))])/\k<=ys.length/\(∀ j:Nat,∀ y:Int,j < k->ys[j]? = some y->y < x)/\(∀ j:Nat,∀ y:Int,k<=j->ys[j]? = some y->x<=y)/\Below w.heap.size w w'
theorem vKl(B:Option Addr)(d:Nat)(ys:List Int)(x:Int)(w:World)(hJ:Ints w B ys)(hl:ys.length<=1000000000000)(hs:ys.Pairwise (· < ·)) :
  Calls Tryz.prog 78 #[.slice B ys.length d,.int .i64 x] w (vKk ys x w):=by
 go_enter Tryz.func78,Tryz.ntmps78;go_wp2
 go_loop [7,8] (fun a b=>∃ i j:Nat,i<=j/\j<=ys.length/\a=.int .i64 i/\b=.int .i64 j/\Hid (∀ k:Nat,∀ y:Int,k < i->ys[k]? = some y->y < x)/\Hid (∀ k:Nat,∀ y:Int,j<=k->ys[k]? = some y->x<=y)) (fun a b=>(intOf b).toNat - (intOf a).toNat)
 case atStart=>exact⟨0,ys.length,by omega,by omega,rfl,rfl,lHd (fun k y h=>absurd h (by omega)),lHd (fun k y h hy=>absurd (xWx hy) (by omega))⟩
 case round=>
  obtain⟨i,j,hij,hj,rfl,rfl,H1,H2⟩:=hrel
  by_cases hlt:i < j
  ·have m1:i<=(i+j) / 2:=by omega
   have m2:(i+j) / 2 < j:=by omega
   obtain⟨ad,y,rfl,hy,hc⟩:=hJ.at_ (show (i+j) / 2 < ys.length by omega);have HS:=lHd hs;clear hs;have key:y < x->∀ k:Nat,∀ z:Int,k < (i+j) / 2+1->ys[k]? = some z->z < x:=fun h k z hk hz=>by
    by_cases e:k=(i+j) / 2
    ·subst e;rw[hy.out] at hz;injection hz with hz;omega
    ·obtain⟨a1,rfl⟩:=List.getElem?_eq_some_iff.1 hz;obtain⟨a2,b2⟩:=List.getElem?_eq_some_iff.1 hy.out;have:=List.pairwise_iff_getElem.1 HS.out k ((i+j) / 2) a1 a2 (by omega);omega
   have key2:¬ y < x->∀ k:Nat,∀ z:Int,(i+j) / 2<=k->ys[k]? = some z->x<=z:=fun h k z hk hz=>by
    by_cases e:k=(i+j) / 2
    ·subst e;rw[hy.out] at hz;injection hz with hz;omega
    ·obtain⟨a1,rfl⟩:=List.getElem?_eq_some_iff.1 hz;obtain⟨a2,b2⟩:=List.getElem?_eq_some_iff.1 hy.out;have:=List.pairwise_iff_getElem.1 HS.out ((i+j) / 2) k a2 a1 (by omega);omega
   have K1:=lHd key;have K2:=lHd key2;clear key key2
   by_cases hc2:y < x
   ·skip
    go_wp2_with fail
    refine (zYc _ _ _).mono ?_;rintro e w' ⟨he,rfl⟩;rw[decide_eq_true (show y < x by omega)] at he;subst he;go_wp2
    go_round
    case rel=>exact⟨(i+j) / 2+1,j,by omega,hj,by go_num,rfl,lHd (K1.out (by omega)),H2⟩
    case measure=>simp[intOf];omega
   ·skip
    go_wp2_with fail
    refine (zYc _ _ _).mono ?_;rintro e w' ⟨he,rfl⟩;rw[decide_eq_false (show ¬ y < x by omega)] at he;subst he;go_wp2
    go_round
    case rel=>exact⟨i,(i+j) / 2,by omega,by omega,rfl,by go_num,H1,lHd (K2.out (by omega))⟩
    case measure=>simp[intOf];omega
  ·obtain rfl:i=j:=by omega
   have hm:=vKj hs H1.out H2.out;have HM:=lHd hm;clear hs hm
   by_cases hin:i < ys.length
   ·obtain⟨ad,y,rfl,hy,hc⟩:=hJ.at_ hin
    by_cases hyx:y=x
    ·have HT:=lHd (HM.out.2 (by rw[hy.out,hyx]));subst hyx;go_wp2
     go_ret2
     exact⟨i,by rw[decide_eq_true HT.out];rfl,hj,H1.out,H2.out,Below.refl _ _⟩
    ·have HT:Hid (¬ x∈ys):=lHd (fun h=>hyx (by have h1:=HM.out.1 h;have h2:=hy.out;rw[h2] at h1;injection h1));have hb:(y == x)=false:=by simpa using hyx
     go_wp2_with fail
     refine (vXf _ _).mono ?_;rintro e w' ⟨rfl,rfl⟩;go_wp2
     go_ret2
     exact⟨i,by rw[decide_eq_false HT.out];rfl,hj,H1.out,H2.out,Below.refl _ _⟩
   ·have HT:Hid (¬ x∈ys):=lHd (fun h=>hin (xWx (HM.out.1 h)));go_wp2
    go_ret2
    exact⟨i,by rw[decide_eq_false HT.out];rfl,hj,H1.out,H2.out,Below.refl _ _⟩
def xXm(F:FuncId):Prop:=∀ (args:Array Value) (w:World),(callFunc F args).run Tryz.prog w=.ok (.enter F args) w
def vVp(F:FuncId)(q:Value)(xs:List Int)(p:Int->Bool)(w:World):Prop:=
 ∀ x∈xs,∀ wr:World,Below w.heap.size w wr->Calls Tryz.prog F #[.int .i64 x,q] wr fun e w'=>e=.returned (.bool (p x))/\Below wr.heap.size wr w'
def vXg(xs:List Int)(w:World)(e:Ending)(w':World):Prop:=∃ k:Nat,e=.returned (.int .i64 k)/\k < xs.length/\Below w.heap.size w w'
theorem zJv(A:Option Addr)(c:Nat)(xs:List Int)(F:FuncId)(q:Value)(p:Int->Bool)(w:World)(hI:Ints w A xs)(hl:xs.length<=9223372036854775807)(hE:xXm F)(hf:vVp F q xs p w)(hp:∃ x∈xs,p x=true) :
  Calls Tryz.prog 88 #[.slice A xs.length c,.func (.func F) #[] #[q]] w (vXg xs w):=by
 have HP:=lHd hp;have hE':∀ (args:Array Value) (w:World),(callFunc F args).run Tryz.prog w=.ok (.enter F args) w:=hE;clear hp hE;go_enter Tryz.func88,Tryz.ntmps88;go_wp2
 go_loopw [8] (fun i wr=>∃ k:Nat,k<=xs.length/\i=.int .i64 k/\Hid (∀ x∈xs.take k,p x=false)/\Below w.heap.size w wr) (fun i _=>xs.length - (intOf i).toNat)
 case atStart=>exact⟨0,Nat.zero_le _,rfl,lHd (by simp),Below.refl _ _⟩
 case round=>
  obtain⟨k,hk,rfl,hno,hB⟩:=hrel
  by_cases hlt:k < xs.length
  ·obtain⟨ad,x,rfl,hx,hc⟩:=(hI.below hB).at_ hlt;have hm:x∈xs:=lMg hx.out;have HM:=lHd hm;clear hm
   by_cases hpx:p x=true
   ·go_wp2_with fail
    refine (hf x HM.out _ hB).mono ?_;rintro e w1 ⟨rfl,hB1⟩;go_wp2;go_ret;exact⟨k,rfl,hlt,hB.trans (hB1.mono hB.size)⟩
   ·have hpx':p x=false:=by simpa using hpx
    have HX:=lHd hpx'
    go_wp2_with fail
    refine (hf x HM.out _ hB).mono ?_;rintro e w1 ⟨he,hB1⟩;rw[HX.out] at he;subst he;have D1:=hB.trans (hB1.mono hB.size);go_wp2
    go_roundw
    case rel=>exact⟨k+1,by omega,by go_num,lHd (xJo hx.out hno.out HX.out),D1⟩
    case measure=>simp[intOf];omega
  ·exfalso;obtain⟨x,hx,hpx⟩:=HP.out;have:=xX4 hlt hno.out x hx;rw[hpx] at this
   cases this
theorem zZe(A:Option Addr)(c:Nat)(xs:List Int)(F:FuncId)(q:Value)(p:Int->Bool)(w:World)(hI:Ints w A xs)(hl:xs.length<=9223372036854775807)(hE:xXm F)(hf:vVp F q xs p w)(hp:∀ x∈xs,p x=false) :
  Calls Tryz.prog 88 #[.slice A xs.length c,.func (.func F) #[] #[q]] w fun e w'=>e=.returned (.int .i64 (-1))/\Below w.heap.size w w':=by
 have HP:=lHd hp;have hE':∀ (args:Array Value) (w:World),(callFunc F args).run Tryz.prog w=.ok (.enter F args) w:=hE;clear hp hE;go_enter Tryz.func88,Tryz.ntmps88;go_wp2
 go_loopw [8] (fun i wr=>∃ k:Nat,k<=xs.length/\i=.int .i64 k/\Below w.heap.size w wr) (fun i _=>xs.length - (intOf i).toNat)
 case atStart=>exact⟨0,Nat.zero_le _,rfl,Below.refl _ _⟩
 case round=>
  obtain⟨k,hk,rfl,hB⟩:=hrel
  by_cases hlt:k < xs.length
  ·obtain⟨ad,x,rfl,hx,hc⟩:=(hI.below hB).at_ hlt;have hm:x∈xs:=lMg hx.out;have HM:=lHd hm;clear hm
   go_wp2_with fail
   refine (hf x HM.out _ hB).mono ?_;rintro e w1 ⟨he,hB1⟩;rw[HP.out x HM.out] at he;subst he;have D1:=hB.trans (hB1.mono hB.size);go_wp2
   go_roundw
   case rel=>exact⟨k+1,by omega,by go_num,D1⟩
   case measure=>simp[intOf];omega
  ·go_wp2;go_ret;exact⟨rfl,hB⟩
theorem xYy(A:Option Addr)(c:Nat)(xs:List Int)(F:FuncId)(q:Value)(p:Int->Bool)(w:World)(hI:Ints w A xs)(hl:xs.length<=9223372036854775807)(hE:xXm F)(hf:vVp F q xs p w) :
  Calls Tryz.prog 38 #[.slice A xs.length c,.func (.func F) #[] #[q]] w fun e w'=>e=.returned (.bool (decide (∃ x∈xs,p x=true)))/\Below w.heap.size w w':=by
 by_cases hp:∃ x∈xs,p x=true
 ·rw[decide_eq_true hp];have HP:=lHd hp;clear hp;go_enter Tryz.func38,Tryz.ntmps38
  go_wp2_with fail
  refine (zJv A c xs F q p _ hI hl hE hf HP.out).mono ?_;rintro e w' ⟨k,rfl,hk,hB⟩;go_wp2;go_ret;exact⟨xJh (by simp),hB⟩
 ·rw[decide_eq_false hp];have HP:Hid (∀ x∈xs,p x=false):=lHd (fun x hx=>by
   cases h:p x with
   | false=>rfl
   | true=>exact absurd ⟨x,hx,h⟩ hp)
  clear hp;go_enter Tryz.func38,Tryz.ntmps38
  go_wp2_with fail
  refine (zZe A c xs F q p _ hI hl hE hf HP.out).mono ?_;rintro e w' ⟨rfl,hB⟩;go_wp2;go_ret;exact⟨rfl,hB⟩
theorem zJw:xXm 117:=fun args w=>by kernel_rfl
theorem zW1(b:Nat)(B:Option Addr)(d:Nat)(ys:List Int)(x:Int)(w:World)(hb:w.cell? ⟨b,0,none⟩=some (.slice B ys.length d))(hJ:Ints w B ys)(hl:ys.length<=1000000000000)(hs:ys.Pairwise (· < ·)) :
  Calls Tryz.prog 117 #[.int .i64 x,.pointer (some ⟨b,0,none⟩)] w fun e w'=>e=.returned (.bool (decide (x∈ys)))/\Below w.heap.size w w':=by
 have HS:=lHd hs;clear hs;go_enter Tryz.func117,Tryz.ntmps117
 go_wp2_with fail
 refine (vKl _ _ _ _ _ hJ hl HS.out).mono ?_;rintro e w1 ⟨k,rfl,_,_,_,hB⟩;go_wp2;go_ret;exact⟨rfl,hB⟩
theorem xVu(A B:Option Addr)(c d:Nat)(xs ys:List Int)(w:World)(hI:Ints w A xs)(hJ:Ints w B ys)(hl:xs.length<=9223372036854775807)(hm:ys.length<=1000000000000)(hs:ys.Pairwise (· < ·)) :
  Calls Tryz.prog 75 #[.slice A xs.length c,.slice B ys.length d] w fun e w'=>e=.returned (.bool (decide (∃ x∈xs,x∈ys)))/\Below w.heap.size w w':=by
 have HS:=lHd hs;clear hs;have D0:Below w.heap.size w (w.alloc (.cells #[.slice B ys.length d] 22)):=(Below.refl _ _).alloc (Nat.le_refl _) _;have hc:(w.alloc (.cells #[.slice B ys.length d] 22)).cell? ⟨w.heap.size,0,none⟩=some (.slice B ys.length d):=by simp[go_sem]
 have hT:vVp 117 (.pointer (some ⟨w.heap.size,0,none⟩)) xs (fun x=>decide (x∈ys)) (w.alloc (.cells #[.slice B ys.length d] 22)):=by
  intro x _ wr hB;have hc':wr.cell? ⟨w.heap.size,0,none⟩=some (.slice B ys.length d):=(hB.cell (World.block_lt_of_cell? _ _ hc)).trans hc;exact zW1 w.heap.size B d ys x wr hc' ((hJ.below D0).below hB) hm HS.out
 go_enter Tryz.func75,Tryz.ntmps75
 go_wp2_with fail
 refine (xYy A c xs _ _ (fun x=>decide (x∈ys)) _ (hI.below D0) hl zJw hT).mono ?_;rintro e w1 ⟨rfl,hB⟩;go_wp2;go_ret;exact⟨xJh (by simp),xJ4 w hB D0⟩
theorem vXh(A:Option Addr)(c:Nat)(xs:List Int)(n:Int)(w:World)(hI:Ints w A xs)(hl:xs.length<=9223372036854775807)(h:n∈xs) :
  Calls Tryz.prog 116 #[.slice A xs.length c,.int .i64 n] w (vXg xs w):=by
 have HP:=lHd h;clear h;go_enter Tryz.func116,Tryz.ntmps116;go_wp2
 go_loop [8] (fun i=>∃ k:Nat,k<=xs.length/\i=.int .i64 k/\Hid (n∉xs.take k)) (fun i=>xs.length - (intOf i).toNat)
 case atStart=>exact⟨0,Nat.zero_le _,rfl,lHd (by simp)⟩
 case round=>
  obtain⟨k,hk,rfl,hno⟩:=hrel
  by_cases hlt:k < xs.length
  ·obtain⟨ad,x,rfl,hx,hc⟩:=hI.at_ hlt
   by_cases hxn:n=x
   ·subst hxn;go_wp2;go_ret;exact⟨k,rfl,hlt,Below.refl _ _⟩
   ·have hb:(n == x)=false:=by simpa using hxn
    go_wp2
    go_round
    case rel=>exact⟨k+1,by omega,by go_num,lHd (zJt hx.out hno.out (fun e=>hxn e.symm))⟩
    case measure=>simp[intOf];omega
  ·exact absurd HP.out (by have:=hno.out;rw[List.take_of_length_le (by omega)] at this;exact this)
theorem vVq(A:Option Addr)(c:Nat)(xs:List Int)(n:Int)(w:World)(hI:Ints w A xs)(hl:xs.length<=9223372036854775807)(h:¬ n∈xs) :
  Calls Tryz.prog 116 #[.slice A xs.length c,.int .i64 n] w fun e w'=>e=.returned (.int .i64 (-1))/\w=w':=by
 have HP:=lHd h;clear h;go_enter Tryz.func116,Tryz.ntmps116;go_wp2
 go_loop [8] (fun i=>∃ k:Nat,k<=xs.length/\i=.int .i64 k) (fun i=>xs.length - (intOf i).toNat)
 case atStart=>exact⟨0,Nat.zero_le _,rfl⟩
 case round=>
  obtain⟨k,hk,rfl⟩:=hrel
  by_cases hlt:k < xs.length
  ·obtain⟨ad,x,rfl,hx,hc⟩:=hI.at_ hlt;have hb:(n == x)=false:=by
    have:¬ n=x:=fun e=>HP.out (by rw[e];exact lMg hx.out)
    simpa using this
   go_wp2
   go_round
   case rel=>exact⟨k+1,by omega,by go_num⟩
   case measure=>simp[intOf];omega
  ·go_wp2;go_ret;exact⟨rfl,rfl⟩
theorem zZf(A:Option Addr)(c:Nat)(xs:List Int)(n:Int)(w:World)(hI:Ints w A xs)(hl:xs.length<=9223372036854775807) :
  Calls Tryz.prog 74 #[.slice A xs.length c,.int .i64 n] w fun e w'=>e=.returned (.bool (decide (n∈xs)))/\Below w.heap.size w w':=by
 by_cases hp:n∈xs
 ·rw[decide_eq_true hp];have HP:=lHd hp;clear hp;go_enter Tryz.func74,Tryz.ntmps74
  go_wp2_with fail
  refine (vXh A c xs n _ hI hl HP.out).mono ?_;rintro e w' ⟨k,rfl,hk,hB⟩;go_wp2;go_ret;exact⟨xJh (by simp),hB⟩
 ·rw[decide_eq_false hp];have HP:=lHd hp;clear hp;go_enter Tryz.func74,Tryz.ntmps74
  go_wp2_with fail
  refine (vVq A c xs n _ hI hl HP.out).mono ?_;rintro e w' ⟨rfl,rfl⟩;go_wp2;go_ret;exact⟨rfl,Below.refl _ _⟩
theorem xZh(w:World)(v:Value)(e:TypeId)(b:Nat)(hb:b=w.heap.size):(w.alloc (.cells #[v] e)).cell? ⟨b,0,none⟩=some v:=by
 subst hb;simp
def Drawn(w w':World):Prop:=∃ m,w'=w.drewN m
theorem Drawn.refl(w:World):Drawn w w:=⟨0,rfl⟩
theorem Drawn.drewN{w w':World}(h:Drawn w w')(k:Nat):Drawn w (w'.drewN k):=by
 obtain⟨m,rfl⟩:=h;exact⟨m+k,by rw[World.drewN_drewN]⟩
theorem Drawn.below{w w':World}(h:Drawn w w'):Below w.heap.size w w':=by
 obtain⟨m,rfl⟩:=h;exact below_drewN (Below.refl _ _) m
end
section
def xXa(a b:Int):Int:=if a=1000000000\/b=1000000000 then 1000000000 else if a+b>=1000000000 then 999999999 else a+b
theorem xW1{a b:Int}(h:a=1000000000\/b=1000000000):xXa a b=1000000000:=by unfold xXa;rw[if_pos h]
theorem vZt{a b:Int}(h:¬ (a=1000000000\/b=1000000000))(h2:a+b>=1000000000):xXa a b=999999999:=by unfold xXa;rw[if_neg h,if_pos h2]
theorem vZu{a b:Int}(h:¬ (a=1000000000\/b=1000000000))(h2:¬ a+b>=1000000000):xXa a b=a+b:=by unfold xXa;rw[if_neg h,if_neg h2]
def InV(v:Int):Prop:=0<=v/\v<=1000000000
theorem InV.zero:InV 0:=by unfold InV;omega
theorem InV.inf:InV 1000000000:=by unfold InV;omega
theorem zXf{a b:Int}(ha:InV a)(hb:InV b):InV (xXa a b):=by unfold InV at *;unfold xXa;split <;> (try split) <;> omega
theorem zJ5{a b c d:Int}(ha:InV a)(hb:InV b)(hc:InV c)(hd:InV d)(h:a<=c)(k:b<=d):xXa a b<=xXa c d:=by unfold InV at *;unfold xXa;(repeat split) <;> omega
def xJ2(vs:List Int)(p:Int):Int:=(vs[p.toNat]?).getD 0
def xXo(sum:Bool)(o v:Int):Int:=match sum with | true=>xXa o v | false=>if v > o then v else o
def xJu(sum:Bool)(vs:List Int)(xs:List Int):Int:=xs.foldl (fun o p=>xXo sum o (xJ2 vs p)) 0
def xQd(vs:List Int):Prop:=∀ v∈vs,InV v
theorem xK7{s:Bool}{o v:Int}(ho:InV o)(hv:InV v):InV (xXo s o v):=by
 cases s
 ·unfold xXo InV at *;dsimp only;split <;> omega
 ·exact zXf ho hv
theorem xX7{vs:List Int}(h:xQd vs)(p:Int):InV (xJ2 vs p):=by
 unfold xJ2
 cases e:vs[p.toNat]? with
 | none=>exact InV.zero
 | some v=>exact h v (lMg e)
theorem xJ5{vs:List Int}{p v:Int}(h:vs[p.toNat]? = some v):xJ2 vs p=v:=by unfold xJ2;rw[h];rfl
theorem vY6{s:Bool}{vs:List Int}(h:xQd vs):∀ (xs:List Int) (o:Int),InV o->InV (xs.foldl (fun o p=>xXo s o (xJ2 vs p)) o):=by
 intro xs
 induction xs with
 | nil=>intro o ho;exact ho
 | cons x xs ih=>intro o ho;exact ih _ (xK7 ho (xX7 h x))
theorem xXk{s:Bool}{vs:List Int}(h:xQd vs)(xs:List Int):InV (xJu s vs xs):=vY6 h xs 0 InV.zero
theorem xQx{s:Bool}{vs:List Int}:xJu s vs []=0:=rfl
theorem xW2{s:Bool}{vs xs:List Int}{k:Nat}{x v:Int}(hx:xs[k]? = some x)(hv:vs[x.toNat]? = some v):xJu s vs (xs.take (k+1))=xXo s (xJu s vs (xs.take k)) v:=by
 unfold xJu;rw[List.take_add_one,hx];simp only[Option.toList,List.foldl_append,List.foldl_cons,List.foldl_nil];rw[xJ5 hv]
theorem xWl{s:Bool}{vs xs:List Int}{k:Nat}(h:¬ k < xs.length):xJu s vs (xs.take k)=xJu s vs xs:=by rw[List.take_of_length_le (by omega)]
theorem zWk{s:Bool}{o v o' v':Int}(ho:InV o)(hv:InV v)(ho':InV o')(hv':InV v')(h:o<=o')(k:v<=v'):xXo s o v<=xXo s o' v':=by
 cases s
 ·unfold xXo;dsimp only;(repeat split) <;> omega
 ·exact zJ5 ho hv ho' hv' h k
def LeV(U V:List Int):Prop:=∀ p,xJ2 U p<=xJ2 V p
theorem zWl{s:Bool}{U V:List Int}(hU:xQd U)(hV:xQd V)(h:LeV U V):∀ (xs:List Int) (o o':Int),InV o->InV o'->o<=o' ->
  xs.foldl (fun o p=>xXo s o (xJ2 U p)) o<=xs.foldl (fun o p=>xXo s o (xJ2 V p)) o':=by
 intro xs
 induction xs with
 | nil=>intro o o' _ _ h;exact h
 | cons x xs ih=>
  intro o o' ho ho' hle;exact ih _ _ (xK7 ho (xX7 hU x)) (xK7 ho' (xX7 hV x)) (zWk ho (xX7 hU x) ho' (xX7 hV x) hle (h x))
theorem zWm{s:Bool}{U V:List Int}(hU:xQd U)(hV:xQd V)(h:LeV U V)(xs:List Int):xJu s U xs<=xJu s V xs:=zWl hU hV h xs 0 0 InV.zero InV.zero (Int.le_refl _)
def opV(s:Bool)(V:List Int)(o:OpV)(c:Int):Int:=xXa (xJu s V o.pre) c
theorem zYk{s:Bool}{V:List Int}(h:xQd V)(o:OpV){c:Int}(hc:InV c):InV (opV s V o c):=zXf (xXk h _) hc
theorem zYl{s:Bool}{U V:List Int}(hU:xQd U)(hV:xQd V)(h:LeV U V)(o:OpV){c:Int}(hc:InV c):opV s U o c<=opV s V o c:=
 zJ5 (xXk hU _) hc (xXk hV _) hc (zWm hU hV h _) (Int.le_refl _)
def xXy(s:Bool)(ops:List OpV)(cs:List Int)(k:Nat)(U:List Int):Prop:=
 ∀ (i:Nat) (o:OpV) (c:Int),i < k->ops[i]? = some o->cs[i]? = some c->∀ p∈o.add,xJ2 U p<=opV s U o c
structure Shape(n:Nat)(st:List Int)(U:List Int):Prop where
 len:U.length=n
 all:xQd U
 zero:∀ p∈st,xJ2 U p=0
structure Fix(s:Bool)(n:Nat)(st:List Int)(ops:List OpV)(cs:List Int)(U:List Int):Prop where
 shape:Shape n st U
 closed:xXy s ops cs ops.length U
structure Above(s:Bool)(n:Nat)(st:List Int)(ops:List OpV)(cs:List Int)(V:List Int):Prop where
 shape:Shape n st V
 great:∀ U,Fix s n st ops cs U->LeV U V
structure Best(s:Bool)(n:Nat)(st:List Int)(ops:List OpV)(cs:List Int)(V:List Int):Prop where
 fix:Fix s n st ops cs V
 great:∀ U,Fix s n st ops cs U->LeV U V
noncomputable def xJm(s:Bool)(n:Nat)(st:List Int)(ops:List OpV)(cs:List Int):List Int:=@Classical.epsilon _ ⟨[]⟩ (Best s n st ops cs)
theorem xXp{U:List Int}{i:Nat}(h:i < U.length):xJ2 U (i:Int)=U[i]:=by
 unfold xJ2;simp[h]
theorem vZv{U V:List Int}(h:U.length=V.length)(h1:LeV U V)(h2:LeV V U):U=V:=by
 apply List.ext_getElem h;intro i hi hj;rw[<- xXp hi,<- xXp hj];exact Int.le_antisymm (h1 _) (h2 _)
theorem zXg{s:Bool}{n:Nat}{st:List Int}{ops:List OpV}{cs:List Int}{V:List Int}(h:Best s n st ops cs V):V=xJm s n st ops cs:=by
 have h2:Best s n st ops cs (xJm s n st ops cs):=@Classical.epsilon_spec _ (Best s n st ops cs) ⟨V,h⟩;exact vZv (h.fix.shape.len.trans h2.fix.shape.len.symm) (h2.great _ h.fix) (h.great _ h2.fix)
theorem zVf{s:Bool}{n:Nat}{st:List Int}{ops:List OpV}{cs:List Int}{V:List Int}(h:Above s n st ops cs V)(hc:xXy s ops cs ops.length V):Best s n st ops cs V:=⟨⟨h.shape,hc⟩,h.great⟩
theorem zVg{s:Bool}{n:Nat}{st:List Int}{ops:List OpV}{cs:List Int}{V:List Int}(h:Best s n st ops cs V):Best s n st ops cs (xJm s n st ops cs):=by rw[<- zXg h];exact h
theorem xQy{V:List Int}{i:Nat}{x p:Int}(h:i < V.length):xJ2 (V.set i x) p=if p.toNat=i then x else xJ2 V p:=by
 unfold xJ2;rw[List.getElem?_set]
 by_cases e:i=p.toNat
 ·rw[if_pos e,if_pos h,if_pos e.symm];rfl
 ·rw[if_neg e,if_neg (fun k=>e k.symm)]
theorem zYm{V:List Int}(h:xQd V)(i:Nat){x:Int}(hx:InV x):xQd (V.set i x):=fun v hv=>by
 rcases List.mem_or_eq_of_mem_set hv with h1 | h1
 ·exact h v h1
 ·subst h1;exact hx
def xXz(V:List Int):Nat:=(V.map Int.toNat).sum
theorem xW3{V:List Int}:∀ {i:Nat} {x y:Int},V[i]? = some y->0<=x->x < y->xXz (V.set i x) < xXz V:=by
 induction V with
 | nil=>intro i x y h;simp at h
 | cons a V ih=>
  intro i x y h h0 hlt
  cases i with
  | zero=>simp at h;subst h;simp[xXz];omega
  | succ i=>have:=ih (by simpa using h) h0 hlt;simp only[xXz,List.set_cons_succ,List.map_cons,List.sum_cons] at *;omega
theorem LeV.trans{U V W:List Int}(h:LeV U V)(k:LeV V W):LeV U W:=fun p=>Int.le_trans (h p) (k p)
theorem LeV.refl(U:List Int):LeV U U:=fun _=>Int.le_refl _
theorem LeV.set_{V:List Int}{i:Nat}{x y:Int}(h:V[i]? = some y)(hx:x<=y):LeV (V.set i x) V:=fun p=>by
 rw[xQy (List.getElem?_eq_some_iff.1 h).1]
 split
 ·rename_i e;subst e;rw[xJ5 h];exact hx
 ·exact Int.le_refl _
def yJ4(s:Bool)(n:Nat)(st:List Int)(ops:List OpV)(cs:List Int)(o:OpV)(v:Int):Prop:=∀ U,Fix s n st ops cs U->∀ p∈o.add,xJ2 U p<=v
section
variable {s:Bool}{n:Nat}{st:List Int}{ops:List OpV}{cs V:List Int}
theorem zYn(h:Above s n st ops cs V){i:Nat}{o:OpV}{c:Int}(ho:ops[i]? = some o)(hc:cs[i]? = some c)(hcv:InV c):yJ4 s n st ops cs o (opV s V o c):=
 fun U hU p hp=>Int.le_trans (hU.closed i o c (List.getElem?_eq_some_iff.1 ho).1 ho hc p hp) (zYl hU.shape.all h.shape.all (h.great U hU) o hcv)
theorem zQ7(h:Above s n st ops cs V){o:OpV}{v p y:Int}(hb:yJ4 s n st ops cs o v)(hp:p∈o.add)(hv:InV v)(hy:V[p.toNat]? = some y)(hlt:v < y):Above s n st ops cs (V.set p.toNat v):=by
 have hl:=(List.getElem?_eq_some_iff.1 hy).1;refine⟨⟨by rw[List.length_set];exact h.shape.len,zYm h.shape.all _ hv,fun q hq=>?_⟩,fun U hU q=>?_⟩
 ·rw[xQy hl]
  split
  ·rename_i e
   have h1:=h.shape.zero q hq;rw[xJ5 (v:=y) (by rw[e];exact hy)] at h1;unfold InV at hv;omega
  ·exact h.shape.zero q hq
 ·rw[xQy hl]
  split
  ·rename_i e
   have h1:=hb U hU p hp;unfold xJ2 at h1 ⊢;rw[e];exact h1
  ·exact h.great U hU q
end
def zQ8(n:Nat)(st:List Int):List Int:=(List.range n).map fun (p:Nat)=>if (p:Int)∈st then (0:Int) else 1000000000
theorem xW4(n:Nat)(st:List Int):(zQ8 n st).length=n:=by simp[zQ8]
theorem xW5{n p:Nat}{st:List Int}(h:p < n):(zQ8 n st)[p]? = some (if (p:Int)∈st then 0 else 1000000000):=by simp[zQ8,h]
theorem vZw(n:Nat)(st:List Int):xQd (zQ8 n st):=fun v hv=>by
 obtain⟨p,_,rfl⟩:=List.mem_map.1 hv
 split
 ·exact InV.zero
 ·exact InV.inf
theorem xW6{s:Bool}{n:Nat}{st:List Int}{ops:List OpV}{cs:List Int}(hst:∀ p∈st,0<=p/\p < (n:Int)):Above s n st ops cs (zQ8 n st):=by
 refine⟨⟨xW4 n st,vZw n st,fun p hp=>?_⟩,fun U hU p=>?_⟩
 ·have h1:=hst p hp;rw[xJ5 (xW5 (p:=p.toNat) (by omega)),if_pos (by rw[Int.toNat_of_nonneg h1.1];exact hp)]
 ·have hU1:=xX7 hU.shape.all p;unfold InV at hU1;rcases Nat.lt_or_ge p.toNat n with h | h
  ·rw[xJ5 (xW5 h)]
   split
   ·rename_i hm
    have h2:=hU.shape.zero _ hm;unfold xJ2 at h2 ⊢;simp only[Int.toNat_natCast] at h2;omega
   ·exact hU1.2
  ·unfold xJ2;rw[List.getElem?_eq_none (by rw[hU.shape.len];exact h),List.getElem?_eq_none (by rw[xW4];exact h)];exact Int.le_refl _
def zXh(n:Nat)(l:List Int):List Int:=l.foldl (fun vs p=>vs.set p.toNat 0) (List.replicate n 1000000000)
theorem vZx(n:Nat):zXh n []=List.replicate n 1000000000:=rfl
theorem zWn{n k:Nat}{l:List Int}{x:Int}(h:l[k]? = some x):zXh n (l.take (k+1))=(zXh n (l.take k)).set x.toNat 0:=by
 unfold zXh;rw[List.take_add_one,h];simp only[Option.toList,List.foldl_append,List.foldl_cons,List.foldl_nil]
theorem zQ9(n:Nat)(l:List Int):(zXh n l).length=n:=by
 have:∀ (l:List Int) (vs:List Int),(l.foldl (fun vs p=>vs.set p.toNat 0) vs).length=vs.length:=by
  intro l
  induction l with
  | nil=>intro vs;rfl
  | cons x l ih=>intro vs;rw[List.foldl_cons,ih,List.length_set]
 unfold zXh;rw[this,List.length_replicate]
theorem vZy:∀ (l:List Int) (vs:List Int) (p:Nat),(∀ x∈l,0<=x)->p < vs.length->(l.foldl (fun vs p=>vs.set p.toNat (0:Int)) vs)[p]? = if (p:Int)∈l then some 0 else vs[p]?:=by
 intro l
 induction l with
 | nil=>intro vs p _ _;rfl
 | cons x l ih=>
  intro vs p h hp;rw[List.foldl_cons,ih _ _ (fun y hy=>h y (List.mem_cons_of_mem _ hy)) (by rw[List.length_set];exact hp)];have hx:=h x (List.mem_cons_self ..)
  by_cases e:(p:Int)∈l
  ·rw[if_pos e,if_pos (List.mem_cons_of_mem _ e)]
  ·rw[if_neg e,List.getElem?_set]
   by_cases e2:x.toNat=p
   ·rw[if_pos e2,if_pos (by omega),if_pos (by
     have:(p:Int)=x:=by omega
     rw[this];exact List.mem_cons_self ..)]
   ·rw[if_neg e2,if_neg (fun k=>by
     rcases List.mem_cons.1 k with k | k
     ·omega
     ·exact e k)]
theorem vY7{n:Nat}{l:List Int}(h:∀ p∈l,0<=p/\p < (n:Int)):zXh n l=zQ8 n l:=by
 apply List.ext_getElem?;intro p;rcases Nat.lt_or_ge p n with hp | hp
 ·rw[xW5 hp];unfold zXh;rw[vZy l _ p (fun x hx=>(h x hx).1) (by simpa using hp)]
  split
  ·rfl
  ·simp[hp]
 ·rw[List.getElem?_eq_none (by rw[zQ9];exact hp),List.getElem?_eq_none (by rw[xW4];exact hp)]
theorem vZz(n:Nat)(x y:Int):List.replicate 0 x ++ List.replicate (n - 0) y=List.replicate n y:=by simp
theorem vQ0{n k:Nat}(h:k < n)(x y:Int):(List.replicate k x ++ List.replicate (n - k) y).set k x=List.replicate (k+1) x ++ List.replicate (n - (k+1)) y:=by
 apply List.ext_getElem?;intro p;simp only[List.getElem?_set,List.getElem?_append,List.getElem?_replicate,List.length_append,List.length_replicate]
 by_cases e:k=p
 ·subst e;simp;omega
 ·simp only[e,if_false]
  by_cases e1:p < k
  ·rw[if_pos e1,if_pos e1,if_pos (by omega),if_pos (by omega)]
  ·rw[if_neg e1,if_neg (by omega:¬ p < k+1)]
   by_cases e2:p < n
   ·rw[if_pos (by omega),if_pos (by omega)]
   ·rw[if_neg (by omega),if_neg (by omega)]
theorem vY8{n k:Nat}(h:¬ k < n)(hk:k<=n)(x y:Int):List.replicate k x ++ List.replicate (n - k) y=List.replicate n x:=by
 have:k=n:=by omega
 subst this;simp
theorem zYo{n k:Nat}(hk:k<=n)(x y:Int):(List.replicate k x ++ List.replicate (n - k) y).length=n:=by simp;omega
section
variable {s:Bool}{n:Nat}{st:List Int}{ops:List OpV}{cs V:List Int}
theorem zXi{k:Nat}{o:OpV}{c:Int}(h:xXy s ops cs k V)(ho:ops[k]? = some o)(hc:cs[k]? = some c)(h2:∀ p∈o.add,xJ2 V p<=opV s V o c):xXy s ops cs (k+1) V:=by
 intro i o' c' hi ho' hc' p hp
 by_cases e:i=k
 ·subst e;rw[ho] at ho';injection ho' with ho';subst ho'
  rw[hc] at hc';injection hc' with hc';subst hc'
  exact h2 p hp
 ·exact h i o' c' (by omega) ho' hc' p hp
theorem zXj:xXy s ops cs 0 V:=fun i o c hi=>absurd hi (by omega)
end
inductive Reach(st:List Int)(ops:List OpV)(use:Nat->Bool):Int->Prop
 | init {p:Int}:p∈st->Reach st ops use p
 | step {p:Int} {i:Nat} {o:OpV}:ops[i]? = some o->use i=true->(∀ q∈o.pre,Reach st ops use q)->p∈o.add->Reach st ops use p
theorem Reach.mono{st st':List Int}{ops:List OpV}{use use':Nat->Bool}(h1:∀ p∈st,p∈st')(h2:∀ i,use i=true->use' i=true){p:Int}(h:Reach st ops use p):Reach st' ops use' p:=by
 induction h with
 | init h=>exact .init (h1 _ h)
 | step h1 h3 _ h4 ih=>exact .step h1 (h2 _ h3) ih h4
open Classical in
noncomputable def xW7(n:Nat)(st:List Int)(ops:List OpV)(use:Nat->Bool):List Bool:=(List.range n).map fun (p:Nat)=>decide (Reach st ops use (p:Int))
theorem zJ6(n:Nat)(st:List Int)(ops:List OpV)(use:Nat->Bool):(xW7 n st ops use).length=n:=by simp[xW7]
theorem zWo{n p:Nat}{st:List Int}{ops:List OpV}{use:Nat->Bool}(h:p < n):(xW7 n st ops use)[p]? = some true↔Reach st ops use (p:Int):=by simp[xW7,h]
def xJy(bs:List Bool):Nat:=(bs.map fun b=>if b then 0 else 1).sum
theorem zJ7{bs:List Bool}:∀ {i:Nat},bs[i]? = some false->xJy (bs.set i true) < xJy bs:=by
 induction bs with
 | nil=>intro i h;simp at h
 | cons b bs ih=>
  intro i h
  cases i with
  | zero=>simp at h;subst h;simp[xJy]
  | succ i=>have:=ih (by simpa using h);simp only[xJy,List.set_cons_succ,List.map_cons,List.sum_cons] at *;omega
structure Sound(n:Nat)(st:List Int)(ops:List OpV)(use:Nat->Bool)(bs:List Bool):Prop where
 len:bs.length=n
 init:∀ p∈st,bs[p.toNat]? = some true
 sound:∀ p:Nat,bs[p]? = some true->Reach st ops use (p:Int)
def vQ1(ops:List OpV)(use:Nat->Bool)(k:Nat)(bs:List Bool):Prop:=
 ∀ (i:Nat) (o:OpV),i < k->ops[i]? = some o->use i=true->(∀ q∈o.pre,bs[q.toNat]? = some true)->∀ p∈o.add,bs[p.toNat]? = some true
section
variable {n:Nat}{st:List Int}{ops:List OpV}{use:Nat->Bool}{bs:List Bool}
theorem Sound.set_(h:Sound n st ops use bs){i:Nat}{o:OpV}(ho:ops[i]? = some o)(hu:use i=true)(hpre:∀ q∈o.pre,Reach st ops use q){p:Int}(hp:p∈o.add)(p0:0<=p):Sound n st ops use (bs.set p.toNat true):=by
 refine⟨by rw[List.length_set];exact h.len,fun q hq=>?_,fun q hq=>?_⟩
 ·have:=h.init q hq;rw[List.getElem?_set]
  split
  ·rename_i e
   rw[if_pos (by rw[e];exact (List.getElem?_eq_some_iff.1 this).1)]
  ·exact this
 ·rw[List.getElem?_set] at hq
  split at hq
  ·rename_i e
   subst e;rw[Int.toNat_of_nonneg p0];exact .step ho hu hpre hp
  ·exact h.sound q hq
theorem Sound.pre(h:Sound n st ops use bs){xs:List Int}(hx:∀ q∈xs,bs[q.toNat]? = some true)(h0:∀ q∈xs,0<=q):∀ q∈xs,Reach st ops use q:=fun q hq=>by
 have:=h.sound _ (hx q hq)
 rwa [Int.toNat_of_nonneg (h0 q hq)] at this
theorem Sound.all(h:Sound n st ops use bs)(hc:vQ1 ops use ops.length bs){p:Int}(hr:Reach st ops use p):bs[p.toNat]? = some true:=by
 induction hr with
 | init hp=>exact h.init _ hp
 | step ho hu _ hp ih=>exact hc _ _ (List.getElem?_eq_some_iff.1 ho).1 ho hu ih _ hp
theorem Sound.eq(h:Sound n st ops use bs)(hc:vQ1 ops use ops.length bs):bs=xW7 n st ops use:=by
 apply List.ext_getElem?;intro p;rcases Nat.lt_or_ge p n with hp | hp
 ·have h1:bs[p]? = some true↔(xW7 n st ops use)[p]? = some true:=by
   rw[zWo hp];exact⟨h.sound p,fun hr=>by have:=h.all hc hr;simpa using this⟩
  obtain⟨a,ha⟩:∃ a,bs[p]? = some a:=⟨_,lGe (by rw[h.len];exact hp)⟩;obtain⟨b,hb⟩:∃ b,(xW7 n st ops use)[p]? = some b:=⟨_,lGe (by rw[zJ6];exact hp)⟩;rw[ha,hb] at h1 ⊢
  cases a <;> cases b <;> simp_all
 ·rw[List.getElem?_eq_none (by rw[h.len];exact hp),List.getElem?_eq_none (by rw[zJ6];exact hp)]
def xVo(n:Nat)(l:List Int):List Bool:=l.foldl (fun bs p=>bs.set p.toNat true) (List.replicate n false)
theorem zWp{n k:Nat}{l:List Int}{x:Int}(h:l[k]? = some x):xVo n (l.take (k+1))=(xVo n (l.take k)).set x.toNat true:=by
 unfold xVo;rw[List.take_add_one,h];simp only[Option.toList,List.foldl_append,List.foldl_cons,List.foldl_nil]
theorem xW8(n:Nat)(l:List Int):(xVo n l).length=n:=by
 have:∀ (l:List Int) (vs:List Bool),(l.foldl (fun bs p=>bs.set p.toNat true) vs).length=vs.length:=by
  intro l
  induction l with
  | nil=>intro vs;rfl
  | cons x l ih=>intro vs;rw[List.foldl_cons,ih,List.length_set]
 unfold xVo;rw[this,List.length_replicate]
theorem zQa:∀ (l:List Int) (vs:List Bool) (p:Nat),(∀ x∈l,0<=x)->p < vs.length->(l.foldl (fun bs p=>bs.set p.toNat true) vs)[p]? = if (p:Int)∈l then some true else vs[p]?:=by
 intro l
 induction l with
 | nil=>intro vs p _ _;rfl
 | cons x l ih=>
  intro vs p h hp;rw[List.foldl_cons,ih _ _ (fun y hy=>h y (List.mem_cons_of_mem _ hy)) (by rw[List.length_set];exact hp)];have hx:=h x (List.mem_cons_self ..)
  by_cases e:(p:Int)∈l
  ·rw[if_pos e,if_pos (List.mem_cons_of_mem _ e)]
  ·rw[if_neg e,List.getElem?_set]
   by_cases e2:x.toNat=p
   ·have e3:(p:Int)=x:=by omega
    rw[if_pos e2,if_pos (by omega),if_pos (by rw[e3];exact List.mem_cons_self ..)]
   ·rw[if_neg e2,if_neg (fun k=>by
     rcases List.mem_cons.1 k with k | k
     ·omega
     ·exact e k)]
theorem zVh(h:∀ p∈st,0<=p/\p < (n:Int)):Sound n st ops use (xVo n st):=by
 refine⟨xW8 n st,fun p hp=>?_,fun p hp=>?_⟩
 ·have:=h p hp;unfold xVo;rw[zQa st _ p.toNat (fun x hx=>(h x hx).1) (by simp;omega),Int.toNat_of_nonneg this.1,if_pos hp]
 ·have hl:=(List.getElem?_eq_some_iff.1 hp).1;rw[xW8] at hl;unfold xVo at hp;rw[zQa st _ p (fun x hx=>(h x hx).1) (by simpa using hl)] at hp
  split at hp
  ·rename_i hm;exact .init hm
  ·simp[hl] at hp
end
noncomputable def xQz(n:Nat)(st:List Int)(ops:List OpV)(use:Nat->Bool):List Int:=(((List.range n).filter fun (p:Nat)=>@decide (Reach st ops use (p:Int)) (Classical.propDecidable _)).map fun (p:Nat)=>(p:Int))
section
variable {n:Nat}{st:List Int}{ops:List OpV}{use:Nat->Bool}
theorem xQ9{x:Int}:x∈xQz n st ops use↔0<=x/\x < (n:Int)/\Reach st ops use x:=by
 unfold xQz;rw[List.mem_map];constructor
 ·rintro ⟨p,hp,rfl⟩;rw[List.mem_filter,List.mem_range] at hp;exact⟨by omega,by omega,(@decide_eq_true_iff _ (Classical.propDecidable _)).1 hp.2⟩
 ·rintro ⟨h0,h1,h2⟩;refine⟨x.toNat,?_,by omega⟩;rw[List.mem_filter,List.mem_range];exact⟨by omega,(@decide_eq_true_iff _ (Classical.propDecidable _)).2 (by rw[Int.toNat_of_nonneg h0];exact h2)⟩
theorem xW9:SetP (xQz n st ops use) (n:Int):=by
 refine SetP.of_pairwise (fun x hx=>⟨(xQ9.1 hx).1,(xQ9.1 hx).2.1⟩) ?_;unfold xQz;rw[List.pairwise_map];exact (List.pairwise_lt_range.filter _).imp (fun h=>by omega)
structure SoundL(n:Nat)(st:List Int)(ops:List OpV)(use:Nat->Bool)(l:List Int):Prop where
 set:SetP l (n:Int)
 init:∀ p∈st,p∈l
 sound:∀ p∈l,Reach st ops use p
def xWa(ops:List OpV)(use:Nat->Bool)(k:Nat)(l:List Int):Prop:=
 ∀ (i:Nat) (o:OpV),i < k->ops[i]? = some o->use i=true->(∀ q∈o.pre,q∈l)->∀ p∈o.add,p∈l
theorem zQb{l:List Int}:xWa ops use 0 l:=fun i o hi=>absurd hi (by omega)
theorem zQc{l:List Int}{k:Nat}{o:OpV}(h:xWa ops use k l)(ho:ops[k]? = some o)(h2:use k=true->(∀ q∈o.pre,q∈l)->∀ p∈o.add,p∈l):xWa ops use (k+1) l:=by
 intro i o' hi ho' hu hq
 by_cases e:i=k
 ·subst e;rw[ho] at ho';injection ho' with ho';subst ho'
  exact h2 hu hq
 ·exact h i o' (by omega) ho' hu hq
theorem SoundL.start(hs:SetP st (n:Int)):SoundL n st ops use st:=⟨hs,fun _ h=>h,fun _ h=>.init h⟩
theorem SoundL.eq{l:List Int}(h:SoundL n st ops use l)(hc:xWa ops use ops.length l):l=xQz n st ops use:=by
 refine SetP.ext h.set xW9 fun x=>?_
 rw[xQ9];constructor
 ·intro hx;exact⟨(h.set.1 x hx).1,(h.set.1 x hx).2,h.sound x hx⟩
 ·rintro ⟨hx0,hx1,hr⟩;clear hx0 hx1
  induction hr with
  | init hp=>exact h.init _ hp
  | step ho hu _ hp ih=>exact hc _ _ (List.getElem?_eq_some_iff.1 ho).1 ho hu ih _ hp
theorem SoundL.eq_of_sub{l l':List Int}(h:SoundL n st ops use l')(hl:l=xQz n st ops use)(hs:∀ x∈l,x∈l'):l'=xQz n st ops use:=by
 refine SetP.ext h.set xW9 fun x=>⟨fun hx=>?_,fun hx=>hs x (by rw[hl];exact hx)⟩
 rw[xQ9];exact⟨(h.set.1 x hx).1,(h.set.1 x hx).2,h.sound x hx⟩
theorem SoundL.len{l:List Int}(h:SoundL n st ops use l):l.length<=n:=by
 have:=h.set.length (by omega);omega
structure Pass(ops:List OpV)(use:Nat->Bool)(k:Nat)(l0 l:List Int):Prop where
 sub:∀ x∈l0,x∈l
 le:l0.length<=l.length
 lt:l≠l0->l0.length < l.length
 closed:l=l0->xWa ops use k l
theorem Pass.start(l:List Int):Pass ops use 0 l l:=⟨fun _ h=>h,Nat.le_refl _,fun h=>absurd rfl h,fun _=>zQb⟩
theorem Pass.succ{k:Nat}{l0 l:List Int}{o:OpV}(h:Pass ops use k l0 l)(ho:ops[k]? = some o)(h2:l=l0->use k=true->(∀ q∈o.pre,q∈l)->∀ p∈o.add,p∈l):Pass ops use (k+1) l0 l:=
 ⟨h.sub,h.le,h.lt,fun e=>zQc (h.closed e) ho (h2 e)⟩
def Rounds(n:Nat)(st:List Int)(ops:List OpV)(use:Nat->Bool)(r:Nat)(l:List Int):Prop:=l=xQz n st ops use\/r<=l.length
theorem Rounds.succ{r:Nat}{l0 l:List Int}(h:Rounds n st ops use r l0)(hs:SoundL n st ops use l)(hp:Pass ops use ops.length l0 l):Rounds n st ops use (r+1) l:=by
 rcases h with h | h
 ·exact .inl (hs.eq_of_sub h hp.sub)
 ·by_cases e:l=l0
  ·exact .inl (hs.eq (hp.closed e))
  ·exact .inr (by have:=hp.lt e;omega)
end
theorem xQa{a b:Int}(ha:InV a)(hb:InV b):xXa a b=1000000000↔a=1000000000\/b=1000000000:=by
 unfold InV at ha hb;unfold xXa
 by_cases h:a=1000000000\/b=1000000000
 ·simp[h]
 ·rw[if_neg h];constructor
  ·intro k
   split at k <;> omega
  ·intro k;exact absurd k h
theorem zXk{s:Bool}{a b:Int}(ha:InV a)(hb:InV b):xXo s a b=1000000000↔a=1000000000\/b=1000000000:=by
 cases s
 ·unfold InV at ha hb;unfold xXo;dsimp only
  split <;> omega
 ·exact xQa ha hb
theorem vQ2{s:Bool}{vs:List Int}(h:xQd vs):∀ (xs:List Int) (o:Int),InV o ->
  (xs.foldl (fun o p=>xXo s o (xJ2 vs p)) o=1000000000↔o=1000000000\/∃ x∈xs,xJ2 vs x=1000000000):=by
 intro xs
 induction xs with
 | nil=>intro o _;simp
 | cons x xs ih=>
  intro o ho;rw[List.foldl_cons,ih _ (xK7 ho (xX7 h x)),zXk ho (xX7 h x)];constructor
  ·rintro ((h1 | h1) | ⟨y,hy,h1⟩)
   ·exact .inl h1
   ·exact .inr ⟨x,List.mem_cons_self ..,h1⟩
   ·exact .inr ⟨y,List.mem_cons_of_mem _ hy,h1⟩
  ·rintro (h1 | ⟨y,hy,h1⟩)
   ·exact .inl (.inl h1)
   ·rcases List.mem_cons.1 hy with e | e
    ·subst e;exact .inl (.inr h1)
    ·exact .inr ⟨y,e,h1⟩
theorem xWb{s:Bool}{vs:List Int}(h:xQd vs)(xs:List Int):xJu s vs xs=1000000000↔∃ x∈xs,xJ2 vs x=1000000000:=by
 unfold xJu;rw[vQ2 h xs 0 InV.zero];constructor
 ·rintro (h | h)
  ·omega
  ·exact h
 ·exact .inr
section
variable {n:Nat}{st:List Int}{ops:List OpV}{cs V U:List Int}
end
def xJe(n:Nat)(s:List Int)(o:OpV):List Int:=((List.range n).map fun (p:Nat)=>(p:Int)).filter fun p=>decide (p∈o.add\/(p∈s/\p∉o.del))
theorem xJn{n:Nat}{s:List Int}{o:OpV}{x:Int}:x∈xJe n s o↔(0<=x/\x < (n:Int))/\(x∈o.add\/(x∈s/\x∉o.del)):=by
 unfold xJe;rw[List.mem_filter,List.mem_map];simp only[decide_eq_true_eq,List.mem_range];constructor
 ·rintro ⟨⟨a,h,rfl⟩,h2⟩;exact⟨⟨by omega,by omega⟩,h2⟩
 ·rintro ⟨⟨h0,h1⟩,h2⟩;exact⟨⟨x.toNat,by omega,by omega⟩,h2⟩
theorem xX0(n:Nat)(s:List Int)(o:OpV):SetP (xJe n s o) n:=by
 refine SetP.of_pairwise (fun x hx=>(xJn.1 hx).1) ?_;unfold xJe;refine List.Pairwise.filter _ ?_;rw[List.pairwise_map];exact List.Pairwise.imp (fun h=>by omega) List.pairwise_lt_range
def zVi(ops:List OpV)(s:List Int)(op:Int):Prop:=∃ o,ops[op.toNat]? = some o/\∀ q∈o.pre,q∈s
def vY9(ops:List OpV)(op:Int):OpV:=(ops[op.toNat]?).getD ⟨[],[],[],0⟩
theorem zVj{ops:List OpV}{op:Int}{o:OpV}(h:ops[op.toNat]? = some o):vY9 ops op=o:=by unfold vY9;rw[h];rfl
noncomputable def zWs(n:Nat)(ops:List OpV):List Int->List Int->List (List Int)
 | s,[]=>[s]
 | s,op :: plan=>@ite _ (zVi ops s op) (Classical.propDecidable _) (s :: zWs n ops (xJe n s (vY9 ops op)) plan) [s]
section
variable {n:Nat}{ops:List OpV}
theorem zYp(s:List Int):zWs n ops s []=[s]:=by unfold zWs;rfl
theorem zYq{s plan:List Int}{op:Int}(h:zVi ops s op):zWs n ops s (op :: plan)=s :: zWs n ops (xJe n s (vY9 ops op)) plan:=by
 rw[zWs];exact if_pos h
theorem vQ3{s plan:List Int}{op:Int}(h:¬ zVi ops s op):zWs n ops s (op :: plan)=[s]:=by
 rw[zWs];exact if_neg h
theorem zQd:∀ (plan s:List Int),(zWs n ops s plan)[0]? = some s
 | [],s=>by rw[zYp];rfl
 | op :: plan,s=>by
  by_cases h:zVi ops s op
  ·rw[zYq h];rfl
  ·rw[vQ3 h];rfl
theorem zQe:∀ (plan s:List Int) (i:Nat) (r':List Int),(zWs n ops s plan)[i+1]? = some r'->∃ op r,plan[i]? = some op/\(zWs n ops s plan)[i]? = some r/\zVi ops r op/\r'=xJe n r (vY9 ops op)
 | [],s,i,r',h=>by rw[zYp] at h;simp at h
 | op :: plan,s,i,r',h=>by
  by_cases hc:zVi ops s op
  ·rw[zYq hc] at h ⊢;rw[List.getElem?_cons_succ] at h
   cases i with
   | zero=>
    rw[zQd] at h;injection h with h
    exact⟨op,s,rfl,rfl,hc,h.symm⟩
   | succ i=>
    obtain⟨op',r,h1,h2,h3,h4⟩:=zQe plan _ i r' h;exact⟨op',r,by simpa using h1,by simpa using h2,h3,h4⟩
  ·rw[vQ3 hc] at h;simp at h
end
end
structure MopV where
 pre:List (Int×Int)
 post:List (Int×Int)
 cost:Int
structure MtV where
 sizes:List Int
 init:List Int
 goal:List (Int×Int)
 ops:List MopV
def HoldsV(s:List Int)(l:List (Int×Int)):Prop:=∀ a∈l,xJ2 s a.1=a.2
def xXh(s:List Int)(l:List (Int×Int)):List Int:=l.foldl (fun s a=>s.set a.1.toNat a.2) s
structure AsOk(sizes:List Int)(l:List (Int×Int)):Prop where
 rng:∀ a∈l,(0<=a.1/\a.1 < sizes.length)/\0<=a.2/\a.2 < xJ2 sizes a.1
 inc:l.Pairwise fun a b=>a.1 < b.1
structure StM(sizes s:List Int):Prop where
 len:s.length=sizes.length
 rng:∀ i:Nat,i < sizes.length->0<=xJ2 s (i:Int)/\xJ2 s (i:Int) < xJ2 sizes (i:Int)
structure MValid(m:MtV):Prop where
 v0:0 < m.sizes.length
 v1:m.sizes.length<=8
 sz:∀ n∈m.sizes,1<=n/\n<=6
 init:StM m.sizes m.init
 goal:AsOk m.sizes m.goal
 nops:m.ops.length<=40
 ops:∀ o∈m.ops,(AsOk m.sizes o.pre/\AsOk m.sizes o.post)/\0<=o.cost/\o.cost<=100
theorem xVh{s:List Int}{i:Nat}{x:Int}(h:i < s.length):xJ2 (s.set i x) (i:Int)=x:=by
 unfold xJ2;simp[h]
theorem xQm{s:List Int}{i j:Nat}{x:Int}(h:i≠j):xJ2 (s.set i x) (j:Int)=xJ2 s (j:Int):=by
 unfold xJ2;simp[h]
theorem xQn(s:List Int)(l:List (Int×Int)):(xXh s l).length=s.length:=by
 unfold xXh
 induction l generalizing s with
 | nil=>rfl
 | cons a l ih=>rw[List.foldl_cons,ih,List.length_set]
theorem zJ1(s:List Int)(a:Int×Int)(l:List (Int×Int)):xXh s (a :: l)=xXh (s.set a.1.toNat a.2) l:=rfl
theorem xZv{s:List Int}{l:List (Int×Int)}{j:Nat}(h:∀ a∈l,0<=a.1/\a.1≠(j:Int)):xJ2 (xXh s l) (j:Int)=xJ2 s (j:Int):=by
 induction l generalizing s with
 | nil=>rfl
 | cons a l ih=>
  rw[zJ1,ih (fun b hb=>h b (List.mem_cons_of_mem _ hb))];have:=h a (List.mem_cons_self ..);exact xQm (by omega)
theorem xVw{sizes s:List Int}{l:List (Int×Int)}(hl:s.length=sizes.length)(h:AsOk sizes l){a:Int×Int}(ha:a∈l):xJ2 (xXh s l) a.1=a.2:=by
 have hr:=h.rng;have hi:=h.inc;clear h
 induction l generalizing s with
 | nil=>cases ha
 | cons b l ih=>
  have hb:=hr b (List.mem_cons_self ..);obtain⟨p1,p2⟩:=List.pairwise_cons.1 hi;rw[zJ1];rcases List.mem_cons.1 ha with e | e
  ·subst e;obtain⟨i,hi⟩:=Int.eq_ofNat_of_zero_le hb.1.1;rw[hi,xZv (fun c hc=>by have:=p1 c hc;have:=hr c (List.mem_cons_of_mem _ hc);omega)];exact xVh (by omega)
  ·exact ih (by rw[List.length_set];exact hl) e (fun c hc=>hr c (List.mem_cons_of_mem _ hc)) p2
theorem StM.next{sizes s:List Int}{l:List (Int×Int)}(hs:StM sizes s)(h:AsOk sizes l):StM sizes (xXh s l):=by
 refine⟨by rw[xQn];exact hs.len,fun i hi=>?_⟩
 by_cases hx:∃ a∈l,a.1=(i:Int)
 ·obtain⟨a,ha,e⟩:=hx;rw[<- e,xVw hs.len h ha];have:=h.rng a ha;exact⟨this.2.1,this.2.2⟩
 ·rw[xZv (fun a ha=>⟨(h.rng a ha).1.1,fun e=>hx ⟨a,ha,e⟩⟩)];exact hs.rng i hi
inductive MP(goal:List (Int×Int))(ops:List MopV):List Int->List Nat->Prop
 | nil {s:List Int}:HoldsV s goal->MP goal ops s []
 | cons {s:List Int} {p:Nat} {o:MopV} {ps:List Nat}:ops[p]? = some o->HoldsV s o.pre->MP goal ops (xXh s o.post) ps->MP goal ops s (p :: ps)
def xQo(ops:List MopV)(ps:List Nat):Int:=(ps.map fun (p:Nat)=>xJ2 (ops.map (·.cost)) (p:Int)).sum
theorem xV6(ops:List MopV)(p:Nat)(ps:List Nat):xQo ops (p :: ps)=xJ2 (ops.map (·.cost)) (p:Int)+xQo ops ps:=by
 unfold xQo;rw[List.map_cons,List.sum_cons]
theorem xK4{ops:List MopV}{p:Nat}{o:MopV}(h:ops[p]? = some o):xJ2 (ops.map (·.cost)) (p:Int)=o.cost:=xJ5 (by simp[h])
def xJd(l:List (Int×Int))(vars:List Int):List (Int×Int):=l.flatMap fun a=>(List.range vars.length).filterMap fun (i:Nat)=>if xJ2 vars (i:Int)=a.1 then some ((i:Int),a.2) else none
def xXq(s vars:List Int):List Int:=vars.map (xJ2 s)
def toV(m:MtV)(vars:List Int):MtV:=⟨xXq m.sizes vars,xXq m.init vars,xJd m.goal vars,m.ops.map fun o=>⟨xJd o.pre vars,xJd o.post vars,o.cost⟩⟩
structure VarsOk(m:MtV)(vars:List Int):Prop where
 ne:vars≠[]
 rng:∀ v∈vars,0<=v/\v < m.sizes.length
 inc:vars.Pairwise (· < ·)
theorem xQp{l:List (Int×Int)}{vars:List Int}{b:Int×Int}:b∈xJd l vars↔(0<=b.1/\b.1 < vars.length)/\(xJ2 vars b.1,b.2)∈l:=by
 unfold xJd;rw[List.mem_flatMap];constructor
 ·rintro ⟨a,ha,hb⟩;rw[List.mem_filterMap] at hb;obtain⟨i,hi,hb⟩:=hb;rw[List.mem_range] at hi
  split at hb
  ·rename_i e
   injection hb with hb
   subst hb;refine⟨by simp;omega,?_⟩;show (xJ2 vars (i:Int),a.2)∈l;rw[e];exact ha
  ·cases hb
 ·rintro ⟨⟨h1,h2⟩,h3⟩;refine⟨_,h3,?_⟩;rw[List.mem_filterMap];refine⟨b.1.toNat,List.mem_range.2 (by omega),?_⟩;have e:((b.1.toNat:Nat):Int)=b.1:=by omega
  rw[e,if_pos rfl]
theorem xXv(s vars:List Int):(xXq s vars).length=vars.length:=by unfold xXq;simp
theorem xKs{s vars:List Int}{i:Int}(h0:0<=i)(hi:i < vars.length):xJ2 (xXq s vars) i=xJ2 s (xJ2 vars i):=by
 obtain⟨k,rfl⟩:=Int.eq_ofNat_of_zero_le h0;unfold xXq;have hk:k < vars.length:=by omega
 show ((vars.map (xJ2 s))[((k:Int)).toNat]?).getD 0=xJ2 s ((vars[((k:Int)).toNat]?).getD 0);rw[Int.toNat_natCast,List.getElem?_map,lGe hk];rfl
theorem zX8{vars:List Int}{i:Int}(h0:0<=i)(hi:i < vars.length):xJ2 vars i∈vars:=by
 obtain⟨k,rfl⟩:=Int.eq_ofNat_of_zero_le h0;have hk:k < vars.length:=by omega
 rw[xJ5 (v:=vars[k]) (by rw[Int.toNat_natCast];exact lGe hk)];exact List.getElem_mem hk
theorem vWy{vars:List Int}(hv:vars.Pairwise (· < ·)){i j:Int}(h0:0<=i)(hij:i < j)(hj:j < vars.length):xJ2 vars i < xJ2 vars j:=by
 obtain⟨a,rfl⟩:=Int.eq_ofNat_of_zero_le h0;obtain⟨b,rfl⟩:=Int.eq_ofNat_of_zero_le (by omega:0<=j);have hb:b < vars.length:=by omega
 have ha:a < vars.length:=by omega
 rw[xJ5 (v:=vars[a]) (by rw[Int.toNat_natCast];exact lGe ha),xJ5 (v:=vars[b]) (by rw[Int.toNat_natCast];exact lGe hb)];exact List.pairwise_iff_getElem.1 hv a b ha hb (by omega)
theorem HoldsV.restr{s:List Int}{l:List (Int×Int)}{vars:List Int}(h:HoldsV s l):HoldsV (xXq s vars) (xJd l vars):=fun b hb=>by
 obtain⟨⟨h1,h2⟩,h3⟩:=xQp.1 hb;rw[xKs h1 h2];exact h _ h3
theorem StM.sel{m:MtV}{s vars:List Int}(hs:StM m.sizes s)(hv:VarsOk m vars):StM (xXq m.sizes vars) (xXq s vars):=by
 refine⟨by rw[xXv,xXv],fun i hi=>?_⟩;rw[xXv] at hi;rw[xKs (by omega) (by omega),xKs (by omega) (by omega)];have hr:=hv.rng _ (zX8 (vars:=vars) (i:=(i:Int)) (by omega) (by omega));obtain⟨k,hk⟩:=Int.eq_ofNat_of_zero_le hr.1;rw[hk] at hr ⊢;exact hs.rng k (by omega)
theorem AsOk.restr{m:MtV}{l:List (Int×Int)}{vars:List Int}(h:AsOk m.sizes l)(hv:VarsOk m vars):AsOk (xXq m.sizes vars) (xJd l vars):=by
 refine⟨fun b hb=>?_,?_⟩
 ·obtain⟨⟨h1,h2⟩,h3⟩:=xQp.1 hb;have:=h.rng _ h3;refine⟨⟨h1,by rw[xXv];exact h2⟩,this.2.1,?_⟩;rw[xKs h1 h2];exact this.2.2
 ·have hi:=h.inc;have:∀ l:List (Int×Int),l.Pairwise (fun a b=>a.1 < b.1)->(xJd l vars).Pairwise (fun a b=>a.1 < b.1):=by
   intro l hl
   induction l with
   | nil=>exact List.Pairwise.nil
   | cons a l ih=>
    obtain⟨p1,p2⟩:=List.pairwise_cons.1 hl;have e:xJd (a :: l) vars=((List.range vars.length).filterMap fun (i:Nat)=>if xJ2 vars (i:Int)=a.1 then some ((i:Int),a.2) else none) ++ xJd l vars:=rfl;rw[e,List.pairwise_append];refine⟨?_,ih p2,fun x hx y hy=>?_⟩
    ·rw[List.pairwise_filterMap];refine List.Pairwise.imp ?_ (List.pairwise_lt_range);intro i j hij x hx y hy
     split at hx
     ·split at hy
      ·injection hx with hx;injection hy with hy
       rw[<- hx,<- hy];simp;omega
      ·cases hy
     ·cases hx
    ·obtain⟨⟨y1,y2⟩,y3⟩:=xQp.1 hy;rw[List.mem_filterMap] at hx;obtain⟨i,hi,hx⟩:=hx;rw[List.mem_range] at hi
     split at hx
     ·rename_i ei
      injection hx with hx
      have h1:=p1 _ y3;rw[<- hx];show (i:Int) < y.1;apply Classical.byContradiction;intro hn;have h1':a.1 < xJ2 vars y.1:=h1;rw[<- ei] at h1';rcases Int.lt_or_eq_of_le (Int.not_lt.1 hn) with h2 | h2
      ·have:=vWy hv.inc y1 h2 (by omega);omega
      ·rw[h2] at h1';omega
     ·cases hx
  exact this l hi
theorem vVx{m:MtV}{s vars:List Int}{l:List (Int×Int)}(hs:StM m.sizes s)(h:AsOk m.sizes l)(hv:VarsOk m vars):xXq (xXh s l) vars=xXh (xXq s vars) (xJd l vars):=by
 have hr:=h.restr hv;have hss:=hs.sel hv;apply List.ext_getElem?;intro i
 by_cases hi:i < vars.length
 ·have key:∀ {x y:List Int},x.length=vars.length->y.length=vars.length->xJ2 x (i:Int)=xJ2 y (i:Int)->x[i]? = y[i]?:=fun {x y} hx hy e=>by
   unfold xJ2 at e;rw[Int.toNat_natCast,lGe (by omega),lGe (by omega)] at e;rw[lGe (by omega),lGe (by omega)];exact congrArg some e
  refine key (xXv _ _) (by rw[xQn,xXv]) ?_;rw[xKs (by omega) (by omega)];have hvr:=hv.rng _ (zX8 (vars:=vars) (i:=(i:Int)) (by omega) (by omega))
  by_cases hx:∃ a∈l,a.1=xJ2 vars (i:Int)
  ·obtain⟨a,ha,e⟩:=hx;have h1:((i:Int),a.2)∈xJd l vars:=xQp.2 ⟨by simp;omega,by rw[<- e];exact ha⟩;have h2:=xVw hss.len hr h1;rw[h2,<- e,xVw hs.len h ha]
  ·obtain⟨k,hk⟩:=Int.eq_ofNat_of_zero_le hvr.1;rw[xZv (j:=i) (fun b hb=>?_),xKs (by omega) (by omega),hk,xZv (j:=k) (fun a ha=>⟨(h.rng a ha).1.1,fun e=>hx ⟨a,ha,by rw[hk];exact e⟩⟩)];obtain⟨⟨b1,b2⟩,b3⟩:=xQp.1 hb;exact⟨b1,fun e=>hx ⟨_,b3,by rw[e]⟩⟩
 ·rw[List.getElem?_eq_none (by rw[xXv];omega),List.getElem?_eq_none (by rw[xQn,xXv];omega)]
def zZm(o:MopV)(vars:List Int):Prop:=∃ a∈o.post,a.1∈vars
theorem vVy{m:MtV}{s vars:List Int}{o:MopV}(h:AsOk m.sizes o.post)(hc:¬ zZm o vars)(hv:VarsOk m vars):xXq (xXh s o.post) vars=xXq s vars:=by
 unfold xXq;refine List.map_congr_left fun v hvm=>?_
 obtain⟨k,hk⟩:=Int.eq_ofNat_of_zero_le (hv.rng v hvm).1;rw[hk,xZv (fun a ha=>⟨(h.rng a ha).1.1,fun e=>hc ⟨a,ha,by rw[e,<- hk];exact hvm⟩⟩)]
structure DistOk(p:MtV)(D:List Int->Int):Prop where
 goal:∀ s,StM p.sizes s->HoldsV s p.goal->D s=0
 lo:∀ s,StM p.sizes s->0<=D s/\D s<=1000000000
 step:∀ s,StM p.sizes s->∀ o∈p.ops,HoldsV s o.pre->D (xXh s o.post)≠1000000000->D s<=D (xXh s o.post)+o.cost
 att:∀ s,StM p.sizes s->D s < 1000000000->∃ ps,MP p.goal p.ops s ps/\xQo p.ops ps=D s
theorem MP.low{p:MtV}{D:List Int->Int}(h:DistOk p D)(ho:∀ o∈p.ops,AsOk p.sizes o.post/\0<=o.cost){s:List Int}{ps:List Nat}(hp:MP p.goal p.ops s ps):StM p.sizes s->D s<=xQo p.ops ps/\0<=xQo p.ops ps:=by
 induction hp with
 | nil hg=>intro hs;rw[h.goal _ hs hg];simp[xQo]
 | @cons s p' o ps h1 h2 h3 ih=>
  intro hs;have hm:=ho o (lMg h1);have h4:=ih (hs.next hm.1);rw[xV6,xK4 h1];refine⟨?_,by omega⟩
  by_cases e:D (xXh s o.post)=1000000000
  ·have:=h.lo s hs;omega
  ·have:=h.step s hs o (lMg h1) h2 e;omega
theorem DistOk.uniq{p:MtV}{D D':List Int->Int}(h:DistOk p D)(h':DistOk p D')(ho:∀ o∈p.ops,AsOk p.sizes o.post/\0<=o.cost){s:List Int}(hs:StM p.sizes s):D s=D' s:=by
 have key:∀ {D D':List Int->Int},DistOk p D->DistOk p D'->D s<=D' s:=fun {D D'} h h'=>by
  by_cases e:D' s < 1000000000
  ·obtain⟨ps,h1,h2⟩:=h'.att s hs e;have:=(h1.low h ho hs).1;omega
  ·have:=h.lo s hs;omega
 exact Int.le_antisymm (key h h') (key h' h)
def DVal(m:MtV)(vars st:List Int)(d:Int):Prop:=∃ D,DistOk (toV m vars) D/\d=D (xXq st vars)
theorem vKq{m:MtV}{vars:List Int}(hm:MValid m)(hv:VarsOk m vars):∀ o∈(toV m vars).ops,AsOk (toV m vars).sizes o.post/\0<=o.cost:=fun o ho=>by
 obtain⟨o',ho',rfl⟩:=List.mem_map.1 ho;have:=hm.ops o' ho';exact⟨this.1.2.restr hv,this.2.1⟩
theorem DVal.uniq{m:MtV}{vars st:List Int}{d d':Int}(hm:MValid m)(hv:VarsOk m vars)(hs:StM m.sizes st)(h:DVal m vars st d)(h':DVal m vars st d'):d=d':=by
 obtain⟨D,h1,rfl⟩:=h;obtain⟨D',h2,rfl⟩:=h';exact h1.uniq h2 (vKq hm hv) (hs.sel hv)
theorem DVal.rng{m:MtV}{vars st:List Int}{d:Int}(hv:VarsOk m vars)(hs:StM m.sizes st)(h:DVal m vars st d):0<=d/\d<=1000000000:=by
 obtain⟨D,h1,rfl⟩:=h;exact h1.lo _ (hs.sel hv)
noncomputable def xZw(ops:List MopV)(T:MopV->Prop)(ps:List Nat):Int:=(ps.map fun (p:Nat)=>match ops[p]? with | some o=>(@ite _ (T o) (Classical.propDecidable _) o.cost 0) | none=>0).sum
theorem xZx{ops:List MopV}{T:MopV->Prop}{p:Nat}{o:MopV}{ps:List Nat}(h:ops[p]? = some o):xZw ops T (p :: ps)=(@ite _ (T o) (Classical.propDecidable _) o.cost 0)+xZw ops T ps:=by
 unfold xZw;rw[List.map_cons,List.sum_cons,h]
theorem DVal.low{m:MtV}{vars:List Int}{d:Int}(hm:MValid m)(hv:VarsOk m vars){s:List Int}{ps:List Nat}(hp:MP m.goal m.ops s ps)(hs:StM m.sizes s)(h:DVal m vars s d):d<=xZw m.ops (zZm · vars) ps:=by
 obtain⟨D,h1,rfl⟩:=h;have key:0<=xZw m.ops (zZm · vars) ps/\D (xXq s vars)<=xZw m.ops (zZm · vars) ps:=by
  induction hp with
  | @nil s hg=>exact⟨by simp[xZw],by rw[h1.goal _ (hs.sel hv) hg.restr];simp[xZw]⟩
  | @cons s p o ps h2 h3 h4 ih=>
   have ho:=hm.ops o (lMg h2);obtain⟨i1,i2⟩:=ih (hs.next ho.1.2);rw[xZx h2]
   by_cases hc:zZm o vars
   ·rw[if_pos hc];refine⟨by omega,?_⟩;rw[vVx hs ho.1.2 hv] at i2
    by_cases e:D (xXh (xXq s vars) (xJd o.post vars))=1000000000
    ·have:=(h1.lo _ (hs.sel hv)).2;omega
    ·have:=h1.step _ (hs.sel hv) ⟨xJd o.pre vars,xJd o.post vars,o.cost⟩ (List.mem_map.2 ⟨o,lMg h2,rfl⟩) h3.restr e;have e2:(MopV.mk (xJd o.pre vars) (xJd o.post vars) o.cost).cost=o.cost:=rfl;have e3:(MopV.mk (xJd o.pre vars) (xJd o.post vars) o.cost).post=xJd o.post vars:=rfl;rw[e2,e3] at this;omega
   ·rw[if_neg hc];rw[vVy ho.1.2 hc hv] at i2;exact⟨by omega,by omega⟩
 exact key.2
noncomputable def xX1(vals:List Int)(cmp:Nat->Nat->Prop):Nat->List Nat->Int
 | 0,_=>0
 | r+1,ch=>@ite _ (∀ k∈ch,cmp (vals.length - (r+1)) k) (Classical.propDecidable _)
   (max (xX1 vals cmp r ch) (xXa (xJ2 vals ((vals.length - (r+1):Nat):Int)) (xX1 vals cmp r (ch ++ [vals.length - (r+1)])))) (xX1 vals cmp r ch)
theorem xKt{a b:Int}(ha:0<=a/\a<=1000000000)(hb:0<=b/\b<=1000000000):0<=xXa a b/\xXa a b<=1000000000/\xXa a b<=a+b/\a<=max a (xXa a b)/\(a < 1000000000\/xXa a b=1000000000)/\a<=xXa a b:=by
 unfold xXa
 split
 ·omega
 ·split <;> omega
theorem vXv{vals:List Int}(h:∀ v∈vals,0<=v/\v<=1000000000)(i:Int):0<=xJ2 vals i/\xJ2 vals i<=1000000000:=by
 unfold xJ2
 cases e:vals[i.toNat]? with
 | none=>simp
 | some v=>exact h v (lMg e)
theorem xVx{vals:List Int}{cmp:Nat->Nat->Prop}(h:∀ v∈vals,0<=v/\v<=1000000000):∀ (r:Nat) (ch:List Nat),0<=xX1 vals cmp r ch/\xX1 vals cmp r ch<=1000000000:=by
 intro r
 induction r with
 | zero=>intro ch;simp[xX1]
 | succ r ih=>
  intro ch;unfold xX1;have h1:=ih ch
  split
  ·have h2:=ih (ch ++ [vals.length - (r+1)]);have h3:=xKt (vXv h ((vals.length - (r+1):Nat):Int)) h2;omega
  ·exact h1
theorem zW5{vals:List Int}{cmp:Nat->Nat->Prop}(r:Nat)(ch:List Nat):xX1 vals cmp r ch<=xX1 vals cmp (r+1) ch:=by
 rw[xX1]
 split <;> omega
theorem vXw{vals:List Int}{cmp:Nat->Nat->Prop}(h:∀ v∈vals,0<=v/\v<=1000000000){i:Nat}{v:Int}(hi:vals[i]? = some v):v<=xX1 vals cmp vals.length []:=by
 have hl:=(List.getElem?_eq_some_iff.1 hi).1;have mono:∀ (d r:Nat),xX1 vals cmp r []<=xX1 vals cmp (r+d) []:=by
  intro d
  induction d with
  | zero=>intro r;exact Int.le_refl _
  | succ d ih=>intro r;exact Int.le_trans (ih r) (zW5 _ _)
 have h1:=mono i (vals.length - i);rw[show vals.length - i+i=vals.length by omega] at h1;refine Int.le_trans ?_ h1;obtain⟨r,hr⟩:∃ r,vals.length - i=r+1:=⟨vals.length - i - 1,by omega⟩;rw[hr,xX1,if_pos (by simp)];have e:vals.length - (r+1)=i:=by omega
 rw[e,xJ5 (v:=v) (by rw[Int.toNat_natCast];exact hi)];have h2:=xVx (cmp:=cmp) h r ([] ++ [i]);have h3:=xKt (h v (lMg hi)) h2;omega
def CmpV(ops:List MopV)(pats:List (List Int))(i k:Nat):Prop:=∀ o∈ops,¬ (zZm o (pats.getD i [])/\zZm o (pats.getD k []))
theorem zVc{ops:List MopV}(hc:∀ o∈ops,0<=o.cost){T U V:MopV->Prop}(h:∀ o∈ops,(T o->V o)/\(U o->V o)/\¬ (T o/\U o)):∀ ps,xZw ops T ps+xZw ops U ps<=xZw ops V ps:=by
 intro ps
 induction ps with
 | nil=>simp[xZw]
 | cons p ps ih=>
  cases e:ops[p]? with
  | none=>
   have:∀ T:MopV->Prop,xZw ops T (p :: ps)=xZw ops T ps:=fun T=>by unfold xZw;rw[List.map_cons,List.sum_cons,e];simp
   rw[this,this,this];exact ih
  | some o=>
   rw[xZx e,xZx e,xZx e];obtain⟨h1,h2,h3⟩:=h o (lMg e);have h0:=hc o (lMg e)
   by_cases hT:T o
   ·have hU:¬ U o:=fun hU=>h3 ⟨hT,hU⟩
    rw[if_pos hT,if_neg hU,if_pos (h1 hT)];omega
   ·rw[if_neg hT]
    by_cases hU:U o
    ·rw[if_pos hU,if_pos (h2 hU)];omega
    ·rw[if_neg hU]
     by_cases hV:V o
     ·rw[if_pos hV];omega
     ·rw[if_neg hV];omega
theorem vVz{ops:List MopV}(hc:∀ o∈ops,0<=o.cost)(T:MopV->Prop)(ps:List Nat):0<=xZw ops T ps:=by
 unfold xZw
 induction ps with
 | nil=>simp
 | cons p ps ih=>
  rw[List.map_cons,List.sum_cons];have:(0:Int)<=(match ops[p]? with | some o=>(@ite _ (T o) (Classical.propDecidable _) o.cost 0) | none=>0):=by
   cases e:ops[p]? with
   | none=>exact Int.le_refl _
   | some o=>
    show 0<=@ite _ (T o) (Classical.propDecidable _) o.cost 0;have:=hc o (lMg e)
    split <;> omega
  omega
theorem vXx{m:MtV}{pats:List (List Int)}{vals:List Int}(hm:MValid m)(hl:vals.length=pats.length){st:List Int}(hs:StM m.sizes st)
  (hv:∀ vars∈pats,VarsOk m vars) (hd:∀ (i:Nat) (vars:List Int) (v:Int),pats[i]? = some vars->vals[i]? = some v->DVal m vars st v) {ps:List Nat} (hp:MP m.goal m.ops st ps) :
  ∀ (r:Nat) (ch:List Nat),r<=vals.length->xX1 vals (CmpV m.ops pats) r ch<=xZw m.ops (fun o=>∀ k∈ch,¬ zZm o (pats.getD k [])) ps:=by
 have hc0:∀ o∈m.ops,0<=o.cost:=fun o ho=>(hm.ops o ho).2.1
 have hr:∀ v∈vals,0<=v/\v<=1000000000:=fun v hv'=>by
  obtain⟨i,hi⟩:=List.getElem?_of_mem hv';have hil:=(List.getElem?_eq_some_iff.1 hi).1;have h1:pats[i]? = some pats[i]:=lGe (by omega);exact (hd i _ v h1 hi).rng (hv _ (lMg h1)) hs
 intro r
 induction r with
 | zero=>intro ch _;rw[xX1];exact vVz hc0 _ _
 | succ r ih=>
  intro ch hrl;rw[xX1];have h1:=ih ch (by omega)
  split
  ·rename_i hcm
   obtain⟨i,hi⟩:∃ i,i=vals.length - (r+1):=⟨_,rfl⟩;rw[<- hi] at hcm ⊢;have h2:=ih (ch ++ [i]) (by omega);have hiv:vals[i]? = some (vals[i]'(by omega)):=lGe (by omega);have hip:pats[i]? = some (pats[i]'(by omega)):=lGe (by omega);rw[xJ5 (v:=vals[i]'(by omega)) (by rw[Int.toNat_natCast];exact hiv)];have h3:=(hd i _ _ hip hiv).low hm (hv _ (lMg hip)) hp hs;have h4:=xKt (hr _ (lMg hiv)) (xVx (cmp:=CmpV m.ops pats) hr r (ch ++ [i]));have h5:=zVc (ops:=m.ops) hc0 (T:=(zZm · (pats[i]'(by omega)))) (U:=fun o=>∀ k∈ch ++ [i],¬ zZm o (pats.getD k [])) (V:=fun o=>∀ k∈ch,¬ zZm o (pats.getD k [])) (fun o ho=>by
    have e:pats.getD i []=pats[i]'(by omega):=by rw[List.getD_eq_getElem?_getD,hip];rfl
    refine⟨fun h k hk hk2=>hcm k hk o ho ⟨by rw[e];exact h,hk2⟩,fun h k hk=>h k (List.mem_append_left _ hk),fun ⟨a,b⟩=>b i (by simp) (by rw[e];exact a)⟩) ps
   omega
  ·exact h1
theorem vXy{ops:List MopV}{T:MopV->Prop}(hT:∀ o,T o){ps:List Nat}(h:∀ p∈ps,p < ops.length):xZw ops T ps=xQo ops ps:=by
 induction ps with
 | nil=>simp[xZw,xQo]
 | cons p ps ih=>
  have e:ops[p]? = some (ops[p]'(h p (List.mem_cons_self ..))):=lGe _;rw[xZx e,xV6,xK4 e,if_pos (hT _),ih (fun q hq=>h q (List.mem_cons_of_mem _ hq))]
theorem MP.lt{goal:List (Int×Int)}{ops:List MopV}{s:List Int}{ps:List Nat}(h:MP goal ops s ps):∀ p∈ps,p < ops.length:=by
 induction h with
 | nil _=>simp
 | cons h1 _ _ ih=>
  intro p hp;rcases List.mem_cons.1 hp with e | e
  ·rw[e];exact (List.getElem?_eq_some_iff.1 h1).1
  ·exact ih p e
theorem zW6{m:MtV}{pats:List (List Int)}{vals:List Int}(hm:MValid m)(hl:vals.length=pats.length){st:List Int}(hs:StM m.sizes st)
  (hv:∀ vars∈pats,VarsOk m vars) (hd:∀ (i:Nat) (vars:List Int) (v:Int),pats[i]? = some vars->vals[i]? = some v->DVal m vars st v) {ps:List Nat} (hp:MP m.goal m.ops st ps):xX1 vals (CmpV m.ops pats) vals.length []<=xQo m.ops ps:=by
 have h:=vXx hm hl hs hv hd hp vals.length [] (Nat.le_refl _);rw[vXy (fun o=>by simp) hp.lt] at h;exact h
section
open Go.Joins Go.ChangeShapes Go.WideShapes Go.RowKit Go.Deep
def AsAt(w:World)(A:Option Addr)(l:List (Int×Int)):Prop:=
 ∀ (k:Nat) (a:Int×Int),l[k]? = some a->∃ ad,A=some ad/\w.cell? (ad.add (k * 2))=some (.int .i64 a.1)/\w.cell? ⟨(ad.add (k * 2)).block,(ad.add (k * 2)).off+1,none⟩=some (.int .i64 a.2)
theorem AsAt.nil(w:World)(A:Option Addr):AsAt w A []:=fun k a h=>by simp at h
theorem AsAt.below{w w':World}{A:Option Addr}{l:List (Int×Int)}(h:AsAt w A l)(hb:Below w.heap.size w w'):AsAt w' A l:=fun k a hk=>by
 obtain⟨ad,e,h0,h1⟩:=h k a hk;exact⟨ad,e,(hb.cell (World.block_lt_of_cell? w _ h0)).trans h0,(hb.cell (World.block_lt_of_cell? w _ h1)).trans h1⟩
theorem AsAt.at_{w:World}{A:Option Addr}{l:List (Int×Int)}{k:Nat}(h:AsAt w A l)(hk:k < l.length):∃ ad v x,A=some ad/\Hid (l[k]? = some (v,x))/\w.cell? (ad.add (k * 2))=some (.int .i64 v)/\w.cell? ⟨(ad.add (k * 2)).block,(ad.add (k * 2)).off+1,none⟩=some (.int .i64 x):=by
 obtain⟨ad,e,h0,h1⟩:=h k _ (lGe hk);exact⟨ad,l[k].1,l[k].2,e,lHd (lGe hk),h0,h1⟩
def MopsAt(w:World)(A:Option Addr)(ops:List MopV):Prop:=
 ∀ (k:Nat) (o:MopV),ops[k]? = some o->∃ ad A0 c0 A1 c1,A=some ad/\w.cell? (ad.add (k * 3))=some (.slice A0 o.pre.length c0)/\w.cell? ⟨(ad.add (k * 3)).block,(ad.add (k * 3)).off+1,none⟩=some (.slice A1 o.post.length c1) /\
  w.cell? ⟨(ad.add (k * 3)).block,(ad.add (k * 3)).off+2,none⟩=some (.int .i64 o.cost)/\(AsAt w A0 o.pre/\AsAt w A1 o.post)/\lenOk o.pre.length/\lenOk o.post.length
theorem MopsAt.below{w w':World}{A:Option Addr}{ops:List MopV}(h:MopsAt w A ops)(hb:Below w.heap.size w w'):MopsAt w' A ops:=fun k o hk=>by
 obtain⟨ad,A0,c0,A1,c1,e,h0,h1,h2,⟨h3,h4⟩,h5⟩:=h k o hk;exact⟨ad,A0,c0,A1,c1,e,(hb.cell (World.block_lt_of_cell? w _ h0)).trans h0,(hb.cell (World.block_lt_of_cell? w _ h1)).trans h1,(hb.cell (World.block_lt_of_cell? w _ h2)).trans h2,⟨h3.below hb,h4.below hb⟩,h5⟩
theorem MopsAt.at_{w:World}{A:Option Addr}{ops:List MopV}{k:Nat}(h:MopsAt w A ops)(hk:k < ops.length):∃ ad o A0 c0 A1 c1,A=some ad/\Hid (ops[k]? = some o)/\w.cell? (ad.add (k * 3))=some (.slice A0 o.pre.length c0)/\w.cell? ⟨(ad.add (k * 3)).block,(ad.add (k * 3)).off+1,none⟩=some (.slice A1 o.post.length c1) /\
  w.cell? ⟨(ad.add (k * 3)).block,(ad.add (k * 3)).off+2,none⟩=some (.int .i64 o.cost)/\(AsAt w A0 o.pre/\AsAt w A1 o.post)/\lenOk o.pre.length/\lenOk o.post.length:=by
 obtain⟨ad,A0,c0,A1,c1,r⟩:=h k _ (lGe hk);exact⟨ad,ops[k],A0,c0,A1,c1,r.1,lHd (lGe hk),r.2⟩
structure MMem(w:World)(As Ai Ag Ao:Option Addr)(m:MtV):Prop where
 sizes:Ints w As m.sizes
 init:Ints w Ai m.init
 goal:AsAt w Ag m.goal
 ops:MopsAt w Ao m.ops
 lsizes:lenOk m.sizes.length
 linit:lenOk m.init.length
 lgoal:lenOk m.goal.length
 lops:lenOk m.ops.length
theorem MMem.below{w w':World}{As Ai Ag Ao:Option Addr}{m:MtV}(h:MMem w As Ai Ag Ao m)(hb:Below w.heap.size w w'):MMem w' As Ai Ag Ao m:=
 ⟨h.sizes.below hb,h.init.below hb,h.goal.below hb,h.ops.below hb,h.lsizes,h.linit,h.lgoal,h.lops⟩
section
variable {H:Type}{enc:TypeId×Value->H}{w:World}
theorem zV7{fuel:Nat}{cs:List Value}{x:DataW H×List MemPlace}(h:DataW.trod enc Tryz.prog w 0 (fun _=>true) true fuel 40 cs=some x) :
  ∃ A c l,cs=[.slice A l.length c]/\l.length<=c/\lenOk c/\(A=none->l=[]/\c=0)/\AsAt w A l:=by
 rcases xQ1 Tryz.underlying40 Tryz.underlying154 (by kernel_rfl) (by kernel_rfl) h with ⟨rfl,rfl⟩ | ⟨a,len,cap,m,D,Pl,rfl,hb,hl,hm,hmm,hx,hi⟩
 ·exact⟨none,0,[],rfl,Nat.le_refl _,by unfold lenOk;omega,fun _=>⟨rfl,rfl⟩,AsAt.nil _ _⟩
 ·simp only[if_true] at hmm;subst hmm;have each:∀ i:Nat,∃ o:Int×Int,i < m->w.cell? (a.add (i * 2))=some (.int .i64 o.1)/\w.cell? ⟨(a.add (i * 2)).block,(a.add (i * 2)).off+1,none⟩=some (.int .i64 o.2):=by
   intro i
   by_cases him:i < m
   ·obtain⟨ys,n,_,_,_,hf⟩:=hi i him;obtain⟨v0,y0,hc0,_,t0⟩:=hf 0 _ rfl;obtain⟨v1,y1,hc1,_,t1⟩:=hf 1 _ rfl;obtain⟨k0,e0,_,_⟩:=DataW.trod_int Tryz.underlying3 t0;obtain⟨k1,e1,_,_⟩:=DataW.trod_int Tryz.underlying3 t1;injection e0 with e0
    injection e1 with e1
    subst e0;subst e1;have hs:a.add (i * 2+1)=⟨(a.add (i * 2)).block,(a.add (i * 2)).off+1,none⟩:=by
     rw[<- Go.Deep.add_add];rfl
    exact⟨(k0,k1),fun _=>⟨hc0,by rw[<- hs];exact hc1⟩⟩
   ·exact⟨(0,0),fun h=>absurd h him⟩
  obtain⟨f,hf⟩:=Classical.axiomOfChoice each;refine⟨some a,m,(List.range len).map f,by simp,by simpa using hl,by unfold lenOk;simp only[maxLen] at hm;omega,(fun h=>by cases h),fun k o hk=>?_⟩;obtain⟨hk1,rfl⟩:=List.getElem?_eq_some_iff.1 hk;rw[List.length_map,List.length_range] at hk1;have r:=hf k (by omega);refine⟨a,rfl,?_⟩;simpa using r
theorem vXl{fuel:Nat}{cs:List Value}{x:DataW H×List MemPlace}(h:DataW.trod enc Tryz.prog w 0 (fun _=>true) true fuel 41 cs=some x) :
  ∃ A c ops,cs=[.slice A ops.length c]/\ops.length<=c/\lenOk c/\(A=none->ops=[]/\c=0)/\MopsAt w A ops/\∀ o∈ops,vW5 o.cost:=by
 rcases xQ1 Tryz.underlying41 Tryz.underlying156 (by kernel_rfl) (by kernel_rfl) h with ⟨rfl,rfl⟩ | ⟨a,len,cap,m,D,Pl,rfl,hb,hl,hm,hmm,hx,hi⟩
 ·exact⟨none,0,[],rfl,Nat.le_refl _,by unfold lenOk;omega,fun _=>⟨rfl,rfl⟩,(fun k o hk=>by simp at hk),by simp⟩
 ·simp only[if_true] at hmm;subst hmm;have each:∀ i:Nat,∃ o:MopV,i < m->(∃ A0 c0 A1 c1,w.cell? (a.add (i * 3))=some (.slice A0 o.pre.length c0)/\w.cell? ⟨(a.add (i * 3)).block,(a.add (i * 3)).off+1,none⟩=some (.slice A1 o.post.length c1) /\
    w.cell? ⟨(a.add (i * 3)).block,(a.add (i * 3)).off+2,none⟩=some (.int .i64 o.cost)/\(AsAt w A0 o.pre/\AsAt w A1 o.post)/\lenOk o.pre.length/\lenOk o.post.length)/\vW5 o.cost:=by
   intro i
   by_cases him:i < m
   ·obtain⟨ys,n,_,_,_,hf⟩:=hi i him;obtain⟨v0,y0,hc0,_,t0⟩:=hf 0 _ rfl;obtain⟨v1,y1,hc1,_,t1⟩:=hf 1 _ rfl;obtain⟨v2,y2,hc2,_,t2⟩:=hf 2 _ rfl;obtain⟨A0,c0,x0,e0,q0,m0,n0,I0⟩:=zV7 t0;obtain⟨A1,c1,x1,e1,q1,m1,n1,I1⟩:=zV7 t1;obtain⟨k,e3,_,hk⟩:=DataW.trod_int Tryz.underlying3 t2;injection e0 with e0
    injection e1 with e1
    injection e3 with e3
    subst e0;subst e1;subst e3;have hs:∀ j:Nat,0 < j->a.add (i * 3+j)=⟨(a.add (i * 3)).block,(a.add (i * 3)).off+j,none⟩:=by
     intro j hj;rw[<- Go.Deep.add_add];show (if j=0 then a.add (i * 3) else _)=_;rw[if_neg (by omega)]
    exact⟨⟨x0,x1,k⟩,fun _=>⟨⟨A0,c0,A1,c1,hc0,by rw[<- hs 1 (by omega)];exact hc1,by rw[<- hs 2 (by omega)];exact hc2,⟨I0,I1⟩,Nat.le_trans q0 m0,Nat.le_trans q1 m1⟩,vZk hk⟩⟩
   ·exact⟨⟨[],[],0⟩,fun h=>absurd h him⟩
  obtain⟨f,hf⟩:=Classical.axiomOfChoice each;refine⟨some a,m,(List.range len).map f,by simp,by simpa using hl,by unfold lenOk;simp only[maxLen] at hm;omega,(fun h=>by cases h),fun k o hk=>?_,fun o ho=>?_⟩
  ·obtain⟨hk1,rfl⟩:=List.getElem?_eq_some_iff.1 hk;rw[List.length_map,List.length_range] at hk1;obtain⟨⟨A0,c0,A1,c1,r⟩,_⟩:=hf k (by omega);refine⟨a,A0,c0,A1,c1,rfl,?_⟩;simpa using r
  ·obtain⟨k,hk,rfl⟩:=List.mem_map.1 ho;exact (hf k (by have:=List.mem_range.1 hk;omega)).2
theorem zV8{r:Go.Reach}{b0:Nat}{v:Value}{d:DataW H}{p:List MemPlace}(hv:Value.okWide Tryz.prog w r b0 43 v)(h:DataW.Trod enc Tryz.prog w 0 (fun _=>true) true 43 v d p) :
  ∃ (m:MtV) (As Ai Ag Ao:Option Addr) (cs ci cg co:Nat),v=.agg #[.slice As m.sizes.length cs,.slice Ai m.init.length ci,.slice Ag m.goal.length cg,.slice Ao m.ops.length co]/\MMem w As Ai Ag Ao m/\∀ o∈m.ops,vW5 o.cost:=by
 obtain⟨v0,v1,v2,v3,y0,y1,y2,y3,n,rfl,_,_,t0,t1,t2,t3⟩:=open_agg4 Tryz.underlying43 (by kernel_rfl) (by kernel_rfl) hv h;obtain⟨A0,c0,x0,e0,q0,m0,n0,I0,_⟩:=xKz t0;obtain⟨A1,c1,x1,e1,q1,m1,n1,I1,_⟩:=xKz t1;obtain⟨A2,c2,x2,e2,q2,m2,n2,I2⟩:=zV7 t2;obtain⟨A3,c3,x3,e3,q3,m3,n3,I3,I4⟩:=vXl t3;injection e0 with e0
 injection e1 with e1
 injection e2 with e2
 injection e3 with e3
 subst e0;subst e1;subst e2;subst e3;exact⟨⟨x0,x1,x2,x3⟩,A0,A1,A2,A3,c0,c1,c2,c3,rfl,⟨I0,I1,I2,I3,Nat.le_trans q0 m0,Nat.le_trans q1 m1,Nat.le_trans q2 m2,Nat.le_trans q3 m3⟩,I4⟩
end
end
noncomputable def asB(sizes:List Int)(l:List (Int×Int)):Bool:=@decide (AsOk sizes l) (Classical.propDecidable _)
theorem xK6{sizes:List Int}{l:List (Int×Int)}:asB sizes l=true↔AsOk sizes l:=by unfold asB;exact @decide_eq_true_iff _ (Classical.propDecidable _)
theorem xZ3{sizes:List Int}{l:List (Int×Int)}:asB sizes l=false↔¬ AsOk sizes l:=by unfold asB;exact @decide_eq_false_iff_not _ (Classical.propDecidable _)
noncomputable def stB(sizes s:List Int):Bool:=@decide (StM sizes s) (Classical.propDecidable _)
theorem zXb{sizes s:List Int}:stB sizes s=true↔StM sizes s:=by unfold stB;exact @decide_eq_true_iff _ (Classical.propDecidable _)
theorem xQt{sizes s:List Int}:stB sizes s=false↔¬ StM sizes s:=by unfold stB;exact @decide_eq_false_iff_not _ (Classical.propDecidable _)
theorem AsOk.nil(sizes:List Int):AsOk sizes []:=⟨by simp,List.Pairwise.nil⟩
theorem AsOk.succ{sizes:List Int}{l:List (Int×Int)}{k:Nat}{v x:Int}(hx:l[k]? = some (v,x))(h:AsOk sizes (l.take k))(hr:(0<=v/\v < sizes.length)/\0<=x/\x < xJ2 sizes v)(hs:0 < k->∀ v' x',l[k - 1]? = some (v',x')->v' < v):AsOk sizes (l.take (k+1)):=by
 have hk:=(List.getElem?_eq_some_iff.1 hx).1;rw[List.take_add_one,hx];refine⟨fun a ha=>?_,?_⟩
 ·rcases List.mem_append.1 ha with ha | ha
  ·exact h.rng a ha
  ·simp at ha;subst ha;exact hr
 ·show (l.take k ++ [(v,x)]).Pairwise _;rw[List.pairwise_append];refine⟨h.inc,by simp,fun a ha b hb=>?_⟩;simp at hb;subst hb;obtain⟨i,hi⟩:=List.getElem?_of_mem ha;have hil:=(List.getElem?_eq_some_iff.1 hi).1;rw[List.length_take] at hil;have hk0:0 < k:=by omega
  have hl1:k - 1 < (l.take k).length:=by rw[List.length_take];omega
  have h1:(l.take k)[k - 1]? = some (l.take k)[k - 1]:=lGe hl1;have h2:=hs hk0 (l.take k)[k - 1].1 (l.take k)[k - 1].2 (by rw[<- h1,List.getElem?_take_of_lt (by omega)]);show a.1 < v
  by_cases e:i=k - 1
  ·subst e;rw[h1] at hi;rw[<- Option.some.inj hi];exact h2
  ·have hi2:i < (l.take k).length:=by rw[List.length_take];omega
   have h3:=List.pairwise_iff_getElem.1 h.inc i (k - 1) hi2 hl1 (by omega);have h4:(l.take k)[i]=a:=by rw[lGe hi2] at hi;exact Option.some.inj hi
   rw[h4] at h3;omega
theorem xVa{sizes:List Int}{l:List (Int×Int)}{k:Nat}{v x:Int}(hx:l[k]? = some (v,x))(hr:¬ ((0<=v/\v < sizes.length)/\0<=x/\x < xJ2 sizes v)):¬ AsOk sizes l:=fun h=>hr (h.rng _ (lMg hx))
theorem zVe{sizes:List Int}{l:List (Int×Int)}{k:Nat}{v x v' x':Int}(hk:0 < k)(hy:l[k - 1]? = some (v',x'))(hx:l[k]? = some (v,x))(hle:v<=v'):¬ AsOk sizes l:=fun h=>by
 obtain⟨h1,e1⟩:=List.getElem?_eq_some_iff.1 hy;obtain⟨h2,e2⟩:=List.getElem?_eq_some_iff.1 hx;have:=List.pairwise_iff_getElem.1 h.inc (k - 1) k h1 h2 (by omega);rw[e1,e2] at this;omega
theorem yJ0{sizes:List Int}{l:List (Int×Int)}{k:Nat}(hk:¬ k < l.length)(h:AsOk sizes (l.take k)):AsOk sizes l:=by rwa [List.take_of_length_le (by omega)] at h
theorem StM.of_all{sizes s:List Int}(hl:s.length=sizes.length){k:Nat}(hk:¬ k < s.length)(h:∀ i:Nat,i < k->0<=xJ2 s (i:Int)/\xJ2 s (i:Int) < xJ2 sizes (i:Int)):StM sizes s:=⟨hl,fun i hi=>h i (by omega)⟩
theorem xXn(w:World)(sizes:List Int)(As Ai Ag Ao:Option Addr)(cs ni ci ng cg no co:Nat)(hsz:Ints w As sizes)(hls:sizes.length<=9223372036854775807)(A:Option Addr)(c:Nat)(l:List (Int×Int))(hI:AsAt w A l)(hl:l.length<=9223372036854775807) :
  Calls Tryz.prog 127 #[.agg #[.slice As sizes.length cs,.slice Ai ni ci,.slice Ag ng cg,.slice Ao no co],.slice A l.length c] w fun e w'=>e=.returned (.bool (asB sizes l))/\Below w.heap.size w w':=by
 go_enter Tryz.func127,Tryz.ntmps127
 go_wp2_with fail
 go_loopw [9] (fun i wr=>∃ k:Nat,k<=l.length/\i=.int .i64 k/\Hid (AsOk sizes (l.take k))/\Below w.heap.size w wr/\Cls wr [(w.heap.size,0,.slice As sizes.length cs),(w.heap.size,1,.slice Ai ni ci),(w.heap.size,2,.slice Ag ng cg),(w.heap.size,3,.slice Ao no co)]) (fun i _=>l.length - (intOf i).toNat)
 case atStart=>exact⟨0,Nat.zero_le _,rfl,lHd (by simpa using AsOk.nil sizes),bch,(by simp[Cls,go_sem])⟩
 case round=>
  obtain⟨k,hk,rfl,hS,hBr,hCr⟩:=hrel;obtain⟨w1,rfl⟩:∃ wo:World,wo=wr:=⟨_,rfl⟩;have Fr:=hCr;simp only[Cls,and_true] at Fr;have yrw0:w.heap.size < w1.heap.size:=hCr.blk (b:=w.heap.size) (k:=0) (v:=.slice As sizes.length cs) (by simp)
  by_cases hlt:k < l.length
  ·obtain⟨ad,v,x,rfl,hx,hc0,hc1⟩:=(hI.below hBr).at_ (k:=k) hlt;have hA1:=hc1
   by_cases h1:v < 0
   ·have hd1:decide (v < 0)=true:=decide_eq_true h1;have HF:=lHd (show asB sizes l=false from xZ3.2 (xVa hx.out (fun h=>by omega)))
    go_wp2_with fail
    go_quiet (fail)
    go_wp2;go_ret;exact⟨xJh HF.out.symm,bch⟩
   ·have hd1:decide (v < 0)=false:=decide_eq_false h1
    by_cases h2:v>=(sizes.length:Int)
    ·have hd2:decide (v>=(sizes.length:Int))=true:=decide_eq_true h2;have HF:=lHd (show asB sizes l=false from xZ3.2 (xVa hx.out (fun h=>by omega)))
     go_wp2_with fail
     go_quiet (fail)
     go_wp2;go_ret;exact⟨xJh HF.out.symm,bch⟩
    ·have hd2:decide (v>=(sizes.length:Int))=false:=decide_eq_false h2
     by_cases h3:x < 0
     ·have hd3:decide (x < 0)=true:=decide_eq_true h3;have HF:=lHd (show asB sizes l=false from xZ3.2 (xVa hx.out (fun h=>by omega)))
      go_wp2_with fail
      go_quiet (fail)
      go_wp2;go_ret;exact⟨xJh HF.out.symm,bch⟩
     ·have hd3:decide (x < 0)=false:=decide_eq_false h3;obtain⟨j,hj⟩:=Int.eq_ofNat_of_zero_le (Int.not_lt.1 h1);subst hj;have hd2n:decide (sizes.length<=j)=false:=decide_eq_false (by omega);have hjl:j < sizes.length:=by omega
      have hjl2:(j:Int) < (sizes.length:Int):=by omega
      obtain⟨bd,y,rfl,hy,hd⟩:=(hsz.below hBr).at_ (k:=j) (by omega);have hbd:=World.block_lt_of_cell? w1 _ hd;have hvy:=lHd (show xJ2 sizes (j:Int)=y from xJ5 hy.out)
      by_cases h4:x>=y
      ·have hd4:decide (y<=x)=true:=decide_eq_true h4;have HF:=lHd (show asB sizes l=false from xZ3.2 (xVa hx.out (fun h=>by rw[hvy.out] at h;omega)))
       go_wp2_with fail
       go_quiet (fail)
       go_wp2;go_ret;exact⟨xJh HF.out.symm,bch⟩
      ·have hd4:decide (y<=x)=false:=decide_eq_false h4;have hrg:=lHd (show (0<=(j:Int)/\(j:Int) < sizes.length)/\0<=x/\x < xJ2 sizes (j:Int) by rw[hvy.out];omega)
       by_cases hk0:k=0
       ·subst hk0;simp only[Nat.zero_mul,add_zero] at hc0 hc1;have HK:=lHd (AsOk.succ hx.out hS.out hrg.out (fun h=>absurd h (by omega)))
        go_wp2_with fail
        go_quiet (fail)
        go_wp2
        go_roundw
        case rel=>exact⟨0+1,by omega,by go_num,HK,bch,(by simp[Cls,go_sem,Fr,yrw0])⟩
        case measure=>simp[intOf];omega
       ·have hk1:0 < k:=by omega
        obtain⟨ad',v',x',e,hy2,hc2,hc3⟩:=(hI.below hBr).at_ (k:=k - 1) (by omega);injection e with e
        subst e;have hbd2:=World.block_lt_of_cell? w1 _ hc2
        by_cases h6:(j:Int)<=v'
        ·have hd6:decide ((j:Int)<=v')=true:=decide_eq_true h6;have HF:=lHd (show asB sizes l=false from xZ3.2 (zVe hk1 hy2.out hx.out h6))
         go_wp2_with fail
         go_quiet (fail)
         go_wp2;go_ret;exact⟨xJh HF.out.symm,bch⟩
        ·have hd6:decide ((j:Int)<=v')=false:=decide_eq_false h6;have HK:=lHd (AsOk.succ hx.out hS.out hrg.out (fun _ a b hab=>by rw[hy2.out] at hab;injection hab with hab;injection hab with ha hb;omega))
         go_wp2_with fail
         go_quiet (fail)
         go_wp2
         go_roundw
         case rel=>exact⟨k+1,by omega,by go_num,HK,bch,(by simp[Cls,go_sem,Fr,yrw0])⟩
         case measure=>simp[intOf];omega
  ·have HT:=lHd (xK6.2 (yJ0 hlt hS.out));go_wp2;go_ret;exact⟨xJh HT.out.symm,bch⟩
end Go.Proofs.YtpeipeljmapkmaaGreat
