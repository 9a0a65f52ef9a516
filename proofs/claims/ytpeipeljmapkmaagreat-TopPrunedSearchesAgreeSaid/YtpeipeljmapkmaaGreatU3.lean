/-
  Lemmas for the law: MB, MC, MD.
-/
import Derived.Test.YtpeipeljmapkmaaGreatU1
import Init
set_option linter.unusedVariables false
set_option linter.unusedSimpArgs false
set_option maxRecDepth 100000
set_option maxHeartbeats 4000000
namespace Go.Proofs.YtpeipeljmapkmaaGreat
open Go.RowKit
section
theorem xVb{xs:List Int}{n x:Int}{k:Nat}(hx:xs[k]? = some x)(h:n∉xs.take k)(hn:¬ x=n):n∉xs.take (k+1):=by
 rw[List.take_add_one,hx];simp;exact⟨h,fun e=>hn e.symm⟩
theorem xJh{α:Type}{P:α->Prop}{xs:List α}{x:α}{k:Nat}(hx:xs[k]? = some x)(h:∀ y∈xs.take k,P y)(hn:P x):∀ y∈xs.take (k+1),P y:=by
 intro y hy;rw[List.take_add_one,hx] at hy;simp at hy;rcases hy with hy | rfl
 ·exact h y hy
 ·exact hn
theorem xJy{α:Type}{P:α->Prop}{xs:List α}{k:Nat}(hk:¬ k < xs.length)(h:∀ y∈xs.take k,P y):∀ y∈xs,P y:=by
 rw[List.take_of_length_le (by omega)] at h;exact h
theorem xWb{α:Type}{xs:List α}{x:α}{k:Nat}(hx:xs[k]? = some x):k < xs.length:=(List.getElem?_eq_some_iff.1 hx).1
def SetP(l:List Int)(n:Int):Prop:=(∀ x∈l,0<=x/\x < n)/\∀ i:Nat,∀ x y:Int,l[i]? = some x->l[i+1]? = some y->x < y
noncomputable def vKi(l:List Int)(n:Int):Bool:=@decide (SetP l n) (Classical.propDecidable _)
theorem zXn{l:List Int}{n:Int}:vKi l n=true↔SetP l n:=by unfold vKi;exact @decide_eq_true_iff _ (Classical.propDecidable _)
theorem xQj{l:List Int}{n:Int}:vKi l n=false↔¬ SetP l n:=by unfold vKi;exact @decide_eq_false_iff_not _ (Classical.propDecidable _)
theorem SetP.lt{l:List Int}{n:Int}(h:SetP l n):∀ (d i:Nat) (x y:Int),l[i]? = some x->l[i+1+d]? = some y->x < y:=by
 intro d
 induction d with
 | zero=>intro i x y hx hy;exact h.2 i x y hx hy
 | succ d ih=>
  intro i x y hx hy;have hl:=xWb hy;obtain⟨z,hz⟩:∃ z,l[i+1+d]? = some z:=⟨_,lGe (by omega)⟩;exact Int.lt_trans (ih i x z hx hz) (h.2 _ z y hz hy)
theorem SetP.mono{l:List Int}{n:Int}(h:SetP l n){i j:Nat}{x y:Int}(hij:i < j)(hx:l[i]? = some x)(hy:l[j]? = some y):x < y:=
 h.lt (j - i - 1) i x y hx (by rw[show i+1+(j - i - 1)=j by omega];exact hy)
theorem SetP.inj{l:List Int}{n:Int}(h:SetP l n){i j:Nat}{x:Int}(hx:l[i]? = some x)(hy:l[j]? = some x):i=j:=by
 rcases Nat.lt_trichotomy i j with e | e | e
 ·exact absurd (h.mono e hx hy) (by omega)
 ·exact e
 ·exact absurd (h.mono e hy hx) (by omega)
theorem SetP.nil(n:Int):SetP [] n:=⟨by simp,by simp⟩
theorem SetP.ge{l:List Int}{n:Int}(h:SetP l n):∀ (i:Nat) (x:Int),l[i]? = some x->(i:Int)<=x:=by
 intro i
 induction i with
 | zero=>intro x hx;exact (h.1 x (lMg hx)).1
 | succ i ih=>
  intro x hx;have hl:=xWb hx;obtain⟨z,hz⟩:∃ z,l[i]? = some z:=⟨_,lGe (by omega)⟩;have:=ih z hz;have:=h.2 i z x hz hx;omega
theorem SetP.length{l:List Int}{n:Int}(h:SetP l n)(hn:0<=n):(l.length:Int)<=n:=by
 rcases Nat.eq_zero_or_pos l.length with e | e
 ·omega
 ·obtain⟨z,hz⟩:∃ z,l[l.length - 1]? = some z:=⟨_,lGe (by omega)⟩;have h1:=h.ge _ _ hz;have h2:=(h.1 z (lMg hz)).2;omega
theorem SetP.ext{a b:List Int}{n m:Int}(ha:SetP a n)(hb:SetP b m)(h:∀ x,x∈a↔x∈b):a=b:=by
 have pa:a.Pairwise (· < ·):=by
  rw[List.pairwise_iff_getElem];intro i j hi hj hij;exact ha.mono hij (lGe hi) (lGe hj)
 have pb:b.Pairwise (· < ·):=by
  rw[List.pairwise_iff_getElem];intro i j hi hj hij;exact hb.mono hij (lGe hi) (lGe hj)
 have na:a.Nodup:=pa.imp (fun h=>Int.ne_of_lt h);have nb:b.Nodup:=pb.imp (fun h=>Int.ne_of_lt h);have hp:a.Perm b:=(List.perm_ext_iff_of_nodup na nb).2 h;exact hp.eq_of_pairwise (fun x y _ _ h1 h2=>by omega) pa pb
theorem SetP.pairwise{a:List Int}{n:Int}(ha:SetP a n):a.Pairwise (· < ·):=by
 rw[List.pairwise_iff_getElem];intro i j hi hj hij;exact ha.mono hij (lGe hi) (lGe hj)
theorem SetP.of_pairwise{a:List Int}{n:Int}(h1:∀ x∈a,0<=x/\x < n)(h2:a.Pairwise (· < ·)):SetP a n:=by
 refine⟨h1,fun i x y hx hy=>?_⟩;obtain⟨hi,rfl⟩:=List.getElem?_eq_some_iff.1 hx;obtain⟨hj,rfl⟩:=List.getElem?_eq_some_iff.1 hy;exact List.pairwise_iff_getElem.1 h2 i (i+1) hi hj (by omega)
theorem xQu{xs:List Int}{n x:Int}{k:Nat}(hx:xs[k]? = some x)(h:SetP (xs.take k) n)(h0:0<=x)(hn:x < n)(hp:0 < k->∀ y,xs[k - 1]? = some y->y < x):SetP (xs.take (k+1)) n:=by
 refine⟨xJh hx h.1 ⟨h0,hn⟩,fun i a b ha hb=>?_⟩;have hl:=xWb hb;rw[List.length_take] at hl;rw[List.getElem?_take_of_lt (by omega)] at ha hb
 by_cases e:i+1=k
 ·subst e;rw[hx] at hb;injection hb with hb
  subst hb;exact hp (by omega) a (by simpa using ha)
 ·exact h.2 i a b (by rw[List.getElem?_take_of_lt (by omega)];exact ha) (by rw[List.getElem?_take_of_lt (by omega)];exact hb)
theorem xK6{xs:List Int}{n x:Int}{k:Nat}(hx:xs[k]? = some x)(h:x < 0\/n<=x):¬ SetP xs n:=fun hs=>by
 have:=hs.1 x (lMg hx);omega
theorem zJc{xs:List Int}{n x y:Int}{k:Nat}(hk:0 < k)(hy:xs[k - 1]? = some y)(hx:xs[k]? = some x)(h:x<=y):¬ SetP xs n:=fun hs=>by
 have:=hs.2 (k - 1) y x hy (by rw[show k - 1+1=k by omega];exact hx);omega
theorem vZx{xs:List Int}{n:Int}{k:Nat}(hk:¬ k < xs.length)(h:SetP (xs.take k) n):SetP xs n:=by
 rw[List.take_of_length_le (by omega)] at h;exact h
theorem zXo{xs ys:List Int}{k:Nat}{x:Int}(hx:xs[k]? = some x)(hy:ys[k]? = some x)(h:xs.take k=ys.take k):xs.take (k+1)=ys.take (k+1):=by
 rw[List.take_add_one,List.take_add_one,hx,hy,h]
theorem vZy(A B:Option Addr)(c d:Nat)(xs ys:List Int)(w:World)(hI:Ints w A xs)(hJ:Ints w B ys)(hl:xs.length<=9223372036854775807)(hm:ys.length<=9223372036854775807) :
  Calls Tryz.prog 32 #[.slice A xs.length c,.slice B ys.length d] w fun e w'=>e=.returned (.bool (decide (xs=ys)))/\Below w.heap.size w w':=by
 by_cases hlen:xs.length=ys.length
 ·have hlen':((xs.length:Int) != (ys.length:Int))=false:=by simp[hlen]
  have hle1:xs.length<=ys.length:=by omega
  have hle2:ys.length<=xs.length:=by omega
  clear hlen;go_enter Tryz.func32,Tryz.ntmps32;go_wp2
  go_loopw [5] (fun i wr=>∃ k:Nat,k<=xs.length/\i=.int .i64 k/\Hid (xs.take k=ys.take k)/\Below w.heap.size w wr) (fun i _=>xs.length - (intOf i).toNat)
  case atStart=>exact⟨0,Nat.zero_le _,rfl,lHd (by simp),Below.refl _ _⟩
  case round=>
   obtain⟨k,hk,rfl,hno,hB⟩:=hrel
   by_cases hlt:k < xs.length
   ·have hlt2:k < ys.length:=by omega
    obtain⟨ad,x,rfl,hx,hc⟩:=(hI.below hB).at_ hlt;obtain⟨bd,y,rfl,hy,hd⟩:=(hJ.below hB).at_ hlt2
    by_cases hxn:x=y
    ·subst hxn;go_wp2
     go_quiet (fail)
     go_wp2
     go_roundw
     case rel=>exact⟨k+1,by omega,by go_num,lHd (zXo hx.out hy.out hno.out),below_drewN hB _⟩
     case measure=>simp[intOf];omega
    ·have hb:(x != y)=true:=by simpa using hxn
     go_wp2
     go_quiet (fail)
     go_wp2;go_ret;refine⟨xX2 (decide_eq_false (fun h=>hxn ?_)).symm,below_drewN hB _⟩;have h1:=hx.out;have h2:=hy.out;rw[h,h2] at h1;injection h1 with h1
     exact h1.symm
   ·go_wp2;go_ret;refine⟨xX2 (decide_eq_true ?_).symm,hB⟩;have:=hno.out;rw[List.take_of_length_le (by omega),List.take_of_length_le (by omega)] at this;exact this
 ·have hlen':((xs.length:Int) != (ys.length:Int))=true:=by simp;omega
  go_enter Tryz.func32,Tryz.ntmps32;go_wp2;go_ret;exact⟨xX2 (decide_eq_false (fun h=>hlen (by rw[h]))).symm,Below.refl _ _⟩
theorem vKj(c d:Int)(w:World) :
  Calls Tryz.prog 10 #[.int .i64 c,.int .i64 d] w fun e w'=>e=.returned (.agg #[.int .i64 c,.int .i64 d])/\Below w.heap.size w w':=by
 go_enter Tryz.func10,Tryz.ntmps10;go_wp2;refine bodyPost_ret (v:=.agg #[.int .i64 c,.int .i64 d]) ?_ rfl ⟨rfl,(Below.refl _ _).alloc (Nat.le_refl _) _⟩;simp[results,Tryz.results10,go_sem]
theorem zXp(A:Option Addr)(c:Nat)(xs:List Int)(n:Int)(w:World)(hI:Ints w A xs)(hl:xs.length<=9223372036854775807) :
  Calls Tryz.prog 62 #[.slice A xs.length c,.int .i64 n] w fun e w'=>e=.returned (.bool (vKi xs n))/\w=w':=by
 go_enter Tryz.func62,Tryz.ntmps62;go_wp2
 go_loop [9] (fun i=>∃ k:Nat,k<=xs.length/\i=.int .i64 k/\Hid (SetP (xs.take k) n)) (fun i=>xs.length - (intOf i).toNat)
 case atStart=>exact⟨0,Nat.zero_le _,rfl,lHd (by simpa using SetP.nil n)⟩
 case round=>
  obtain⟨k,hk,rfl,hS⟩:=hrel
  by_cases hlt:k < xs.length
  ·obtain⟨ad,x,rfl,hx,hc⟩:=hI.at_ hlt
   by_cases h1:x < 0
   ·go_wp2;go_ret;exact⟨xX2 (xQj.2 (xK6 hx.out (Or.inl h1))).symm,rfl⟩
   ·by_cases h2:n<=x
    ·go_wp2;go_ret;exact⟨xX2 (xQj.2 (xK6 hx.out (Or.inr h2))).symm,rfl⟩
    ·by_cases hk0:k=0
     ·subst hk0;rw[add_zero] at hc;go_wp2
      go_round
      case rel=>exact⟨1,by omega,rfl,lHd (xQu hx.out hS.out (by omega) (by omega) (fun h=>absurd h (by omega)))⟩
      case measure=>simp[intOf];omega
     ·have hk1:0 < k:=by omega
      obtain⟨bd,y,e,hy,hd⟩:=hI.at_ (show k - 1 < xs.length by omega);injection e with e
      subst e
      by_cases h3:x<=y
      ·go_wp2;go_ret;exact⟨xX2 (xQj.2 (zJc hk1 hy.out hx.out h3)).symm,rfl⟩
      ·go_wp2
       go_round
       case rel=>
        refine⟨k+1,by omega,by go_num,lHd (xQu hx.out hS.out (by omega) (by omega) (fun _ z hz=>?_))⟩;have:=hy.out;rw[this] at hz;injection hz with hz
        omega
       case measure=>simp[intOf];omega
  ·go_wp2;go_ret;exact⟨xX2 (zXn.2 (vZx hlt hS.out)).symm,rfl⟩
theorem xJc(A:Option Addr)(c:Nat)(xs:List Int)(n:Int)(w:World)(hI:Ints w A xs)(hl:xs.length<=9223372036854775807)(h:SetP xs n) :
  Calls Tryz.prog 62 #[.slice A xs.length c,.int .i64 n] w fun e w'=>e=.returned (.bool true)/\w=w':=
 (zXp A c xs n w hI hl).mono fun e w' hh=>⟨by rw[hh.1,zXn.2 h],hh.2⟩
theorem xVc(A:Option Addr)(c:Nat)(xs:List Int)(n:Int)(w:World)(hI:Ints w A xs)(hl:xs.length<=9223372036854775807)(h:¬ SetP xs n) :
  Calls Tryz.prog 62 #[.slice A xs.length c,.int .i64 n] w fun e w'=>e=.returned (.bool false)/\w=w':=
 (zXp A c xs n w hI hl).mono fun e w' hh=>⟨by rw[hh.1,xQj.2 h],hh.2⟩
theorem zYl(x:Int)(w:World):Calls Tryz.prog 142 #[.int .i64 x] w fun e w'=>e=.returned (.bool false)/\w=w':=by
 go_enter Tryz.func142,Tryz.ntmps142;go_wp2;go_ret;exact⟨by simp,rfl⟩
theorem zWs(x:Int)(w:World):Calls Tryz.prog 120 #[.int .i64 x] w fun e w'=>e=.returned (.bool false)/\w=w':=by
 go_enter Tryz.func120,Tryz.ntmps120;go_wp2;go_ret;exact⟨by simp,rfl⟩
theorem zV7(x y:Int)(w:World):Calls Tryz.prog 119 #[.int .i64 x,.int .i64 y] w fun e w'=>e=.returned (.bool (decide (x < y)))/\w=w':=by
 by_cases h:x < y
 all_goals
  go_enter Tryz.func119,Tryz.ntmps119
  go_wp2_with fail
  refine (zYl _ _).mono ?_;rintro e w' ⟨rfl,rfl⟩;go_wp2;go_ret;exact⟨xX2 (by simp <;> omega),rfl⟩
theorem vVs{ys:List Int}(hs:ys.Pairwise (· < ·)){k:Nat}{x:Int}(lo:∀ j:Nat,∀ y:Int,j < k->ys[j]? = some y->y < x)(hi:∀ j:Nat,∀ y:Int,k<=j->ys[j]? = some y->x<=y) :
  x∈ys↔ys[k]? = some x:=by
 constructor
 ·intro h;obtain⟨j,hj⟩:=List.mem_iff_getElem?.1 h;rcases Nat.lt_trichotomy j k with e | e | e
  ·have:=lo j x e hj;omega
  ·subst e;exact hj
  ·have hl:=xWb hj;obtain⟨z,hz⟩:∃ z,ys[k]? = some z:=⟨_,lGe (by omega)⟩;have h1:=hi k z (Nat.le_refl _) hz;obtain⟨hk1,rfl⟩:=List.getElem?_eq_some_iff.1 hz;obtain⟨hj1,rfl⟩:=List.getElem?_eq_some_iff.1 hj;have:=List.pairwise_iff_getElem.1 hs k j hk1 hj1 e;omega
 ·exact fun h=>lMg h
def vVt(ys:List Int)(x:Int)(w:World)(e:Ending)(w':World):Prop:=
 ∃ k:Nat,e=.returned (.tuple #[.int .i64 k,.bool (decide (x∈ys))])/\k<=ys.length/\(∀ j:Nat,∀ y:Int,j < k->ys[j]? = some y->y < x)/\(∀ j:Nat,∀ y:Int,k<=j->ys[j]? = some y->x<=y)/\Below w.heap.size w w'
theorem zQb(B:Option Addr)(d:Nat)(ys:List Int)(x:Int)(w:World)(hJ:Ints w B ys)(hl:ys.length<=1000000000000)(hs:ys.Pairwise (· < ·)) :
  Calls Tryz.prog 78 #[.slice B ys.length d,.int .i64 x] w (vVt ys x w):=by
 go_enter Tryz.func78,Tryz.ntmps78;go_wp2
 go_loop [7,8] (fun a b=>∃ i j:Nat,i<=j/\j<=ys.length/\a=.int .i64 i/\b=.int .i64 j/\Hid (∀ k:Nat,∀ y:Int,k < i->ys[k]? = some y->y < x)/\Hid (∀ k:Nat,∀ y:Int,j<=k->ys[k]? = some y->x<=y)) (fun a b=>(intOf b).toNat - (intOf a).toNat)
 case atStart=>exact⟨0,ys.length,by omega,by omega,rfl,rfl,lHd (fun k y h=>absurd h (by omega)),lHd (fun k y h hy=>absurd (xWb hy) (by omega))⟩
 case round=>
  obtain⟨i,j,hij,hj,rfl,rfl,H1,H2⟩:=hrel
  by_cases hlt:i < j
  ·have m1:i<=(i+j) / 2:=by omega
   have m2:(i+j) / 2 < j:=by omega
   obtain⟨ad,y,rfl,hy,hc⟩:=hJ.at_ (show (i+j) / 2 < ys.length by omega);have HS:=lHd hs;clear hs;have key:y < x->∀ k:Nat,∀ z:Int,k < (i+j) / 2+1->ys[k]? = some z->z < x:=fun h k z hk hz=>by
    by_cases e:k=(i+j) / 2
    ·subst e;rw[hy.out] at hz;injection hz with hz;omega
    ·obtain⟨a1,rfl⟩:=List.getElem?_eq_some_iff.1 hz;obtain⟨a2,b2⟩:=List.getElem?_eq_some_iff.1 hy.out;have:=List.pairwise_iff_getElem.1 HS.out k ((i+j) / 2) a1 a2 (by omega);omega
   have key2:¬ y < x->∀ k:Nat,∀ z:Int,(i+j) / 2<=k->ys[k]? = some z->x<=z:=fun h k z hk hz=>by
    by_cases e:k=(i+j) / 2
    ·subst e;rw[hy.out] at hz;injection hz with hz;omega
    ·obtain⟨a1,rfl⟩:=List.getElem?_eq_some_iff.1 hz;obtain⟨a2,b2⟩:=List.getElem?_eq_some_iff.1 hy.out;have:=List.pairwise_iff_getElem.1 HS.out ((i+j) / 2) k a2 a1 (by omega);omega
   have K1:=lHd key;have K2:=lHd key2;clear key key2
   by_cases hc2:y < x
   ·skip
    go_wp2_with fail
    refine (zV7 _ _ _).mono ?_;rintro e w' ⟨he,rfl⟩;rw[decide_eq_true (show y < x by omega)] at he;subst he;go_wp2
    go_round
    case rel=>exact⟨(i+j) / 2+1,j,by omega,hj,by go_num,rfl,lHd (K1.out (by omega)),H2⟩
    case measure=>simp[intOf];omega
   ·skip
    go_wp2_with fail
    refine (zV7 _ _ _).mono ?_;rintro e w' ⟨he,rfl⟩;rw[decide_eq_false (show ¬ y < x by omega)] at he;subst he;go_wp2
    go_round
    case rel=>exact⟨i,(i+j) / 2,by omega,by omega,rfl,by go_num,H1,lHd (K2.out (by omega))⟩
    case measure=>simp[intOf];omega
  ·obtain rfl:i=j:=by omega
   have hm:=vVs hs H1.out H2.out;have HM:=lHd hm;clear hs hm
   by_cases hin:i < ys.length
   ·obtain⟨ad,y,rfl,hy,hc⟩:=hJ.at_ hin
    by_cases hyx:y=x
    ·have HT:=lHd (HM.out.2 (by rw[hy.out,hyx]));subst hyx;go_wp2
     go_ret2
     exact⟨i,by rw[decide_eq_true HT.out];rfl,hj,H1.out,H2.out,Below.refl _ _⟩
    ·have HT:Hid (¬ x∈ys):=lHd (fun h=>hyx (by have h1:=HM.out.1 h;have h2:=hy.out;rw[h2] at h1;injection h1));have hb:(y == x)=false:=by simpa using hyx
     go_wp2_with fail
     refine (zWs _ _).mono ?_;rintro e w' ⟨rfl,rfl⟩;go_wp2
     go_ret2
     exact⟨i,by rw[decide_eq_false HT.out];rfl,hj,H1.out,H2.out,Below.refl _ _⟩
   ·have HT:Hid (¬ x∈ys):=lHd (fun h=>hin (xWb (HM.out.1 h)));go_wp2
    go_ret2
    exact⟨i,by rw[decide_eq_false HT.out];rfl,hj,H1.out,H2.out,Below.refl _ _⟩
def xY9(F:FuncId):Prop:=∀ (args:Array Value) (w:World),(callFunc F args).run Tryz.prog w=.ok (.enter F args) w
def vZz(F:FuncId)(q:Value)(xs:List Int)(p:Int->Bool)(w:World):Prop:=
 ∀ x∈xs,∀ wr:World,Below w.heap.size w wr->Calls Tryz.prog F #[.int .i64 x,q] wr fun e w'=>e=.returned (.bool (p x))/\Below wr.heap.size wr w'
def zWt(xs:List Int)(w:World)(e:Ending)(w':World):Prop:=∃ k:Nat,e=.returned (.int .i64 k)/\k < xs.length/\Below w.heap.size w w'
theorem zJd(A:Option Addr)(c:Nat)(xs:List Int)(F:FuncId)(q:Value)(p:Int->Bool)(w:World)(hI:Ints w A xs)(hl:xs.length<=9223372036854775807)(hE:xY9 F)(hf:vZz F q xs p w)(hp:∃ x∈xs,p x=true) :
  Calls Tryz.prog 88 #[.slice A xs.length c,.func (.func F) #[] #[q]] w (zWt xs w):=by
 have HP:=lHd hp;have hE':∀ (args:Array Value) (w:World),(callFunc F args).run Tryz.prog w=.ok (.enter F args) w:=hE;clear hp hE;go_enter Tryz.func88,Tryz.ntmps88;go_wp2
 go_loopw [8] (fun i wr=>∃ k:Nat,k<=xs.length/\i=.int .i64 k/\Hid (∀ x∈xs.take k,p x=false)/\Below w.heap.size w wr) (fun i _=>xs.length - (intOf i).toNat)
 case atStart=>exact⟨0,Nat.zero_le _,rfl,lHd (by simp),Below.refl _ _⟩
 case round=>
  obtain⟨k,hk,rfl,hno,hB⟩:=hrel
  by_cases hlt:k < xs.length
  ·obtain⟨ad,x,rfl,hx,hc⟩:=(hI.below hB).at_ hlt;have hm:x∈xs:=lMg hx.out;have HM:=lHd hm;clear hm
   by_cases hpx:p x=true
   ·go_wp2_with fail
    refine (hf x HM.out _ hB).mono ?_;rintro e w1 ⟨rfl,hB1⟩;go_wp2;go_ret;exact⟨k,rfl,hlt,hB.trans (hB1.mono hB.size)⟩
   ·have hpx':p x=false:=by simpa using hpx
    have HX:=lHd hpx'
    go_wp2_with fail
    refine (hf x HM.out _ hB).mono ?_;rintro e w1 ⟨he,hB1⟩;rw[HX.out] at he;subst he;have D1:=hB.trans (hB1.mono hB.size);go_wp2
    go_roundw
    case rel=>exact⟨k+1,by omega,by go_num,lHd (xJh hx.out hno.out HX.out),D1⟩
    case measure=>simp[intOf];omega
  ·exfalso;obtain⟨x,hx,hpx⟩:=HP.out;have:=xJy hlt hno.out x hx;rw[hpx] at this
   cases this
theorem zXq(A:Option Addr)(c:Nat)(xs:List Int)(F:FuncId)(q:Value)(p:Int->Bool)(w:World)(hI:Ints w A xs)(hl:xs.length<=9223372036854775807)(hE:xY9 F)(hf:vZz F q xs p w)(hp:∀ x∈xs,p x=false) :
  Calls Tryz.prog 88 #[.slice A xs.length c,.func (.func F) #[] #[q]] w fun e w'=>e=.returned (.int .i64 (-1))/\Below w.heap.size w w':=by
 have HP:=lHd hp;have hE':∀ (args:Array Value) (w:World),(callFunc F args).run Tryz.prog w=.ok (.enter F args) w:=hE;clear hp hE;go_enter Tryz.func88,Tryz.ntmps88;go_wp2
 go_loopw [8] (fun i wr=>∃ k:Nat,k<=xs.length/\i=.int .i64 k/\Below w.heap.size w wr) (fun i _=>xs.length - (intOf i).toNat)
 case atStart=>exact⟨0,Nat.zero_le _,rfl,Below.refl _ _⟩
 case round=>
  obtain⟨k,hk,rfl,hB⟩:=hrel
  by_cases hlt:k < xs.length
  ·obtain⟨ad,x,rfl,hx,hc⟩:=(hI.below hB).at_ hlt;have hm:x∈xs:=lMg hx.out;have HM:=lHd hm;clear hm
   go_wp2_with fail
   refine (hf x HM.out _ hB).mono ?_;rintro e w1 ⟨he,hB1⟩;rw[HP.out x HM.out] at he;subst he;have D1:=hB.trans (hB1.mono hB.size);go_wp2
   go_roundw
   case rel=>exact⟨k+1,by omega,by go_num,D1⟩
   case measure=>simp[intOf];omega
  ·go_wp2;go_ret;exact⟨rfl,hB⟩
theorem xYg(A:Option Addr)(c:Nat)(xs:List Int)(F:FuncId)(q:Value)(p:Int->Bool)(w:World)(hI:Ints w A xs)(hl:xs.length<=9223372036854775807)(hE:xY9 F)(hf:vZz F q xs p w) :
  Calls Tryz.prog 38 #[.slice A xs.length c,.func (.func F) #[] #[q]] w fun e w'=>e=.returned (.bool (decide (∃ x∈xs,p x=true)))/\Below w.heap.size w w':=by
 by_cases hp:∃ x∈xs,p x=true
 ·rw[decide_eq_true hp];have HP:=lHd hp;clear hp;go_enter Tryz.func38,Tryz.ntmps38
  go_wp2_with fail
  refine (zJd A c xs F q p _ hI hl hE hf HP.out).mono ?_;rintro e w' ⟨k,rfl,hk,hB⟩;go_wp2;go_ret;exact⟨xX2 (by simp),hB⟩
 ·rw[decide_eq_false hp];have HP:Hid (∀ x∈xs,p x=false):=lHd (fun x hx=>by
   cases h:p x with
   | false=>rfl
   | true=>exact absurd ⟨x,hx,h⟩ hp)
  clear hp;go_enter Tryz.func38,Tryz.ntmps38
  go_wp2_with fail
  refine (zXq A c xs F q p _ hI hl hE hf HP.out).mono ?_;rintro e w' ⟨rfl,hB⟩;go_wp2;go_ret;exact⟨rfl,hB⟩
theorem zJe:xY9 117:=fun args w=>by kernel_rfl
theorem zYm(b:Nat)(B:Option Addr)(d:Nat)(ys:List Int)(x:Int)(w:World)(hb:w.cell? ⟨b,0,none⟩=some (.slice B ys.length d))(hJ:Ints w B ys)(hl:ys.length<=1000000000000)(hs:ys.Pairwise (· < ·)) :
  Calls Tryz.prog 117 #[.int .i64 x,.pointer (some ⟨b,0,none⟩)] w fun e w'=>e=.returned (.bool (decide (x∈ys)))/\Below w.heap.size w w':=by
 have HS:=lHd hs;clear hs;go_enter Tryz.func117,Tryz.ntmps117
 go_wp2_with fail
 refine (zQb _ _ _ _ _ hJ hl HS.out).mono ?_;rintro e w1 ⟨k,rfl,_,_,_,hB⟩;go_wp2;go_ret;exact⟨rfl,hB⟩
theorem xJt(A B:Option Addr)(c d:Nat)(xs ys:List Int)(w:World)(hI:Ints w A xs)(hJ:Ints w B ys)(hl:xs.length<=9223372036854775807)(hm:ys.length<=1000000000000)(hs:ys.Pairwise (· < ·)) :
  Calls Tryz.prog 75 #[.slice A xs.length c,.slice B ys.length d] w fun e w'=>e=.returned (.bool (decide (∃ x∈xs,x∈ys)))/\Below w.heap.size w w':=by
 have HS:=lHd hs;clear hs;have D0:Below w.heap.size w (w.alloc (.cells #[.slice B ys.length d] 22)):=(Below.refl _ _).alloc (Nat.le_refl _) _;have hc:(w.alloc (.cells #[.slice B ys.length d] 22)).cell? ⟨w.heap.size,0,none⟩=some (.slice B ys.length d):=by simp[go_sem]
 have hT:vZz 117 (.pointer (some ⟨w.heap.size,0,none⟩)) xs (fun x=>decide (x∈ys)) (w.alloc (.cells #[.slice B ys.length d] 22)):=by
  intro x _ wr hB;have hc':wr.cell? ⟨w.heap.size,0,none⟩=some (.slice B ys.length d):=(hB.cell (World.block_lt_of_cell? _ _ hc)).trans hc;exact zYm w.heap.size B d ys x wr hc' ((hJ.below D0).below hB) hm HS.out
 go_enter Tryz.func75,Tryz.ntmps75
 go_wp2_with fail
 refine (xYg A c xs _ _ (fun x=>decide (x∈ys)) _ (hI.below D0) hl zJe hT).mono ?_;rintro e w1 ⟨rfl,hB⟩;go_wp2;go_ret;exact⟨xX2 (by simp),xJ3 w hB D0⟩
theorem zWu(A:Option Addr)(c:Nat)(xs:List Int)(n:Int)(w:World)(hI:Ints w A xs)(hl:xs.length<=9223372036854775807)(h:n∈xs) :
  Calls Tryz.prog 116 #[.slice A xs.length c,.int .i64 n] w (zWt xs w):=by
 have HP:=lHd h;clear h;go_enter Tryz.func116,Tryz.ntmps116;go_wp2
 go_loop [8] (fun i=>∃ k:Nat,k<=xs.length/\i=.int .i64 k/\Hid (n∉xs.take k)) (fun i=>xs.length - (intOf i).toNat)
 case atStart=>exact⟨0,Nat.zero_le _,rfl,lHd (by simp)⟩
 case round=>
  obtain⟨k,hk,rfl,hno⟩:=hrel
  by_cases hlt:k < xs.length
  ·obtain⟨ad,x,rfl,hx,hc⟩:=hI.at_ hlt
   by_cases hxn:n=x
   ·subst hxn;go_wp2;go_ret;exact⟨k,rfl,hlt,Below.refl _ _⟩
   ·have hb:(n == x)=false:=by simpa using hxn
    go_wp2
    go_round
    case rel=>exact⟨k+1,by omega,by go_num,lHd (xVb hx.out hno.out (fun e=>hxn e.symm))⟩
    case measure=>simp[intOf];omega
  ·exact absurd HP.out (by have:=hno.out;rw[List.take_of_length_le (by omega)] at this;exact this)
theorem zV8(A:Option Addr)(c:Nat)(xs:List Int)(n:Int)(w:World)(hI:Ints w A xs)(hl:xs.length<=9223372036854775807)(h:¬ n∈xs) :
  Calls Tryz.prog 116 #[.slice A xs.length c,.int .i64 n] w fun e w'=>e=.returned (.int .i64 (-1))/\w=w':=by
 have HP:=lHd h;clear h;go_enter Tryz.func116,Tryz.ntmps116;go_wp2
 go_loop [8] (fun i=>∃ k:Nat,k<=xs.length/\i=.int .i64 k) (fun i=>xs.length - (intOf i).toNat)
 case atStart=>exact⟨0,Nat.zero_le _,rfl⟩
 case round=>
  obtain⟨k,hk,rfl⟩:=hrel
  by_cases hlt:k < xs.length
  ·obtain⟨ad,x,rfl,hx,hc⟩:=hI.at_ hlt;have hb:(n == x)=false:=by
    have:¬ n=x:=fun e=>HP.out (by rw[e];exact lMg hx.out)
    simpa using this
   go_wp2
   go_round
   case rel=>exact⟨k+1,by omega,by go_num⟩
   case measure=>simp[intOf];omega
  ·go_wp2;go_ret;exact⟨rfl,rfl⟩
theorem zXr(A:Option Addr)(c:Nat)(xs:List Int)(n:Int)(w:World)(hI:Ints w A xs)(hl:xs.length<=9223372036854775807) :
  Calls Tryz.prog 74 #[.slice A xs.length c,.int .i64 n] w fun e w'=>e=.returned (.bool (decide (n∈xs)))/\Below w.heap.size w w':=by
 by_cases hp:n∈xs
 ·rw[decide_eq_true hp];have HP:=lHd hp;clear hp;go_enter Tryz.func74,Tryz.ntmps74
  go_wp2_with fail
  refine (zWu A c xs n _ hI hl HP.out).mono ?_;rintro e w' ⟨k,rfl,hk,hB⟩;go_wp2;go_ret;exact⟨xX2 (by simp),hB⟩
 ·rw[decide_eq_false hp];have HP:=lHd hp;clear hp;go_enter Tryz.func74,Tryz.ntmps74
  go_wp2_with fail
  refine (zV8 A c xs n _ hI hl HP.out).mono ?_;rintro e w' ⟨rfl,rfl⟩;go_wp2;go_ret;exact⟨rfl,Below.refl _ _⟩
theorem xK7(w:World)(v:Value)(e:TypeId)(b:Nat)(hb:b=w.heap.size):(w.alloc (.cells #[v] e)).cell? ⟨b,0,none⟩=some v:=by
 subst hb;simp
def vQ0(xs:List Int)(w:World)(e:Ending)(w':World):Prop:=∃ k:Nat,e=.returned (.int .i64 k)/\k < xs.length/\w'=w
theorem zYn(A:Option Addr)(c:Nat)(xs:List Int)(n:Int)(w:World)(hI:Ints w A xs)(hl:xs.length<=9223372036854775807)(h:n∈xs) :
  Calls Tryz.prog 116 #[.slice A xs.length c,.int .i64 n] w (vQ0 xs w):=by
 have HP:=lHd h;clear h;go_enter Tryz.func116,Tryz.ntmps116;go_wp2
 go_loop [8] (fun i=>∃ k:Nat,k<=xs.length/\i=.int .i64 k/\Hid (n∉xs.take k)) (fun i=>xs.length - (intOf i).toNat)
 case atStart=>exact⟨0,Nat.zero_le _,rfl,lHd (by simp)⟩
 case round=>
  obtain⟨k,hk,rfl,hno⟩:=hrel
  by_cases hlt:k < xs.length
  ·obtain⟨ad,x,rfl,hx,hc⟩:=hI.at_ hlt
   by_cases hxn:n=x
   ·subst hxn;go_wp2;go_ret;exact⟨k,rfl,hlt,rfl⟩
   ·have hb:(n == x)=false:=by simpa using hxn
    go_wp2
    go_round
    case rel=>exact⟨k+1,by omega,by go_num,lHd (xVb hx.out hno.out (fun e=>hxn e.symm))⟩
    case measure=>simp[intOf];omega
  ·exact absurd HP.out (by have:=hno.out;rw[List.take_of_length_le (by omega)] at this;exact this)
theorem zYo(A:Option Addr)(c:Nat)(xs:List Int)(n:Int)(w:World)(hI:Ints w A xs)(hl:xs.length<=9223372036854775807) :
  Calls Tryz.prog 74 #[.slice A xs.length c,.int .i64 n] w fun e w'=>e=.returned (.bool (decide (n∈xs)))/\w'=w:=by
 by_cases hp:n∈xs
 ·rw[decide_eq_true hp];have HP:=lHd hp;clear hp;go_enter Tryz.func74,Tryz.ntmps74
  go_wp2_with fail
  refine (zYn A c xs n _ hI hl HP.out).mono ?_;rintro e w' ⟨k,rfl,hk,hW⟩;subst hW;go_wp2;go_ret;exact⟨xX2 (by simp),rfl⟩
 ·rw[decide_eq_false hp];have HP:=lHd hp;clear hp;go_enter Tryz.func74,Tryz.ntmps74
  go_wp2_with fail
  refine (zV8 A c xs n _ hI hl HP.out).mono ?_;rintro e w' ⟨rfl,rfl⟩;go_wp2;go_ret;exact⟨rfl,rfl⟩
theorem xVs(A:Option Addr)(c:Nat)(xs:List Int)(n:Int)(w:World)(v:Bool)(hI:Ints w A xs)(hl:xs.length<=9223372036854775807)(hv:decide (n∈xs)=v) :
  Calls Tryz.prog 74 #[.slice A xs.length c,.int .i64 n] w fun e w'=>e=.returned (.bool v)/\w'=w:=by
 subst hv;exact zYo A c xs n w hI hl
def Drawn(w w':World):Prop:=∃ m,w'=w.drewN m
theorem Drawn.refl(w:World):Drawn w w:=⟨0,rfl⟩
theorem Drawn.drewN{w w':World}(h:Drawn w w')(k:Nat):Drawn w (w'.drewN k):=by
 obtain⟨m,rfl⟩:=h;exact⟨m+k,by rw[World.drewN_drewN]⟩
theorem Drawn.below{w w':World}(h:Drawn w w'):Below w.heap.size w w':=by
 obtain⟨m,rfl⟩:=h;exact below_drewN (Below.refl _ _) m
end
section
def xZ7(a b:Int):Int:=if a=1000000000\/b=1000000000 then 1000000000 else if a+b>=1000000000 then 999999999 else a+b
theorem xKj{a b:Int}(h:a=1000000000\/b=1000000000):xZ7 a b=1000000000:=by unfold xZ7;rw[if_pos h]
theorem vX5{a b:Int}(h:¬ (a=1000000000\/b=1000000000))(h2:a+b>=1000000000):xZ7 a b=999999999:=by unfold xZ7;rw[if_neg h,if_pos h2]
theorem vX6{a b:Int}(h:¬ (a=1000000000\/b=1000000000))(h2:¬ a+b>=1000000000):xZ7 a b=a+b:=by unfold xZ7;rw[if_neg h,if_neg h2]
def InV(v:Int):Prop:=0<=v/\v<=1000000000
theorem InV.zero:InV 0:=by unfold InV;omega
theorem InV.inf:InV 1000000000:=by unfold InV;omega
theorem zVj{a b:Int}(ha:InV a)(hb:InV b):InV (xZ7 a b):=by unfold InV at *;unfold xZ7;split <;> (try split) <;> omega
theorem xWl{a b c d:Int}(ha:InV a)(hb:InV b)(hc:InV c)(hd:InV d)(h:a<=c)(k:b<=d):xZ7 a b<=xZ7 c d:=by unfold InV at *;unfold xZ7;(repeat split) <;> omega
def xJ2(vs:List Int)(p:Int):Int:=(vs[p.toNat]?).getD 0
def xXg(sum:Bool)(o v:Int):Int:=match sum with | true=>xZ7 o v | false=>if v > o then v else o
def xJp(sum:Bool)(vs:List Int)(xs:List Int):Int:=xs.foldl (fun o p=>xXg sum o (xJ2 vs p)) 0
def xZr(vs:List Int):Prop:=∀ v∈vs,InV v
theorem xYp{s:Bool}{o v:Int}(ho:InV o)(hv:InV v):InV (xXg s o v):=by
 cases s
 ·unfold xXg InV at *;dsimp only;split <;> omega
 ·exact zVj ho hv
theorem xX3{vs:List Int}(h:xZr vs)(p:Int):InV (xJ2 vs p):=by
 unfold xJ2
 cases e:vs[p.toNat]? with
 | none=>exact InV.zero
 | some v=>exact h v (lMg e)
theorem xJ9{vs:List Int}{p v:Int}(h:vs[p.toNat]? = some v):xJ2 vs p=v:=by unfold xJ2;rw[h];rfl
theorem vQk{s:Bool}{vs:List Int}(h:xZr vs):∀ (xs:List Int) (o:Int),InV o->InV (xs.foldl (fun o p=>xXg s o (xJ2 vs p)) o):=by
 intro xs
 induction xs with
 | nil=>intro o ho;exact ho
 | cons x xs ih=>intro o ho;exact ih _ (xYp ho (xX3 h x))
theorem xXc{s:Bool}{vs:List Int}(h:xZr vs)(xs:List Int):InV (xJp s vs xs):=vQk h xs 0 InV.zero
theorem xQd{s:Bool}{vs:List Int}:xJp s vs []=0:=rfl
theorem xKk{s:Bool}{vs xs:List Int}{k:Nat}{x v:Int}(hx:xs[k]? = some x)(hv:vs[x.toNat]? = some v):xJp s vs (xs.take (k+1))=xXg s (xJp s vs (xs.take k)) v:=by
 unfold xJp;rw[List.take_add_one,hx];simp only[Option.toList,List.foldl_append,List.foldl_cons,List.foldl_nil];rw[xJ9 hv]
theorem xW1{s:Bool}{vs xs:List Int}{k:Nat}(h:¬ k < xs.length):xJp s vs (xs.take k)=xJp s vs xs:=by rw[List.take_of_length_le (by omega)]
theorem zKf{s:Bool}{o v o' v':Int}(ho:InV o)(hv:InV v)(ho':InV o')(hv':InV v')(h:o<=o')(k:v<=v'):xXg s o v<=xXg s o' v':=by
 cases s
 ·unfold xXg;dsimp only;(repeat split) <;> omega
 ·exact xWl ho hv ho' hv' h k
def LeV(U V:List Int):Prop:=∀ p,xJ2 U p<=xJ2 V p
theorem zKg{s:Bool}{U V:List Int}(hU:xZr U)(hV:xZr V)(h:LeV U V):∀ (xs:List Int) (o o':Int),InV o->InV o'->o<=o' ->
  xs.foldl (fun o p=>xXg s o (xJ2 U p)) o<=xs.foldl (fun o p=>xXg s o (xJ2 V p)) o':=by
 intro xs
 induction xs with
 | nil=>intro o o' _ _ h;exact h
 | cons x xs ih=>
  intro o o' ho ho' hle;exact ih _ _ (xYp ho (xX3 hU x)) (xYp ho' (xX3 hV x)) (zKf ho (xX3 hU x) ho' (xX3 hV x) hle (h x))
theorem zKh{s:Bool}{U V:List Int}(hU:xZr U)(hV:xZr V)(h:LeV U V)(xs:List Int):xJp s U xs<=xJp s V xs:=zKg hU hV h xs 0 0 InV.zero InV.zero (Int.le_refl _)
def opV(s:Bool)(V:List Int)(o:OpV)(c:Int):Int:=xZ7 (xJp s V o.pre) c
theorem zVk{s:Bool}{V:List Int}(h:xZr V)(o:OpV){c:Int}(hc:InV c):InV (opV s V o c):=zVj (xXc h _) hc
theorem zVl{s:Bool}{U V:List Int}(hU:xZr U)(hV:xZr V)(h:LeV U V)(o:OpV){c:Int}(hc:InV c):opV s U o c<=opV s V o c:=
 xWl (xXc hU _) hc (xXc hV _) hc (zKh hU hV h _) (Int.le_refl _)
def xXp(s:Bool)(ops:List OpV)(cs:List Int)(k:Nat)(U:List Int):Prop:=
 ∀ (i:Nat) (o:OpV) (c:Int),i < k->ops[i]? = some o->cs[i]? = some c->∀ p∈o.add,xJ2 U p<=opV s U o c
structure Shape(n:Nat)(st:List Int)(U:List Int):Prop where
 len:U.length=n
 all:xZr U
 zero:∀ p∈st,xJ2 U p=0
structure Fix(s:Bool)(n:Nat)(st:List Int)(ops:List OpV)(cs:List Int)(U:List Int):Prop where
 shape:Shape n st U
 closed:xXp s ops cs ops.length U
structure Above(s:Bool)(n:Nat)(st:List Int)(ops:List OpV)(cs:List Int)(V:List Int):Prop where
 shape:Shape n st V
 great:∀ U,Fix s n st ops cs U->LeV U V
structure Best(s:Bool)(n:Nat)(st:List Int)(ops:List OpV)(cs:List Int)(V:List Int):Prop where
 fix:Fix s n st ops cs V
 great:∀ U,Fix s n st ops cs U->LeV U V
noncomputable def xJg(s:Bool)(n:Nat)(st:List Int)(ops:List OpV)(cs:List Int):List Int:=@Classical.epsilon _ ⟨[]⟩ (Best s n st ops cs)
theorem xXj{U:List Int}{i:Nat}(h:i < U.length):xJ2 U (i:Int)=U[i]:=by
 unfold xJ2;simp[h]
theorem vX7{U V:List Int}(h:U.length=V.length)(h1:LeV U V)(h2:LeV V U):U=V:=by
 apply List.ext_getElem h;intro i hi hj;rw[<- xXj hi,<- xXj hj];exact Int.le_antisymm (h1 _) (h2 _)
theorem zJs{s:Bool}{n:Nat}{st:List Int}{ops:List OpV}{cs:List Int}{V:List Int}(h:Best s n st ops cs V):V=xJg s n st ops cs:=by
 have h2:Best s n st ops cs (xJg s n st ops cs):=@Classical.epsilon_spec _ (Best s n st ops cs) ⟨V,h⟩;exact vX7 (h.fix.shape.len.trans h2.fix.shape.len.symm) (h2.great _ h.fix) (h.great _ h2.fix)
theorem zQj{s:Bool}{n:Nat}{st:List Int}{ops:List OpV}{cs:List Int}{V:List Int}(h:Above s n st ops cs V)(hc:xXp s ops cs ops.length V):Best s n st ops cs V:=⟨⟨h.shape,hc⟩,h.great⟩
theorem zQk{s:Bool}{n:Nat}{st:List Int}{ops:List OpV}{cs:List Int}{V:List Int}(h:Best s n st ops cs V):Best s n st ops cs (xJg s n st ops cs):=by rw[<- zJs h];exact h
theorem xQe{V:List Int}{i:Nat}{x p:Int}(h:i < V.length):xJ2 (V.set i x) p=if p.toNat=i then x else xJ2 V p:=by
 unfold xJ2;rw[List.getElem?_set]
 by_cases e:i=p.toNat
 ·rw[if_pos e,if_pos h,if_pos e.symm];rfl
 ·rw[if_neg e,if_neg (fun k=>e k.symm)]
theorem zVm{V:List Int}(h:xZr V)(i:Nat){x:Int}(hx:InV x):xZr (V.set i x):=fun v hv=>by
 rcases List.mem_or_eq_of_mem_set hv with h1 | h1
 ·exact h v h1
 ·subst h1;exact hx
def xZg(V:List Int):Nat:=(V.map Int.toNat).sum
theorem zJt{V:List Int}:∀ {i:Nat} {x y:Int},V[i]? = some y->0<=x->x < y->xZg (V.set i x) < xZg V:=by
 induction V with
 | nil=>intro i x y h;simp at h
 | cons a V ih=>
  intro i x y h h0 hlt
  cases i with
  | zero=>simp at h;subst h;simp[xZg];omega
  | succ i=>have:=ih (by simpa using h) h0 hlt;simp only[xZg,List.set_cons_succ,List.map_cons,List.sum_cons] at *;omega
theorem LeV.trans{U V W:List Int}(h:LeV U V)(k:LeV V W):LeV U W:=fun p=>Int.le_trans (h p) (k p)
theorem LeV.refl(U:List Int):LeV U U:=fun _=>Int.le_refl _
theorem LeV.set_{V:List Int}{i:Nat}{x y:Int}(h:V[i]? = some y)(hx:x<=y):LeV (V.set i x) V:=fun p=>by
 rw[xQe (List.getElem?_eq_some_iff.1 h).1]
 split
 ·rename_i e;subst e;rw[xJ9 h];exact hx
 ·exact Int.le_refl _
def vKw(s:Bool)(n:Nat)(st:List Int)(ops:List OpV)(cs:List Int)(o:OpV)(v:Int):Prop:=∀ U,Fix s n st ops cs U->∀ p∈o.add,xJ2 U p<=v
section
variable {s:Bool}{n:Nat}{st:List Int}{ops:List OpV}{cs V:List Int}
theorem zVn(h:Above s n st ops cs V){i:Nat}{o:OpV}{c:Int}(ho:ops[i]? = some o)(hc:cs[i]? = some c)(hcv:InV c):vKw s n st ops cs o (opV s V o c):=
 fun U hU p hp=>Int.le_trans (hU.closed i o c (List.getElem?_eq_some_iff.1 ho).1 ho hc p hp) (zVl hU.shape.all h.shape.all (h.great U hU) o hcv)
theorem zZi(h:Above s n st ops cs V){o:OpV}{v p y:Int}(hb:vKw s n st ops cs o v)(hp:p∈o.add)(hv:InV v)(hy:V[p.toNat]? = some y)(hlt:v < y):Above s n st ops cs (V.set p.toNat v):=by
 have hl:=(List.getElem?_eq_some_iff.1 hy).1;refine⟨⟨by rw[List.length_set];exact h.shape.len,zVm h.shape.all _ hv,fun q hq=>?_⟩,fun U hU q=>?_⟩
 ·rw[xQe hl]
  split
  ·rename_i e
   have h1:=h.shape.zero q hq;rw[xJ9 (v:=y) (by rw[e];exact hy)] at h1;unfold InV at hv;omega
  ·exact h.shape.zero q hq
 ·rw[xQe hl]
  split
  ·rename_i e
   have h1:=hb U hU p hp;unfold xJ2 at h1 ⊢;rw[e];exact h1
  ·exact h.great U hU q
end
def zZj(n:Nat)(st:List Int):List Int:=(List.range n).map fun (p:Nat)=>if (p:Int)∈st then (0:Int) else 1000000000
theorem xKl(n:Nat)(st:List Int):(zZj n st).length=n:=by simp[zZj]
theorem xKm{n p:Nat}{st:List Int}(h:p < n):(zZj n st)[p]? = some (if (p:Int)∈st then 0 else 1000000000):=by simp[zZj,h]
theorem vX8(n:Nat)(st:List Int):xZr (zZj n st):=fun v hv=>by
 obtain⟨p,_,rfl⟩:=List.mem_map.1 hv
 split
 ·exact InV.zero
 ·exact InV.inf
theorem xKn{s:Bool}{n:Nat}{st:List Int}{ops:List OpV}{cs:List Int}(hst:∀ p∈st,0<=p/\p < (n:Int)):Above s n st ops cs (zZj n st):=by
 refine⟨⟨xKl n st,vX8 n st,fun p hp=>?_⟩,fun U hU p=>?_⟩
 ·have h1:=hst p hp;rw[xJ9 (xKm (p:=p.toNat) (by omega)),if_pos (by rw[Int.toNat_of_nonneg h1.1];exact hp)]
 ·have hU1:=xX3 hU.shape.all p;unfold InV at hU1;rcases Nat.lt_or_ge p.toNat n with h | h
  ·rw[xJ9 (xKm h)]
   split
   ·rename_i hm
    have h2:=hU.shape.zero _ hm;unfold xJ2 at h2 ⊢;simp only[Int.toNat_natCast] at h2;omega
   ·exact hU1.2
  ·unfold xJ2;rw[List.getElem?_eq_none (by rw[hU.shape.len];exact h),List.getElem?_eq_none (by rw[xKl];exact h)];exact Int.le_refl _
def zJu(n:Nat)(l:List Int):List Int:=l.foldl (fun vs p=>vs.set p.toNat 0) (List.replicate n 1000000000)
theorem vX9(n:Nat):zJu n []=List.replicate n 1000000000:=rfl
theorem zKi{n k:Nat}{l:List Int}{x:Int}(h:l[k]? = some x):zJu n (l.take (k+1))=(zJu n (l.take k)).set x.toNat 0:=by
 unfold zJu;rw[List.take_add_one,h];simp only[Option.toList,List.foldl_append,List.foldl_cons,List.foldl_nil]
theorem zZk(n:Nat)(l:List Int):(zJu n l).length=n:=by
 have:∀ (l:List Int) (vs:List Int),(l.foldl (fun vs p=>vs.set p.toNat 0) vs).length=vs.length:=by
  intro l
  induction l with
  | nil=>intro vs;rfl
  | cons x l ih=>intro vs;rw[List.foldl_cons,ih,List.length_set]
 unfold zJu;rw[this,List.length_replicate]
theorem vXa:∀ (l:List Int) (vs:List Int) (p:Nat),(∀ x∈l,0<=x)->p < vs.length->(l.foldl (fun vs p=>vs.set p.toNat (0:Int)) vs)[p]? = if (p:Int)∈l then some 0 else vs[p]?:=by
 intro l
 induction l with
 | nil=>intro vs p _ _;rfl
 | cons x l ih=>
  intro vs p h hp;rw[List.foldl_cons,ih _ _ (fun y hy=>h y (List.mem_cons_of_mem _ hy)) (by rw[List.length_set];exact hp)];have hx:=h x (List.mem_cons_self ..)
  by_cases e:(p:Int)∈l
  ·rw[if_pos e,if_pos (List.mem_cons_of_mem _ e)]
  ·rw[if_neg e,List.getElem?_set]
   by_cases e2:x.toNat=p
   ·rw[if_pos e2,if_pos (by omega),if_pos (by
     have:(p:Int)=x:=by omega
     rw[this];exact List.mem_cons_self ..)]
   ·rw[if_neg e2,if_neg (fun k=>by
     rcases List.mem_cons.1 k with k | k
     ·omega
     ·exact e k)]
theorem vQl{n:Nat}{l:List Int}(h:∀ p∈l,0<=p/\p < (n:Int)):zJu n l=zZj n l:=by
 apply List.ext_getElem?;intro p;rcases Nat.lt_or_ge p n with hp | hp
 ·rw[xKm hp];unfold zJu;rw[vXa l _ p (fun x hx=>(h x hx).1) (by simpa using hp)]
  split
  ·rfl
  ·simp[hp]
 ·rw[List.getElem?_eq_none (by rw[zZk];exact hp),List.getElem?_eq_none (by rw[xKl];exact hp)]
theorem vXb(n:Nat)(x y:Int):List.replicate 0 x ++ List.replicate (n - 0) y=List.replicate n y:=by simp
theorem vXc{n k:Nat}(h:k < n)(x y:Int):(List.replicate k x ++ List.replicate (n - k) y).set k x=List.replicate (k+1) x ++ List.replicate (n - (k+1)) y:=by
 apply List.ext_getElem?;intro p;simp only[List.getElem?_set,List.getElem?_append,List.getElem?_replicate,List.length_append,List.length_replicate]
 by_cases e:k=p
 ·subst e;simp;omega
 ·simp only[e,if_false]
  by_cases e1:p < k
  ·rw[if_pos e1,if_pos e1,if_pos (by omega),if_pos (by omega)]
  ·rw[if_neg e1,if_neg (by omega:¬ p < k+1)]
   by_cases e2:p < n
   ·rw[if_pos (by omega),if_pos (by omega)]
   ·rw[if_neg (by omega),if_neg (by omega)]
theorem vQm{n k:Nat}(h:¬ k < n)(hk:k<=n)(x y:Int):List.replicate k x ++ List.replicate (n - k) y=List.replicate n x:=by
 have:k=n:=by omega
 subst this;simp
theorem zVo{n k:Nat}(hk:k<=n)(x y:Int):(List.replicate k x ++ List.replicate (n - k) y).length=n:=by simp;omega
section
variable {s:Bool}{n:Nat}{st:List Int}{ops:List OpV}{cs V:List Int}
theorem zJv{k:Nat}{o:OpV}{c:Int}(h:xXp s ops cs k V)(ho:ops[k]? = some o)(hc:cs[k]? = some c)(h2:∀ p∈o.add,xJ2 V p<=opV s V o c):xXp s ops cs (k+1) V:=by
 intro i o' c' hi ho' hc' p hp
 by_cases e:i=k
 ·subst e;rw[ho] at ho';injection ho' with ho';subst ho'
  rw[hc] at hc';injection hc' with hc';subst hc'
  exact h2 p hp
 ·exact h i o' c' (by omega) ho' hc' p hp
theorem zJw:xXp s ops cs 0 V:=fun i o c hi=>absurd hi (by omega)
end
inductive Reach(st:List Int)(ops:List OpV)(use:Nat->Bool):Int->Prop
 | init {p:Int}:p∈st->Reach st ops use p
 | step {p:Int} {i:Nat} {o:OpV}:ops[i]? = some o->use i=true->(∀ q∈o.pre,Reach st ops use q)->p∈o.add->Reach st ops use p
theorem Reach.mono{st st':List Int}{ops:List OpV}{use use':Nat->Bool}(h1:∀ p∈st,p∈st')(h2:∀ i,use i=true->use' i=true){p:Int}(h:Reach st ops use p):Reach st' ops use' p:=by
 induction h with
 | init h=>exact .init (h1 _ h)
 | step h1 h3 _ h4 ih=>exact .step h1 (h2 _ h3) ih h4
open Classical in
noncomputable def xKo(n:Nat)(st:List Int)(ops:List OpV)(use:Nat->Bool):List Bool:=(List.range n).map fun (p:Nat)=>decide (Reach st ops use (p:Int))
theorem xWm(n:Nat)(st:List Int)(ops:List OpV)(use:Nat->Bool):(xKo n st ops use).length=n:=by simp[xKo]
theorem zKj{n p:Nat}{st:List Int}{ops:List OpV}{use:Nat->Bool}(h:p < n):(xKo n st ops use)[p]? = some true↔Reach st ops use (p:Int):=by simp[xKo,h]
def xJu(bs:List Bool):Nat:=(bs.map fun b=>if b then 0 else 1).sum
theorem xWn{bs:List Bool}:∀ {i:Nat},bs[i]? = some false->xJu (bs.set i true) < xJu bs:=by
 induction bs with
 | nil=>intro i h;simp at h
 | cons b bs ih=>
  intro i h
  cases i with
  | zero=>simp at h;subst h;simp[xJu]
  | succ i=>have:=ih (by simpa using h);simp only[xJu,List.set_cons_succ,List.map_cons,List.sum_cons] at *;omega
structure Sound(n:Nat)(st:List Int)(ops:List OpV)(use:Nat->Bool)(bs:List Bool):Prop where
 len:bs.length=n
 init:∀ p∈st,bs[p.toNat]? = some true
 sound:∀ p:Nat,bs[p]? = some true->Reach st ops use (p:Int)
def vXd(ops:List OpV)(use:Nat->Bool)(k:Nat)(bs:List Bool):Prop:=
 ∀ (i:Nat) (o:OpV),i < k->ops[i]? = some o->use i=true->(∀ q∈o.pre,bs[q.toNat]? = some true)->∀ p∈o.add,bs[p.toNat]? = some true
section
variable {n:Nat}{st:List Int}{ops:List OpV}{use:Nat->Bool}{bs:List Bool}
theorem Sound.set_(h:Sound n st ops use bs){i:Nat}{o:OpV}(ho:ops[i]? = some o)(hu:use i=true)(hpre:∀ q∈o.pre,Reach st ops use q){p:Int}(hp:p∈o.add)(p0:0<=p):Sound n st ops use (bs.set p.toNat true):=by
 refine⟨by rw[List.length_set];exact h.len,fun q hq=>?_,fun q hq=>?_⟩
 ·have:=h.init q hq;rw[List.getElem?_set]
  split
  ·rename_i e
   rw[if_pos (by rw[e];exact (List.getElem?_eq_some_iff.1 this).1)]
  ·exact this
 ·rw[List.getElem?_set] at hq
  split at hq
  ·rename_i e
   subst e;rw[Int.toNat_of_nonneg p0];exact .step ho hu hpre hp
  ·exact h.sound q hq
theorem Sound.pre(h:Sound n st ops use bs){xs:List Int}(hx:∀ q∈xs,bs[q.toNat]? = some true)(h0:∀ q∈xs,0<=q):∀ q∈xs,Reach st ops use q:=fun q hq=>by
 have:=h.sound _ (hx q hq)
 rwa [Int.toNat_of_nonneg (h0 q hq)] at this
theorem Sound.all(h:Sound n st ops use bs)(hc:vXd ops use ops.length bs){p:Int}(hr:Reach st ops use p):bs[p.toNat]? = some true:=by
 induction hr with
 | init hp=>exact h.init _ hp
 | step ho hu _ hp ih=>exact hc _ _ (List.getElem?_eq_some_iff.1 ho).1 ho hu ih _ hp
theorem Sound.eq(h:Sound n st ops use bs)(hc:vXd ops use ops.length bs):bs=xKo n st ops use:=by
 apply List.ext_getElem?;intro p;rcases Nat.lt_or_ge p n with hp | hp
 ·have h1:bs[p]? = some true↔(xKo n st ops use)[p]? = some true:=by
   rw[zKj hp];exact⟨h.sound p,fun hr=>by have:=h.all hc hr;simpa using this⟩
  obtain⟨a,ha⟩:∃ a,bs[p]? = some a:=⟨_,lGe (by rw[h.len];exact hp)⟩;obtain⟨b,hb⟩:∃ b,(xKo n st ops use)[p]? = some b:=⟨_,lGe (by rw[xWm];exact hp)⟩;rw[ha,hb] at h1 ⊢
  cases a <;> cases b <;> simp_all
 ·rw[List.getElem?_eq_none (by rw[h.len];exact hp),List.getElem?_eq_none (by rw[xWm];exact hp)]
def xV3(n:Nat)(l:List Int):List Bool:=l.foldl (fun bs p=>bs.set p.toNat true) (List.replicate n false)
theorem zKk{n k:Nat}{l:List Int}{x:Int}(h:l[k]? = some x):xV3 n (l.take (k+1))=(xV3 n (l.take k)).set x.toNat true:=by
 unfold xV3;rw[List.take_add_one,h];simp only[Option.toList,List.foldl_append,List.foldl_cons,List.foldl_nil]
theorem xKp(n:Nat)(l:List Int):(xV3 n l).length=n:=by
 have:∀ (l:List Int) (vs:List Bool),(l.foldl (fun bs p=>bs.set p.toNat true) vs).length=vs.length:=by
  intro l
  induction l with
  | nil=>intro vs;rfl
  | cons x l ih=>intro vs;rw[List.foldl_cons,ih,List.length_set]
 unfold xV3;rw[this,List.length_replicate]
theorem zZl:∀ (l:List Int) (vs:List Bool) (p:Nat),(∀ x∈l,0<=x)->p < vs.length->(l.foldl (fun bs p=>bs.set p.toNat true) vs)[p]? = if (p:Int)∈l then some true else vs[p]?:=by
 intro l
 induction l with
 | nil=>intro vs p _ _;rfl
 | cons x l ih=>
  intro vs p h hp;rw[List.foldl_cons,ih _ _ (fun y hy=>h y (List.mem_cons_of_mem _ hy)) (by rw[List.length_set];exact hp)];have hx:=h x (List.mem_cons_self ..)
  by_cases e:(p:Int)∈l
  ·rw[if_pos e,if_pos (List.mem_cons_of_mem _ e)]
  ·rw[if_neg e,List.getElem?_set]
   by_cases e2:x.toNat=p
   ·have e3:(p:Int)=x:=by omega
    rw[if_pos e2,if_pos (by omega),if_pos (by rw[e3];exact List.mem_cons_self ..)]
   ·rw[if_neg e2,if_neg (fun k=>by
     rcases List.mem_cons.1 k with k | k
     ·omega
     ·exact e k)]
theorem zQl(h:∀ p∈st,0<=p/\p < (n:Int)):Sound n st ops use (xV3 n st):=by
 refine⟨xKp n st,fun p hp=>?_,fun p hp=>?_⟩
 ·have:=h p hp;unfold xV3;rw[zZl st _ p.toNat (fun x hx=>(h x hx).1) (by simp;omega),Int.toNat_of_nonneg this.1,if_pos hp]
 ·have hl:=(List.getElem?_eq_some_iff.1 hp).1;rw[xKp] at hl;unfold xV3 at hp;rw[zZl st _ p (fun x hx=>(h x hx).1) (by simpa using hl)] at hp
  split at hp
  ·rename_i hm;exact .init hm
  ·simp[hl] at hp
end
noncomputable def xQf(n:Nat)(st:List Int)(ops:List OpV)(use:Nat->Bool):List Int:=(((List.range n).filter fun (p:Nat)=>@decide (Reach st ops use (p:Int)) (Classical.propDecidable _)).map fun (p:Nat)=>(p:Int))
section
variable {n:Nat}{st:List Int}{ops:List OpV}{use:Nat->Bool}
theorem xZn{x:Int}:x∈xQf n st ops use↔0<=x/\x < (n:Int)/\Reach st ops use x:=by
 unfold xQf;rw[List.mem_map];constructor
 ·rintro ⟨p,hp,rfl⟩;rw[List.mem_filter,List.mem_range] at hp;exact⟨by omega,by omega,(@decide_eq_true_iff _ (Classical.propDecidable _)).1 hp.2⟩
 ·rintro ⟨h0,h1,h2⟩;refine⟨x.toNat,?_,by omega⟩;rw[List.mem_filter,List.mem_range];exact⟨by omega,(@decide_eq_true_iff _ (Classical.propDecidable _)).2 (by rw[Int.toNat_of_nonneg h0];exact h2)⟩
theorem xKq:SetP (xQf n st ops use) (n:Int):=by
 refine SetP.of_pairwise (fun x hx=>⟨(xZn.1 hx).1,(xZn.1 hx).2.1⟩) ?_;unfold xQf;rw[List.pairwise_map];exact (List.pairwise_lt_range.filter _).imp (fun h=>by omega)
structure SoundL(n:Nat)(st:List Int)(ops:List OpV)(use:Nat->Bool)(l:List Int):Prop where
 set:SetP l (n:Int)
 init:∀ p∈st,p∈l
 sound:∀ p∈l,Reach st ops use p
def xKr(ops:List OpV)(use:Nat->Bool)(k:Nat)(l:List Int):Prop:=
 ∀ (i:Nat) (o:OpV),i < k->ops[i]? = some o->use i=true->(∀ q∈o.pre,q∈l)->∀ p∈o.add,p∈l
theorem zZm{l:List Int}:xKr ops use 0 l:=fun i o hi=>absurd hi (by omega)
theorem zZn{l:List Int}{k:Nat}{o:OpV}(h:xKr ops use k l)(ho:ops[k]? = some o)(h2:use k=true->(∀ q∈o.pre,q∈l)->∀ p∈o.add,p∈l):xKr ops use (k+1) l:=by
 intro i o' hi ho' hu hq
 by_cases e:i=k
 ·subst e;rw[ho] at ho';injection ho' with ho';subst ho'
  exact h2 hu hq
 ·exact h i o' (by omega) ho' hu hq
theorem SoundL.start(hs:SetP st (n:Int)):SoundL n st ops use st:=⟨hs,fun _ h=>h,fun _ h=>.init h⟩
theorem SoundL.eq{l:List Int}(h:SoundL n st ops use l)(hc:xKr ops use ops.length l):l=xQf n st ops use:=by
 refine SetP.ext h.set xKq fun x=>?_
 rw[xZn];constructor
 ·intro hx;exact⟨(h.set.1 x hx).1,(h.set.1 x hx).2,h.sound x hx⟩
 ·rintro ⟨hx0,hx1,hr⟩;clear hx0 hx1
  induction hr with
  | init hp=>exact h.init _ hp
  | step ho hu _ hp ih=>exact hc _ _ (List.getElem?_eq_some_iff.1 ho).1 ho hu ih _ hp
theorem SoundL.eq_of_sub{l l':List Int}(h:SoundL n st ops use l')(hl:l=xQf n st ops use)(hs:∀ x∈l,x∈l'):l'=xQf n st ops use:=by
 refine SetP.ext h.set xKq fun x=>⟨fun hx=>?_,fun hx=>hs x (by rw[hl];exact hx)⟩
 rw[xZn];exact⟨(h.set.1 x hx).1,(h.set.1 x hx).2,h.sound x hx⟩
theorem SoundL.len{l:List Int}(h:SoundL n st ops use l):l.length<=n:=by
 have:=h.set.length (by omega);omega
structure Pass(ops:List OpV)(use:Nat->Bool)(k:Nat)(l0 l:List Int):Prop where
 sub:∀ x∈l0,x∈l
 le:l0.length<=l.length
 lt:l≠l0->l0.length < l.length
 closed:l=l0->xKr ops use k l
theorem Pass.start(l:List Int):Pass ops use 0 l l:=⟨fun _ h=>h,Nat.le_refl _,fun h=>absurd rfl h,fun _=>zZm⟩
theorem Pass.succ{k:Nat}{l0 l:List Int}{o:OpV}(h:Pass ops use k l0 l)(ho:ops[k]? = some o)(h2:l=l0->use k=true->(∀ q∈o.pre,q∈l)->∀ p∈o.add,p∈l):Pass ops use (k+1) l0 l:=
 ⟨h.sub,h.le,h.lt,fun e=>zZn (h.closed e) ho (h2 e)⟩
def Rounds(n:Nat)(st:List Int)(ops:List OpV)(use:Nat->Bool)(r:Nat)(l:List Int):Prop:=l=xQf n st ops use\/r<=l.length
theorem Rounds.succ{r:Nat}{l0 l:List Int}(h:Rounds n st ops use r l0)(hs:SoundL n st ops use l)(hp:Pass ops use ops.length l0 l):Rounds n st ops use (r+1) l:=by
 rcases h with h | h
 ·exact .inl (hs.eq_of_sub h hp.sub)
 ·by_cases e:l=l0
  ·exact .inl (hs.eq (hp.closed e))
  ·exact .inr (by have:=hp.lt e;omega)
end
theorem xVl{a b:Int}(ha:InV a)(hb:InV b):xZ7 a b=1000000000↔a=1000000000\/b=1000000000:=by
 unfold InV at ha hb;unfold xZ7
 by_cases h:a=1000000000\/b=1000000000
 ·simp[h]
 ·rw[if_neg h];constructor
  ·intro k
   split at k <;> omega
  ·intro k;exact absurd k h
theorem zJx{s:Bool}{a b:Int}(ha:InV a)(hb:InV b):xXg s a b=1000000000↔a=1000000000\/b=1000000000:=by
 cases s
 ·unfold InV at ha hb;unfold xXg;dsimp only
  split <;> omega
 ·exact xVl ha hb
theorem vXe{s:Bool}{vs:List Int}(h:xZr vs):∀ (xs:List Int) (o:Int),InV o ->
  (xs.foldl (fun o p=>xXg s o (xJ2 vs p)) o=1000000000↔o=1000000000\/∃ x∈xs,xJ2 vs x=1000000000):=by
 intro xs
 induction xs with
 | nil=>intro o _;simp
 | cons x xs ih=>
  intro o ho;rw[List.foldl_cons,ih _ (xYp ho (xX3 h x)),zJx ho (xX3 h x)];constructor
  ·rintro ((h1 | h1) | ⟨y,hy,h1⟩)
   ·exact .inl h1
   ·exact .inr ⟨x,List.mem_cons_self ..,h1⟩
   ·exact .inr ⟨y,List.mem_cons_of_mem _ hy,h1⟩
  ·rintro (h1 | ⟨y,hy,h1⟩)
   ·exact .inl (.inl h1)
   ·rcases List.mem_cons.1 hy with e | e
    ·subst e;exact .inl (.inr h1)
    ·exact .inr ⟨y,e,h1⟩
theorem xKs{s:Bool}{vs:List Int}(h:xZr vs)(xs:List Int):xJp s vs xs=1000000000↔∃ x∈xs,xJ2 vs x=1000000000:=by
 unfold xJp;rw[vXe h xs 0 InV.zero];constructor
 ·rintro (h | h)
  ·omega
  ·exact h
 ·exact .inr
section
variable {n:Nat}{st:List Int}{ops:List OpV}{cs V U:List Int}
end
def xJ5(n:Nat)(s:List Int)(o:OpV):List Int:=((List.range n).map fun (p:Nat)=>(p:Int)).filter fun p=>decide (p∈o.add\/(p∈s/\p∉o.del))
theorem xJq{n:Nat}{s:List Int}{o:OpV}{x:Int}:x∈xJ5 n s o↔(0<=x/\x < (n:Int))/\(x∈o.add\/(x∈s/\x∉o.del)):=by
 unfold xJ5;rw[List.mem_filter,List.mem_map];simp only[decide_eq_true_eq,List.mem_range];constructor
 ·rintro ⟨⟨a,h,rfl⟩,h2⟩;exact⟨⟨by omega,by omega⟩,h2⟩
 ·rintro ⟨⟨h0,h1⟩,h2⟩;exact⟨⟨x.toNat,by omega,by omega⟩,h2⟩
theorem xJj(n:Nat)(s:List Int)(o:OpV):SetP (xJ5 n s o) n:=by
 refine SetP.of_pairwise (fun x hx=>(xJq.1 hx).1) ?_;unfold xJ5;refine List.Pairwise.filter _ ?_;rw[List.pairwise_map];exact List.Pairwise.imp (fun h=>by omega) List.pairwise_lt_range
theorem vQn{n:Nat}{s r:List Int}{o:OpV}(hs:∀ x∈s,0<=x/\x < (n:Int))(ha:∀ x∈o.add,0<=x/\x < (n:Int))(hr:r.Pairwise (· < ·))(h:∀ x,x∈r↔x∈o.add\/(x∈s/\x∉o.del)):r=xJ5 n s o:=by
 have hrs:SetP r n:=SetP.of_pairwise (fun x hx=>by
  rcases (h x).1 hx with h1 | h1
  ·exact ha x h1
  ·exact hs x h1.1) hr
 refine hrs.ext (xJj n s o) fun x=>?_
 rw[h,xJq];constructor
 ·intro h1;refine⟨?_,h1⟩;rcases h1 with h2 | h2
  ·exact ha x h2
  ·exact hs x h2.1
 ·exact fun h1=>h1.2
def xWo(ops:List OpV)(s:List Int)(op:Int):Prop:=∃ o,ops[op.toNat]? = some o/\∀ q∈o.pre,q∈s
def xZ4(ops:List OpV)(op:Int):OpV:=(ops[op.toNat]?).getD ⟨[],[],[],0⟩
theorem xV4{ops:List OpV}{op:Int}{o:OpV}(h:ops[op.toNat]? = some o):xZ4 ops op=o:=by unfold xZ4;rw[h];rfl
noncomputable def xYq(n:Nat)(ops:List OpV):List Int->List Int->List (List Int)
 | s,[]=>[s]
 | s,op :: plan=>@ite _ (xWo ops s op) (Classical.propDecidable _) (s :: xYq n ops (xJ5 n s (xZ4 ops op)) plan) [s]
section
variable {n:Nat}{ops:List OpV}
theorem zJy(s:List Int):xYq n ops s []=[s]:=by unfold xYq;rfl
theorem zJz{s plan:List Int}{op:Int}(h:xWo ops s op):xYq n ops s (op :: plan)=s :: xYq n ops (xJ5 n s (xZ4 ops op)) plan:=by
 rw[xYq];exact if_pos h
theorem vXf{s plan:List Int}{op:Int}(h:¬ xWo ops s op):xYq n ops s (op :: plan)=[s]:=by
 rw[xYq];exact if_neg h
theorem zVp:∀ (plan s:List Int),SetP s n->∀ r∈xYq n ops s plan,SetP r n
 | [],s,hs,r,hr=>by
  rw[zJy] at hr;rw[List.mem_singleton.1 hr];exact hs
 | op :: plan,s,hs,r,hr=>by
  by_cases h:xWo ops s op
  ·rw[zJz h] at hr;rcases List.mem_cons.1 hr with e | e
   ·rw[e];exact hs
   ·exact zVp plan _ (xJj n s _) r e
  ·rw[vXf h] at hr;rw[List.mem_singleton.1 hr];exact hs
end
end
section
noncomputable def opc(o:OpV)(f:Int):Int:=@ite _ (SetP o.pre f/\SetP o.add f/\SetP o.del f/\∀ x∈o.add,¬ x∈o.del) (Classical.propDecidable _) (if o.cost < 0\/100 < o.cost then 3 else 0) 5
theorem xYs{o:OpV}{f:Int}(h:¬ (SetP o.pre f/\SetP o.add f/\SetP o.del f/\∀ x∈o.add,¬ x∈o.del)):opc o f=5:=by unfold opc;exact if_neg h
theorem zQm{o:OpV}{f:Int}(h:SetP o.pre f/\SetP o.add f/\SetP o.del f/\∀ x∈o.add,¬ x∈o.del):opc o f=if o.cost < 0\/100 < o.cost then 3 else 0:=by unfold opc;exact if_pos h
theorem xWq{o:OpV}{f:Int}:opc o f=0↔(SetP o.pre f/\SetP o.add f/\SetP o.del f/\∀ x∈o.add,¬ x∈o.del)/\0<=o.cost/\o.cost<=100:=by
 by_cases h:SetP o.pre f/\SetP o.add f/\SetP o.del f/\∀ x∈o.add,¬ x∈o.del
 ·rw[zQm h]
  split
  ·constructor
   ·intro h;cases h
   ·intro h2;omega
  ·constructor
   ·intro _;exact⟨h,by omega⟩
   ·intro _;rfl
 ·rw[xYs h];constructor
  ·intro h;cases h
  ·intro h2;exact absurd h2.1 h
noncomputable def xXb(f:Int):List OpV->Nat->Int×Int
 | [],_=>(0,0)
 | o :: r,k=>if opc o f=0 then xXb f r (k+1) else (opc o f,(k:Int))
theorem xXu{f:Int}:∀ (l:List OpV) (k:Nat),(∀ o∈l,opc o f=0)->xXb f l k=(0,0)
 | [],_,_=>rfl
 | o :: r,k,h=>by unfold xXb;rw[if_pos (h o (by simp))];exact xXu r (k+1) (fun o ho=>h o (by simp[ho]))
theorem xYt{f:Int}:∀ (l:List OpV) (s k:Nat) (o:OpV),(∀ o∈l.take k,opc o f=0)->l[k]? = some o->¬ opc o f=0->xXb f l s=(opc o f,((s+k:Nat):Int))
 | [],_,_,_,_,h,_=>by simp at h
 | a :: r,s,0,o,_,h,hn=>by
  simp at h;subst h;unfold xXb;rw[if_neg hn];rfl
 | a :: r,s,k+1,o,h1,h,hn=>by
  unfold xXb;rw[if_pos (h1 a (by simp))];have:=xYt r (s+1) k o (fun o ho=>h1 o (by simp[ho])) (by simpa using h) hn;rw[this];congr 1;omega
theorem xV5{f:Int}:∀ (l:List OpV) (k:Nat),(xXb f l k).1=0->∀ o∈l,opc o f=0
 | [],_,_=>by simp
 | o :: r,k,h=>by
  unfold xXb at h
  by_cases hc:opc o f=0
  ·rw[if_pos hc] at h;intro x hx;rcases List.mem_cons.1 hx with e | e
   ·subst e;exact hc
   ·exact xV5 r (k+1) h x e
  ·rw[if_neg hc] at h;exact absurd h hc
noncomputable def xJn(t:TaskV):Int×Int:=
 if t.facts < 0\/24 < t.facts then (3,-1) else
 @ite _ (SetP t.init t.facts) (Classical.propDecidable _) (@ite _ (SetP t.goal t.facts) (Classical.propDecidable _) (if 40 < t.ops.length then (2,-1) else xXb t.facts t.ops 0) (5,-3)) (5,-2)
theorem zQn{t:TaskV}(h:t.facts < 0\/24 < t.facts):xJn t=(3,-1):=by unfold xJn;rw[if_pos h]
theorem zQo{t:TaskV}(h:¬ (t.facts < 0\/24 < t.facts))(h1:¬ SetP t.init t.facts):xJn t=(5,-2):=by unfold xJn;rw[if_neg h,if_neg h1]
theorem zQp{t:TaskV}(h:¬ (t.facts < 0\/24 < t.facts))(h1:SetP t.init t.facts)(h2:¬ SetP t.goal t.facts):xJn t=(5,-3):=by unfold xJn;rw[if_neg h,if_pos h1,if_neg h2]
theorem zQq{t:TaskV}(h:¬ (t.facts < 0\/24 < t.facts))(h1:SetP t.init t.facts)(h2:SetP t.goal t.facts)(h3:40 < t.ops.length):xJn t=(2,-1):=by unfold xJn;rw[if_neg h,if_pos h1,if_pos h2,if_pos h3]
theorem xWr{t:TaskV}(h:¬ (t.facts < 0\/24 < t.facts))(h1:SetP t.init t.facts)(h2:SetP t.goal t.facts)(h3:¬ 40 < t.ops.length):xJn t=xXb t.facts t.ops 0:=by unfold xJn;rw[if_neg h,if_pos h1,if_pos h2,if_neg h3]
structure Valid(t:TaskV):Prop where
 f0:0<=t.facts
 f1:t.facts<=24
 init:SetP t.init t.facts
 goal:SetP t.goal t.facts
 nops:t.ops.length<=40
 ops:∀ o∈t.ops,(SetP o.pre t.facts/\SetP o.add t.facts/\SetP o.del t.facts/\∀ x∈o.add,¬ x∈o.del)/\0<=o.cost/\o.cost<=100
theorem zZp{t:TaskV}:(xJn t).1=0↔Valid t:=by
 by_cases h:t.facts < 0\/24 < t.facts
 ·rw[zQn h];exact⟨fun h=>by simp at h,fun v=>by have:=v.f0;have:=v.f1;omega⟩
 ·by_cases h1:SetP t.init t.facts
  ·by_cases h2:SetP t.goal t.facts
   ·by_cases h3:40 < t.ops.length
    ·rw[zQq h h1 h2 h3];exact⟨fun h=>by simp at h,fun v=>by have:=v.nops;omega⟩
    ·rw[xWr h h1 h2 h3];constructor
     ·intro hz;exact⟨by omega,by omega,h1,h2,by omega,fun o ho=>xWq.1 (xV5 _ _ hz o ho)⟩
     ·intro v;rw[xXu _ _ (fun o ho=>xWq.2 (v.ops o ho))]
   ·rw[zQp h h1 h2];exact⟨fun h=>by simp at h,fun v=>absurd v.goal h2⟩
  ·rw[zQo h h1];exact⟨fun h=>by simp at h,fun v=>absurd v.init h1⟩
theorem xZ8{t:TaskV}(v:Valid t):xJn t=(0,0):=by
 rw[xWr (by have:=v.f0;have:=v.f1;omega) v.init v.goal (by have:=v.nops;omega)];exact xXu _ _ (fun o ho=>xWq.2 (v.ops o ho))
theorem zX1(w:World)(o:OpV)(A0 A1 A2:Option Addr)(c0 c1 c2:Nat)(f:Int)(hM:OpMem w A0 A1 A2 o)(hpre:¬ SetP o.pre f) :
  Calls Tryz.prog 63 #[.agg #[.slice A0 o.pre.length c0,.slice A1 o.add.length c1,.slice A2 o.del.length c2,.int .i64 o.cost],.int .i64 f] w fun e w'=>e=.returned (.int .i64 5)/\Below w.heap.size w w':=by
 have Hpre:=lHd hpre;clear hpre;go_enter Tryz.func63,Tryz.ntmps63
 go_wp2_with fail
 refine (xVc _ _ _ _ _ (hM.pre.below bch) hM.lpre.le Hpre.out).mono ?_;rintro e w' ⟨rfl,rfl⟩;go_wp2;go_ret;exact⟨rfl,bch⟩
theorem zX2(w:World)(o:OpV)(A0 A1 A2:Option Addr)(c0 c1 c2:Nat)(f:Int)(hM:OpMem w A0 A1 A2 o)(hpre:SetP o.pre f)(hadd:¬ SetP o.add f) :
  Calls Tryz.prog 63 #[.agg #[.slice A0 o.pre.length c0,.slice A1 o.add.length c1,.slice A2 o.del.length c2,.int .i64 o.cost],.int .i64 f] w fun e w'=>e=.returned (.int .i64 5)/\Below w.heap.size w w':=by
 have Hpre:=lHd hpre;clear hpre;have Hadd:=lHd hadd;clear hadd;go_enter Tryz.func63,Tryz.ntmps63
 go_wp2_with fail
 refine (xJc _ _ _ _ _ (hM.pre.below bch) hM.lpre.le Hpre.out).mono ?_;rintro e w' ⟨rfl,rfl⟩
 go_wp2_with fail
 refine (xVc _ _ _ _ _ (hM.add.below bch) hM.ladd.le Hadd.out).mono ?_;rintro e w' ⟨rfl,rfl⟩;go_wp2;go_ret;exact⟨rfl,bch⟩
theorem zX3(w:World)(o:OpV)(A0 A1 A2:Option Addr)(c0 c1 c2:Nat)(f:Int)(hM:OpMem w A0 A1 A2 o)(hpre:SetP o.pre f)(hadd:SetP o.add f)(hdel:¬ SetP o.del f) :
  Calls Tryz.prog 63 #[.agg #[.slice A0 o.pre.length c0,.slice A1 o.add.length c1,.slice A2 o.del.length c2,.int .i64 o.cost],.int .i64 f] w fun e w'=>e=.returned (.int .i64 5)/\Below w.heap.size w w':=by
 have Hpre:=lHd hpre;clear hpre;have Hadd:=lHd hadd;clear hadd;have Hdel:=lHd hdel;clear hdel;go_enter Tryz.func63,Tryz.ntmps63
 go_wp2_with fail
 refine (xJc _ _ _ _ _ (hM.pre.below bch) hM.lpre.le Hpre.out).mono ?_;rintro e w' ⟨rfl,rfl⟩
 go_wp2_with fail
 refine (xJc _ _ _ _ _ (hM.add.below bch) hM.ladd.le Hadd.out).mono ?_;rintro e w' ⟨rfl,rfl⟩
 go_wp2_with fail
 refine (xVc _ _ _ _ _ (hM.del.below bch) hM.ldel.le Hdel.out).mono ?_;rintro e w' ⟨rfl,rfl⟩;go_wp2;go_ret;exact⟨rfl,bch⟩
theorem xWs(w:World)(o:OpV)(A0 A1 A2:Option Addr)(c0 c1 c2:Nat)(f:Int)(hf:0<=f)(hf2:f<=24)(hM:OpMem w A0 A1 A2 o)(hpre:SetP o.pre f)(hadd:SetP o.add f)(hdel:SetP o.del f)(hm:∃ x∈o.add,x∈o.del)  :
  Calls Tryz.prog 63 #[.agg #[.slice A0 o.pre.length c0,.slice A1 o.add.length c1,.slice A2 o.del.length c2,.int .i64 o.cost],.int .i64 f] w fun e w'=>e=.returned (.int .i64 5)/\Below w.heap.size w w':=by
 have Hl:Hid ((o.del.length:Int)<=f):=lHd (hdel.length hf);have Hpre:=lHd hpre;clear hpre;have Hadd:=lHd hadd;clear hadd;have Hdel:=lHd hdel;clear hdel;have HM:=lHd hm;clear hm;go_enter Tryz.func63,Tryz.ntmps63
 go_wp2_with fail
 refine (xJc _ _ _ _ _ (hM.pre.below bch) hM.lpre.le Hpre.out).mono ?_;rintro e w' ⟨rfl,rfl⟩
 go_wp2_with fail
 refine (xJc _ _ _ _ _ (hM.add.below bch) hM.ladd.le Hadd.out).mono ?_;rintro e w' ⟨rfl,rfl⟩
 go_wp2_with fail
 refine (xJc _ _ _ _ _ (hM.del.below bch) hM.ldel.le Hdel.out).mono ?_;rintro e w' ⟨rfl,rfl⟩
 go_wp2_with fail
 refine (xJt _ _ _ _ _ _ _ (hM.add.below bch) (hM.del.below bch) hM.ladd.le (by have:=hM.ldel.le2;have:=Hl.out;omega) Hdel.out.pairwise).mono ?_;rintro e w1 ⟨he,hB1⟩;rw[decide_eq_true HM.out] at he;subst he;have D1:=xJ3 w hB1 bch;have C1:=Cls.below (l:=[(w.heap.size,0,.slice A0 o.pre.length c0),(w.heap.size,1,.slice A1 o.add.length c1),(w.heap.size,2,.slice A2 o.del.length c2),(w.heap.size,3,.int .i64 o.cost)]) hB1 (by simp[Cls,go_sem]);have y1w0:w.heap.size < w1.heap.size:=C1.blk (b:=w.heap.size) (k:=0) (v:=.slice A0 o.pre.length c0) (by simp);go_wp2;go_ret;exact⟨rfl,bch⟩
theorem zZq(w:World)(o:OpV)(A0 A1 A2:Option Addr)(c0 c1 c2:Nat)(f:Int)(hf:0<=f)(hf2:f<=24)(hM:OpMem w A0 A1 A2 o)(hpre:SetP o.pre f)(hadd:SetP o.add f)(hdel:SetP o.del f)(hm:¬ ∃ x∈o.add,x∈o.del)(h1:o.cost < 0) :
  Calls Tryz.prog 63 #[.agg #[.slice A0 o.pre.length c0,.slice A1 o.add.length c1,.slice A2 o.del.length c2,.int .i64 o.cost],.int .i64 f] w fun e w'=>e=.returned (.int .i64 3)/\Below w.heap.size w w':=by
 have Hl:Hid ((o.del.length:Int)<=f):=lHd (hdel.length hf);have Hpre:=lHd hpre;clear hpre;have Hadd:=lHd hadd;clear hadd;have Hdel:=lHd hdel;clear hdel;have HM:=lHd hm;clear hm;go_enter Tryz.func63,Tryz.ntmps63
 go_wp2_with fail
 refine (xJc _ _ _ _ _ (hM.pre.below bch) hM.lpre.le Hpre.out).mono ?_;rintro e w' ⟨rfl,rfl⟩
 go_wp2_with fail
 refine (xJc _ _ _ _ _ (hM.add.below bch) hM.ladd.le Hadd.out).mono ?_;rintro e w' ⟨rfl,rfl⟩
 go_wp2_with fail
 refine (xJc _ _ _ _ _ (hM.del.below bch) hM.ldel.le Hdel.out).mono ?_;rintro e w' ⟨rfl,rfl⟩
 go_wp2_with fail
 refine (xJt _ _ _ _ _ _ _ (hM.add.below bch) (hM.del.below bch) hM.ladd.le (by have:=hM.ldel.le2;have:=Hl.out;omega) Hdel.out.pairwise).mono ?_;rintro e w1 ⟨he,hB1⟩;rw[decide_eq_false HM.out] at he;subst he;have D1:=xJ3 w hB1 bch;have C1:=Cls.below (l:=[(w.heap.size,0,.slice A0 o.pre.length c0),(w.heap.size,1,.slice A1 o.add.length c1),(w.heap.size,2,.slice A2 o.del.length c2),(w.heap.size,3,.int .i64 o.cost)]) hB1 (by simp[Cls,go_sem]);have F1:=C1;simp only[Cls,and_true] at F1;have y1w0:w.heap.size < w1.heap.size:=C1.blk (b:=w.heap.size) (k:=0) (v:=.slice A0 o.pre.length c0) (by simp);go_wp2;go_ret;exact⟨rfl,bch⟩
theorem zZr(w:World)(o:OpV)(A0 A1 A2:Option Addr)(c0 c1 c2:Nat)(f:Int)(hf:0<=f)(hf2:f<=24)(hM:OpMem w A0 A1 A2 o)(hpre:SetP o.pre f)(hadd:SetP o.add f)(hdel:SetP o.del f)(hm:¬ ∃ x∈o.add,x∈o.del)(h1:0<=o.cost)(h2:100 < o.cost) :
  Calls Tryz.prog 63 #[.agg #[.slice A0 o.pre.length c0,.slice A1 o.add.length c1,.slice A2 o.del.length c2,.int .i64 o.cost],.int .i64 f] w fun e w'=>e=.returned (.int .i64 3)/\Below w.heap.size w w':=by
 have Hl:Hid ((o.del.length:Int)<=f):=lHd (hdel.length hf);have Hpre:=lHd hpre;clear hpre;have Hadd:=lHd hadd;clear hadd;have Hdel:=lHd hdel;clear hdel;have HM:=lHd hm;clear hm;go_enter Tryz.func63,Tryz.ntmps63
 go_wp2_with fail
 refine (xJc _ _ _ _ _ (hM.pre.below bch) hM.lpre.le Hpre.out).mono ?_;rintro e w' ⟨rfl,rfl⟩
 go_wp2_with fail
 refine (xJc _ _ _ _ _ (hM.add.below bch) hM.ladd.le Hadd.out).mono ?_;rintro e w' ⟨rfl,rfl⟩
 go_wp2_with fail
 refine (xJc _ _ _ _ _ (hM.del.below bch) hM.ldel.le Hdel.out).mono ?_;rintro e w' ⟨rfl,rfl⟩
 go_wp2_with fail
 refine (xJt _ _ _ _ _ _ _ (hM.add.below bch) (hM.del.below bch) hM.ladd.le (by have:=hM.ldel.le2;have:=Hl.out;omega) Hdel.out.pairwise).mono ?_;rintro e w1 ⟨he,hB1⟩;rw[decide_eq_false HM.out] at he;subst he;have D1:=xJ3 w hB1 bch;have C1:=Cls.below (l:=[(w.heap.size,0,.slice A0 o.pre.length c0),(w.heap.size,1,.slice A1 o.add.length c1),(w.heap.size,2,.slice A2 o.del.length c2),(w.heap.size,3,.int .i64 o.cost)]) hB1 (by simp[Cls,go_sem]);have F1:=C1;simp only[Cls,and_true] at F1;have y1w0:w.heap.size < w1.heap.size:=C1.blk (b:=w.heap.size) (k:=0) (v:=.slice A0 o.pre.length c0) (by simp);go_wp2;go_ret;exact⟨rfl,bch⟩
theorem zZs(w:World)(o:OpV)(A0 A1 A2:Option Addr)(c0 c1 c2:Nat)(f:Int)(hf:0<=f)(hf2:f<=24)(hM:OpMem w A0 A1 A2 o)(hpre:SetP o.pre f)(hadd:SetP o.add f)(hdel:SetP o.del f)(hm:¬ ∃ x∈o.add,x∈o.del)(h1:0<=o.cost)(h2:o.cost<=100) :
  Calls Tryz.prog 63 #[.agg #[.slice A0 o.pre.length c0,.slice A1 o.add.length c1,.slice A2 o.del.length c2,.int .i64 o.cost],.int .i64 f] w fun e w'=>e=.returned (.int .i64 0)/\Below w.heap.size w w':=by
 have Hl:Hid ((o.del.length:Int)<=f):=lHd (hdel.length hf);have Hpre:=lHd hpre;clear hpre;have Hadd:=lHd hadd;clear hadd;have Hdel:=lHd hdel;clear hdel;have HM:=lHd hm;clear hm;go_enter Tryz.func63,Tryz.ntmps63
 go_wp2_with fail
 refine (xJc _ _ _ _ _ (hM.pre.below bch) hM.lpre.le Hpre.out).mono ?_;rintro e w' ⟨rfl,rfl⟩
 go_wp2_with fail
 refine (xJc _ _ _ _ _ (hM.add.below bch) hM.ladd.le Hadd.out).mono ?_;rintro e w' ⟨rfl,rfl⟩
 go_wp2_with fail
 refine (xJc _ _ _ _ _ (hM.del.below bch) hM.ldel.le Hdel.out).mono ?_;rintro e w' ⟨rfl,rfl⟩
 go_wp2_with fail
 refine (xJt _ _ _ _ _ _ _ (hM.add.below bch) (hM.del.below bch) hM.ladd.le (by have:=hM.ldel.le2;have:=Hl.out;omega) Hdel.out.pairwise).mono ?_;rintro e w1 ⟨he,hB1⟩;rw[decide_eq_false HM.out] at he;subst he;have D1:=xJ3 w hB1 bch;have C1:=Cls.below (l:=[(w.heap.size,0,.slice A0 o.pre.length c0),(w.heap.size,1,.slice A1 o.add.length c1),(w.heap.size,2,.slice A2 o.del.length c2),(w.heap.size,3,.int .i64 o.cost)]) hB1 (by simp[Cls,go_sem]);have F1:=C1;simp only[Cls,and_true] at F1;have y1w0:w.heap.size < w1.heap.size:=C1.blk (b:=w.heap.size) (k:=0) (v:=.slice A0 o.pre.length c0) (by simp);go_wp2;go_ret;exact⟨rfl,bch⟩
theorem xY0(o:OpV)(A0 A1 A2:Option Addr)(c0 c1 c2:Nat)(f:Int)(hf:0<=f)(hf2:f<=24)(w:World)(hM:OpMem w A0 A1 A2 o) :
  Calls Tryz.prog 63 #[.agg #[.slice A0 o.pre.length c0,.slice A1 o.add.length c1,.slice A2 o.del.length c2,.int .i64 o.cost],.int .i64 f] w fun e w'=>e=.returned (.int .i64 (opc o f))/\Below w.heap.size w w':=by
 by_cases h0:SetP o.pre f
 ·by_cases h1:SetP o.add f
  ·by_cases h2:SetP o.del f
   ·by_cases hm:∃ x∈o.add,x∈o.del
    ·rw[xYs (fun h=>by obtain⟨x,ha,hd⟩:=hm;exact h.2.2.2 x ha hd)];exact xWs w o A0 A1 A2 c0 c1 c2 f hf hf2 hM h0 h1 h2 hm
    ·have hg:SetP o.pre f/\SetP o.add f/\SetP o.del f/\∀ x∈o.add,¬ x∈o.del:=⟨h0,h1,h2,fun x ha hd=>hm ⟨x,ha,hd⟩⟩;rw[zQm hg]
     by_cases c:o.cost < 0
     ·rw[if_pos (Or.inl c)];exact zZq w o A0 A1 A2 c0 c1 c2 f hf hf2 hM h0 h1 h2 hm c
     ·by_cases c':100 < o.cost
      ·rw[if_pos (Or.inr c')];exact zZr w o A0 A1 A2 c0 c1 c2 f hf hf2 hM h0 h1 h2 hm (by omega) c'
      ·rw[if_neg (by omega)];exact zZs w o A0 A1 A2 c0 c1 c2 f hf hf2 hM h0 h1 h2 hm (by omega) (by omega)
   ·rw[xYs (fun h=>h2 h.2.2.1)];exact zX3 w o A0 A1 A2 c0 c1 c2 f hM h0 h1 h2
  ·rw[xYs (fun h=>h1 h.2.1)];exact zX2 w o A0 A1 A2 c0 c1 c2 f hM h0 h1
 ·rw[xYs (fun h=>h0 h.1)];exact zX1 w o A0 A1 A2 c0 c1 c2 f hM h0
theorem zVr(w:World)(t:TaskV)(Ai Ag Ao:Option Addr)(ci cg co:Nat)(hT:TaskMem w Ai Ag Ao t)(h:t.facts < 0) :
  Calls Tryz.prog 21 #[.agg #[.int .i64 t.facts,.slice Ai t.init.length ci,.slice Ag t.goal.length cg,.slice Ao t.ops.length co]] w fun e w'=>e=.returned (.agg #[.int .i64 3,.int .i64 (-1)])/\Below w.heap.size w w':=by
 go_enter Tryz.func21,Tryz.ntmps21;go_wp2;refine bodyPost_ret (v:=.agg #[.int .i64 3,.int .i64 (-1)]) ?_ rfl ⟨rfl,bch⟩;simp[results,Tryz.results21,go_sem]
theorem zVs(w:World)(t:TaskV)(Ai Ag Ao:Option Addr)(ci cg co:Nat)(hT:TaskMem w Ai Ag Ao t)(h:0<=t.facts)(h2:24 < t.facts) :
  Calls Tryz.prog 21 #[.agg #[.int .i64 t.facts,.slice Ai t.init.length ci,.slice Ag t.goal.length cg,.slice Ao t.ops.length co]] w fun e w'=>e=.returned (.agg #[.int .i64 3,.int .i64 (-1)])/\Below w.heap.size w w':=by
 go_enter Tryz.func21,Tryz.ntmps21;go_wp2;refine bodyPost_ret (v:=.agg #[.int .i64 3,.int .i64 (-1)]) ?_ rfl ⟨rfl,bch⟩;simp[results,Tryz.results21,go_sem]
theorem zVt(w:World)(t:TaskV)(Ai Ag Ao:Option Addr)(ci cg co:Nat)(hT:TaskMem w Ai Ag Ao t)(h:0<=t.facts)(h2:t.facts<=24)(hinit:¬ SetP t.init t.facts) :
  Calls Tryz.prog 21 #[.agg #[.int .i64 t.facts,.slice Ai t.init.length ci,.slice Ag t.goal.length cg,.slice Ao t.ops.length co]] w fun e w'=>e=.returned (.agg #[.int .i64 5,.int .i64 (-2)])/\Below w.heap.size w w':=by
 have HINIT:=lHd hinit;clear hinit;go_enter Tryz.func21,Tryz.ntmps21
 go_wp2_with fail
 refine (xVc _ _ _ _ _ (hT.init.below bch) hT.linit.le HINIT.out).mono ?_;rintro e w' ⟨rfl,rfl⟩;go_wp2;refine bodyPost_ret (v:=.agg #[.int .i64 5,.int .i64 (-2)]) ?_ rfl ⟨rfl,bch⟩;simp[results,Tryz.results21,go_sem]
theorem zVu(w:World)(t:TaskV)(Ai Ag Ao:Option Addr)(ci cg co:Nat)(hT:TaskMem w Ai Ag Ao t)(h:0<=t.facts)(h2:t.facts<=24)(hinit:SetP t.init t.facts)(hgoal:¬ SetP t.goal t.facts) :
  Calls Tryz.prog 21 #[.agg #[.int .i64 t.facts,.slice Ai t.init.length ci,.slice Ag t.goal.length cg,.slice Ao t.ops.length co]] w fun e w'=>e=.returned (.agg #[.int .i64 5,.int .i64 (-3)])/\Below w.heap.size w w':=by
 have HINIT:=lHd hinit;clear hinit;have HGOAL:=lHd hgoal;clear hgoal;go_enter Tryz.func21,Tryz.ntmps21
 go_wp2_with fail
 refine (xJc _ _ _ _ _ (hT.init.below bch) hT.linit.le HINIT.out).mono ?_;rintro e w' ⟨rfl,rfl⟩
 go_wp2_with fail
 refine (xVc _ _ _ _ _ (hT.goal.below bch) hT.lgoal.le HGOAL.out).mono ?_;rintro e w' ⟨rfl,rfl⟩;go_wp2;refine bodyPost_ret (v:=.agg #[.int .i64 5,.int .i64 (-3)]) ?_ rfl ⟨rfl,bch⟩;simp[results,Tryz.results21,go_sem]
theorem zVv(w:World)(t:TaskV)(Ai Ag Ao:Option Addr)(ci cg co:Nat)(hT:TaskMem w Ai Ag Ao t)(h:0<=t.facts)(h2:t.facts<=24)(hinit:SetP t.init t.facts)(hgoal:SetP t.goal t.facts)(h3:40 < t.ops.length) :
  Calls Tryz.prog 21 #[.agg #[.int .i64 t.facts,.slice Ai t.init.length ci,.slice Ag t.goal.length cg,.slice Ao t.ops.length co]] w fun e w'=>e=.returned (.agg #[.int .i64 2,.int .i64 (-1)])/\Below w.heap.size w w':=by
 have HINIT:=lHd hinit;clear hinit;have HGOAL:=lHd hgoal;clear hgoal;go_enter Tryz.func21,Tryz.ntmps21
 go_wp2_with fail
 refine (xJc _ _ _ _ _ (hT.init.below bch) hT.linit.le HINIT.out).mono ?_;rintro e w' ⟨rfl,rfl⟩
 go_wp2_with fail
 refine (xJc _ _ _ _ _ (hT.goal.below bch) hT.lgoal.le HGOAL.out).mono ?_;rintro e w' ⟨rfl,rfl⟩;go_wp2;refine bodyPost_ret (v:=.agg #[.int .i64 2,.int .i64 (-1)]) ?_ rfl ⟨rfl,bch⟩;simp[results,Tryz.results21,go_sem]
theorem zVw(w:World)(t:TaskV)(Ai Ag Ao:Option Addr)(ci cg co:Nat)(hT:TaskMem w Ai Ag Ao t)(h:0<=t.facts)(h2:t.facts<=24)(hinit:SetP t.init t.facts)(hgoal:SetP t.goal t.facts)(h3:t.ops.length<=40) :
  Calls Tryz.prog 21 #[.agg #[.int .i64 t.facts,.slice Ai t.init.length ci,.slice Ag t.goal.length cg,.slice Ao t.ops.length co]] w fun e w'=>e=.returned (.agg #[.int .i64 (xXb t.facts t.ops 0).1,.int .i64 (xXb t.facts t.ops 0).2])/\Below w.heap.size w w':=by
 have HINIT:=lHd hinit;clear hinit;have HGOAL:=lHd hgoal;clear hgoal;go_enter Tryz.func21,Tryz.ntmps21
 go_wp2_with fail
 refine (xJc _ _ _ _ _ (hT.init.below bch) hT.linit.le HINIT.out).mono ?_;rintro e w' ⟨rfl,rfl⟩
 go_wp2_with fail
 refine (xJc _ _ _ _ _ (hT.goal.below bch) hT.lgoal.le HGOAL.out).mono ?_;rintro e w' ⟨rfl,rfl⟩
 go_wp2_with fail
 go_loopw [41] (fun i wr=>∃ k:Nat,k<=t.ops.length/\i=.int .i64 k/\Hid (∀ o∈t.ops.take k,opc o t.facts=0)/\Below w.heap.size w wr/\Cls wr [(w.heap.size,0,.int .i64 t.facts),(w.heap.size,1,.slice Ai t.init.length ci),(w.heap.size,2,.slice Ag t.goal.length cg),(w.heap.size,3,.slice Ao t.ops.length co),(w.heap.size+1,0,.int .i64 0),(w.heap.size+1,1,.int .i64 0)]) (fun i _=>t.ops.length - (intOf i).toNat)
 case atStart=>exact⟨0,Nat.zero_le _,rfl,lHd (by simp),bch,(by simp[Cls,go_sem])⟩
 case round=>
  obtain⟨k,hk,rfl,hno,hBr,hCr⟩:=hrel;have Fr:=hCr;simp only[Cls,and_true] at Fr;have yrw1:w.heap.size+1 < wr.heap.size:=hCr.blk (b:=w.heap.size+1) (k:=0) (v:=.int .i64 0) (by simp);have yrw0:w.heap.size < wr.heap.size:=(by omega)
  by_cases hlt:k < t.ops.length
  ·obtain⟨ad,o,A0,c0,A1,c1,A2,c2,rfl,ho,hc0,hc1,hc2,hc3,hm⟩:=(hT.ops.below hBr).at_ hlt
   by_cases hz:opc o t.facts=0
   ·have HZ:=lHd hz;clear hz
    go_wp2_with fail
    refine (xY0 _ _ _ _ _ _ _ _ h h2 _ (hm.below ((Below.refl _ _).alloc (Nat.le_refl _) _))).mono ?_;rintro e w1 ⟨he,hB1⟩;rw[HZ.out] at he;subst he;have D1:=xJ3 w hB1 bch;have C1:=Cls.below (l:=[(w.heap.size,0,.int .i64 t.facts),(w.heap.size,1,.slice Ai t.init.length ci),(w.heap.size,2,.slice Ag t.goal.length cg),(w.heap.size,3,.slice (some ad) t.ops.length co),(w.heap.size+1,0,.int .i64 0),(w.heap.size+1,1,.int .i64 0),(wr.heap.size,0,.slice A0 o.pre.length c0),(wr.heap.size,1,.slice A1 o.add.length c1),(wr.heap.size,2,.slice A2 o.del.length c2),(wr.heap.size,3,.int .i64 o.cost)]) hB1 (by simp[Cls,go_sem,Fr,yrw1,yrw0]);have F1:=C1;simp only[Cls,and_true] at F1;have y1w1:w.heap.size+1 < w1.heap.size:=C1.blk (b:=w.heap.size+1) (k:=0) (v:=.int .i64 0) (by simp);have y1wr0:wr.heap.size < w1.heap.size:=C1.blk (b:=wr.heap.size) (k:=0) (v:=.slice A0 o.pre.length c0) (by simp);go_wp2
    go_roundw
    case rel=>exact⟨k+1,by omega,by go_num,lHd (xJh ho.out hno.out HZ.out),bch,(by simp[Cls,go_sem,F1,y1w1,y1wr0])⟩
    case measure=>simp[intOf];omega
   ·have hz':(opc o t.facts != 0)=true:=by simpa using hz
    have e:=xYt t.ops 0 k o hno.out ho.out hz;have HE:=lHd e;clear e
    go_wp2_with fail
    refine (xY0 _ _ _ _ _ _ _ _ h h2 _ (hm.below ((Below.refl _ _).alloc (Nat.le_refl _) _))).mono ?_;rintro e w1 ⟨rfl,hB1⟩;have D1:=xJ3 w hB1 bch;have C1:=Cls.below (l:=[(w.heap.size,0,.int .i64 t.facts),(w.heap.size,1,.slice Ai t.init.length ci),(w.heap.size,2,.slice Ag t.goal.length cg),(w.heap.size,3,.slice (some ad) t.ops.length co),(w.heap.size+1,0,.int .i64 0),(w.heap.size+1,1,.int .i64 0),(wr.heap.size,0,.slice A0 o.pre.length c0),(wr.heap.size,1,.slice A1 o.add.length c1),(wr.heap.size,2,.slice A2 o.del.length c2),(wr.heap.size,3,.int .i64 o.cost)]) hB1 (by simp[Cls,go_sem,Fr,yrw1,yrw0]);have F1:=C1;simp only[Cls,and_true] at F1;have y1w1:w.heap.size+1 < w1.heap.size:=C1.blk (b:=w.heap.size+1) (k:=0) (v:=.int .i64 0) (by simp);have y1wr0:wr.heap.size < w1.heap.size:=C1.blk (b:=wr.heap.size) (k:=0) (v:=.slice A0 o.pre.length c0) (by simp);go_wp2;refine bodyPost_ret (v:=.agg #[.int .i64 (opc o t.facts),.int .i64 (k:Int)]) ?_ rfl ⟨by rw[HE.out];simp,bch⟩;simp[results,Tryz.results21,go_sem,F1,y1w1,y1wr0]
  ·have e:=xXu t.ops 0 (xJy hlt hno.out);have HE:=lHd e;clear e;go_wp2;refine bodyPost_ret (v:=.agg #[.int .i64 0,.int .i64 0]) ?_ rfl ⟨by rw[HE.out],bch⟩;simp[results,Tryz.results21,go_sem,Fr,yrw1,yrw0]
theorem xXq(w:World)(t:TaskV)(Ai Ag Ao:Option Addr)(ci cg co:Nat)(hT:TaskMem w Ai Ag Ao t) :
  Calls Tryz.prog 21 #[.agg #[.int .i64 t.facts,.slice Ai t.init.length ci,.slice Ag t.goal.length cg,.slice Ao t.ops.length co]] w fun e w'=>e=.returned (.agg #[.int .i64 (xJn t).1,.int .i64 (xJn t).2])/\Below w.heap.size w w':=by
 by_cases h:t.facts < 0\/24 < t.facts
 ·rw[zQn h]
  by_cases h0:t.facts < 0
  ·exact zVr w t Ai Ag Ao ci cg co hT h0
  ·exact zVs w t Ai Ag Ao ci cg co hT (by omega) (by omega)
 ·by_cases h1:SetP t.init t.facts
  ·by_cases h2:SetP t.goal t.facts
   ·by_cases h3:40 < t.ops.length
    ·rw[zQq h h1 h2 h3];exact zVv w t Ai Ag Ao ci cg co hT (by omega) (by omega) h1 h2 h3
    ·rw[xWr h h1 h2 h3];exact zVw w t Ai Ag Ao ci cg co hT (by omega) (by omega) h1 h2 (by omega)
   ·rw[zQp h h1 h2];exact zVu w t Ai Ag Ao ci cg co hT (by omega) (by omega) h1 h2
  ·rw[zQo h h1];exact zVt w t Ai Ag Ao ci cg co hT (by omega) (by omega) h1
theorem vYl{v:Int}(h:¬ v=0):(v == 0)=false:=by simpa using h
theorem vQp{v:Int}(h:¬ v=0):(v != 0)=true:=by simpa using h
theorem xY1(w:World)(t:TaskV)(Ai Ag Ao:Option Addr)(ci cg co:Nat)(hT:TaskMem w Ai Ag Ao t)(S:Option Addr)(cs:Nat)(s:List Int)(hS:Ints w S s)(hls:lenOk s.length)(hv:Valid t)(h2:SetP s t.facts) :
  Calls Tryz.prog 156 #[.agg #[.int .i64 t.facts,.slice Ai t.init.length ci,.slice Ag t.goal.length cg,.slice Ao t.ops.length co],.slice S s.length cs] w fun e w'=>e=.returned (.agg #[.int .i64 0,.int .i64 0])/\Below w.heap.size w w':=by
 have HV:=lHd (xZ8 hv);have H2:=lHd h2;clear h2;go_enter Tryz.func156,Tryz.ntmps156
 go_wp2_with fail
 refine (xXq _ _ _ _ _ _ _ _ (hT.below bch)).mono ?_;rintro e w1 ⟨he,hB1⟩;rw[HV.out] at he;subst he;have D1:=xJ3 w hB1 bch;have C1:=Cls.below (l:=[(w.heap.size,0,.int .i64 t.facts),(w.heap.size,1,.slice Ai t.init.length ci),(w.heap.size,2,.slice Ag t.goal.length cg),(w.heap.size,3,.slice Ao t.ops.length co),(w.heap.size+1,0,.int .i64 0),(w.heap.size+1,1,.int .i64 0)]) hB1 (by simp[Cls,go_sem]);have F1:=C1;simp only[Cls,and_true] at F1;have y1w1:w.heap.size+1 < w1.heap.size:=C1.blk (b:=w.heap.size+1) (k:=0) (v:=.int .i64 0) (by simp);have y1w0:w.heap.size < w1.heap.size:=(by omega)
 go_wp2_with fail
 refine (xJc _ _ _ _ _ (hS.below bch) hls.le H2.out).mono ?_;rintro e w' ⟨rfl,rfl⟩;go_wp2;refine bodyPost_ret (v:=.agg #[.int .i64 0,.int .i64 0]) ?_ rfl ⟨rfl,bch⟩;simp[results,Tryz.results156,go_sem,F1,y1w1,y1w0]
theorem zX4(w:World)(t:TaskV)(Ai Ag Ao:Option Addr)(ci cg co:Nat)(hT:TaskMem w Ai Ag Ao t)(h40:t.ops.length<=40) :
  Calls Tryz.prog 174 #[.agg #[.int .i64 t.facts,.slice Ai t.init.length ci,.slice Ag t.goal.length cg,.slice Ao t.ops.length co]] w fun e w'=>∃ v,e=.returned v/\OwnI w.heap.size w' v (t.ops.map (·.cost))/\Below w.heap.size w w':=by
 go_enter Tryz.func174,Tryz.ntmps174
 go_wp2_with fail
 go_loopw [3,9] (fun v i wr=>∃ k:Nat,k<=t.ops.length/\i=.int .i64 k/\OwnI (w.heap.size+1) wr v ((t.ops.take k).map (·.cost))/\Below w.heap.size w wr/\Cls wr [(w.heap.size,0,.int .i64 t.facts),(w.heap.size,1,.slice Ai t.init.length ci),(w.heap.size,2,.slice Ag t.goal.length cg),(w.heap.size,3,.slice Ao t.ops.length co)]) (fun _ i _=>t.ops.length - (intOf i).toNat)
 case atStart=>exact⟨0,Nat.zero_le _,rfl,by simpa using OwnI.nil _ _,bch,(by simp[Cls,go_sem])⟩
 case round=>
  obtain⟨k,hk,rfl,hown,hBr,hCr⟩:=hrel;have Fr:=hCr;simp only[Cls,and_true] at Fr;have yrw0:w.heap.size < wr.heap.size:=hCr.blk (b:=w.heap.size) (k:=0) (v:=.int .i64 t.facts) (by simp);have yrwp1:w.heap.size < wr.heap.size+1:=(by omega)
  by_cases hlt:k < t.ops.length
  ·obtain⟨ad,o,A0,c0,A1,c1,A2,c2,rfl,ho,hc0,hc1,hc2,hc3,hm⟩:=(hT.ops.below hBr).at_ hlt;have hlen:((t.ops.take k).map (·.cost)).length < 1000000000000:=by simp;omega
   have hcost:(t.ops.take k).map (·.cost) ++ [o.cost]=(t.ops.take (k+1)).map (·.cost):=by rw[List.take_add_one,ho.out];simp
   have HC:=lHd hcost;clear hcost
   go_wp2_with (at_builtin;go_must (refine xXl rfl (.tmp 13) (.tmp 16) rfl w [(w.heap.size,0,.int .i64 t.facts),(w.heap.size,1,.slice Ai t.init.length ci),(w.heap.size,2,.slice Ag t.goal.length cg),(w.heap.size,3,.slice (some ad) t.ops.length co)] (w.heap.size+1) u3 _ (o.cost) rfl (OwnI.below hown ?p1) ⟨wr.heap.size+1,0,none⟩ 1 rfl ?p2 hlen ?p3 ?p4 ?p5 ?p6 ?p7 ?_;(case p1=>exact bch);(case p2=>simp[Cls,go_sem,Fr,yrw0,yrwp1]);(case p3=>(first | omega | (simp <;> omega)));(case p4=>(first | omega | (simp <;> omega)));(case p5=>exact bch);(case p6=>simp[Cls,go_sem,Fr,yrw0,yrwp1]);(case p7=>(simp <;> omega));intro v1 w1 o1 D1 C1 sz1;have d1s:=D1.size;have F1:=C1;simp only[Cls,and_true] at F1;have y1w0:w.heap.size < w1.heap.size:=C1.blk (b:=w.heap.size) (k:=0) (v:=.int .i64 t.facts) (by simp);have y1wp1:w.heap.size < w1.heap.size+1:=(by omega);have y1wp2:w.heap.size < w1.heap.size+1+1:=(by omega)))
   go_roundw
   case rel=>exact⟨k+1,by omega,by go_num,by rw[<- HC.out];exact o1,bch,(by simp[Cls,go_sem,F1,y1w0,y1wp1,y1wp2])⟩
   case measure=>simp[intOf];omega
  ·go_wp2;go_ret;rw[List.take_of_length_le (by omega)] at hown;exact⟨_,rfl,OwnI.mono hown (by omega),hBr⟩
theorem vYm(a b:Int)(w:World)(ha:InV a)(hb:InV b)(h:a=1000000000):Calls Tryz.prog 41 #[.int .i64 a,.int .i64 b] w fun e w'=>e=.returned (.int .i64 (1000000000))/\w=w':=by
 subst h;unfold InV at ha hb;go_enter Tryz.func41,Tryz.ntmps41;go_wp2;go_ret;exact⟨xKg (by omega),rfl⟩
theorem vYn(a b:Int)(w:World)(ha:InV a)(hb:InV b)(hn:¬ a=1000000000)(h:b=1000000000):Calls Tryz.prog 41 #[.int .i64 a,.int .i64 b] w fun e w'=>e=.returned (.int .i64 (1000000000))/\w=w':=by
 subst h;unfold InV at ha hb;have N:(a == 1000000000)=false:=by simpa using hn
 go_enter Tryz.func41,Tryz.ntmps41;go_wp2;go_ret;exact⟨xKg (by omega),rfl⟩
theorem vYo(a b:Int)(w:World)(ha:InV a)(hb:InV b)(hn:¬ a=1000000000)(hm:¬ b=1000000000)(h:a+b>=1000000000):Calls Tryz.prog 41 #[.int .i64 a,.int .i64 b] w fun e w'=>e=.returned (.int .i64 (999999999))/\w=w':=by
 unfold InV at ha hb;have N:(a == 1000000000)=false:=by simpa using hn
 have N':(b == 1000000000)=false:=by simpa using hm
 go_enter Tryz.func41,Tryz.ntmps41;go_wp2;go_ret;exact⟨xKg (by omega),rfl⟩
theorem vYp(a b:Int)(w:World)(ha:InV a)(hb:InV b)(hn:¬ a=1000000000)(hm:¬ b=1000000000)(h:¬ a+b>=1000000000):Calls Tryz.prog 41 #[.int .i64 a,.int .i64 b] w fun e w'=>e=.returned (.int .i64 (a+b))/\w=w':=by
 unfold InV at ha hb;have N:(a == 1000000000)=false:=by simpa using hn
 have N':(b == 1000000000)=false:=by simpa using hm
 go_enter Tryz.func41,Tryz.ntmps41;go_wp2;go_ret;exact⟨xKg (by omega),rfl⟩
theorem vXo(a b:Int)(w:World)(ha:InV a)(hb:InV b):Calls Tryz.prog 41 #[.int .i64 a,.int .i64 b] w fun e w'=>e=.returned (.int .i64 (xZ7 a b))/\w=w':=by
 by_cases h1:a=1000000000
 ·rw[xKj (Or.inl h1)];exact vYm a b w ha hb h1
 ·by_cases h2:b=1000000000
  ·rw[xKj (Or.inr h2)];exact vYn a b w ha hb h1 h2
  ·by_cases h3:a+b>=1000000000
   ·rw[vX5 (by omega) h3];exact vYo a b w ha hb h1 h2 h3
   ·rw[vX6 (by omega) h3];exact vYp a b w ha hb h1 h2 h3
theorem xY2(A B:Option Addr)(c d:Nat)(vs xs:List Int)(w:World)(hI:Ints w A vs)(hJ:Ints w B xs)(hl:xs.length<=9223372036854775807)(hb:vs.length<=9223372036854775807)(hx:∀ x∈xs,0<=x/\x < vs.length)(hv:xZr vs) :
  Calls Tryz.prog 154 #[.slice A vs.length c,.slice B xs.length d] w fun e w'=>e=.returned (.int .i64 (xJp false vs xs))/\w=w':=by
 have HX:=lHd hx;have HV:=lHd hv;clear hx hv;go_enter Tryz.func154,Tryz.ntmps154;go_wp2
 go_loop [5,10] (fun a i=>∃ k:Nat,k<=xs.length/\i=.int .i64 k/\a=.int .i64 (xJp false vs (xs.take k))) (fun a i=>xs.length - (intOf i).toNat)
 case atStart=>exact⟨0,Nat.zero_le _,rfl,rfl⟩
 case round=>
  obtain⟨k,hk,rfl,rfl⟩:=hrel;have hin:=xXc (s:=false) HV.out (xs.take k)
  by_cases hlt:k < xs.length
  ·obtain⟨ad,x,rfl,hx,hc⟩:=hJ.at_ hlt;obtain⟨x0,x1⟩:=HX.out x (lMg hx.out);obtain⟨bd,v1,rfl,hy,hd⟩:=hI.at_ (show x.toNat < vs.length by omega);have hs:=lHd (xKk (s:=false) hx.out hy.out);have hv1:=HV.out v1 (lMg hy.out);generalize xJp false vs (xs.take k)=g at *;unfold InV at hin hv1;have hm:xXg false g v1=if g < v1 then v1 else g:=rfl
   have HM:=lHd hm;clear hm;go_wp2
   go_round
   case rel=>exact⟨k+1,by omega,by go_num,by rw[hs.out,HM.out]⟩
   case measure=>simp[intOf];omega
  ·have hall:=xW1 (s:=false) (vs:=vs) hlt;rw[hall];go_wp2;go_ret;exact⟨rfl,rfl⟩
end
end Go.Proofs.YtpeipeljmapkmaaGreat
