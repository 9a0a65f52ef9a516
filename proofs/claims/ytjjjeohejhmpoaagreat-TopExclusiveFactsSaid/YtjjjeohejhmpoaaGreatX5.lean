/-
  Lemmas.
-/
import Derived.Test.YtjjjeohejhmpoaaGreatX3
import Derived.Lib.BitFns
set_option linter.unusedVariables false
set_option linter.unusedSimpArgs false
set_option maxRecDepth 100000
set_option maxHeartbeats 4000000
namespace Go.Proofs.YtjjjeohejhmpoaaGreat
open Go.RowKit Go.Proofs.Tryz
theorem vZz:∀(n:Nat) {l:List Int},l.Nodup->(∀x∈l,0<=x/\x<(n:Int))->∀i:Nat,(xJ0 l).toNat.testBit i=decide ((i:Int)∈l)
 |0,l,_,hx,i=>by
  cases l with
  |nil=>simp[xJ0]
  |cons x l=>have:=hx x (vVp ..);omega
 |n+1,l,hd,hx,i=>by
  have h1:=xQa (n:=n) hd (fun x h=>by have:=hx x h;omega);have fl:∀x∈l.filter (fun x=>decide (x<(n:Int))),0<=x/\x<(n:Int):=fun x h=>by
   have h3:=List.mem_filter.1 h;have:=hx x h3.1;simp at h3;omega
  have ih:=vZz n (hd.filter (fun x=>decide (x<(n:Int)))) fl i;have h2:=xYd n (hd.filter (fun x=>decide (x<(n:Int)))) fl;have h0:=xYc (l.filter fun x=>decide (x<(n:Int)));have hpc:((2:Int)^n)=((2^n:Nat):Int):=by simp
  have hlt:(xJ0 (l.filter fun x=>decide (x<(n:Int)))).toNat<2^n:=by omega
  have hm:∀j:Nat,j<n->((j:Int)∈l.filter (fun x=>decide (x<(n:Int)))↔(j:Int)∈l):=fun j hj=>by
   rw[List.mem_filter];exact⟨fun h=>h.1,fun h=>⟨h,by simp;omega⟩⟩
  by_cases hn:(n:Int)∈l
  ·rw[if_pos hn] at h1;have e:(xJ0 l).toNat=2^n+(xJ0 (l.filter fun x=>decide (x<(n:Int)))).toNat:=by omega
   rw[e];rcases Nat.lt_trichotomy i n with h|h|h
   ·rw[Nat.testBit_two_pow_add_gt h,ih];exact decide_eq_decide.2 (hm i h)
   ·rw[h,Nat.testBit_two_pow_add_eq,Nat.testBit_lt_two_pow hlt];simp[hn]
   ·have hb:2^n+(xJ0 (l.filter fun x=>decide (x<(n:Int)))).toNat<2^i:=by
     have h3:2^(n+1)<=2^i:=Nat.pow_le_pow_right (by decide) h;have h4:2^(n+1)=2^n+2^n:=by rw[Nat.pow_succ];omega
     omega
    rw[Nat.testBit_lt_two_pow hb];symm;exact zVa (fun hc=>by have:=hx _ hc;omega)
  ·rw[if_neg hn,Int.add_zero] at h1;rw[h1,ih];refine decide_eq_decide.2 ?_;rw[List.mem_filter];constructor
   ·exact fun h=>h.1
   ·intro h;have:=hx _ h;have h5:(i:Int)≠(n:Int):=fun e=>hn (e ▸ h)
    exact⟨h,by simp;omega⟩
theorem SetP.bit{l:List Int}{n:Nat}(h:SetP l (n:Int))(i:Nat):(xJ0 l).toNat.testBit i=decide ((i:Int)∈l):=vZz n h.nodup h.1 i
theorem SetP.word_lt{l:List Int}{n:Nat}(h:SetP l (n:Int))(hn:n<=24):xJ0 l<16777216:=by
 have h1:=xYd 24 h.nodup (fun x hx=>by have:=h.1 x hx;omega);have:(2:Int)^24=16777216:=by decide
 omega
theorem SetP.word_u32{l:List Int}{n:Nat}(h:SetP l (n:Int))(hn:n<=24):0<=xJ0 l/\xJ0 l<4294967296:=by
 have h1:=xYc l;have h2:=h.word_lt hn;omega
theorem yXd{a b u:List Int}{n:Nat}(ha:SetP a (n:Int))(hb:SetP b (n:Int))(hu:SetP u (n:Int))(hn:n<=24)(h:∀x,x∈u↔x∈a\/x∈b):bits .or .u32 (xJ0 a) (xJ0 b)=xJ0 u:=by
 have h1:=ha.word_u32 hn;have h2:=hb.word_u32 hn;have h3:=xYc u;rw[u32_or _ _ h1.1 h1.2 h2.1 h2.2];have e:(xJ0 a).toNat ||| (xJ0 b).toNat=(xJ0 u).toNat:=by
  refine Nat.eq_of_testBit_eq fun i=>?_
  rw[Nat.testBit_or,ha.bit,hb.bit,hu.bit,<- Bool.decide_or];exact decide_eq_decide.2 (h _).symm
 rw[e];omega
theorem xQm{a b:List Int}{n:Nat}(ha:SetP a (n:Int))(hb:SetP b (n:Int))(hn:n<=24):bits .andNot .u32 (xJ0 a) (xJ0 b)=0↔∀x∈a,x∈b:=by
 have h1:=ha.word_u32 hn;have h2:=hb.word_u32 hn;rw[u32_andNot _ _ h1.1 h1.2 h2.1 h2.2];have hbit:∀i:Nat,((xJ0 a).toNat &&& (4294967295-(xJ0 b).toNat)).testBit i=(decide ((i:Int)∈a)&&(decide (i<32) && !decide ((i:Int)∈b))):=fun i=>by
  have e:4294967295-(xJ0 b).toNat=2^32-((xJ0 b).toNat+1):=by
   have:(2:Nat)^32=4294967296:=by decide
   omega
  rw[Nat.testBit_and,ha.bit,e,Nat.testBit_two_pow_sub_succ (by
    have:(2:Nat)^32=4294967296:=by decide
    omega),hb.bit]
 constructor
 ·intro h x hx;refine vXe fun hc=>?_
  obtain⟨x0,x1⟩:=ha.1 x hx;obtain⟨i,rfl⟩:=Int.eq_ofNat_of_zero_le x0;have h3:=hbit i;have h4:((xJ0 a).toNat &&& (4294967295-(xJ0 b).toNat))=0:=by omega
  rw[h4,Nat.zero_testBit,zWo hx,zVa hc,zWo (by omega:i<32)] at h3
  cases h3
 ·intro h;have h4:((xJ0 a).toNat &&& (4294967295-(xJ0 b).toNat))=0:=by
   refine Nat.eq_of_testBit_eq fun i=>?_
   rw[hbit i,Nat.zero_testBit]
   by_cases hi:(i:Int)∈a
   ·rw[zWo (h _ hi)];simp
   ·rw[zVa hi];simp
  rw[h4];rfl
theorem zWh{s:List Int}{n:Nat}(h:SetP s (n:Int))(hn:n<=24){k:Nat}{x:Int}(hx:s[k]? = some x):bits .or .u32 (xJ0 (s.take k)) (2^x.toNat)=xJ0 (s.take (k+1)):=by
 have hsub:∀j,SetP (s.take j) (n:Int):=fun j=>SetP.of_pairwise (fun y hy=>h.1 y (List.mem_of_mem_take hy)) (List.Pairwise.sublist (List.take_sublist _ _) h.pairwise)
 have hx0:=h.1 x (lMg hx);have hone:=SetP.of_pairwise (fun y hy=>by rw[yY9.1 hy];exact hx0) (by simp);have e:(2:Int)^x.toNat=xJ0 [x]:=by simp[xJ0]
 rw[e];refine yXd (hsub k) hone (hsub (k+1)) hn fun y=>?_
 rw[vXd,hx];simp
def xQ4(x:Int):Int:=(Lib.onesCount (x.toNat/16777216):Int)+Lib.onesCount (x.toNat/65536%256)+Lib.onesCount (x.toNat/256%256)+Lib.onesCount (x.toNat%256)
theorem yXe:∀a b:Fin 256,a.val ||| b.val=b.val->a.val≠b.val->Lib.onesCount a.val<Lib.onesCount b.val:=by decide +kernel
theorem zJr{a b:Nat}(ha:a<256)(hb:b<256)(h:a ||| b=b):Lib.onesCount a<=Lib.onesCount b/\(a≠b->Lib.onesCount a<Lib.onesCount b):=by
 have h1:=yXe ⟨a,ha⟩ ⟨b,hb⟩ h;refine⟨?_,h1⟩
 by_cases e:a=b
 ·rw[e];exact Nat.le_refl _
 ·exact Nat.le_of_lt (h1 e)
theorem yXf(a b:Nat)(k:Nat):(a ||| b)/2^k=a/2^k ||| b/2^k:=by
 rw[<- Nat.shiftRight_eq_div_pow,<- Nat.shiftRight_eq_div_pow,<- Nat.shiftRight_eq_div_pow,Nat.shiftRight_or_distrib]
theorem yXg(a b:Nat)(k:Nat):(a ||| b)%2^k=a%2^k ||| b%2^k:=by
 refine Nat.eq_of_testBit_eq fun i=>?_
 rw[Nat.testBit_mod_two_pow,Nat.testBit_or,Nat.testBit_or,Nat.testBit_mod_two_pow,Nat.testBit_mod_two_pow]
 cases decide (i<k)<;>simp
theorem yWq{a b:Int}(a0:0<=a)(a1:a<4294967296)(b0:0<=b)(b1:b<4294967296)(h:a.toNat ||| b.toNat=b.toNat)(hne:a≠b):xQ4 a<xQ4 b:=by
 obtain⟨x,rfl⟩:=Int.eq_ofNat_of_zero_le a0;obtain⟨y,rfl⟩:=Int.eq_ofNat_of_zero_le b0;simp only[Int.toNat_natCast] at h;unfold xQ4;simp only[Int.toNat_natCast];have q1:=zJr (a:=x/16777216) (b:=y/16777216) (by omega) (by omega) (by have:=yXf x y 24;rw[h] at this;exact this.symm);have q2:=zJr (a:=x/65536%256) (b:=y/65536%256) (by omega) (by omega) (by
  have h1:=yXf x y 16;have h2:=yXg (x/2^16) (y/2^16) 8;rw[h] at h1;rw[<- h1] at h2;exact h2.symm)
 have q3:=zJr (a:=x/256%256) (b:=y/256%256) (by omega) (by omega) (by
  have h1:=yXf x y 8;have h2:=yXg (x/2^8) (y/2^8) 8;rw[h] at h1;rw[<- h1] at h2;exact h2.symm)
 have q4:=zJr (a:=x%256) (b:=y%256) (by omega) (by omega) (by
  have h2:=yXg x y 8;rw[h] at h2;exact h2.symm)
 have hsome:x/16777216≠y/16777216\/x/65536%256≠y/65536%256\/x/256%256≠y/256%256\/x%256≠y%256:=by omega
 rcases hsome with e|e|e|e
 ·have:=q1.2 e;omega
 ·have:=q2.2 e;omega
 ·have:=q3.2 e;omega
 ·have:=q4.2 e;omega
theorem yXh{a b:List Int}{n:Nat}(ha:SetP a (n:Int))(hb:SetP b (n:Int))(hn:n<=24)(h:∀x∈a,x∈b)(hne:a≠b):xQ4 (xJ0 a)<xQ4 (xJ0 b):=by
 have h1:=ha.word_u32 hn;have h2:=hb.word_u32 hn;refine yWq h1.1 h1.2 h2.1 h2.2 ?_ (fun e=>hne (xJp ha hb e));refine Nat.eq_of_testBit_eq fun i=>?_
 rw[Nat.testBit_or,ha.bit,hb.bit,<- Bool.decide_or];exact decide_eq_decide.2 ⟨fun hx=>hx.elim (h _) id,.inr⟩
theorem vQ0{n:Nat}{l:List Int}{o:OpV}{x:Int}(hl:SetP l (n:Int))(ha:∀p∈o.add,0<=p/\p<(n:Int)):x∈xJb n l (rxO o)↔x∈l\/x∈o.add:=by
 rw[xXa];constructor
 ·rintro⟨_,h|⟨h,_⟩⟩
  ·exact .inr h
  ·exact .inl h
 ·rintro(h|h)
  ·exact⟨hl.1 x h,.inr ⟨h,by simp[rxO]⟩⟩
  ·exact⟨ha x h,.inl h⟩
theorem vX8{n:Nat}{l:List Int}{o:OpV}(hl:SetP l (n:Int))(ha:SetP o.add (n:Int))(hn:n<=24):bits .or .u32 (xJ0 l) (xJ0 o.add)=xJ0 (xJb n l (rxO o)):=
 yXd hl ha (xJz n l _) hn fun x=>vQ0 hl ha.1
theorem yXp{n:Nat}{x:Int}(h:0<=x/\x<(n:Int))(hn:n<=24):(0:Int)<=2^x.toNat/\(2:Int)^x.toNat<4294967296:=by
 have h1:(2:Nat)^x.toNat<=2^24:=Nat.pow_le_pow_right (by decide) (by omega);have h3:((2:Int)^x.toNat)=((2^x.toNat:Nat):Int):=by simp
 generalize (2:Nat)^x.toNat=y at h1 h3;rw[h3];omega
theorem xX6(A:Option Addr)(c:Nat)(s:List Int)(w:World)(hI:Ints w A s)(n:Nat)(hs:SetP s (n:Int))(hn:n<=24) :
  Calls prog 38 #[.slice A s.length c] w fun e w'=>e=.returned (.int .u32 (xJ0 s))/\w=w':=by
 have HX:=lHd hs.1;have HS:=lHd hs;have hl:s.length<=9223372036854775807:=by have:=SetP.length hs (by omega);omega
 clear hs;go_enter func38,ntmps38;go_wp2
 go_loop [3,8] (fun a i=>∃k:Nat,k<=s.length/\i=.int .i64 k/\a=.int .u32 (xJ0 (s.take k))) (fun _ i=>s.length-(intOf i).toNat)
 case atStart=>exact⟨0,zKk _,rfl,rfl⟩
 case round=>
  obtain⟨k,hk,rfl,rfl⟩:=hrel
  by_cases hlt:k<s.length
  ·obtain⟨ad,x,rfl,hx,hc⟩:=hI.at_ hlt;obtain⟨x0,x1⟩:=HX.out x (lMg hx.out);have HP:=lHd (zWh HS.out hn hx.out);have x32:x<=32:=by omega
   have hp:=yXp ⟨x0,x1⟩ hn;go_wp2
   go_round
   case rel=>
    refine⟨k+1,by omega,by go_num,?_⟩;rw[<- HP.out]
    try simp[IntKind.wrap_u32']
   case measure=>simp[intOf];omega
  ·have hall:=lHd (show s.take k=s from zQd (by omega));rw[hall.out];go_wp2;go_ret;exact⟨rfl,rfl⟩
theorem vQ5{a:Int}(h0:0<=a)(h1:a<=255):Lib.pop8 a=(Lib.onesCount a.toNat:Int)/\0<=Lib.pop8 a/\Lib.pop8 a<=8:=by
 have e:=Lib.pop8_eq ⟨a.toNat,by omega⟩;have l:=Lib.onesCount_le8 ⟨a.toNat,by omega⟩;simp only at e l;rw[yZx h0] at e;omega
theorem yWu{x:Int}(h0:0<=x)(h1:x<4294967296):Lib.pop8 (x/16777216)+Lib.pop8 (x/65536%256)+Lib.pop8 (x/256%256)+Lib.pop8 (x%256)=xQ4 x/\(0<=Lib.pop8 (x/16777216)/\Lib.pop8 (x/16777216)<=8)/\(0<=Lib.pop8 (x/65536%256)/\Lib.pop8 (x/65536%256)<=8)/\(0<=Lib.pop8 (x/256%256)/\Lib.pop8 (x/256%256)<=8)/\(0<=Lib.pop8 (x%256)/\Lib.pop8 (x%256)<=8):=by
 have a1:=vQ5 (a:=x/16777216) (by omega) (by omega);have a2:=vQ5 (a:=x/65536%256) (by omega) (by omega);have a3:=vQ5 (a:=x/256%256) (by omega) (by omega);have a4:=vQ5 (a:=x%256) (by omega) (by omega);refine⟨?_,a1.2,a2.2,a3.2,a4.2⟩;unfold xQ4;rw[a1.1,a2.1,a3.1,a4.1,show(x/16777216).toNat=x.toNat/16777216 by omega,show(x/65536%256).toNat=x.toNat/65536%256 by omega,show(x/256%256).toNat=x.toNat/256%256 by omega,show(x%256).toNat=x.toNat%256 by omega]
theorem yXq{y:Int}(h0:0<=y)(h1:y<4294967296):bits .and .u32 y 255=y%256:=by
 rw[u32_and y 255 h0 h1 (by omega) (by omega)];have e:(255:Int).toNat=255:=rfl;rw[e,nat_mask8];omega
theorem vQ6(x:Int)(h0:0<=x)(h1:x<4294967296)(w:World) :
  Calls prog 42 #[.int .u32 x] w fun e w'=>e=.returned (.int .i64 (xQ4 x))/\∃q,w'=w.drewN q:=by
 obtain⟨hp,p1,p2,p3,p4⟩:=yWu h0 h1;have HP:=lHd hp;clear hp;have q1:bits .and .u32 (x/65536) 255=x/65536%256:=yXq (by omega) (by omega);have q2:bits .and .u32 (x/256) 255=x/256%256:=yXq (by omega) (by omega);have q3:=yXq h0 h1;have b1:0<=x/16777216:=by omega
 have b2:x/16777216<=255:=by omega
 go_enter func42,ntmps42
 go_wp2_with fail
 go_quiet (fail)
 go_wp2;go_ret;exact⟨by rw[<- HP.out];rfl,nq,rfl⟩
theorem yXr(x y:Int)(h:x<y)(w:World) :
  Calls prog 41 #[.int .i64 x,.int .i64 y] w fun e w'=>e=.returned (.int .i64 (-1))/\w'=w:=by
 go_enter func41,ntmps41;go_wp2
 all_goals (go_ret;exact⟨rfl,rfl⟩)
theorem yXs(x y:Int)(h:x=y)(w:World) :
  Calls prog 41 #[.int .i64 x,.int .i64 y] w fun e w'=>e=.returned (.int .i64 (0))/\w'=w:=by
 subst h;go_enter func41,ntmps41;go_wp2
 all_goals (go_ret;exact⟨rfl,rfl⟩)
theorem yXt(x y:Int)(h:y<x)(w:World) :
  Calls prog 41 #[.int .i64 x,.int .i64 y] w fun e w'=>e=.returned (.int .i64 (1))/\w'=w:=by
 have e1:¬x<y:=by omega
 go_enter func41,ntmps41;go_wp2
 all_goals (go_ret;exact⟨rfl,rfl⟩)
def yXu(x y:Int):Int:=if x<y then -1 else if x=y then 0 else 1
theorem xWv(x y:Int)(w:World):Calls prog 41 #[.int .i64 x,.int .i64 y] w fun e w'=>e=.returned (.int .i64 (yXu x y))/\w'=w:=by
 unfold yXu;rcases Int.lt_trichotomy x y with h|h|h
 ·rw[if_pos h];exact yXr x y h w
 ·rw[if_neg (by omega),if_pos h];exact yXs x y h w
 ·rw[if_neg (by omega),if_neg (by omega)];exact yXt x y h w
theorem xYl{x y:Int}:yXu x y<0↔x<y:=by
 unfold yXu
 split
 ·exact⟨fun _=>by assumption,fun _=>by decide⟩
 ·split
  ·exact⟨fun h=>by omega,fun h=>by omega⟩
  ·exact⟨fun h=>by omega,fun h=>by omega⟩
def wv(l:List Int):Int:=xJ0 l%4294967296
theorem yK1(l:List Int):0<=wv l/\wv l<4294967296:=by unfold wv;omega
theorem SetP.wv{l:List Int}{n:Nat}(h:SetP l (n:Int))(hn:n<=24):wv l=xJ0 l:=by
 have:=h.word_u32 hn;unfold Go.Proofs.YtjjjeohejhmpoaaGreat.wv;exact Int.emod_eq_of_lt this.1 this.2
def yXv(l:List Int):Value:=.int .u32 (wv l)
def cfW(x y:List Int):Int:=yXu (xQ4 (wv x)) (xQ4 (wv y))
theorem vXc(x y:List Int)(w:World) :
  Calls prog 40 #[yXv x,yXv y] w fun e w'=>e=.returned (.int .i64 (cfW x y))/\∃q,w'=w.drewN q:=by
 unfold yXv cfW;obtain⟨x0,x1⟩:=yK1 x;obtain⟨y0,y1⟩:=yK1 y;generalize wv x=a at x0 x1 ⊢;generalize wv y=b at y0 y1 ⊢;go_enter func40,ntmps40
 go_wp2_with fail
 refine(vQ6 a x0 x1 _).mono ?_;rintro e w1 ⟨rfl,q1,rfl⟩
 go_wp2_with fail
 refine(vQ6 b y0 y1 _).mono ?_;rintro e w2 ⟨rfl,q2,rfl⟩
 go_wp2_with fail
 refine(xWv _ _ _).mono ?_;rintro e w3 ⟨rfl,rfl⟩;go_wp2;go_ret;exact⟨rfl,q1+q2,by simp⟩
