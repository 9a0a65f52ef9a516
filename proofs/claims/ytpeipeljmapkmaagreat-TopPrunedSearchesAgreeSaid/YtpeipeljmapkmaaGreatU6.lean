/-
  Lemmas for the law: Wd, Rb1.
-/
import Derived.Test.YtpeipeljmapkmaaGreatU4
import Derived.Test.YtpeipeljmapkmaaGreatU3
import Derived.Test.YtpeipeljmapkmaaGreatU1
import Derived.Laws.BitsAllLaws
import Derived.Lib.BitFns
import Derived.Lib.Tables
set_option linter.unusedVariables false
set_option linter.unusedSimpArgs false
set_option maxRecDepth 100000
set_option maxHeartbeats 4000000
namespace Go.Proofs.YtpeipeljmapkmaaGreat
open Go.RowKit
theorem zVi:∀ (n:Nat) {l:List Int},l.Nodup->(∀ x∈l,0<=x/\x < (n:Int))->∀ i:Nat,(xJ0 l).toNat.testBit i=decide ((i:Int)∈l)
 | 0,l,_,hx,i=>by
  cases l with
  | nil=>simp[xJ0]
  | cons x l=>have:=hx x (List.mem_cons_self ..);omega
 | n+1,l,hd,hx,i=>by
  have h1:=xZ2 (n:=n) hd (fun x h=>by have:=hx x h;omega);have fl:∀ x∈l.filter (fun x=>decide (x < (n:Int))),0<=x/\x < (n:Int):=fun x h=>by
   have h3:=List.mem_filter.1 h;have:=hx x h3.1;simp at h3;omega
  have ih:=zVi n (hd.filter (fun x=>decide (x < (n:Int)))) fl i;have h2:=xQn n (hd.filter (fun x=>decide (x < (n:Int)))) fl;have h0:=xQm (l.filter fun x=>decide (x < (n:Int)));have hpc:((2:Int) ^ n)=((2 ^ n:Nat):Int):=by simp
  have hlt:(xJ0 (l.filter fun x=>decide (x < (n:Int)))).toNat < 2 ^ n:=by omega
  have hm:∀ j:Nat,j < n->((j:Int)∈l.filter (fun x=>decide (x < (n:Int)))↔(j:Int)∈l):=fun j hj=>by
   rw[List.mem_filter];exact⟨fun h=>h.1,fun h=>⟨h,by simp;omega⟩⟩
  by_cases hn:(n:Int)∈l
  ·rw[if_pos hn] at h1;have e:(xJ0 l).toNat=2 ^ n+(xJ0 (l.filter fun x=>decide (x < (n:Int)))).toNat:=by omega
   rw[e];rcases Nat.lt_trichotomy i n with h | h | h
   ·rw[Nat.testBit_two_pow_add_gt h,ih];exact decide_eq_decide.2 (hm i h)
   ·rw[h,Nat.testBit_two_pow_add_eq,Nat.testBit_lt_two_pow hlt];simp[hn]
   ·have hb:2 ^ n+(xJ0 (l.filter fun x=>decide (x < (n:Int)))).toNat < 2 ^ i:=by
     have h3:2 ^ (n+1)<=2 ^ i:=Nat.pow_le_pow_right (by decide) h;have h4:2 ^ (n+1)=2 ^ n+2 ^ n:=by rw[Nat.pow_succ];omega
     omega
    rw[Nat.testBit_lt_two_pow hb];symm;exact decide_eq_false (fun hc=>by have:=hx _ hc;omega)
  ·rw[if_neg hn,Int.add_zero] at h1;rw[h1,ih];refine decide_eq_decide.2 ?_;rw[List.mem_filter];constructor
   ·exact fun h=>h.1
   ·intro h;have:=hx _ h;have h5:(i:Int)≠(n:Int):=fun e=>hn (e ▸ h)
    exact⟨h,by simp;omega⟩
theorem SetP.bit{l:List Int}{n:Nat}(h:SetP l (n:Int))(i:Nat):(xJ0 l).toNat.testBit i=decide ((i:Int)∈l):=zVi n h.nodup h.1 i
theorem SetP.word_lt{l:List Int}{n:Nat}(h:SetP l (n:Int))(hn:n<=24):xJ0 l < 16777216:=by
 have h1:=xQn 24 h.nodup (fun x hx=>by have:=h.1 x hx;omega);have:(2:Int) ^ 24=16777216:=by decide
 omega
theorem SetP.word_u32{l:List Int}{n:Nat}(h:SetP l (n:Int))(hn:n<=24):0<=xJ0 l/\xJ0 l < 4294967296:=by
 have h1:=xQm l;have h2:=h.word_lt hn;omega
theorem vYf{a b u:List Int}{n:Nat}(ha:SetP a (n:Int))(hb:SetP b (n:Int))(hu:SetP u (n:Int))(hn:n<=24)(h:∀ x,x∈u↔x∈a\/x∈b):bits .or .u32 (xJ0 a) (xJ0 b)=xJ0 u:=by
 have h1:=ha.word_u32 hn;have h2:=hb.word_u32 hn;have h3:=xQm u;rw[u32_or _ _ h1.1 h1.2 h2.1 h2.2];have e:(xJ0 a).toNat ||| (xJ0 b).toNat=(xJ0 u).toNat:=by
  refine Nat.eq_of_testBit_eq fun i=>?_
  rw[Nat.testBit_or,ha.bit,hb.bit,hu.bit,<- Bool.decide_or];exact decide_eq_decide.2 (h _).symm
 rw[e];omega
theorem zZe{s:List Int}{n:Nat}(h:SetP s (n:Int))(hn:n<=24){k:Nat}{x:Int}(hx:s[k]? = some x):bits .or .u32 (xJ0 (s.take k)) (2 ^ x.toNat)=xJ0 (s.take (k+1)):=by
 have hsub:∀ j,SetP (s.take j) (n:Int):=fun j=>SetP.of_pairwise (fun y hy=>h.1 y (List.mem_of_mem_take hy)) (List.Pairwise.sublist (List.take_sublist _ _) h.pairwise)
 have hx0:=h.1 x (lMg hx);have hone:SetP [x] (n:Int):=SetP.of_pairwise (fun y hy=>by rw[List.mem_singleton.1 hy];exact hx0) (by simp);have e:(2:Int) ^ x.toNat=xJ0 [x]:=by simp[xJ0]
 rw[e];refine vYf (hsub k) hone (hsub (k+1)) hn fun y=>?_
 rw[List.take_add_one,hx];simp
theorem vX1{n:Nat}{l:List Int}{o:OpV}{x:Int}(hl:SetP l (n:Int))(ha:∀ p∈o.add,0<=p/\p < (n:Int)):x∈xJ5 n l (rxO o)↔x∈l\/x∈o.add:=by
 rw[xJq];constructor
 ·rintro ⟨_,h | ⟨h,_⟩⟩
  ·exact .inr h
  ·exact .inl h
 ·rintro (h | h)
  ·exact⟨hl.1 x h,.inr ⟨h,by simp[rxO]⟩⟩
  ·exact⟨ha x h,.inl h⟩
theorem zQg{n:Nat}{x:Int}(h:0<=x/\x < (n:Int))(hn:n<=24):(0:Int)<=2 ^ x.toNat/\(2:Int) ^ x.toNat < 4294967296:=by
 have h1:(2:Nat) ^ x.toNat<=2 ^ 24:=Nat.pow_le_pow_right (by decide) (by omega);have h3:((2:Int) ^ x.toNat)=((2 ^ x.toNat:Nat):Int):=by simp
 generalize (2:Nat) ^ x.toNat=y at h1 h3;rw[h3];omega
theorem vJe(x y:Int)(h:x < y)(w:World) :
  Calls Tryz.prog 99 #[.int .i64 x,.int .i64 y] w fun e w'=>e=.returned (.int .i64 (-1))/\w'=w:=by
 go_enter Tryz.func99,Tryz.ntmps99;go_wp2
 all_goals (go_ret;exact⟨rfl,rfl⟩)
theorem vJf(x y:Int)(h:x=y)(w:World) :
  Calls Tryz.prog 99 #[.int .i64 x,.int .i64 y] w fun e w'=>e=.returned (.int .i64 (0))/\w'=w:=by
 subst h;go_enter Tryz.func99,Tryz.ntmps99;go_wp2
 all_goals (go_ret;exact⟨rfl,rfl⟩)
theorem vJg(x y:Int)(h:y < x)(w:World) :
  Calls Tryz.prog 99 #[.int .i64 x,.int .i64 y] w fun e w'=>e=.returned (.int .i64 (1))/\w'=w:=by
 have e1:¬ x < y:=by omega
 go_enter Tryz.func99,Tryz.ntmps99;go_wp2
 all_goals (go_ret;exact⟨rfl,rfl⟩)
def vJh(x y:Int):Int:=if x < y then -1 else if x=y then 0 else 1
theorem xWj(x y:Int)(w:World):Calls Tryz.prog 99 #[.int .i64 x,.int .i64 y] w fun e w'=>e=.returned (.int .i64 (vJh x y))/\w'=w:=by
 unfold vJh;rcases Int.lt_trichotomy x y with h | h | h
 ·rw[if_pos h];exact vJe x y h w
 ·rw[if_neg (by omega),if_pos h];exact vJf x y h w
 ·rw[if_neg (by omega),if_neg (by omega)];exact vJg x y h w
theorem xYm{x y:Int}:vJh x y < 0↔x < y:=by
 unfold vJh
 split
 ·exact⟨fun _=>by assumption,fun _=>by decide⟩
 ·split
  ·exact⟨fun h=>by omega,fun h=>by omega⟩
  ·exact⟨fun h=>by omega,fun h=>by omega⟩
def wv(l:List Int):Int:=xJ0 l % 4294967296
theorem SetP.wv{l:List Int}{n:Nat}(h:SetP l (n:Int))(hn:n<=24):wv l=xJ0 l:=by
 have:=h.word_u32 hn;unfold Go.Proofs.YtpeipeljmapkmaaGreat.wv;exact Int.emod_eq_of_lt this.1 this.2
def encW(l:List Int):Value:=.int .u32 (wv l)
end Go.Proofs.YtpeipeljmapkmaaGreat
