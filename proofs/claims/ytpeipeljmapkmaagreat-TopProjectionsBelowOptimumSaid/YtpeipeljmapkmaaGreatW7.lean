/-
  Lemmas for the law: Wd, Rb1.
-/
import Derived.Test.YtpeipeljmapkmaaGreatW5
import Derived.Test.YtpeipeljmapkmaaGreatW2
import Derived.Test.YtpeipeljmapkmaaGreatW1
import Derived.Laws.BitsAllLaws
import Derived.Lib.BitFns
import Derived.Lib.Tables
set_option linter.unusedVariables false
set_option linter.unusedSimpArgs false
set_option maxRecDepth 100000
set_option maxHeartbeats 4000000
namespace Go.Proofs.YtpeipeljmapkmaaGreat
open Go.RowKit
theorem zYj:∀ (n:Nat) {l:List Int},l.Nodup->(∀ x∈l,0<=x/\x < (n:Int))->∀ i:Nat,(xJ1 l).toNat.testBit i=decide ((i:Int)∈l)
 | 0,l,_,hx,i=>by
  cases l with
  | nil=>simp[xJ1]
  | cons x l=>have:=hx x (List.mem_cons_self ..);omega
 | n+1,l,hd,hx,i=>by
  have h1:=xZj (n:=n) hd (fun x h=>by have:=hx x h;omega);have fl:∀ x∈l.filter (fun x=>decide (x < (n:Int))),0<=x/\x < (n:Int):=fun x h=>by
   have h3:=List.mem_filter.1 h;have:=hx x h3.1;simp at h3;omega
  have ih:=zYj n (hd.filter (fun x=>decide (x < (n:Int)))) fl i;have h2:=xV8 n (hd.filter (fun x=>decide (x < (n:Int)))) fl;have h0:=xV7 (l.filter fun x=>decide (x < (n:Int)));have hpc:((2:Int) ^ n)=((2 ^ n:Nat):Int):=by simp
  have hlt:(xJ1 (l.filter fun x=>decide (x < (n:Int)))).toNat < 2 ^ n:=by omega
  have hm:∀ j:Nat,j < n->((j:Int)∈l.filter (fun x=>decide (x < (n:Int)))↔(j:Int)∈l):=fun j hj=>by
   rw[List.mem_filter];exact⟨fun h=>h.1,fun h=>⟨h,by simp;omega⟩⟩
  by_cases hn:(n:Int)∈l
  ·rw[if_pos hn] at h1;have e:(xJ1 l).toNat=2 ^ n+(xJ1 (l.filter fun x=>decide (x < (n:Int)))).toNat:=by omega
   rw[e];rcases Nat.lt_trichotomy i n with h | h | h
   ·rw[Nat.testBit_two_pow_add_gt h,ih];exact decide_eq_decide.2 (hm i h)
   ·rw[h,Nat.testBit_two_pow_add_eq,Nat.testBit_lt_two_pow hlt];simp[hn]
   ·have hb:2 ^ n+(xJ1 (l.filter fun x=>decide (x < (n:Int)))).toNat < 2 ^ i:=by
     have h3:2 ^ (n+1)<=2 ^ i:=Nat.pow_le_pow_right (by decide) h;have h4:2 ^ (n+1)=2 ^ n+2 ^ n:=by rw[Nat.pow_succ];omega
     omega
    rw[Nat.testBit_lt_two_pow hb];symm;exact decide_eq_false (fun hc=>by have:=hx _ hc;omega)
  ·rw[if_neg hn,Int.add_zero] at h1;rw[h1,ih];refine decide_eq_decide.2 ?_;rw[List.mem_filter];constructor
   ·exact fun h=>h.1
   ·intro h;have:=hx _ h;have h5:(i:Int)≠(n:Int):=fun e=>hn (e ▸ h)
    exact⟨h,by simp;omega⟩
theorem SetP.bit{l:List Int}{n:Nat}(h:SetP l (n:Int))(i:Nat):(xJ1 l).toNat.testBit i=decide ((i:Int)∈l):=zYj n h.nodup h.1 i
theorem SetP.word_lt{l:List Int}{n:Nat}(h:SetP l (n:Int))(hn:n<=24):xJ1 l < 16777216:=by
 have h1:=xV8 24 h.nodup (fun x hx=>by have:=h.1 x hx;omega);have:(2:Int) ^ 24=16777216:=by decide
 omega
theorem SetP.word_u32{l:List Int}{n:Nat}(h:SetP l (n:Int))(hn:n<=24):0<=xJ1 l/\xJ1 l < 4294967296:=by
 have h1:=xV7 l;have h2:=h.word_lt hn;omega
theorem vW1{a b u:List Int}{n:Nat}(ha:SetP a (n:Int))(hb:SetP b (n:Int))(hu:SetP u (n:Int))(hn:n<=24)(h:∀ x,x∈u↔x∈a\/x∈b):bits .or .u32 (xJ1 a) (xJ1 b)=xJ1 u:=by
 have h1:=ha.word_u32 hn;have h2:=hb.word_u32 hn;have h3:=xV7 u;rw[u32_or _ _ h1.1 h1.2 h2.1 h2.2];have e:(xJ1 a).toNat ||| (xJ1 b).toNat=(xJ1 u).toNat:=by
  refine Nat.eq_of_testBit_eq fun i=>?_
  rw[Nat.testBit_or,ha.bit,hb.bit,hu.bit,<- Bool.decide_or];exact decide_eq_decide.2 (h _).symm
 rw[e];omega
theorem vZn{s:List Int}{n:Nat}(h:SetP s (n:Int))(hn:n<=24){k:Nat}{x:Int}(hx:s[k]? = some x):bits .or .u32 (xJ1 (s.take k)) (2 ^ x.toNat)=xJ1 (s.take (k+1)):=by
 have hsub:∀ j,SetP (s.take j) (n:Int):=fun j=>SetP.of_pairwise (fun y hy=>h.1 y (List.mem_of_mem_take hy)) (List.Pairwise.sublist (List.take_sublist _ _) h.pairwise)
 have hx0:=h.1 x (lMg hx);have hone:SetP [x] (n:Int):=SetP.of_pairwise (fun y hy=>by rw[List.mem_singleton.1 hy];exact hx0) (by simp);have e:(2:Int) ^ x.toNat=xJ1 [x]:=by simp[xJ1]
 rw[e];refine vW1 (hsub k) hone (hsub (k+1)) hn fun y=>?_
 rw[List.take_add_one,hx];simp
theorem vZo{n:Nat}{l:List Int}{o:OpV}{x:Int}(hl:SetP l (n:Int))(ha:∀ p∈o.add,0<=p/\p < (n:Int)):x∈xJe n l (rxO o)↔x∈l\/x∈o.add:=by
 rw[xJn];constructor
 ·rintro ⟨_,h | ⟨h,_⟩⟩
  ·exact .inr h
  ·exact .inl h
 ·rintro (h | h)
  ·exact⟨hl.1 x h,.inr ⟨h,by simp[rxO]⟩⟩
  ·exact⟨ha x h,.inl h⟩
theorem vKv{n:Nat}{x:Int}(h:0<=x/\x < (n:Int))(hn:n<=24):(0:Int)<=2 ^ x.toNat/\(2:Int) ^ x.toNat < 4294967296:=by
 have h1:(2:Nat) ^ x.toNat<=2 ^ 24:=Nat.pow_le_pow_right (by decide) (by omega);have h3:((2:Int) ^ x.toNat)=((2 ^ x.toNat:Nat):Int):=by simp
 generalize (2:Nat) ^ x.toNat=y at h1 h3;rw[h3];omega
theorem vZ3(x y:Int)(h:x < y)(w:World) :
  Calls Tryz.prog 99 #[.int .i64 x,.int .i64 y] w fun e w'=>e=.returned (.int .i64 (-1))/\w'=w:=by
 go_enter Tryz.func99,Tryz.ntmps99;go_wp2
 all_goals (go_ret;exact⟨rfl,rfl⟩)
theorem vZ4(x y:Int)(h:x=y)(w:World) :
  Calls Tryz.prog 99 #[.int .i64 x,.int .i64 y] w fun e w'=>e=.returned (.int .i64 (0))/\w'=w:=by
 subst h;go_enter Tryz.func99,Tryz.ntmps99;go_wp2
 all_goals (go_ret;exact⟨rfl,rfl⟩)
theorem vZ5(x y:Int)(h:y < x)(w:World) :
  Calls Tryz.prog 99 #[.int .i64 x,.int .i64 y] w fun e w'=>e=.returned (.int .i64 (1))/\w'=w:=by
 have e1:¬ x < y:=by omega
 go_enter Tryz.func99,Tryz.ntmps99;go_wp2
 all_goals (go_ret;exact⟨rfl,rfl⟩)
def vZ6(x y:Int):Int:=if x < y then -1 else if x=y then 0 else 1
theorem zJ3(x y:Int)(w:World):Calls Tryz.prog 99 #[.int .i64 x,.int .i64 y] w fun e w'=>e=.returned (.int .i64 (vZ6 x y))/\w'=w:=by
 unfold vZ6;rcases Int.lt_trichotomy x y with h | h | h
 ·rw[if_pos h];exact vZ3 x y h w
 ·rw[if_neg (by omega),if_pos h];exact vZ4 x y h w
 ·rw[if_neg (by omega),if_neg (by omega)];exact vZ5 x y h w
theorem xK5{x y:Int}:vZ6 x y < 0↔x < y:=by
 unfold vZ6
 split
 ·exact⟨fun _=>by assumption,fun _=>by decide⟩
 ·split
  ·exact⟨fun h=>by omega,fun h=>by omega⟩
  ·exact⟨fun h=>by omega,fun h=>by omega⟩
def wv(l:List Int):Int:=xJ1 l % 4294967296
theorem SetP.wv{l:List Int}{n:Nat}(h:SetP l (n:Int))(hn:n<=24):wv l=xJ1 l:=by
 have:=h.word_u32 hn;unfold Go.Proofs.YtpeipeljmapkmaaGreat.wv;exact Int.emod_eq_of_lt this.1 this.2
def encW(l:List Int):Value:=.int .u32 (wv l)
end Go.Proofs.YtpeipeljmapkmaaGreat
