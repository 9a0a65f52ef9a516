/-
  TopExclusiveFacts holds for every task: no reachable state contains both facts of an exclusive pair, or two facts of an invariant group. No condition.
-/
import Derived.Test.YtjjjeohejhmpoaaGreatX35
import Derived.Test.YtjjjeohejhmpoaaGreatX37
import Derived.Test.YtjjjeohejhmpoaaGreatX39
import Derived.Test.YtjjjeohejhmpoaaGreatX40
set_option linter.unusedVariables false
set_option linter.unusedSimpArgs false
set_option maxRecDepth 100000
set_option maxHeartbeats 4000000
namespace Go.Proofs.YtjjjeohejhmpoaaGreat
open Go.RowKit Go.Shelf
theorem walk_tex_1(w:World)(t:TaskV)(Ai Ag Ao:Option Addr)(ci cg co:Nat)(hR:TaskRead w Ai Ag Ao ci cg co t)(h:¬(xXn t).1=0) :
  Calls Tryz.prog 4 #[.agg #[.int .i64 t.facts,.slice Ai t.init.length ci,.slice Ag t.goal.length cg,.slice Ao t.ops.length co]] w fun e w'=>e=.returned (.bool true)/\Below w.heap.size w w':=by
 have hT:=hR.mem;go_enter Tryz.func4,Tryz.ntmps4
 go_wp2_with fail
 refine(xYy _).mono ?_;rintro e w1 ⟨rfl,hB1⟩;have D1:=xJ3 w hB1 bch;have C1:=Cls.below (l:=[(w.heap.size,0,.int .i64 t.facts),(w.heap.size,1,.slice Ai t.init.length ci),(w.heap.size,2,.slice Ag t.goal.length cg),(w.heap.size,3,.slice Ao t.ops.length co)]) hB1 (by simp[Cls,go_sem]);have F1:=C1.f;have y1w0:=C1.b 0
 go_wp2_with fail
 refine(xWy _).mono ?_;rintro e w2 ⟨rfl,hB2⟩;have D2:=xJ3 w hB2 bch;have C2:=Cls.below (l:=[(w.heap.size,0,.int .i64 t.facts),(w.heap.size,1,.slice Ai t.init.length ci),(w.heap.size,2,.slice Ag t.goal.length cg),(w.heap.size,3,.slice Ao t.ops.length co)]) hB2 (by simp[Cls,go_sem,F1]);have F2:=C2.f;have y2w0:=C2.b 0
 go_wp2_with fail
 refine(uZh _ t Ai Ag Ao ci cg co (hT.below bch) h).mono ?_;rintro e w3 ⟨rfl,hB3⟩;have D3:=xJ3 w hB3 bch;have C3:=Cls.below (l:=[(w.heap.size,0,.int .i64 t.facts),(w.heap.size,1,.slice Ai t.init.length ci),(w.heap.size,2,.slice Ag t.goal.length cg),(w.heap.size,3,.slice Ao t.ops.length co)]) hB3 (by simp[Cls,go_sem,F2]);have y3w0:=C3.b 0;go_wp2;refine bodyPost_ret ?_ rfl ⟨rfl,bch⟩;simp[results,Tryz.results4,go_sem]
theorem ifind_any(w:World)(t:TaskV)(Ai Ag Ao:Option Addr)(ci cg co:Nat)(hT:TaskMem w Ai Ag Ao t)(n:Nat)(hn:t.facts=n)(hv:Valid t) :
  Calls Tryz.prog 17 #[.agg #[.int .i64 t.facts,.slice Ai t.init.length ci,.slice Ag t.goal.length cg,.slice Ao t.ops.length co]] w fun e w'=>(∃(v:Value) (gs:List (List Int)) (c j:Int),e=.returned (.tuple #[v,.agg #[.int .i64 c,.int .i64 j]])/\(∃B,w.heap.size<=B/\OwnLL B w' v gs)/\gs.length<=1024/\Hid (∀g∈gs,SetP g (n:Int)/\uXo t g=true)/\(c=0\/gs.length=0))/\Below w.heap.size w w':=by
 by_cases h:n<=10
 ·exact(uQl w t Ai Ag Ao ci cg co hT n hn hv h).mono fun e w' ⟨h1,v,gs,h2,h3,h4,h5⟩=>⟨⟨v,gs,0,0,h2,h3,h4,lHd h5,.inl rfl⟩,h1⟩
 ·exact(uQk w t Ai Ag Ao ci cg co hT n hn hv (by omega)).mono fun e w' ⟨h1,h2⟩=>⟨⟨_,[],10,-8,h1,⟨_,Nat.le_refl _,OwnEs.nil _ _⟩,by simp,lHd (by simp),.inr rfl⟩,h2⟩
theorem cst_groups{n:Nat}{t:TaskV}{l g:List Int}{c:Int}(hv:Valid t)(h:uXo t g=true)(hl:Cst n t.ops t.init l c):AM l g:=
 uQ2 (fun o ho=>(hv.ops o ho).1.1.nodup) h hl
theorem walk_tex_2(w:World)(t:TaskV)(Ai Ag Ao:Option Addr)(ci cg co:Nat)(hR:TaskRead w Ai Ag Ao ci cg co t)(n:Nat)(hn:t.facts=n)(hv:Valid t) :
  Calls Tryz.prog 4 #[.agg #[.int .i64 t.facts,.slice Ai t.init.length ci,.slice Ag t.goal.length cg,.slice Ao t.ops.length co]] w fun e w'=>e=.returned (.bool true)/\Below w.heap.size w w':=by
 have hT:=hR.mem;have hn24:n<=24:=by have:=hv.f1;omega
 have hEx:=fun w0 h=>uZi w0 t Ai Ag Ao ci cg co h n hn hv
 have HN:=lHd hn;have HV:=lHd hv;have HO:=lHd (vZ3 hv hn);have HIN:=lHd (show ∀q∈t.init,Rng n q by have:=hv.init.1;rw[hn] at this;exact this);clear hv hn;go_enter Tryz.func4,Tryz.ntmps4
 go_wp2_with fail
 refine(xYy _).mono ?_;rintro e w1 ⟨rfl,hB1⟩;have D1:=xJ3 w hB1 bch;have C1:=Cls.below (l:=[(w.heap.size,0,.int .i64 t.facts),(w.heap.size,1,.slice Ai t.init.length ci),(w.heap.size,2,.slice Ag t.goal.length cg),(w.heap.size,3,.slice Ao t.ops.length co)]) hB1 (by simp[Cls,go_sem]);have F1:=C1.f;have y1w0:=C1.b 0
 go_wp2_with fail
 refine(xWy _).mono ?_;rintro e w2 ⟨rfl,hB2⟩;have D2:=xJ3 w hB2 bch;have C2:=Cls.below (l:=[(w.heap.size,0,.int .i64 t.facts),(w.heap.size,1,.slice Ai t.init.length ci),(w.heap.size,2,.slice Ag t.goal.length cg),(w.heap.size,3,.slice Ao t.ops.length co)]) hB2 (by simp[Cls,go_sem,F1]);have F2:=C2.f;have y2w0:=C2.b 0
 go_wp2_with fail
 refine(hEx _ (hT.below bch)).mono ?_;rintro e w3 ⟨hB3,hR3⟩;have D3:=xJ3 w hB3 bch;have C3:=Cls.below (l:=[(w.heap.size,0,.int .i64 t.facts),(w.heap.size,1,.slice Ai t.init.length ci),(w.heap.size,2,.slice Ag t.goal.length cg),(w.heap.size,3,.slice Ao t.ops.length co)]) hB3 (by simp[Cls,go_sem,F2]);have F3:=C3.f;have y3w0:=C3.b 0;rcases hR3 with⟨rfl,-⟩|⟨v3,ls,rfl,⟨b3,hb3,ho3⟩,hcl,hls⟩
 ·go_wp2;refine bodyPost_ret ?_ rfl ⟨rfl,bch⟩;simp[results,Tryz.results4,go_sem]
 ·have HC:=lHd hcl;clear hcl;obtain⟨A3,c3,rfl⟩:=OwnEs.form ho3
  go_wp2_with fail
  refine(uQj _ t Ai Ag Ao ci cg co (hT.below bch) (hR.ops.below bch) n HN.out HV.out).mono ?_;rintro e w4 ⟨v4,V,rfl,⟨b4,hb4,ho4⟩,hbest,hB4⟩;have D4:=xJ3 w hB4 bch;have Ew3_4:=xJ3 w3 hB4 bch;have C4:=Cls.below (l:=[(w.heap.size,0,.int .i64 t.facts),(w.heap.size,1,.slice Ai t.init.length ci),(w.heap.size,2,.slice Ag t.goal.length cg),(w.heap.size,3,.slice Ao t.ops.length co),(w3.heap.size,0,.int .i64 0),(w3.heap.size,1,.int .i64 0)]) hB4 (by simp[Cls,go_sem,F3,y3w0]);have F4:=C4.f;have y4w0:=C4.b 0;have y4w30:=C4.b 4;have HBE:=lHd hbest;clear hbest;obtain⟨ps,hps⟩:∃ps,Hid (uZa n V n=ps):=⟨_,lHd rfl⟩;have hpl:ps.length<=1000000:=by
   have h1:=uXy n V n;have h2:=Nat.mul_le_mul hn24 hn24;rw[hps.out] at h1;omega
  rw[hps.out] at ho4;obtain⟨A4,c4,rfl⟩:=OwnEs.form ho4
  go_wp2_with fail
  refine(ifind_any _ t Ai Ag Ao ci cg co (hT.below bch) n HN.out HV.out).mono ?_;rintro e w5 ⟨⟨v5,gs,c,jf,rfl,⟨b5,hb5,ho5⟩,hgl,hgs,hcz⟩,hB5⟩;have D5:=xJ3 w hB5 bch;have Ew3_5:=xJ3 w3 hB5 bch;have Ew4_5:=xJ3 w4 hB5 bch;have C5:=Cls.below (l:=[(w.heap.size,0,.int .i64 t.facts),(w.heap.size,1,.slice Ai t.init.length ci),(w.heap.size,2,.slice Ag t.goal.length cg),(w.heap.size,3,.slice Ao t.ops.length co),(w3.heap.size,0,.int .i64 0),(w3.heap.size,1,.int .i64 0),(w4.heap.size,0,.int .i64 0),(w4.heap.size,1,.int .i64 0)]) hB5 (by simp[Cls,go_sem,F4,y4w0,y4w30]);have F5:=C5.f;have y5w0:=C5.b 0;have y5w30:=C5.b 4;have y5w40:=C5.b 6;obtain⟨A5,c5,rfl⟩:=OwnEs.form ho5;have HPAIR:Hid (∀r∈ls,∀x y,(x,y)∈ps->¬(x∈r/\y∈r)):=lHd (fun r hr x y hxy=>by
   obtain⟨d,hd⟩:=HC.out.rch r hr;exact uZm HBE.out HO.out HIN.out hd (by rw[hps.out];exact hxy))
  have HGRP:Hid (∀r∈ls,∀g∈gs,AM r g/\g.Nodup/\g.length<=1000000):=lHd (fun r hr g hg=>by
   obtain⟨d,hd⟩:=HC.out.rch r hr;have h1:=hgs.out g hg;have:=h1.1.length (by omega);exact⟨cst_groups HV.out h1.2 hd,h1.1.nodup,by omega⟩)
  have HRL:Hid (∀r∈ls,r.length<=1000000):=lHd (fun r hr=>by have:=(HC.out.set r hr).length (by omega);omega);have o3:=OwnLL.below ho3 bch;have o4:=OwnPP.below ho4 bch;clear ho3 ho4 hgs hEx HO HIN HBE hps;go_wp2;refine wp_loop_ghost_k (fun gk a wr=>∃(vi:Value) (F:Array Value),(∃i:Nat,i<=ls.length/\vi=.int .i64 (i:Int)/\Below w5.heap.size w5 wr/\Cls wr [(w.heap.size,0,.int .i64 t.facts),(w.heap.size,1,.slice Ai t.init.length ci),(w.heap.size,2,.slice Ag t.goal.length cg),(w.heap.size,3,.slice Ao t.ops.length co),(w3.heap.size,0,.int .i64 0),(w3.heap.size,1,.int .i64 0),(w4.heap.size,0,.int .i64 0),(w4.heap.size,1,.int .i64 0),(w5.heap.size,0,.int .i64 c),(w5.heap.size,1,.int .i64 jf)]/\Hid (gk=ls.length-i))/\a={ tmps:=#[fr F 0,fr F 1,fr F 2,.slice A3 ls.length c3,fr F 4,.slice A4 ps.length c4,fr F 6,.slice A5 gs.length c5,.pointer (some ⟨w5.heap.size,0,none⟩),vi,fr F 10,fr F 11,fr F 12,fr F 13,fr F 14,fr F 15,fr F 16,fr F 17,fr F 18,fr F 19,fr F 20,fr F 21,fr F 22,fr F 23,fr F 24,fr F 25,fr F 26,fr F 27,fr F 28,fr F 29,fr F 30,fr F 31,fr F 32,fr F 33,fr F 34,fr F 35,fr F 36,fr F 37,fr F 38,fr F 39,fr F 40,fr F 41,fr F 42,fr F 43,fr F 44,fr F 45,fr F 46,fr F 47,fr F 48,fr F 49,fr F 50,fr F 51,fr F 52,fr F 53,fr F 54,fr F 55,fr F 56,fr F 57,fr F 58,fr F 59,fr F 60,fr F 61,fr F 62,fr F 63,fr F 64,fr F 65,fr F 66,fr F 67,fr F 68,fr F 69,fr F 70,fr F 71,fr F 72,fr F 73,fr F 74,fr F 75,fr F 76,fr F 77,fr F 78,fr F 79,fr F 80,fr F 81,fr F 82,fr F 83,fr F 84,fr F 85,fr F 86,fr F 87,fr F 88,fr F 89,fr F 90,fr F 91,fr F 92,fr F 93,fr F 94,fr F 95,fr F 96,fr F 97,fr F 98,fr F 99,fr F 100,fr F 101,fr F 102,fr F 103,fr F 104,fr F 105,fr F 106,fr F 107,fr F 108,fr F 109,fr F 110,fr F 111,fr F 112,fr F 113],defers:=[] }) ls.length ?start ?round
  case start=>exact⟨.int .i64 0,zQv ⟨0,Nat.zero_le _,rfl,bch,(by simp[Cls,go_sem,F5,y5w0,y5w30,y5w40]),rfl⟩ rfl⟩
  case round=>
   intro gk a wr hinv;obtain⟨vi,F,⟨i,hi,rfl,hBr,hCr,hg1⟩,rfl⟩:=hinv;intro J K hJ hK;have Fr:=hCr.f;have yrw0:=hCr.blk (b:=w.heap.size) (k:=0) (v:=.int .i64 t.facts) (by simp);have yrw30:=hCr.blk (b:=w3.heap.size) (k:=0) (v:=.int .i64 0) (by simp);have yrw40:=hCr.blk (b:=w4.heap.size) (k:=0) (v:=.int .i64 0) (by simp);have yrw50:=hCr.blk (b:=w5.heap.size) (k:=0) (v:=.int .i64 c) (by simp)
   by_cases hlt:i<ls.length
   ·obtain⟨r,hr⟩:∃r,Hid (ls[i]? = some r):=⟨_,lHd (lGe hlt)⟩;have HRM:=lHd (lMg hr.out);have hHJ:=lHd hJ;clear hJ;go_wp2;refine wp_loop_ghost_k (fun gk a wr=>∃(vi:Value) (F:Array Value),(∃k:Nat,k<=ps.length/\vi=.int .i64 (k:Int)/\Below w5.heap.size w5 wr/\Cls wr [(w.heap.size,0,.int .i64 t.facts),(w.heap.size,1,.slice Ai t.init.length ci),(w.heap.size,2,.slice Ag t.goal.length cg),(w.heap.size,3,.slice Ao t.ops.length co),(w3.heap.size,0,.int .i64 0),(w3.heap.size,1,.int .i64 0),(w4.heap.size,0,.int .i64 0),(w4.heap.size,1,.int .i64 0),(w5.heap.size,0,.int .i64 c),(w5.heap.size,1,.int .i64 jf)]/\Hid (gk=ps.length-k))/\a={ tmps:=#[fr F 0,fr F 1,fr F 2,.slice A3 ls.length c3,fr F 4,.slice A4 ps.length c4,fr F 6,.slice A5 gs.length c5,.pointer (some ⟨w5.heap.size,0,none⟩),.int .i64 (i:Int),vi,fr F 11,fr F 12,fr F 13,fr F 14,fr F 15,fr F 16,fr F 17,fr F 18,fr F 19,fr F 20,fr F 21,fr F 22,fr F 23,fr F 24,fr F 25,fr F 26,fr F 27,fr F 28,fr F 29,fr F 30,fr F 31,fr F 32,fr F 33,fr F 34,fr F 35,fr F 36,fr F 37,fr F 38,fr F 39,fr F 40,fr F 41,fr F 42,fr F 43,fr F 44,fr F 45,fr F 46,fr F 47,fr F 48,fr F 49,fr F 50,fr F 51,fr F 52,fr F 53,fr F 54,fr F 55,fr F 56,fr F 57,fr F 58,fr F 59,fr F 60,fr F 61,fr F 62,fr F 63,fr F 64,fr F 65,fr F 66,fr F 67,fr F 68,fr F 69,fr F 70,fr F 71,fr F 72,fr F 73,fr F 74,fr F 75,fr F 76,fr F 77,fr F 78,fr F 79,fr F 80,fr F 81,fr F 82,fr F 83,fr F 84,fr F 85,fr F 86,fr F 87,fr F 88,fr F 89,fr F 90,fr F 91,fr F 92,fr F 93,fr F 94,fr F 95,fr F 96,fr F 97,fr F 98,fr F 99,fr F 100,fr F 101,fr F 102,fr F 103,fr F 104,fr F 105,fr F 106,fr F 107,fr F 108,fr F 109,fr F 110,fr F 111,fr F 112,fr F 113],defers:=[] }) ps.length ?start2 ?round2
    case start2=>exact⟨.int .i64 0,zQv ⟨0,Nat.zero_le _,rfl,hBr,hCr,rfl⟩ rfl⟩
    case round2=>
     intro gk2 a wr2 hinv;obtain⟨vi,F2,⟨k,hk,rfl,hBs,hCs,hg2⟩,rfl⟩:=hinv;intro J2 K2 hJ2 hK2;have Fs:=hCs.f;have ysw0:=hCs.blk (b:=w.heap.size) (k:=0) (v:=.int .i64 t.facts) (by simp);have ysw30:=hCs.blk (b:=w3.heap.size) (k:=0) (v:=.int .i64 0) (by simp);have ysw40:=hCs.blk (b:=w4.heap.size) (k:=0) (v:=.int .i64 0) (by simp);have ysw50:=hCs.blk (b:=w5.heap.size) (k:=0) (v:=.int .i64 c) (by simp)
     by_cases hjl:k<ps.length
     ·obtain⟨gp,cs1,pq,rfl,_,_,hpq,_,hc,hpp⟩:=OwnEs.at_ (OwnPP.below o4 hBs) (i:=k) hjl;obtain⟨g',cs2,r2,rfl,_,_,hr2,_,hc',A',c',rfl,hJr,hJn,hJ1,hJ2',hJ3⟩:=OwnEs.at_ (OwnLL.below o3 hBs) (i:=i) hlt;obtain rfl:r2=r:=by have:=hr2.out;rw[hr.out] at this;injection this with this;exact this.symm
      obtain⟨x,y⟩:=pq;subst hpp;have z0:=hc 0 _ rfl;have z1:=hc 1 _ rfl;have z2:=hc' 0 _ rfl;simp only[Nat.add_zero,Nat.mul_one] at z0 z2;have hrl2:r2.length<=9223372036854775807:=by have:=HRL.out _ HRM.out;omega
      have HBOTH:=lHd (HPAIR.out _ HRM.out x y (lMg hpq.out));clear hc hc' hpq hr2 hJn hJ1 hJ2' hJ3
      by_cases hx:x∈r2
      ·have HX1:=lHd hx;have HY1:=lHd (show ¬y∈r2 from fun h=>HBOTH.out ⟨hx,h⟩);clear hx
       go_wp2_with fail
       go_quiet (first|(with_reducible show Calls _ _ #[_,.int .i64 x] _ _;exact Calls.quiet_of_same ((uZt _ _ _ x _ (hJr.below bch) hrl2 HX1.out).mono fun _ _ h=>⟨h.1,h.2.symm⟩))|(with_reducible show Calls _ _ #[_,.int .i64 y] _ _;exact Calls.quiet_of_same ((uZu _ _ _ y _ (hJr.below bch) hrl2 HY1.out).mono fun _ _ h=>⟨h.1,h.2.symm⟩)))
       go_wp2;refine Handed.intro (ps.length-(k+1)) ?_ (hJ2 _ _ _ ⟨.int .i64 ((k:Int)+1),zQv ⟨k+1,by omega,by go_num,bch,(Cls.below (w:=wr2) bch hCs),rfl⟩ rfl⟩);have h1:=hg2.out;omega
      ·have HX1:=lHd hx;clear hx
       go_wp2_with fail
       go_quiet (((with_reducible show Calls _ _ #[_,.int .i64 x] _ _;exact Calls.quiet_of_same ((uZu _ _ _ x _ (hJr.below bch) hrl2 HX1.out).mono fun _ _ h=>⟨h.1,h.2.symm⟩))))
       go_wp2;refine Handed.intro (ps.length-(k+1)) ?_ (hJ2 _ _ _ ⟨.int .i64 ((k:Int)+1),zQv ⟨k+1,by omega,by go_num,bch,(Cls.below (w:=wr2) bch hCs),rfl⟩ rfl⟩);have h1:=hg2.out;omega
     ·clear hJ2;go_wp2;refine wp_loop_ghost_k (fun gk a wr=>∃(vi:Value) (F:Array Value),(∃k:Nat,k<=gs.length/\vi=.int .i64 (k:Int)/\Below w5.heap.size w5 wr/\Cls wr [(w.heap.size,0,.int .i64 t.facts),(w.heap.size,1,.slice Ai t.init.length ci),(w.heap.size,2,.slice Ag t.goal.length cg),(w.heap.size,3,.slice Ao t.ops.length co),(w3.heap.size,0,.int .i64 0),(w3.heap.size,1,.int .i64 0),(w4.heap.size,0,.int .i64 0),(w4.heap.size,1,.int .i64 0),(w5.heap.size,0,.int .i64 c),(w5.heap.size,1,.int .i64 jf)]/\Hid (gk=gs.length-k))/\a={ tmps:=#[fr F 0,fr F 1,fr F 2,.slice A3 ls.length c3,fr F 4,.slice A4 ps.length c4,fr F 6,.slice A5 gs.length c5,.pointer (some ⟨w5.heap.size,0,none⟩),.int .i64 (i:Int),fr F 10,vi,fr F 12,fr F 13,fr F 14,fr F 15,fr F 16,fr F 17,fr F 18,fr F 19,fr F 20,fr F 21,fr F 22,fr F 23,fr F 24,fr F 25,fr F 26,fr F 27,fr F 28,fr F 29,fr F 30,fr F 31,fr F 32,fr F 33,fr F 34,fr F 35,fr F 36,fr F 37,fr F 38,fr F 39,fr F 40,fr F 41,fr F 42,fr F 43,fr F 44,fr F 45,fr F 46,fr F 47,fr F 48,fr F 49,fr F 50,fr F 51,fr F 52,fr F 53,fr F 54,fr F 55,fr F 56,fr F 57,fr F 58,fr F 59,fr F 60,fr F 61,fr F 62,fr F 63,fr F 64,fr F 65,fr F 66,fr F 67,fr F 68,fr F 69,fr F 70,fr F 71,fr F 72,fr F 73,fr F 74,fr F 75,fr F 76,fr F 77,fr F 78,fr F 79,fr F 80,fr F 81,fr F 82,fr F 83,fr F 84,fr F 85,fr F 86,fr F 87,fr F 88,fr F 89,fr F 90,fr F 91,fr F 92,fr F 93,fr F 94,fr F 95,fr F 96,fr F 97,fr F 98,fr F 99,fr F 100,fr F 101,fr F 102,fr F 103,fr F 104,fr F 105,fr F 106,fr F 107,fr F 108,fr F 109,fr F 110,fr F 111,fr F 112,fr F 113],defers:=[] }) gs.length ?start3 ?round3
      case start3=>exact⟨.int .i64 0,zQv ⟨0,Nat.zero_le _,rfl,hBs,hCs,rfl⟩ rfl⟩
      case round3=>
       intro gk3 a wr3 hinv;obtain⟨vi,F3,⟨k,hk,rfl,hBt,hCt,hg3⟩,rfl⟩:=hinv;intro J3 K3 hJ3 hK3;have Ft:=hCt.f;have ytw0:=hCt.blk (b:=w.heap.size) (k:=0) (v:=.int .i64 t.facts) (by simp);have ytw30:=hCt.blk (b:=w3.heap.size) (k:=0) (v:=.int .i64 0) (by simp);have ytw40:=hCt.blk (b:=w4.heap.size) (k:=0) (v:=.int .i64 0) (by simp);have ytw50:=hCt.blk (b:=w5.heap.size) (k:=0) (v:=.int .i64 c) (by simp)
       by_cases hkl:k<gs.length
       ·obtain rfl:c=0:=by rcases hcz with h|h;exact h;omega
        obtain⟨g5,cs5,g,rfl,hg5a,hg5b,hg5,_,hc5,A',c',rfl,hJg,hJn,hJ1,hJ2',hJ3'⟩:=OwnEs.at_ (OwnLL.below ho5 hBt) (i:=k) hkl;have z5:=hc5 0 _ rfl;simp only[Nat.add_zero,Nat.mul_one] at z5;have HGA:=lHd (HGRP.out _ HRM.out g (lMg hg5.out));have hgl2:=HGA.out.2.2;have hHJ3:=lHd hJ3;clear hc5 hg5 hJn hJ1 hJ2' hJ3' hJ3;go_wp2;refine wp_loop_ghost_k (fun gk a wr=>∃(vc vi:Value) (F:Array Value),(∃j c':Nat,j<=g.length/\vi=.int .i64 (j:Int)/\vc=.int .i64 (c':Int)/\Hid (c'=uZn r g j)/\c'<=1/\Below wr3.heap.size wr3 wr/\Cls wr [(w.heap.size,0,.int .i64 t.facts),(w.heap.size,1,.slice Ai t.init.length ci),(w.heap.size,2,.slice Ag t.goal.length cg),(w.heap.size,3,.slice Ao t.ops.length co),(w3.heap.size,0,.int .i64 0),(w3.heap.size,1,.int .i64 0),(w4.heap.size,0,.int .i64 0),(w4.heap.size,1,.int .i64 0),(w5.heap.size,0,.int .i64 0),(w5.heap.size,1,.int .i64 jf)]/\Hid (gk=g.length-j))/\a={ tmps:=#[fr F 0,fr F 1,fr F 2,.slice A3 ls.length c3,fr F 4,.slice A4 ps.length c4,fr F 6,.slice (some ⟨g5,0,none⟩) gs.length c5,.pointer (some ⟨w5.heap.size,0,none⟩),.int .i64 (i:Int),fr F 10,.int .i64 (k:Int),vc,vi,fr F 14,fr F 15,fr F 16,fr F 17,fr F 18,fr F 19,fr F 20,fr F 21,fr F 22,fr F 23,fr F 24,fr F 25,fr F 26,fr F 27,fr F 28,fr F 29,fr F 30,fr F 31,fr F 32,fr F 33,fr F 34,fr F 35,fr F 36,fr F 37,fr F 38,fr F 39,fr F 40,fr F 41,fr F 42,fr F 43,fr F 44,fr F 45,fr F 46,fr F 47,fr F 48,fr F 49,fr F 50,fr F 51,fr F 52,fr F 53,fr F 54,fr F 55,fr F 56,fr F 57,fr F 58,fr F 59,fr F 60,fr F 61,fr F 62,fr F 63,fr F 64,fr F 65,fr F 66,fr F 67,fr F 68,fr F 69,fr F 70,fr F 71,fr F 72,fr F 73,fr F 74,fr F 75,fr F 76,fr F 77,fr F 78,fr F 79,fr F 80,fr F 81,fr F 82,fr F 83,fr F 84,fr F 85,fr F 86,fr F 87,fr F 88,fr F 89,fr F 90,fr F 91,fr F 92,fr F 93,fr F 94,fr F 95,fr F 96,fr F 97,fr F 98,fr F 99,fr F 100,fr F 101,fr F 102,fr F 103,fr F 104,fr F 105,fr F 106,fr F 107,fr F 108,fr F 109,fr F 110,fr F 111,fr F 112,fr F 113],defers:=[] }) g.length ?start4 ?round4
        case start4=>exact⟨.int .i64 0,.int .i64 0,zQv ⟨0,0,Nat.zero_le _,rfl,rfl,lHd (by simp[uZn]),by omega,Below.refl _ _,hCt,rfl⟩ rfl⟩
        case round4=>
         intro gk4 a wr4 hinv;obtain⟨vc,vi,F4,⟨jj,cc,hj,rfl,rfl,hcc,hc1,hBu,hCu,hg4⟩,rfl⟩:=hinv;intro J4 K4 hJ4 hK4;have z6:=(hBu.cell (p:=⟨g5,k,none⟩) hg5b).trans z5;have hB45:=hBt.trans (hBu.mono hBt.size);have yuw0:=hCu.blk (b:=w.heap.size) (k:=0) (v:=.int .i64 t.facts) (by simp);have yuw30:=hCu.blk (b:=w3.heap.size) (k:=0) (v:=.int .i64 0) (by simp);have yuw40:=hCu.blk (b:=w4.heap.size) (k:=0) (v:=.int .i64 0) (by simp);have yuw50:=hCu.blk (b:=w5.heap.size) (k:=0) (v:=.int .i64 0) (by simp)
         by_cases hjl4:jj<g.length
         ·obtain⟨ad,x,rfl,hx,hcx⟩:=(hJg.below hBu).at_ hjl4;obtain⟨g',cs2,r2,rfl,_,_,hr2,_,hc',A2,c2,rfl,hJr,hJn,hJ1,hJ2',hJ3'⟩:=OwnEs.at_ (OwnLL.below o3 hB45) (i:=i) hlt;obtain rfl:r2=r:=by have:=hr2.out;rw[hr.out] at this;injection this with this;exact this.symm
          have z2:=hc' 0 _ rfl;simp only[Nat.add_zero,Nat.mul_one] at z2;have hrl2:r2.length<=9223372036854775807:=by have:=HRL.out _ HRM.out;omega
          clear hc' hr2 hJn hJ1 hJ2' hJ3'
          by_cases hm:x∈r2
          ·have HCC:Hid (cc+1=uZn r2 g (jj+1)):=lHd (by rw[uQ3 hx.out hm,hcc.out]);have HC1:cc+1<=1:=by rw[HCC.out];exact uQf HGA.out.2.1 HGA.out.1 _
           have HX1:=lHd hm;clear hm hx
           go_wp2_with fail
           go_quiet (((with_reducible show Calls _ _ #[_,.int .i64 x] _ _;exact Calls.quiet_of_same ((uZt _ _ _ x _ (hJr.below bch) hrl2 HX1.out).mono fun _ _ h=>⟨h.1,h.2.symm⟩))))
           go_wp2;refine Handed.intro (g.length-(jj+1)) ?_ (hJ4 _ _ _ ⟨.int .i64 ((cc+1:Nat):Int),.int .i64 ((jj:Int)+1),zQv ⟨jj+1,cc+1,by omega,by go_num,rfl,HCC,HC1,bch,(Cls.below (w:=wr4) bch hCu),rfl⟩ (by first|rfl|(push_cast;rfl))⟩);have h1:=hg4.out;omega
          ·have HCC:Hid (cc=uZn r2 g (jj+1)):=lHd (by rw[uQg hx.out hm,hcc.out]);have HC1:=hc1;have HX1:=lHd hm;clear hm hx
           go_wp2_with fail
           go_quiet (((with_reducible show Calls _ _ #[_,.int .i64 x] _ _;exact Calls.quiet_of_same ((uZu _ _ _ x _ (hJr.below bch) hrl2 HX1.out).mono fun _ _ h=>⟨h.1,h.2.symm⟩))))
           go_wp2;refine Handed.intro (g.length-(jj+1)) ?_ (hJ4 _ _ _ ⟨.int .i64 ((cc:Nat):Int),.int .i64 ((jj:Int)+1),zQv ⟨jj+1,cc,by omega,by go_num,rfl,HCC,HC1,bch,(Cls.below (w:=wr4) bch hCu),rfl⟩ (by first|rfl|(push_cast;rfl))⟩);have h1:=hg4.out;omega
         ·clear hJ4;have hgt:decide ((cc:Int)>1)=false:=decide_eq_false (by omega);go_wp2;refine Handed.intro (gs.length-(k+1)) ?_ (hHJ3.out _ _ _ ⟨.int .i64 ((k:Int)+1),zQv ⟨k+1,by omega,by go_num,hB45,hCu,rfl⟩ rfl⟩);have h1:=hg3.out;omega
       ·clear hJ3;go_wp2;refine Handed.intro (ls.length-(i+1)) ?_ (hHJ.out _ _ _ ⟨.int .i64 ((i:Int)+1),zQv ⟨i+1,by omega,by go_num,hBt,hCt,rfl⟩ rfl⟩);have h1:=hg1.out;omega
   ·clear hJ;have DR:=D5.trans (hBr.mono D5.size);go_wp2
    (try simp only[Exit.inBlock,Exit.then])
    refine bodyPost_ret ?_ rfl ⟨rfl,bch⟩;simp[results,Tryz.results4,go_sem]
theorem walk_tex(w:World)(t:TaskV)(Ai Ag Ao:Option Addr)(ci cg co:Nat)(hR:TaskRead w Ai Ag Ao ci cg co t) :
  Calls Tryz.prog 4 #[.agg #[.int .i64 t.facts,.slice Ai t.init.length ci,.slice Ag t.goal.length cg,.slice Ao t.ops.length co]] w fun e w'=>e=.returned (.bool true)/\Below w.heap.size w w':=by
 by_cases h:(xXn t).1=0
 ·have hv:=vJ7.1 h;obtain⟨n,hn⟩:=Int.eq_ofNat_of_zero_le hv.f0;exact walk_tex_2 w t Ai Ag Ao ci cg co hR n hn hv
 ·exact walk_tex_1 w t Ai Ag Ao ci cg co hR h
namespace topExclusiveFacts
open Go.ChangeShapes Go.WideShapes Go.ChangeAt Go.RowKit
theorem lifted(os:Os)(started:os.Started)(H:Type)(enc:TypeId×Value->H) :
  ReturnsInHanded {} Tryz.checked os 4 .any (Rows.topExclusiveFactsSpec.pre6 enc Tryz.prog Tryz.f4 Rows.topExclusiveFactsRow.domain false) (Rows.topExclusiveFactsSpec.post enc Tryz.prog Tryz.f4 false true false false):=by
 refine returnsInHanded_of_change (C:=Tryz.checked) yVa started (by kernel_rfl) Tryz.func4
  (ChangeSpec.witness6 (enc:=enc) (C:=Tryz.checked) false ⟨#[],#[.agg #[.int .i64 0,.slice none 0 0,.slice none 0 0,.slice none 0 0]],[]⟩ 8 (by kernel_rfl) (by kernel_rfl) (by kernel_rfl) (by kernel_rfl)) ?_
 intro W base args ds gs before hval0 hW _ hsz;have hval:∀(j:Nat) t v,Tryz.f4.params[j]? = some t->args[j]? = some v->Value.okWide Tryz.prog W .any base t v:=hval0;have hpost:=fun(W':World) (hfn:gs=[]->Rows.topExclusiveFactsSpec.fn H (ds++gs)={ results:=[.lit (.bool true)],args:=ds }) (hb:Below W.heap.size W W')=>yVb (f:=Tryz.f4) (tb:=4) vY0 Tryz.underlying4 rfl (by kernel_rfl) rfl hfn hW hb
 obtain⟨p,q,hA0,hV,hpq,hfz,hnd⟩:=hW;have hA:DataW.TrodAll enc Tryz.prog W 0 (fun _=>true) true Tryz.f4.params.toList args.toList ds p:=hA0;rw[Tryz.params4] at hA hval;obtain⟨v0,vs0,d0,ds0,p0,q0,hargs,rfl,hp0,h0,r0⟩:=trodAll_cons hA;obtain⟨rfl,rfl,hpn⟩:=trodAll_nil r0;obtain rfl:args = #[v0]:=by cases args;simp_all
 obtain⟨t,Ai,Ag,Ao,ci,cg,co,rfl,hR⟩:=vVf (hval 0 25 v0 rfl rfl) h0;refine(walk_tex W t Ai Ag Ao ci cg co hR).mono fun e W' ⟨he,hb⟩=>?_
 subst he;exact⟨_,rfl,hpost W' (fun hg=>by subst hg;rfl) hb⟩
theorem closed:joinedFacts Tryz.checked.prog 4 Tryz.f4 Rows.topExclusiveFactsSpec Rows.topExclusiveFactsRow=true:=by
 unfold joinedFacts;rw[yVg,yVh,yWc]
 kernel_rfl
theorem proved:Rows.TopExclusiveFactsSaid:=
 OpenClaim.holds_of_wide 4 Tryz.f4 rfl rfl rfl rfl rfl rfl rfl ⟨rfl,rfl,rfl,rfl,rfl⟩ rfl rfl rfl rfl rfl (by kernel_rfl) Tryz.func4 closed
  (of_decide_eq_true (by kernel_rfl)) (by unfold Func.isWrapper;first|(rw[if_pos (by decide +kernel)];kernel_rfl)|(rw[if_neg (by decide +kernel)];exact⟨rfl,rfl⟩))
  (fun os started H enc _=>lifted os started H enc)
#print axioms proved
end topExclusiveFacts
end Go.Proofs.YtjjjeohejhmpoaaGreat
