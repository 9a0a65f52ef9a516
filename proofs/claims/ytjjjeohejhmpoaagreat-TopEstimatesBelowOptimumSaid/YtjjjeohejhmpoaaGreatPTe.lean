/-
  All admissible estimates for the initial state are at most the least cost of a plan, for every task.
-/
import Derived.Test.YtjjjeohejhmpoaaGreatP35
import Derived.Test.YtjjjeohejhmpoaaGreatP38
import Derived.Test.YtjjjeohejhmpoaaGreatP3
import Derived.Test.YtjjjeohejhmpoaaGreatP39
import Derived.Test.YtjjjeohejhmpoaaGreatP1
import Derived.Test.YtjjjeohejhmpoaaGreatP40
set_option linter.unusedVariables false
set_option linter.unusedSimpArgs false
set_option maxRecDepth 100000
set_option maxHeartbeats 4000000
namespace Go.Proofs.YtjjjeohejhmpoaaGreat
open Go.RowKit Go.Shelf
theorem rbest_rel{n:Nat}{ops:List OpV}{goal st:List Int}{a b:Int}(h:RBest n ops goal st a)(h':RBest n ops goal st b):a<=b:=by
 rcases h'.1 with e|⟨l,h1,h2⟩
 ·have:=h.2.1;omega
 ·exact h.2.2 l b h1 h2
theorem ini_set{t:TaskV}{n:Nat}(hv:Valid t)(hn:t.facts=n):SetP t.init (n:Int):=by rw[<- hn];exact hv.init
theorem opt_nn{t:TaskV}{n:Nat}{d:Int}(hv:Valid t)(hn:t.facts=n)(hd:RBest n t.ops t.goal t.init d):0<=d:=hd.nn (fun o ho=>(hv.ops o ho).2.1)
theorem opt_rx{t:TaskV}{n:Nat}{d:Int}(hv:Valid t)(hn:t.facts=n)(hd:RBest n t.ops t.goal t.init d):vKm n (t.ops.map rxO) t.goal t.init<=d:=
 hd.hcons (zX3 hv hn) (fun o ho=>(hv.ops o ho).2.1) (ini_set hv hn)
theorem te_max{t:TaskV}{Ai Ag Ao:Option Addr}{ci cg co:Nat}{n:Nat}{d:Int}(hv:Valid t)(hn:t.facts=n)(hd:RBest n t.ops t.goal t.init d)(w:World)(hT:TaskMem w Ai Ag Ao t) :
  Calls Tryz.prog 9 #[.agg #[.int .i64 t.facts,.slice Ai t.init.length ci,.slice Ag t.goal.length cg,.slice Ao t.ops.length co],.slice Ai t.init.length ci] w fun e w'=>(∃g lo,e=.returned (.tuple #[.slice (some ⟨g,0,none⟩) n n,.int .i64 lo,.agg #[.int .i64 0,.int .i64 0]])/\lo<=d)/\Below w.heap.size w w':=
 (max_2 w t Ai Ag Ao ci cg co hT Ai ci t.init hT.init hT.linit n hn hv hv.init).mono fun e w' ⟨g,h1,h2,h3,h4,h5⟩=>⟨⟨g,_,h1,by have h6:=hd.hcons (yJx hv hn) (fun o ho=>(hv.ops o ho).2.1) (ini_set hv hn);exact h6⟩,h5⟩
theorem te_cuts{t:TaskV}{Ai Ag Ao:Option Addr}{ci cg co:Nat}{n:Nat}{d:Int}(hv:Valid t)(hn:t.facts=n)(hd:RBest n t.ops t.goal t.init d)(w:World)(hT:TaskMem w Ai Ag Ao t) :
  Calls Tryz.prog 10 #[.agg #[.int .i64 t.facts,.slice Ai t.init.length ci,.slice Ag t.goal.length cg,.slice Ao t.ops.length co],.slice Ai t.init.length ci] w fun e w'=>(∃v lo,e=.returned (.tuple #[v,.int .i64 lo,.agg #[.int .i64 0,.int .i64 0]])/\lo<=d)/\Below w.heap.size w w':=by
 by_cases hre:xKv t t.init
 ·exact(zY1 w t Ai Ag Ao ci cg co hT Ai ci t.init hT.init hT.linit n hn hv hv.init hre).mono fun e w' ⟨v,xs,bs,h1,h2,h3,h4,h5,h6,h7⟩=>⟨⟨v,_,h1,Int.le_trans (zQ6 hv h4).2.2 (opt_rx hv hn hd)⟩,h7⟩
 ·exact(vX9 w t Ai Ag Ao ci cg co hT Ai ci t.init hT.init hT.linit n hn hv hv.init hre).mono fun e w' ⟨h1,h7⟩=>⟨⟨_,_,h1,Int.le_trans (zXu hv hre).2.2 (opt_rx hv hn hd)⟩,h7⟩
theorem te_pairs{t:TaskV}{Ai Ag Ao:Option Addr}{ci cg co:Nat}{n:Nat}{d:Int}(hv:Valid t)(hn:t.facts=n)(hd:RBest n t.ops t.goal t.init d)(w:World)(hT:TaskMem w Ai Ag Ao t)(hRo:OpsRead w Ao t.ops)(hng:xK4 Ag t.goal cg) :
  Calls Tryz.prog 11 #[.agg #[.int .i64 t.facts,.slice Ai t.init.length ci,.slice Ag t.goal.length cg,.slice Ao t.ops.length co],.slice Ai t.init.length ci] w fun e w'=>(∃lo,e=.returned (.tuple #[.int .i64 lo,.agg #[.int .i64 0,.int .i64 0]])/\lo<=d)/\Below w.heap.size w w':=
 (yKo w t Ai Ag Ao ci cg co hT hRo hng Ai ci t.init hT.init hT.linit n hn hv hv.init).mono fun e w' ⟨V,h1,h2,h3⟩=>⟨⟨_,h1,by
  have h4:=hd.hcons (vXd hv hn) (fun o ho=>(hv.ops o ho).2.1) (ini_set hv hn);have h5:valP V t.goal=valP (zWo n t.init t.ops) t.goal:=yWt fun p hp q hq=>h2.same (zQd (fun o ho=>⟨(xYx hv hn o ho).1,(xYx hv hn o ho).2,(hv.ops o ho).2⟩)) ((by have:=hv.goal.1 p hp;rw[hn] at this;exact this)) ((by have:=hv.goal.1 q hq;rw[hn] at this;exact this))
  rw[h5];exact h4⟩,h3⟩
theorem te_rx{t:TaskV}{Ai Ag Ao:Option Addr}{ci cg co:Nat}{n:Nat}{d:Int}(hv:Valid t)(hn:t.facts=n)(hd:RBest n t.ops t.goal t.init d)(w:World)(hT:TaskMem w Ai Ag Ao t) :
  Calls Tryz.prog 12 #[.agg #[.int .i64 t.facts,.slice Ai t.init.length ci,.slice Ag t.goal.length cg,.slice Ao t.ops.length co],.slice Ai t.init.length ci] w fun e w'=>(∃lo c j,e=.returned (.tuple #[.int .i64 lo,.agg #[.int .i64 c,.int .i64 j]])/\¬(c=0/\lo>d))/\Below w.heap.size w w':=
 (yJr w t Ai Ag Ao ci cg co hT Ai ci t.init hT.init hT.linit n hn hv hv.init).mono fun e w' ⟨lo,c,j,h1,h2,h3⟩=>⟨⟨lo,c,j,h1,by
  rcases h2 with⟨_,h4,_⟩|⟨⟨h5,h6,_⟩,_⟩
  ·have:=rbest_rel h4 (xZ8 (n:=n) (xVo (fun o ho=>(hv.ops o ho).2.1)) t.goal t.init);have:=opt_rx hv hn hd;omega
  ·omega⟩,h3⟩
theorem te_hit{t:TaskV}{Ai Ag Ao:Option Addr}{ci cg co:Nat}{n:Nat}{d:Int}(hv:Valid t)(hn:t.facts=n)(hd:RBest n t.ops t.goal t.init d)(w:World)(hT:TaskMem w Ai Ag Ao t) :
  Calls Tryz.prog 13 #[.agg #[.int .i64 t.facts,.slice Ai t.init.length ci,.slice Ag t.goal.length cg,.slice Ao t.ops.length co],.slice Ai t.init.length ci] w fun e w'=>(∃lo c j,e=.returned (.tuple #[.int .i64 lo,.agg #[.int .i64 c,.int .i64 j]])/\¬(c=0/\lo>d))/\Below w.heap.size w w':=by
 by_cases hre:xKv t t.init
 ·exact(zYo w t Ai Ag Ao ci cg co hT Ai ci t.init hT.init hT.linit n hn hv hv.init hre).mono fun e w' ⟨xs,h1,h2,h3,h4,h5⟩=>⟨by
   rcases h4 with⟨_,h6⟩|⟨h6,c,v,h7,h8⟩
   ·exact⟨0,10,-8,h6,by omega⟩
   ·refine⟨c,0,0,h7,?_⟩;have:=zZq hv h1 (by omega) h8 (xZ8 (n:=n) (xVo (fun o ho=>(hv.ops o ho).2.1)) t.goal t.init);have:=opt_rx hv hn hd;omega,h5⟩
 ·exact(yZx w t Ai Ag Ao ci cg co hT Ai ci t.init hT.init hT.linit n hn hv hv.init hre).mono fun e w' ⟨h1,h7⟩=>⟨⟨_,_,_,h1,by have:=(zXu (n:=n) hv hre).2.2;have:=opt_rx hv hn hd;omega⟩,h7⟩
theorem te_cnt{t:TaskV}{Ai Ag Ao:Option Addr}{ci cg co:Nat}{n:Nat}{d:Int}(hv:Valid t)(hn:t.facts=n)(hd:RBest n t.ops t.goal t.init d)(w:World)(hT:TaskMem w Ai Ag Ao t) :
  Calls Tryz.prog 14 #[.agg #[.int .i64 t.facts,.slice Ai t.init.length ci,.slice Ag t.goal.length cg,.slice Ao t.ops.length co]] w fun e w'=>(∃nu de c j,e=.returned (.tuple #[.agg #[.int .i64 nu,.int .i64 de],.agg #[.int .i64 c,.int .i64 j]])/\(¬c=0\/nu<=d*de)/\0<=de/\de<=1179648)/\Below w.heap.size w w':=by
 by_cases h6:t.ops.length<=6
 ·by_cases hcc:∀o∈t.ops,o.cost<=20
  ·refine(zKd w t Ai Ag Ao ci cg co hT n hn hv h6 hcc).mono fun e w' ⟨h1,h2⟩=>⟨?_,h1⟩
   rcases h2 with⟨h3,st,num,den,x,dx,y,dy,r,dr,h4,h5⟩|⟨num,den,x,dx,y,dy,h3,h4⟩
   ·refine⟨_,_,_,_,h3,.inr ?_,by omega,by omega⟩;rw[vVq hv hn h4 h5 hd];omega
   ·have:=h4.dpos;exact⟨_,_,_,_,h3,.inr (vVp hv hn h4 hd),by omega,h4.dle⟩
  ·have h7:∃o∈t.ops,20<o.cost:=Classical.byContradiction fun hc=>hcc fun o ho=>Int.not_lt.1 fun h=>hc ⟨o,ho,h⟩
   exact(zQ1 w t Ai Ag Ao ci cg co hT n hn hv (.inr h7)).mono fun e w' ⟨h1,h2⟩=>⟨⟨_,_,_,_,h1,.inl (by omega),by omega,by omega⟩,h2⟩
 ·exact(zQ1 w t Ai Ag Ao ci cg co hT n hn hv (.inl (by omega))).mono fun e w' ⟨h1,h2⟩=>⟨⟨_,_,_,_,h1,.inl (by omega),by omega,by omega⟩,h2⟩
theorem walk_teb_1(w:World)(t:TaskV)(Ai Ag Ao:Option Addr)(ci cg co:Nat)(hR:TaskRead w Ai Ag Ao ci cg co t)(h:¬(xXn t).1=0) :
  Calls Tryz.prog 3 #[.agg #[.int .i64 t.facts,.slice Ai t.init.length ci,.slice Ag t.goal.length cg,.slice Ao t.ops.length co]] w fun e w'=>e=.returned (.bool true)/\Below w.heap.size w w':=by
 have hT:=hR.mem;go_enter Tryz.func3,Tryz.ntmps3
 go_wp2_with fail
 refine(xYy _).mono ?_;rintro e w1 ⟨rfl,hB1⟩;have D1:=xJ3 w hB1 bch;have C1:=Cls.below (l:=[(w.heap.size,0,.int .i64 t.facts),(w.heap.size,1,.slice Ai t.init.length ci),(w.heap.size,2,.slice Ag t.goal.length cg),(w.heap.size,3,.slice Ao t.ops.length co)]) hB1 (by simp[Cls,go_sem]);have F1:=C1.f;have y1w0:=C1.b 0
 go_wp2_with fail
 refine(xWy _).mono ?_;rintro e w2 ⟨rfl,hB2⟩;have D2:=xJ3 w hB2 bch;have C2:=C1.st hB2;have F2:=C2.f;have y2w0:=C2.b 0
 go_wp2_with fail
 refine(vQu _ t Ai Ag Ao ci cg co (hT.below bch) h).mono ?_;rintro e w3 ⟨rfl,hB3⟩;have D3:=xJ3 w hB3 bch;have C3:=C2.st hB3;have y3w0:=C3.b 0;go_wp2;refine bodyPost_ret ?_ rfl ⟨rfl,bch⟩;simp[results,Tryz.results3,go_sem]
theorem walk_teb_2(w:World)(t:TaskV)(Ai Ag Ao:Option Addr)(ci cg co:Nat)(hR:TaskRead w Ai Ag Ao ci cg co t)(n:Nat)(hn:t.facts=n)(hv:Valid t) :
  Calls Tryz.prog 3 #[.agg #[.int .i64 t.facts,.slice Ai t.init.length ci,.slice Ag t.goal.length cg,.slice Ao t.ops.length co]] w fun e w'=>e=.returned (.bool true)/\Below w.heap.size w w':=by
 have hT:=hR.mem;have hOpt:=fun w0 h=>zZr w0 t Ai Ag Ao ci cg co h n hn hv
 have HN:=lHd hn;have HV:=lHd hv;clear hv hn;go_enter Tryz.func3,Tryz.ntmps3
 go_wp2_with fail
 refine(xYy _).mono ?_;rintro e w1 ⟨rfl,hB1⟩;have D1:=xJ3 w hB1 bch;have C1:=Cls.below (l:=[(w.heap.size,0,.int .i64 t.facts),(w.heap.size,1,.slice Ai t.init.length ci),(w.heap.size,2,.slice Ag t.goal.length cg),(w.heap.size,3,.slice Ao t.ops.length co)]) hB1 (by simp[Cls,go_sem]);have F1:=C1.f;have y1w0:=C1.b 0
 go_wp2_with fail
 refine(xWy _).mono ?_;rintro e w2 ⟨rfl,hB2⟩;have D2:=xJ3 w hB2 bch;have C2:=C1.st hB2;have F2:=C2.f;have y2w0:=C2.b 0
 go_wp2_with fail
 refine(hOpt _ (hT.below bch)).mono ?_;rintro e w3 ⟨hB3,hR3⟩;have D3:=xJ3 w hB3 bch;have C3:=C2.st hB3;have F3:=C3.f;have y3w0:=C3.b 0;rcases hR3 with⟨rfl,-⟩|⟨d,rfl,hd,-⟩
 ·go_wp2;refine bodyPost_ret ?_ rfl ⟨rfl,bch⟩;simp[results,Tryz.results3,go_sem]
 ·have hd0:=opt_nn HV.out HN.out hd;have hd1:=hd.2.1;have HD:=lHd hd;clear hd
  go_wp2_with fail
  go_at_call 9;refine(te_max HV.out HN.out HD.out _ (hT.below bch)).mono ?_;rintro e w4 ⟨⟨g4,a,rfl,ha⟩,hB4⟩;have D4:=xJ3 w hB4 bch;have C4:=C3.sn hB4 [(w3.heap.size,0,.int .i64 0),(w3.heap.size,1,.int .i64 0)];have F4:=C4.f;have y4w0:=C4.b 0;have y4w30:=C4.b 4
  go_wp2_with fail
  go_at_call 10;refine(te_cuts HV.out HN.out HD.out _ (hT.below bch)).mono ?_;rintro e w5 ⟨⟨v5,b,rfl,hb⟩,hB5⟩;have D5:=xJ3 w hB5 bch;have C5:=C4.sn hB5 [(w4.heap.size,0,.int .i64 0),(w4.heap.size,1,.int .i64 0)];have F5:=C5.f;have y5w0:=C5.b 0;have y5w30:=C5.b 4;have y5w40:=C5.b 6
  go_wp2_with fail
  go_at_call 11;refine(te_pairs HV.out HN.out HD.out _ (hT.below bch) (hR.ops.below bch) hR.ngoal).mono ?_;rintro e w6 ⟨⟨c,rfl,hc⟩,hB6⟩;have D6:=xJ3 w hB6 bch;have C6:=C5.sn hB6 [(w5.heap.size,0,.int .i64 0),(w5.heap.size,1,.int .i64 0)];have F6:=C6.f;have y6w0:=C6.b 0;have y6w30:=C6.b 4;have y6w40:=C6.b 6;have y6w50:=C6.b 8;have ga:decide (a>d)=false:=decide_eq_false (by omega);have gb:decide (b>d)=false:=decide_eq_false (by omega);have gc:decide (c>d)=false:=decide_eq_false (by omega)
  go_wp2_with fail
  go_at_call 12;refine(te_rx HV.out HN.out HD.out _ (hT.below bch)).mono ?_;rintro e w7 ⟨⟨x7,c7,j7,rfl,h7⟩,hB7⟩;have D7:=xJ3 w hB7 bch;have C7:=C6.sn hB7 [(w6.heap.size,0,.int .i64 0),(w6.heap.size,1,.int .i64 0)];have F7:=C7.f;have y7w0:=C7.b 0;have y7w30:=C7.b 4;have y7w40:=C7.b 6;have y7w50:=C7.b 8;have y7w60:=C7.b 10
  go_wp2_with fail
  go_at_call 13;refine(te_hit HV.out HN.out HD.out _ (hT.below bch)).mono ?_;rintro e w8 ⟨⟨x8,c8,j8,rfl,h8⟩,hB8⟩;have D8:=xJ3 w hB8 bch;have C8:=C7.sn hB8 [(w7.heap.size,0,.int .i64 c7),(w7.heap.size,1,.int .i64 j7)];have F8:=C8.f;have y8w0:=C8.b 0;have y8w30:=C8.b 4;have y8w40:=C8.b 6;have y8w50:=C8.b 8;have y8w60:=C8.b 10;have y8w70:=C8.b 12
  go_wp2_with fail
  go_at_call 14;refine(te_cnt HV.out HN.out HD.out _ (hT.below bch)).mono ?_;rintro e w9 ⟨⟨nu,de,c9,j9,rfl,h9,k0,k1⟩,hB9⟩;have D9:=xJ3 w hB9 bch;have C9:=C8.sn hB9 [(w8.heap.size,0,.int .i64 c8),(w8.heap.size,1,.int .i64 j8)];have F9:=C9.f;have y9w0:=C9.b 0;have y9w30:=C9.b 4;have y9w40:=C9.b 6;have y9w50:=C9.b 8;have y9w60:=C9.b 10;have y9w70:=C9.b 12;have y9w7p1:w7.heap.size<w9.heap.size+1:=(by omega);have y9w80:=C9.b 14;have y9w8p1:w8.heap.size<w9.heap.size+1:=(by omega)
  by_cases e7:c7=0
  ·subst e7;have g7:decide (x7>d)=false:=decide_eq_false (by omega)
   by_cases e8:c8=0
   ·subst e8;have g8:decide (x8>d)=false:=decide_eq_false (by omega)
    by_cases e9:c9=0
    ·subst e9;have hle:nu<=d*de:=by omega
     have hm:=Int.mul_le_mul hd1 k1 k0 (by omega);have hm0:=Int.mul_nonneg hd0 k0;have hw:IntKind.i64.wrap (d*de)=d*de:=zJx _ (by omega) (by omega);have hg:=decide_eq_true hle;clear hm hm0 hle;go_wp2;refine bodyPost_ret ?_ rfl ⟨rfl,bch⟩;simp[results,Tryz.results3,go_sem]
    ·have M9:=zZf e9;have M9':=xYp e9;go_wp2;refine bodyPost_ret ?_ rfl ⟨rfl,bch⟩;simp[results,Tryz.results3,go_sem]
   ·have M8:=zZf e8;have M8':=xYp e8
    by_cases e9:c9=0
    ·subst e9;have hle:nu<=d*de:=by omega
     have hm:=Int.mul_le_mul hd1 k1 k0 (by omega);have hm0:=Int.mul_nonneg hd0 k0;have hw:IntKind.i64.wrap (d*de)=d*de:=zJx _ (by omega) (by omega);have hg:=decide_eq_true hle;clear hm hm0 hle;go_wp2;refine bodyPost_ret ?_ rfl ⟨rfl,bch⟩;simp[results,Tryz.results3,go_sem]
    ·have M9:=zZf e9;have M9':=xYp e9;go_wp2;refine bodyPost_ret ?_ rfl ⟨rfl,bch⟩;simp[results,Tryz.results3,go_sem]
  ·have M7:=zZf e7;have M7':=xYp e7
   by_cases e8:c8=0
   ·subst e8;have g8:decide (x8>d)=false:=decide_eq_false (by omega)
    by_cases e9:c9=0
    ·subst e9;have hle:nu<=d*de:=by omega
     have hm:=Int.mul_le_mul hd1 k1 k0 (by omega);have hm0:=Int.mul_nonneg hd0 k0;have hw:IntKind.i64.wrap (d*de)=d*de:=zJx _ (by omega) (by omega);have hg:=decide_eq_true hle;clear hm hm0 hle;go_wp2;refine bodyPost_ret ?_ rfl ⟨rfl,bch⟩;simp[results,Tryz.results3,go_sem]
    ·have M9:=zZf e9;have M9':=xYp e9;go_wp2;refine bodyPost_ret ?_ rfl ⟨rfl,bch⟩;simp[results,Tryz.results3,go_sem]
   ·have M8:=zZf e8;have M8':=xYp e8
    by_cases e9:c9=0
    ·subst e9;have hle:nu<=d*de:=by omega
     have hm:=Int.mul_le_mul hd1 k1 k0 (by omega);have hm0:=Int.mul_nonneg hd0 k0;have hw:IntKind.i64.wrap (d*de)=d*de:=zJx _ (by omega) (by omega);have hg:=decide_eq_true hle;clear hm hm0 hle;go_wp2;refine bodyPost_ret ?_ rfl ⟨rfl,bch⟩;simp[results,Tryz.results3,go_sem]
    ·have M9:=zZf e9;have M9':=xYp e9;go_wp2;refine bodyPost_ret ?_ rfl ⟨rfl,bch⟩;simp[results,Tryz.results3,go_sem]
theorem walk_teb(w:World)(t:TaskV)(Ai Ag Ao:Option Addr)(ci cg co:Nat)(hR:TaskRead w Ai Ag Ao ci cg co t) :
  Calls Tryz.prog 3 #[.agg #[.int .i64 t.facts,.slice Ai t.init.length ci,.slice Ag t.goal.length cg,.slice Ao t.ops.length co]] w fun e w'=>e=.returned (.bool true)/\Below w.heap.size w w':=by
 by_cases h:(xXn t).1=0
 ·have hv:=vJ7.1 h;obtain⟨n,hn⟩:=Int.eq_ofNat_of_zero_le hv.f0;exact walk_teb_2 w t Ai Ag Ao ci cg co hR n hn hv
 ·exact walk_teb_1 w t Ai Ag Ao ci cg co hR h
namespace topEstimatesBelowOptimum
open Go.ChangeShapes Go.WideShapes Go.ChangeAt Go.RowKit
theorem lifted(os:Os)(started:os.Started)(H:Type)(enc:TypeId×Value->H) :
  ReturnsInHanded {} Tryz.checked os 3 .any (Rows.topEstimatesBelowOptimumSpec.pre6 enc Tryz.prog Tryz.f3 Rows.topEstimatesBelowOptimumRow.domain false) (Rows.topEstimatesBelowOptimumSpec.post enc Tryz.prog Tryz.f3 false true false false):=by
 refine returnsInHanded_of_change (C:=Tryz.checked) yVa started (by kernel_rfl) Tryz.func3
  (ChangeSpec.witness6 (enc:=enc) (C:=Tryz.checked) false ⟨#[],#[.agg #[.int .i64 0,.slice none 0 0,.slice none 0 0,.slice none 0 0]],[]⟩ 8 (by kernel_rfl) (by kernel_rfl) (by kernel_rfl) (by kernel_rfl)) ?_
 intro W base args ds gs before hval0 hW _ hsz;have hval:∀(j:Nat) t v,Tryz.f3.params[j]? = some t->args[j]? = some v->Value.okWide Tryz.prog W .any base t v:=hval0;have hpost:=fun(W':World) (hfn:gs=[]->Rows.topEstimatesBelowOptimumSpec.fn H (ds++gs)={ results:=[.lit (.bool true)],args:=ds }) (hb:Below W.heap.size W W')=>yVb (f:=Tryz.f3) (tb:=4) vY0 Tryz.underlying4 rfl (by kernel_rfl) rfl hfn hW hb
 obtain⟨p,q,hA0,hV,hpq,hfz,hnd⟩:=hW;have hA:DataW.TrodAll enc Tryz.prog W 0 (fun _=>true) true Tryz.f3.params.toList args.toList ds p:=hA0;rw[Tryz.params3] at hA hval;obtain⟨v0,vs0,d0,ds0,p0,q0,hargs,rfl,hp0,h0,r0⟩:=trodAll_cons hA;obtain⟨rfl,rfl,hpn⟩:=trodAll_nil r0;obtain rfl:args = #[v0]:=by cases args;simp_all
 obtain⟨t,Ai,Ag,Ao,ci,cg,co,rfl,hR⟩:=vVf (hval 0 25 v0 rfl rfl) h0;refine(walk_teb W t Ai Ag Ao ci cg co hR).mono fun e W' ⟨he,hb⟩=>?_
 subst he;exact⟨_,rfl,hpost W' (fun hg=>by subst hg;rfl) hb⟩
theorem closed:joinedFacts Tryz.checked.prog 3 Tryz.f3 Rows.topEstimatesBelowOptimumSpec Rows.topEstimatesBelowOptimumRow=true:=by
 unfold joinedFacts;rw[yVg,yVh,yWc]
 kernel_rfl
theorem proved:Rows.TopEstimatesBelowOptimumSaid:=
 OpenClaim.holds_of_wide 3 Tryz.f3 rfl rfl rfl rfl rfl rfl rfl ⟨rfl,rfl,rfl,rfl,rfl⟩ rfl rfl rfl rfl rfl (by kernel_rfl) Tryz.func3 closed
  (of_decide_eq_true (by kernel_rfl)) (by unfold Func.isWrapper;first|(rw[if_pos (by decide +kernel)];kernel_rfl)|(rw[if_neg (by decide +kernel)];exact⟨rfl,rfl⟩))
  (fun os started H enc _=>lifted os started H enc)
#print axioms proved
end topEstimatesBelowOptimum
end Go.Proofs.YtjjjeohejhmpoaaGreat
