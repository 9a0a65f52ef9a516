/-
  TopPrunedSearchesAgree holds for every task: the search that leaves out orders, the search with cuts in the relevant part, and the distances agree on the least cost. No condition.
-/
import Derived.Test.YtpeipeljmapkmaaGreatU25
import Derived.Test.YtpeipeljmapkmaaGreatU33
import Derived.Test.YtpeipeljmapkmaaGreatU24
import Derived.Test.YtpeipeljmapkmaaGreatU9
import Derived.Test.YtpeipeljmapkmaaGreatU34
import Derived.Test.YtpeipeljmapkmaaGreatU1
import Derived.Test.YtpeipeljmapkmaaGreatU35
set_option linter.unusedVariables false
set_option linter.unusedSimpArgs false
set_option maxRecDepth 100000
set_option maxHeartbeats 4000000
namespace Go.Proofs.YtpeipeljmapkmaaGreat
open Go.RowKit Go.Shelf
theorem cplan_one{n:Nat}{t:TaskV}{ls:List (List Int)}{d:Int}{w w':World}{e:Ending}(hv:Valid t)(hn:t.facts=n)(hC:Clos n t.ops t.init ls)(hl:ls.length<=2000)(hd:RBest n t.ops t.goal t.init d)(h:vK7 n t w e w') :
  ∃ (f:Bool) (A:Option Addr) (k0 c0:Nat) (c x:Int),e=.returned (.tuple #[.agg #[.bool f,.slice A k0 c0,.int .i64 c,.int .i64 x],.agg #[.int .i64 0,.int .i64 0]])/\((f=false/\d=1000000000)\/(f=true/\c=d/\d≠1000000000))/\Below w.heap.size w w':=by
 obtain⟨hB,⟨x,h1,h2⟩ | ⟨v,v1,v2,c,x,ps,h1,h2,h3,h4⟩⟩:=h
 ·refine⟨_,_,_,_,_,_,h1,.inl ⟨rfl,?_⟩,hB⟩
  by_cases hne:d=1000000000
  ·exact hne
  ·obtain⟨qs,h5,_⟩:=hd.fp hne;exact (h2 _ h5).elim
 ·have hne:d≠1000000000:=fun e=>by
   subst e;exact xWi hv hC hl hd h2
  refine⟨_,_,_,_,_,_,h1,.inr ⟨rfl,?_,hne⟩,hB⟩;obtain⟨qs,h5,h6⟩:=hd.fp hne;have h7:=h4 _ h5;have h8:=hd.le_fp h2;omega
theorem splan_three{n:Nat}{t:TaskV}{F:List Int}{R:List Nat}{ls:List (List Int)}{d:Int}{w w':World}{e:Ending}(hv:Valid t)(hn:t.facts=n)(hC:Clos n t.ops t.init ls)(hl:ls.length<=2000)(hd:RBest n t.ops t.goal t.init d)(hR:RelV t F R)(h:vV7 F.length (xJl t F R) w e w') :
  Below w.heap.size w w'/\((e=.returned (.tuple #[.agg #[.bool false,.slice none 0 0,.int .i64 0,.int .i64 0],.agg #[.int .i64 10,.int .i64 (-9)]])/\d≠1000000000) \/
   ∃ (f:Bool) (A:Option Addr) (k0 c0:Nat) (c x:Int),e=.returned (.tuple #[.agg #[.bool f,.slice A k0 c0,.int .i64 c,.int .i64 x],.agg #[.int .i64 0,.int .i64 0]])/\((f=false/\d=1000000000)\/(f=true/\c=d/\d≠1000000000))):=by
 obtain⟨hB,⟨h1,L,h2,h3,h4⟩ | ⟨ne,h1,h2⟩ | ⟨l,ps,h1,h2,h3,h4⟩⟩:=h
 ·have:=hR.few hv hn hC h2 h4;omega
 ·refine⟨hB,.inr ⟨_,_,_,_,_,_,h1,.inl ⟨rfl,?_⟩⟩⟩
  by_cases hne:d=1000000000
  ·exact hne
  ·obtain⟨qs,h5,h6⟩:=hd.fp hne;obtain⟨us,h7,h8,h9,h10⟩:=Clos.short hv hC hl h5;obtain⟨vs,h11,h12⟩:=hR.down hn (fun o ho=>(hv.ops o ho).2.1) h7 (l':=(xJl t F R).init) (fun i x hi hx=>(hR.init i x hi).1 hx);have:=h2 vs h11;omega
 ·have hne:d≠1000000000:=fun e=>by
   subst e;have h5:=h1.front (goal:=(xJl t F R).goal) (.nil h2);rw[List.append_nil] at h5;obtain⟨qs,h6,_⟩:=hR.up hn h5 hR.init;exact xWi hv hC hl hd h6
  refine⟨hB,?_⟩;rcases h4 with ⟨_,h4⟩ | ⟨_,v,ne,h4,B,_,hO⟩
  ·exact .inl ⟨h4,hne⟩
  ·obtain⟨A,c,rfl,_,_⟩:=hO.form;exact .inr ⟨_,_,_,_,_,_,h4,.inr ⟨rfl,hR.cost hv hn hC hl hd hne h1 h2 h3,hne⟩⟩
theorem splan_small(w:World){t:TaskV}{F:List Int}{R:List Nat}{B1 B2 B3:Option Addr}(b1 b2 b3:Nat)(hv:Valid t)(hR:RelV t F R)(hT:TaskMem w B1 B2 B3 (xJl t F R)) :
  Calls Tryz.prog 9 #[.agg #[.int .i64 (F.length:Int),.slice B1 (rsV F t.init).length b1,.slice B2 (rsV F t.goal).length b2,.slice B3 R.length b3],.int .i64 4] w (vV7 F.length (xJl t F R) w):=by
 have h:=vV8 w (xJl t F R) B1 B2 B3 b1 b2 b3 hT F.length rfl (hR.valid hv);have e:(xJl t F R).ops.length=R.length:=List.length_map _;rw[e] at h;exact h
theorem walk_tpr_1(w:World)(t:TaskV)(Ai Ag Ao:Option Addr)(ci cg co:Nat)(hR:TaskRead w Ai Ag Ao ci cg co t)(h:¬ (xJn t).1=0) :
  Calls Tryz.prog 3 #[.agg #[.int .i64 t.facts,.slice Ai t.init.length ci,.slice Ag t.goal.length cg,.slice Ao t.ops.length co]] w fun e w'=>e=.returned (.bool true)/\Below w.heap.size w w':=by
 have hT:=hR.mem;go_enter Tryz.func3,Tryz.ntmps3
 go_wp2_with fail
 refine (zY1 _ t Ai Ag Ao ci cg co (hT.below bch) h).mono ?_;rintro e w1 ⟨rfl,hB1⟩;have D1:=xJ3 w hB1 bch;have C1:=Cls.below (l:=[(w.heap.size,0,.int .i64 t.facts),(w.heap.size,1,.slice Ai t.init.length ci),(w.heap.size,2,.slice Ag t.goal.length cg),(w.heap.size,3,.slice Ao t.ops.length co)]) hB1 (by simp[Cls,go_sem]);have F1:=C1;simp only[Cls,and_true] at F1;have y1w0:w.heap.size < w1.heap.size:=C1.blk (b:=w.heap.size) (k:=0) (v:=.int .i64 t.facts) (by simp)
 go_wp2_with fail
 refine (xXi _).mono ?_;rintro e w2 ⟨rfl,hB2⟩;have D2:=xJ3 w hB2 bch;have C2:=Cls.below (l:=[(w.heap.size,0,.int .i64 t.facts),(w.heap.size,1,.slice Ai t.init.length ci),(w.heap.size,2,.slice Ag t.goal.length cg),(w.heap.size,3,.slice Ao t.ops.length co),(w1.heap.size,0,.int .i64 (xJn t).1),(w1.heap.size,1,.int .i64 (xJn t).2)]) hB2 (by simp[Cls,go_sem,F1,y1w0]);have F2:=C2;simp only[Cls,and_true] at F2;have y2w0:w.heap.size < w2.heap.size:=C2.blk (b:=w.heap.size) (k:=0) (v:=.int .i64 t.facts) (by simp);have y2w10:w1.heap.size < w2.heap.size:=C2.blk (b:=w1.heap.size) (k:=0) (v:=.int .i64 (xJn t).1) (by simp)
 go_wp2_with fail
 refine (xXi _).mono ?_;rintro e w3 ⟨rfl,hB3⟩;have D3:=xJ3 w hB3 bch;have C3:=Cls.below (l:=[(w.heap.size,0,.int .i64 t.facts),(w.heap.size,1,.slice Ai t.init.length ci),(w.heap.size,2,.slice Ag t.goal.length cg),(w.heap.size,3,.slice Ao t.ops.length co),(w1.heap.size,0,.int .i64 (xJn t).1),(w1.heap.size,1,.int .i64 (xJn t).2)]) hB3 (by simp[Cls,go_sem,F2,y2w0,y2w10]);have y3w0:w.heap.size < w3.heap.size:=C3.blk (b:=w.heap.size) (k:=0) (v:=.int .i64 t.facts) (by simp);have y3w10:w1.heap.size < w3.heap.size:=C3.blk (b:=w1.heap.size) (k:=0) (v:=.int .i64 (xJn t).1) (by simp);go_wp2;refine bodyPost_ret (v:=.bool true) ?_ rfl ⟨rfl,bch⟩;simp[results,Tryz.results3,go_sem,y3w0,y3w10]
theorem walk_tpr_2(w:World)(t:TaskV)(Ai Ag Ao:Option Addr)(ci cg co:Nat)(hR:TaskRead w Ai Ag Ao ci cg co t)(n:Nat)(hn:t.facts=n)(hv:Valid t) :
  Calls Tryz.prog 3 #[.agg #[.int .i64 t.facts,.slice Ai t.init.length ci,.slice Ag t.goal.length cg,.slice Ao t.ops.length co]] w fun e w'=>e=.returned (.bool true)/\Below w.heap.size w w':=by
 have hT:=hR.mem;have hOpt:∀ w0:World,TaskMem w0 Ai Ag Ao t->Calls Tryz.prog 5 #[.agg #[.int .i64 t.facts,.slice Ai t.init.length ci,.slice Ag t.goal.length cg,.slice Ao t.ops.length co]] w0 (zQx n t w0):=fun w0 h=>xW2 w0 t Ai Ag Ao ci cg co h n hn hv
 have hO:=hR.ops;have HN:=lHd hn;have HV:=lHd hv;clear hv hn;go_enter Tryz.func3,Tryz.ntmps3
 go_wp2_with fail
 refine (hOpt _ (hT.below bch)).mono ?_;rintro e w1 ⟨hB1,hR1⟩;have D1:=xJ3 w hB1 bch;have C1:=Cls.below (l:=[(w.heap.size,0,.int .i64 t.facts),(w.heap.size,1,.slice Ai t.init.length ci),(w.heap.size,2,.slice Ag t.goal.length cg),(w.heap.size,3,.slice Ao t.ops.length co)]) hB1 (by simp[Cls,go_sem]);have F1:=C1;simp only[Cls,and_true] at F1;have y1w0:w.heap.size < w1.heap.size:=C1.blk (b:=w.heap.size) (k:=0) (v:=.int .i64 t.facts) (by simp);rcases hR1 with ⟨rfl,-⟩ | ⟨d,rfl,hd,ls,hC,hls⟩
 ·skip
  go_wp2_with fail
  refine (xXi _).mono ?_;rintro e w2 ⟨rfl,hB2⟩;have D2:=xJ3 w hB2 bch;have C2:=Cls.below (l:=[(w.heap.size,0,.int .i64 t.facts),(w.heap.size,1,.slice Ai t.init.length ci),(w.heap.size,2,.slice Ag t.goal.length cg),(w.heap.size,3,.slice Ao t.ops.length co),(w1.heap.size,0,.int .i64 10),(w1.heap.size,1,.int .i64 (-7))]) hB2 (by simp[Cls,go_sem,F1,y1w0]);have F2:=C2;simp only[Cls,and_true] at F2;have y2w0:w.heap.size < w2.heap.size:=C2.blk (b:=w.heap.size) (k:=0) (v:=.int .i64 t.facts) (by simp);have y2w10:w1.heap.size < w2.heap.size:=C2.blk (b:=w1.heap.size) (k:=0) (v:=.int .i64 10) (by simp)
  go_wp2_with fail
  refine (xXi _).mono ?_;rintro e w3 ⟨rfl,hB3⟩;have D3:=xJ3 w hB3 bch;have C3:=Cls.below (l:=[(w.heap.size,0,.int .i64 t.facts),(w.heap.size,1,.slice Ai t.init.length ci),(w.heap.size,2,.slice Ag t.goal.length cg),(w.heap.size,3,.slice Ao t.ops.length co),(w1.heap.size,0,.int .i64 10),(w1.heap.size,1,.int .i64 (-7))]) hB3 (by simp[Cls,go_sem,F2,y2w0,y2w10]);have F3:=C3;simp only[Cls,and_true] at F3;have y3w0:w.heap.size < w3.heap.size:=C3.blk (b:=w.heap.size) (k:=0) (v:=.int .i64 t.facts) (by simp);have y3wp1:w.heap.size < w3.heap.size+1:=(by omega);have y3w10:w1.heap.size < w3.heap.size:=C3.blk (b:=w1.heap.size) (k:=0) (v:=.int .i64 10) (by simp);have y3w1p1:w1.heap.size < w3.heap.size+1:=(by omega);go_wp2;refine bodyPost_ret (v:=.bool true) ?_ rfl ⟨rfl,bch⟩;simp[results,Tryz.results3,go_sem,F3,y3w0,y3wp1,y3w10,y3w1p1]
 ·have HD:=lHd hd;have HC:=lHd hC;clear hd hC
  go_wp2_with fail
  refine (xXi _).mono ?_;rintro e w2 ⟨rfl,hB2⟩;have D2:=xJ3 w hB2 bch;have C2:=Cls.below (l:=[(w.heap.size,0,.int .i64 t.facts),(w.heap.size,1,.slice Ai t.init.length ci),(w.heap.size,2,.slice Ag t.goal.length cg),(w.heap.size,3,.slice Ao t.ops.length co),(w1.heap.size,0,.int .i64 0),(w1.heap.size,1,.int .i64 0)]) hB2 (by simp[Cls,go_sem,F1,y1w0]);have F2:=C2;simp only[Cls,and_true] at F2;have y2w0:w.heap.size < w2.heap.size:=C2.blk (b:=w.heap.size) (k:=0) (v:=.int .i64 t.facts) (by simp);have y2w10:w1.heap.size < w2.heap.size:=C2.blk (b:=w1.heap.size) (k:=0) (v:=.int .i64 0) (by simp)
  go_wp2_with fail
  go_at_call 7;refine (cplan_any _ t Ai Ag Ao ci cg co (hT.below bch) (hO.below bch) n HN.out HV.out ls HC.out hls).mono ?_;rintro e w3 hP3;obtain⟨f1,A1,k1,c1,x1,y1,rfl,ho1,hB3⟩:=cplan_one HV.out HN.out HC.out hls HD.out hP3;have D3:=xJ3 w hB3 bch;have C3:=Cls.below (l:=[(w.heap.size,0,.int .i64 t.facts),(w.heap.size,1,.slice Ai t.init.length ci),(w.heap.size,2,.slice Ag t.goal.length cg),(w.heap.size,3,.slice Ao t.ops.length co),(w1.heap.size,0,.int .i64 0),(w1.heap.size,1,.int .i64 0)]) hB3 (by simp[Cls,go_sem,F2,y2w0,y2w10]);have F3:=C3;simp only[Cls,and_true] at F3;have y3w0:w.heap.size < w3.heap.size:=C3.blk (b:=w.heap.size) (k:=0) (v:=.int .i64 t.facts) (by simp);have y3wp1:w.heap.size < w3.heap.size+1:=(by omega);have y3w10:w1.heap.size < w3.heap.size:=C3.blk (b:=w1.heap.size) (k:=0) (v:=.int .i64 0) (by simp);have y3w1p1:w1.heap.size < w3.heap.size+1:=(by omega)
  go_wp2_with fail
  go_at_call 8;refine (vJm _ t Ai Ag Ao ci cg co (hT.below bch) (hO.below bch) HV.out).mono ?_;rintro e w4 ⟨hB4,B1,B2,B3,b1,b2,b3,F,R,v3,v4,rfl,hTs,hRel⟩;have D4:=xJ3 w hB4 bch;have C4:=Cls.below (l:=[(w.heap.size,0,.int .i64 t.facts),(w.heap.size,1,.slice Ai t.init.length ci),(w.heap.size,2,.slice Ag t.goal.length cg),(w.heap.size,3,.slice Ao t.ops.length co),(w1.heap.size,0,.int .i64 0),(w1.heap.size,1,.int .i64 0),(w3.heap.size,0,.bool f1),(w3.heap.size,1,.slice A1 k1 c1),(w3.heap.size,2,.int .i64 x1),(w3.heap.size,3,.int .i64 y1),(w3.heap.size+1,0,.int .i64 0),(w3.heap.size+1,1,.int .i64 0)]) hB4 (by simp[Cls,go_sem,F3,y3w0,y3wp1,y3w10,y3w1p1]);have F4:=C4;simp only[Cls,and_true] at F4;have y4w0:w.heap.size < w4.heap.size:=C4.blk (b:=w.heap.size) (k:=0) (v:=.int .i64 t.facts) (by simp);have y4wp1:w.heap.size < w4.heap.size+1:=(by omega);have y4w10:w1.heap.size < w4.heap.size:=C4.blk (b:=w1.heap.size) (k:=0) (v:=.int .i64 0) (by simp);have y4w1p1:w1.heap.size < w4.heap.size+1:=(by omega);have y4w31:w3.heap.size+1 < w4.heap.size:=C4.blk (b:=w3.heap.size+1) (k:=0) (v:=.int .i64 0) (by simp);have y4w30:w3.heap.size < w4.heap.size:=(by omega);have y4w3p1:w3.heap.size < w4.heap.size+1:=(by omega);have HREL:=lHd hRel;clear hRel
  go_wp2_with fail
  go_at_call 9;refine (splan_small _ b1 b2 b3 HV.out HREL.out (hTs.below bl)).mono ?_;rintro e w5 hP5;obtain⟨hB5,ho5⟩:=splan_three HV.out HN.out HC.out hls HD.out HREL.out hP5;have D5:=xJ3 w hB5 bch;have C5:=Cls.below (l:=[(w.heap.size,0,.int .i64 t.facts),(w.heap.size,1,.slice Ai t.init.length ci),(w.heap.size,2,.slice Ag t.goal.length cg),(w.heap.size,3,.slice Ao t.ops.length co),(w1.heap.size,0,.int .i64 0),(w1.heap.size,1,.int .i64 0),(w3.heap.size,0,.bool f1),(w3.heap.size,1,.slice A1 k1 c1),(w3.heap.size,2,.int .i64 x1),(w3.heap.size,3,.int .i64 y1),(w3.heap.size+1,0,.int .i64 0),(w3.heap.size+1,1,.int .i64 0),(w4.heap.size,0,.int .i64 (F.length:Int)),(w4.heap.size,1,.slice B1 (rsV F t.init).length b1),(w4.heap.size,2,.slice B2 (rsV F t.goal).length b2),(w4.heap.size,3,.slice B3 R.length b3),(w4.heap.size+1,0,.int .i64 0),(w4.heap.size+1,1,.int .i64 0)]) hB5 (by simp[Cls,go_sem,F4,y4w0,y4wp1,y4w10,y4w1p1,y4w31,y4w30,y4w3p1]);have F5:=C5;simp only[Cls,and_true] at F5;have y5w0:w.heap.size < w5.heap.size:=C5.blk (b:=w.heap.size) (k:=0) (v:=.int .i64 t.facts) (by simp);have y5wp1:w.heap.size < w5.heap.size+1:=(by omega);have y5w10:w1.heap.size < w5.heap.size:=C5.blk (b:=w1.heap.size) (k:=0) (v:=.int .i64 0) (by simp);have y5w1p1:w1.heap.size < w5.heap.size+1:=(by omega);have y5w31:w3.heap.size+1 < w5.heap.size:=C5.blk (b:=w3.heap.size+1) (k:=0) (v:=.int .i64 0) (by simp);have y5w30:w3.heap.size < w5.heap.size:=(by omega);have y5w3p1:w3.heap.size < w5.heap.size+1:=(by omega);have y5w41:w4.heap.size+1 < w5.heap.size:=C5.blk (b:=w4.heap.size+1) (k:=0) (v:=.int .i64 0) (by simp);have y5w40:w4.heap.size < w5.heap.size:=(by omega);have y5w4p1:w4.heap.size < w5.heap.size+1:=(by omega);rcases ho5 with ⟨rfl,hne⟩ | ⟨f2,A2,k2,c2,x2,y2,rfl,ho5⟩
  ·rcases ho1 with ⟨rfl,e⟩ | ⟨rfl,hx1,_⟩
   ·exact absurd e hne
   go_wp2_with fail
   go_region_held3 (fun W=>W.cell? ⟨w5.heap.size+1,0,none⟩=some (.int .i64 10)/\W.cell? ⟨w5.heap.size+1,1,none⟩=some (.int .i64 (-9))) (first | exact hK | go_keep) (first | (go_at_call 10;refine (vKj _ _ _).mono ?_;rintro e w6 ⟨rfl,hB6⟩;have D6:=xJ3 w hB6 bch;have C6:=Cls.below (l:=[(w.heap.size,0,.int .i64 t.facts),(w.heap.size,1,.slice Ai t.init.length ci),(w.heap.size,2,.slice Ag t.goal.length cg),(w.heap.size,3,.slice Ao t.ops.length co),(w1.heap.size,0,.int .i64 0),(w1.heap.size,1,.int .i64 0),(w3.heap.size,0,.bool true),(w3.heap.size,1,.slice A1 k1 c1),(w3.heap.size,2,.int .i64 x1),(w3.heap.size,3,.int .i64 y1),(w3.heap.size+1,0,.int .i64 0),(w3.heap.size+1,1,.int .i64 0),(w4.heap.size,0,.int .i64 (F.length:Int)),(w4.heap.size,1,.slice B1 (rsV F t.init).length b1),(w4.heap.size,2,.slice B2 (rsV F t.goal).length b2),(w4.heap.size,3,.slice B3 R.length b3),(w4.heap.size+1,0,.int .i64 0),(w4.heap.size+1,1,.int .i64 0),(w5.heap.size,0,.bool false),(w5.heap.size,1,.slice none 0 0),(w5.heap.size,2,.int .i64 0),(w5.heap.size,3,.int .i64 0),(w5.heap.size+1,0,.int .i64 10),(w5.heap.size+1,1,.int .i64 (-9))]) hB6 (by simp[Cls,go_sem,F5,y5w0,y5wp1,y5w10,y5w1p1,y5w31,y5w30,y5w3p1,y5w41,y5w40,y5w4p1]);have F6:=C6;simp only[Cls,and_true] at F6;have hK:w6.cell? ⟨w5.heap.size+1,0,none⟩=some (.int .i64 10)/\w6.cell? ⟨w5.heap.size+1,1,none⟩=some (.int .i64 (-9)):=(by simp[F6])))
   all_goals go_wp2
   all_goals (refine bodyPost_ret (v:=.bool true) ?_ rfl ⟨rfl,bch⟩;simp[results,Tryz.results3,go_sem])
  ·rcases ho1 with ⟨rfl,hd1⟩ | ⟨rfl,hx1,hd1⟩ <;> rcases ho5 with ⟨rfl,hd2⟩ | ⟨rfl,hx2,hd2⟩
   ·subst hd1;go_wp2;refine bodyPost_ret (v:=.bool true) ?_ rfl ⟨rfl,bch⟩;simp[results,Tryz.results3,go_sem,F5,y5w0,y5wp1,y5w10,y5w1p1,y5w31,y5w30,y5w3p1,y5w41,y5w40,y5w4p1]
   ·exact absurd hd1 hd2
   ·exact absurd hd2 hd1
   ·have N:(d == 1000000000)=false:=by simpa using hd1
    go_wp2;refine bodyPost_ret (v:=.bool true) ?_ rfl ⟨rfl,bch⟩;simp[results,Tryz.results3,go_sem,F5,y5w0,y5wp1,y5w10,y5w1p1,y5w31,y5w30,y5w3p1,y5w41,y5w40,y5w4p1]
theorem walk_tpr(w:World)(t:TaskV)(Ai Ag Ao:Option Addr)(ci cg co:Nat)(hR:TaskRead w Ai Ag Ao ci cg co t) :
  Calls Tryz.prog 3 #[.agg #[.int .i64 t.facts,.slice Ai t.init.length ci,.slice Ag t.goal.length cg,.slice Ao t.ops.length co]] w fun e w'=>e=.returned (.bool true)/\Below w.heap.size w w':=by
 by_cases h:(xJn t).1=0
 ·have hv:=zZp.1 h;obtain⟨n,hn⟩:=Int.eq_ofNat_of_zero_le hv.f0;exact walk_tpr_2 w t Ai Ag Ao ci cg co hR n hn hv
 ·exact walk_tpr_1 w t Ai Ag Ao ci cg co hR h
namespace topPrunedSearchesAgree
open Go.ChangeShapes Go.WideShapes Go.ChangeAt Go.RowKit
theorem lifted(os:Os)(started:os.Started)(H:Type)(enc:TypeId×Value->H) :
  ReturnsInHanded {} Tryz.checked os 3 .any (Rows.topPrunedSearchesAgreeSpec.pre6 enc Tryz.prog Tryz.f3 Rows.topPrunedSearchesAgreeRow.domain false) (Rows.topPrunedSearchesAgreeSpec.post enc Tryz.prog Tryz.f3 false true false false):=by
 refine returnsInHanded_of_change (C:=Tryz.checked) vQ4 started (by kernel_rfl) Tryz.func3
  (ChangeSpec.witness6 (enc:=enc) (C:=Tryz.checked) false ⟨#[],#[.agg #[.int .i64 0,.slice none 0 0,.slice none 0 0,.slice none 0 0]],[]⟩ 8 (by kernel_rfl) (by kernel_rfl) (by kernel_rfl) (by kernel_rfl)) ?_
 intro W base args ds gs before hval0 hW _ hsz;have hval:∀ (j:Nat) t v,Tryz.f3.params[j]? = some t->args[j]? = some v->Value.okWide Tryz.prog W .any base t v:=hval0;have hpost:=fun (W':World) (hfn:gs=[]->Rows.topPrunedSearchesAgreeSpec.fn H (ds ++ gs)={ results:=[.lit (.bool true)],args:=ds }) (hb:Below W.heap.size W W')=>vQ5 (f:=Tryz.f3) (tb:=4) zYu Tryz.underlying4 rfl (by kernel_rfl) rfl hfn hW hb
 obtain⟨p,q,hA0,hV,hpq,hfz,hnd⟩:=hW;have hA:DataW.TrodAll enc Tryz.prog W 0 (fun _=>true) true Tryz.f3.params.toList args.toList ds p:=hA0;rw[Tryz.params3] at hA hval;obtain⟨v0,vs0,d0,ds0,p0,q0,hargs,rfl,hp0,h0,r0⟩:=trodAll_cons hA;obtain⟨rfl,rfl,hpn⟩:=trodAll_nil r0;obtain rfl:args = #[v0]:=by cases args;simp_all
 obtain⟨t,Ai,Ag,Ao,ci,cg,co,rfl,hR⟩:=zK9 (hval 0 25 v0 rfl rfl) h0;refine (walk_tpr W t Ai Ag Ao ci cg co hR).mono fun e W' ⟨he,hb⟩=>?_
 subst he;exact⟨_,rfl,hpost W' (fun hg=>by subst hg;rfl) hb⟩
theorem closed:joinedFacts Tryz.checked.prog 3 Tryz.f3 Rows.topPrunedSearchesAgreeSpec Rows.topPrunedSearchesAgreeRow=true:=by
 unfold joinedFacts;rw[vQh,vQi,vYd]
 kernel_rfl
theorem proved:Rows.TopPrunedSearchesAgreeSaid:=
 OpenClaim.holds_of_wide 3 Tryz.f3 rfl rfl rfl rfl rfl rfl rfl ⟨rfl,rfl,rfl,rfl,rfl⟩ rfl rfl rfl rfl rfl (by kernel_rfl) Tryz.func3 closed
  (of_decide_eq_true (by kernel_rfl)) (by unfold Func.isWrapper;first | (rw[if_pos (by decide +kernel)];kernel_rfl) | (rw[if_neg (by decide +kernel)];exact⟨rfl,rfl⟩))
  (fun os started H enc _=>lifted os started H enc)
#print axioms proved
end topPrunedSearchesAgree
end Go.Proofs.YtpeipeljmapkmaaGreat
