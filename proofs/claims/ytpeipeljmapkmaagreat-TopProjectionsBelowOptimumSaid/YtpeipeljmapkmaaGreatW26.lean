/-
  Lemmas for the law: Mt, Na, Pra, Prb, Prc, Thh, Tbm.
-/
import Derived.Test.YtpeipeljmapkmaaGreatW25
import Derived.Test.YtpeipeljmapkmaaGreatW24
import Derived.Test.YtpeipeljmapkmaaGreatW2
import Derived.Test.YtpeipeljmapkmaaGreatW16
set_option linter.unusedVariables false
set_option linter.unusedSimpArgs false
set_option maxRecDepth 100000
set_option maxHeartbeats 4000000
namespace Go.Proofs.YtpeipeljmapkmaaGreat
open Go.RowKit
def POk(m:MtV)(vars st:List Int):Prop:=(MValid m/\StM m.sizes st)/\VarsOk m vars/\¬ 2000 < prV m.sizes vars vars.length
theorem DTask.to{m:MtV}{vars:List Int}(hm:MValid m)(hv:VarsOk m vars):DTask (toV m vars):=by
 refine⟨?_,fun j hj=>?_,hm.goal.restr hv,fun o ho=>?_,?_⟩
 ·show (xXq m.sizes vars).length<=8;rw[xXv];exact hv.vlen hm
 ·have hj2:j < vars.length:=by
   have h1:(toV m vars).sizes.length=vars.length:=xXv _ _;omega
  show 1<=xJ2 (xXq m.sizes vars) (j:Int)/\xJ2 (xXq m.sizes vars) (j:Int)<=6;rw[xKs (by omega) (by omega)];exact hv.size hm (zX8 (by omega) (by omega))
 ·obtain⟨o',ho',rfl⟩:=List.mem_map.1 ho;have h:=hm.ops o' ho';exact⟨⟨h.1.1.restr hv,h.1.2.restr hv⟩,h.2⟩
 ·show (m.ops.map _).length<=40;rw[List.length_map];exact hm.nops
theorem zWy(w:World)(m:MtV)(As Ai Ag Ao:Option Addr)(cs ci cg co:Nat)(hM:MMem w As Ai Ag Ao m)(V:Option Addr)(cv:Nat)(vars:List Int)(hI:Ints w V vars)(hlv:vars.length<=9223372036854775807)(S:Option Addr)(c:Nat)(st:List Int)(hS:Ints w S st)(hls:st.length<=9223372036854775807)(h:¬ POk m vars st) :
  Calls Tryz.prog 15 #[.agg #[.slice As m.sizes.length cs,.slice Ai m.init.length ci,.slice Ag m.goal.length cg,.slice Ao m.ops.length co],.slice V vars.length cv,.slice S st.length c] w fun e w'=>∃ c j:Int,e=.returned (.tuple #[.int .i64 0,.agg #[.int .i64 c,.int .i64 j]])/\¬ c=0/\Below w.heap.size w w':=by
 have HM:=lHd hM;clear hM
 by_cases h1:MValid m/\StM m.sizes st
 ·have H1:=lHd h1;clear h1
  by_cases h2:VarsOk m vars
  ·have H2:=lHd h2;have h3:2000 < prV m.sizes vars vars.length:=Classical.byContradiction fun h3=>h ⟨H1.out,h2,h3⟩
   have H3:=lHd h3;clear h2 h3 h;go_enter Tryz.func15,Tryz.ntmps15
   go_wp2_with fail
   refine (xJw _ _ _ _ _ _ _ _ _ _ (HM.out.below bch) _ _ _ (hS.below bch) hls).mono ?_;rintro e w1 ⟨he,hB1⟩;have D1:=xJ4 w hB1 bch;have d1s:=D1.size;have C1:=Cls.below (l:=[(w.heap.size,0,.slice As m.sizes.length cs),(w.heap.size,1,.slice Ai m.init.length ci),(w.heap.size,2,.slice Ag m.goal.length cg),(w.heap.size,3,.slice Ao m.ops.length co),(w.heap.size+1,0,.int .i64 0),(w.heap.size+1,1,.int .i64 0)]) hB1 (by simp[Cls,go_sem]);have F1:=C1;simp only[Cls,and_true] at F1;have y1w1:w.heap.size+1 < w1.heap.size:=C1.blk (b:=w.heap.size+1) (k:=0) (v:=.int .i64 0) (by simp);have y1w0:w.heap.size < w1.heap.size:=(by omega);have he:=he.yes H1.out;subst he
   go_wp2_with fail
   refine (xYe _ _ _ _ _ _ _ _ _ _ (HM.out.below bch) _ _ _ (hI.below bch) hlv (-8)).mono ?_;rintro e w2 ⟨he,hB2⟩;have D2:=xJ4 w hB2 bch;have C2:=Cls.below (l:=[(w.heap.size,0,.slice As m.sizes.length cs),(w.heap.size,1,.slice Ai m.init.length ci),(w.heap.size,2,.slice Ag m.goal.length cg),(w.heap.size,3,.slice Ao m.ops.length co),(w.heap.size+1,0,.int .i64 0),(w.heap.size+1,1,.int .i64 0),(w1.heap.size,0,.int .i64 0),(w1.heap.size,1,.int .i64 0)]) hB2 (by simp[Cls,go_sem,F1,y1w1,y1w0]);have F2:=C2;simp only[Cls,and_true] at F2;have y2w1:w.heap.size+1 < w2.heap.size:=C2.blk (b:=w.heap.size+1) (k:=0) (v:=.int .i64 0) (by simp);have y2w10:w1.heap.size < w2.heap.size:=C2.blk (b:=w1.heap.size) (k:=0) (v:=.int .i64 0) (by simp);have he:=he.yes H2.out;subst he;have HLB:=lHd (show decide (2000 < prV m.sizes vars vars.length)=true from decide_eq_true H3.out)
   go_wp2_with fail
   refine (xWt _ _ _ _ _ _ _ _ _ _ (HM.out.below bch) _ _ _ (hI.below bch) hlv H1.out.1 H2.out).mono ?_;rintro e w3 ⟨he,hB3⟩;rw[HLB.out] at he;subst he;have D3:=xJ4 w hB3 bch;have C3:=Cls.below (l:=[(w.heap.size,0,.slice As m.sizes.length cs),(w.heap.size,1,.slice Ai m.init.length ci),(w.heap.size,2,.slice Ag m.goal.length cg),(w.heap.size,3,.slice Ao m.ops.length co),(w.heap.size+1,0,.int .i64 0),(w.heap.size+1,1,.int .i64 0),(w1.heap.size,0,.int .i64 0),(w1.heap.size,1,.int .i64 0)]) hB3 (by simp[Cls,go_sem,F2,y2w1,y2w10]);have F3:=C3;simp only[Cls,and_true] at F3;have y3w1:w.heap.size+1 < w3.heap.size:=C3.blk (b:=w.heap.size+1) (k:=0) (v:=.int .i64 0) (by simp);have y3w10:w1.heap.size < w3.heap.size:=C3.blk (b:=w1.heap.size) (k:=0) (v:=.int .i64 0) (by simp)
   go_wp2_with fail
   refine xJa 2 (by kernel_rfl) (by kernel_rfl) ?_;simp only[List.take_succ_cons,List.take_zero,List.drop_succ_cons,List.drop_zero]
   repeat still_step
   try refine wpStill_nil ?_
   go_wp2;refine bodyPost_ret (v:=.tuple #[.int .i64 0,.agg #[.int .i64 10,.int .i64 (-7)]]) ?_ rfl ⟨10,-7,rfl,by decide,bch⟩;simp[results,Tryz.results15,go_sem,F3,y3w1,y3w10]
  ·have H2:=lHd h2;clear h2 h;go_enter Tryz.func15,Tryz.ntmps15
   go_wp2_with fail
   refine (xJw _ _ _ _ _ _ _ _ _ _ (HM.out.below bch) _ _ _ (hS.below bch) hls).mono ?_;rintro e w1 ⟨he,hB1⟩;have D1:=xJ4 w hB1 bch;have d1s:=D1.size;have C1:=Cls.below (l:=[(w.heap.size,0,.slice As m.sizes.length cs),(w.heap.size,1,.slice Ai m.init.length ci),(w.heap.size,2,.slice Ag m.goal.length cg),(w.heap.size,3,.slice Ao m.ops.length co),(w.heap.size+1,0,.int .i64 0),(w.heap.size+1,1,.int .i64 0)]) hB1 (by simp[Cls,go_sem]);have F1:=C1;simp only[Cls,and_true] at F1;have y1w1:w.heap.size+1 < w1.heap.size:=C1.blk (b:=w.heap.size+1) (k:=0) (v:=.int .i64 0) (by simp);have y1w0:w.heap.size < w1.heap.size:=(by omega);have he:=he.yes H1.out;subst he
   go_wp2_with fail
   refine (xYe _ _ _ _ _ _ _ _ _ _ (HM.out.below bch) _ _ _ (hI.below bch) hlv (-8)).mono ?_;rintro e w2 ⟨he,hB2⟩;have D2:=xJ4 w hB2 bch;have C2:=Cls.below (l:=[(w.heap.size,0,.slice As m.sizes.length cs),(w.heap.size,1,.slice Ai m.init.length ci),(w.heap.size,2,.slice Ag m.goal.length cg),(w.heap.size,3,.slice Ao m.ops.length co),(w.heap.size+1,0,.int .i64 0),(w.heap.size+1,1,.int .i64 0),(w1.heap.size,0,.int .i64 0),(w1.heap.size,1,.int .i64 0)]) hB2 (by simp[Cls,go_sem,F1,y1w1,y1w0]);have F2:=C2;simp only[Cls,and_true] at F2;have y2w1:w.heap.size+1 < w2.heap.size:=C2.blk (b:=w.heap.size+1) (k:=0) (v:=.int .i64 0) (by simp);have y2w10:w1.heap.size < w2.heap.size:=C2.blk (b:=w1.heap.size) (k:=0) (v:=.int .i64 0) (by simp);obtain⟨cc,jj,he,hc⟩:=he.no H2.out;subst he;have hc0:=lHd hc;have N:=zXo hc;have N':=xYl hc
   go_wp2_with fail
   refine xJa 2 (by kernel_rfl) (by kernel_rfl) ?_;simp only[List.take_succ_cons,List.take_zero,List.drop_succ_cons,List.drop_zero]
   repeat still_step
   try refine wpStill_nil ?_
   go_wp2;refine bodyPost_ret (v:=.tuple #[.int .i64 0,.agg #[.int .i64 cc,.int .i64 jj]]) ?_ rfl ⟨cc,jj,rfl,hc0.out,bch⟩;simp[results,Tryz.results15,go_sem,F2,y2w1,y2w10]
 ·have H1:=lHd h1;clear h1 h;go_enter Tryz.func15,Tryz.ntmps15
  go_wp2_with fail
  refine (xJw _ _ _ _ _ _ _ _ _ _ (HM.out.below bch) _ _ _ (hS.below bch) hls).mono ?_;rintro e w1 ⟨he,hB1⟩;have D1:=xJ4 w hB1 bch;have d1s:=D1.size;have C1:=Cls.below (l:=[(w.heap.size,0,.slice As m.sizes.length cs),(w.heap.size,1,.slice Ai m.init.length ci),(w.heap.size,2,.slice Ag m.goal.length cg),(w.heap.size,3,.slice Ao m.ops.length co),(w.heap.size+1,0,.int .i64 0),(w.heap.size+1,1,.int .i64 0)]) hB1 (by simp[Cls,go_sem]);have F1:=C1;simp only[Cls,and_true] at F1;have y1w1:w.heap.size+1 < w1.heap.size:=C1.blk (b:=w.heap.size+1) (k:=0) (v:=.int .i64 0) (by simp);have y1w0:w.heap.size < w1.heap.size:=(by omega);obtain⟨cc,jj,he,hc⟩:=he.no H1.out;subst he;have hc0:=lHd hc;have N:=zXo hc;have N':=xYl hc
  go_wp2_with fail
  refine xJa 2 (by kernel_rfl) (by kernel_rfl) ?_;simp only[List.take_succ_cons,List.take_zero,List.drop_succ_cons,List.drop_zero]
  repeat still_step
  try refine wpStill_nil ?_
  go_wp2;refine bodyPost_ret (v:=.tuple #[.int .i64 0,.agg #[.int .i64 cc,.int .i64 jj]]) ?_ rfl ⟨cc,jj,rfl,hc0.out,bch⟩;simp[results,Tryz.results15,go_sem,F1,y1w1,y1w0]
theorem xY3(w:World)(m:MtV)(As Ai Ag Ao:Option Addr)(cs ci cg co:Nat)(hM:MMem w As Ai Ag Ao m)(V:Option Addr)(cv:Nat)(vars:List Int)(hI:Ints w V vars)(hlv:vars.length<=9223372036854775807)(S:Option Addr)(c:Nat)(st:List Int)(hS:Ints w S st)(hls:st.length<=9223372036854775807)(h:POk m vars st) :
  Calls Tryz.prog 15 #[.agg #[.slice As m.sizes.length cs,.slice Ai m.init.length ci,.slice Ag m.goal.length cg,.slice Ao m.ops.length co],.slice V vars.length cv,.slice S st.length c] w fun e w'=>∃ d:Int,e=.returned (.tuple #[.int .i64 d,.agg #[.int .i64 0,.int .i64 0]])/\DVal m vars st d/\Below w.heap.size w w':=by
 have HM:=lHd hM;obtain⟨h1,h2,h3⟩:=h;have HLB:=lHd (show decide (2000 < prV m.sizes vars vars.length)=false from decide_eq_false h3);have hv8:=h2.vlen h1.1;have H1:=lHd h1;have H2:=lHd h2;have HDT:=lHd (DTask.to h1.1 h2);have HRS:=lHd (lHd h2.rng);have HRT:=lHd (show ∀ v∈vars,0<=v/\v < (st.length:Int) from fun v hv=>by rw[h1.2.len];exact h2.rng v hv);have HRI:=lHd (lHd (show ∀ v∈vars,0<=v/\v < (m.init.length:Int) from fun v hv=>by rw[h1.1.init.len];exact h2.rng v hv));have hg:=h1.1.goal.len8;have hs8:=h1.1.v1;have ho40:=h1.1.nops;have HOL:=lHd (show ∀ o∈m.ops,o.pre.length<=100/\o.post.length<=100 from fun o ho=>by have h4:=(h1.1.ops o ho).1;have:=h4.1.len8;have:=h4.2.len8;omega);have HSM:=lHd (h1.2.sel h2);have HS6:=lHd HDT.out.s6;have HSV:=lHd (show (xXq m.sizes vars).length<=8 from HDT.out.l8);clear hM h1 h2 h3;go_enter Tryz.func15,Tryz.ntmps15
 go_wp2_with fail
 refine (xJw _ _ _ _ _ _ _ _ _ _ (HM.out.below bch) _ _ _ (hS.below bch) hls).mono ?_;rintro e w1 ⟨he,hB1⟩;have D1:=xJ4 w hB1 bch;have d1s:=D1.size;have C1:=Cls.below (l:=[(w.heap.size,0,.slice As m.sizes.length cs),(w.heap.size,1,.slice Ai m.init.length ci),(w.heap.size,2,.slice Ag m.goal.length cg),(w.heap.size,3,.slice Ao m.ops.length co),(w.heap.size+1,0,.int .i64 0),(w.heap.size+1,1,.int .i64 0)]) hB1 (by simp[Cls,go_sem]);have F1:=C1;simp only[Cls,and_true] at F1;have y1w1:w.heap.size+1 < w1.heap.size:=C1.blk (b:=w.heap.size+1) (k:=0) (v:=.int .i64 0) (by simp);have y1w0:w.heap.size < w1.heap.size:=(by omega);have he:=he.yes H1.out;subst he
 go_wp2_with fail
 refine (xYe _ _ _ _ _ _ _ _ _ _ (HM.out.below bch) _ _ _ (hI.below bch) hlv (-8)).mono ?_;rintro e w2 ⟨he,hB2⟩;have D2:=xJ4 w hB2 bch;have C2:=Cls.below (l:=[(w.heap.size,0,.slice As m.sizes.length cs),(w.heap.size,1,.slice Ai m.init.length ci),(w.heap.size,2,.slice Ag m.goal.length cg),(w.heap.size,3,.slice Ao m.ops.length co),(w.heap.size+1,0,.int .i64 0),(w.heap.size+1,1,.int .i64 0),(w1.heap.size,0,.int .i64 0),(w1.heap.size,1,.int .i64 0)]) hB2 (by simp[Cls,go_sem,F1,y1w1,y1w0]);have F2:=C2;simp only[Cls,and_true] at F2;have y2w1:w.heap.size+1 < w2.heap.size:=C2.blk (b:=w.heap.size+1) (k:=0) (v:=.int .i64 0) (by simp);have y2w10:w1.heap.size < w2.heap.size:=C2.blk (b:=w1.heap.size) (k:=0) (v:=.int .i64 0) (by simp);have he:=he.yes H2.out;subst he
 go_wp2_with fail
 refine (xWt _ _ _ _ _ _ _ _ _ _ (HM.out.below bch) _ _ _ (hI.below bch) hlv H1.out.1 H2.out).mono ?_;rintro e w3 ⟨he,hB3⟩;rw[HLB.out] at he;subst he;have D3:=xJ4 w hB3 bch;have C3:=Cls.below (l:=[(w.heap.size,0,.slice As m.sizes.length cs),(w.heap.size,1,.slice Ai m.init.length ci),(w.heap.size,2,.slice Ag m.goal.length cg),(w.heap.size,3,.slice Ao m.ops.length co),(w.heap.size+1,0,.int .i64 0),(w.heap.size+1,1,.int .i64 0),(w1.heap.size,0,.int .i64 0),(w1.heap.size,1,.int .i64 0)]) hB3 (by simp[Cls,go_sem,F2,y2w1,y2w10]);have F3:=C3;simp only[Cls,and_true] at F3;have y3w1:w.heap.size+1 < w3.heap.size:=C3.blk (b:=w.heap.size+1) (k:=0) (v:=.int .i64 0) (by simp);have y3w10:w1.heap.size < w3.heap.size:=C3.blk (b:=w1.heap.size) (k:=0) (v:=.int .i64 0) (by simp)
 go_wp2_with fail
 refine (vKi _ _ _ _ _ _ _ _ _ _ (HM.out.below bch) _ _ _ (hI.below bch) hv8 (by omega) ho40 HOL HRS HRI).mono ?_;rintro e w4 ⟨As',Ai',Ag',Ao',cs',ci',cg',co',rfl,hP4,hB4⟩;have D4:=xJ4 w hB4 bch;have C4:=Cls.below (l:=[(w.heap.size,0,.slice As m.sizes.length cs),(w.heap.size,1,.slice Ai m.init.length ci),(w.heap.size,2,.slice Ag m.goal.length cg),(w.heap.size,3,.slice Ao m.ops.length co),(w.heap.size+1,0,.int .i64 0),(w.heap.size+1,1,.int .i64 0),(w1.heap.size,0,.int .i64 0),(w1.heap.size,1,.int .i64 0)]) hB4 (by simp[Cls,go_sem,F3,y3w1,y3w10]);have F4:=C4;simp only[Cls,and_true] at F4;have y4w1:w.heap.size+1 < w4.heap.size:=C4.blk (b:=w.heap.size+1) (k:=0) (v:=.int .i64 0) (by simp);have y4w0:w.heap.size < w4.heap.size:=(by omega);have y4w10:w1.heap.size < w4.heap.size:=C4.blk (b:=w1.heap.size) (k:=0) (v:=.int .i64 0) (by simp);have HP:=lHd hP4;clear hP4
 go_wp2_with fail
 have hSS0:(w4.alloc (.cells #[.slice As' (toV m vars).sizes.length cs',.slice Ai' (toV m vars).init.length ci',.slice Ag' (toV m vars).goal.length cg',.slice Ao' (toV m vars).ops.length co'] 43)).drew.cell? ⟨w4.heap.size,0,none⟩=some (.slice As' (toV m vars).sizes.length cs')/\(w4.alloc (.cells #[.slice As' (toV m vars).sizes.length cs',.slice Ai' (toV m vars).init.length ci',.slice Ag' (toV m vars).goal.length cg',.slice Ao' (toV m vars).ops.length co'] 43)).drew.cell? ⟨w4.heap.size,1,none⟩=some (.slice Ai' (toV m vars).init.length ci')/\(w4.alloc (.cells #[.slice As' (toV m vars).sizes.length cs',.slice Ai' (toV m vars).init.length ci',.slice Ag' (toV m vars).goal.length cg',.slice Ao' (toV m vars).ops.length co'] 43)).drew.cell? ⟨w4.heap.size,2,none⟩=some (.slice Ag' (toV m vars).goal.length cg')/\(w4.alloc (.cells #[.slice As' (toV m vars).sizes.length cs',.slice Ai' (toV m vars).init.length ci',.slice Ag' (toV m vars).goal.length cg',.slice Ao' (toV m vars).ops.length co'] 43)).drew.cell? ⟨w4.heap.size,3,none⟩=some (.slice Ao' (toV m vars).ops.length co')/\(w4.alloc (.cells #[.slice As' (toV m vars).sizes.length cs',.slice Ai' (toV m vars).init.length ci',.slice Ag' (toV m vars).goal.length cg',.slice Ao' (toV m vars).ops.length co'] 43)).drew.cell? ⟨w1.heap.size,0,none⟩=some (.int .i64 0)/\(w4.alloc (.cells #[.slice As' (toV m vars).sizes.length cs',.slice Ai' (toV m vars).init.length ci',.slice Ag' (toV m vars).goal.length cg',.slice Ao' (toV m vars).ops.length co'] 43)).drew.cell? ⟨w1.heap.size,1,none⟩=some (.int .i64 0):=by simp[go_sem,F4,y4w1,y4w0,y4w10]
 refine xJg (fun W=>W.cell? ⟨w4.heap.size,0,none⟩=some (.slice As' (toV m vars).sizes.length cs')/\W.cell? ⟨w4.heap.size,1,none⟩=some (.slice Ai' (toV m vars).init.length ci')/\W.cell? ⟨w4.heap.size,2,none⟩=some (.slice Ag' (toV m vars).goal.length cg')/\W.cell? ⟨w4.heap.size,3,none⟩=some (.slice Ao' (toV m vars).ops.length co')/\W.cell? ⟨w1.heap.size,0,none⟩=some (.int .i64 0)/\W.cell? ⟨w1.heap.size,1,none⟩=some (.int .i64 0)) [12] (by kernel_rfl) ?_;have hSS:=hSS0;refine xJ0 (i:=0) (v:=?vz10) rfl (by kernel_rfl) (by kernel_rfl) (by kernel_rfl) (by kernel_rfl) (by kernel_rfl) (fun _ _ _ h=>h) (Or.inl ⟨by rfl,?hz10⟩) (by assumption) ?rz10
 case hz10=>(intro w hSw;(try dsimp only at hSw);go_simp;(try with_reducible rfl))
 try simp only[ap]
 refine xJ0 (i:=2) (v:=?vz12) rfl (by kernel_rfl) (by kernel_rfl) (by kernel_rfl) (by kernel_rfl) (by kernel_rfl) (fun _ _ _ h=>h) (Or.inl ⟨by rfl,?hz12⟩) (by assumption) ?rz12
 case hz12=>(intro w hSw;(try dsimp only at hSw);go_simp;(try with_reducible rfl))
 try simp only[ap]
 refine xJ0 (i:=3) (v:=?vz13) rfl (by kernel_rfl) (by kernel_rfl) (by kernel_rfl) (by kernel_rfl) (by kernel_rfl) (fun _ _ _ h=>h) (Or.inl ⟨by rfl,?hz13⟩) (by assumption) ?rz13
 case hz13=>(intro w hSw;(try dsimp only at hSw);go_simp;(try with_reducible rfl))
 try simp only[ap]
 refine xJ0 (i:=4) (v:=?vz14) rfl (by kernel_rfl) (by kernel_rfl) (by kernel_rfl) (by kernel_rfl) (by kernel_rfl) (fun _ _ _ h=>h) (Or.inl ⟨by rfl,?hz14⟩) (by assumption) ?rz14
 case hz14=>(intro w hSw;(try dsimp only at hSw);go_simp;(try with_reducible rfl))
 try simp only[ap]
 refine xJ0 (i:=5) (v:=?vz15) rfl (by kernel_rfl) (by kernel_rfl) (by kernel_rfl) (by kernel_rfl) (by kernel_rfl) (fun _ _ _ h=>h) (Or.inl ⟨by rfl,?hz15⟩) (by assumption) ?rz15
 case hz15=>(intro w hSw;(try dsimp only at hSw);go_simp;(try with_reducible rfl))
 try simp only[ap]
 refine xJ0 (i:=10) (v:=?vz110) rfl (by kernel_rfl) (by kernel_rfl) (by kernel_rfl) (by kernel_rfl) (by kernel_rfl) (fun _ _ _ h=>h) (Or.inl ⟨by rfl,?hz110⟩) (by assumption) ?rz110
 case hz110=>(intro w hSw;(try dsimp only at hSw);go_simp;(try with_reducible rfl))
 try simp only[ap]
 refine xJ3 (i:=1) (by kernel_rfl) rfl (fun K hK=>?_);go_simp;go_at_call 45;refine (vXe _ _ _ _ _ _ _ _ _ _ (HP.out.below bch) HDT.out).mono ?_;rintro e w5 ⟨g,D,rfl,hAD,hDO,hDL,hB5⟩;have D5:=xJ4 w hB5 bch;have Ew4_5:=xJ4 w4 hB5 bch;have C5:=Cls.below (l:=[(w.heap.size,0,.slice As m.sizes.length cs),(w.heap.size,1,.slice Ai m.init.length ci),(w.heap.size,2,.slice Ag m.goal.length cg),(w.heap.size,3,.slice Ao m.ops.length co),(w.heap.size+1,0,.int .i64 0),(w.heap.size+1,1,.int .i64 0),(w1.heap.size,0,.int .i64 0),(w1.heap.size,1,.int .i64 0),(w4.heap.size,0,.slice As' (toV m vars).sizes.length cs'),(w4.heap.size,1,.slice Ai' (toV m vars).init.length ci'),(w4.heap.size,2,.slice Ag' (toV m vars).goal.length cg'),(w4.heap.size,3,.slice Ao' (toV m vars).ops.length co')]) hB5 (by simp[Cls,go_sem,F4,y4w1,y4w0,y4w10]);have F5:=C5;simp only[Cls,and_true] at F5;have y5w1:w.heap.size+1 < w5.heap.size:=C5.blk (b:=w.heap.size+1) (k:=0) (v:=.int .i64 0) (by simp);have y5w10:w1.heap.size < w5.heap.size:=C5.blk (b:=w1.heap.size) (k:=0) (v:=.int .i64 0) (by simp);have y5w40:w4.heap.size < w5.heap.size:=C5.blk (b:=w4.heap.size) (k:=0) (v:=.slice As' (toV m vars).sizes.length cs') (by simp);have HAD:=lHd hAD;have HDO:=lHd hDO;have HDL:=lHd hDL;clear hAD hDO hDL;have hSS:w5.cell? ⟨w4.heap.size,0,none⟩=some (.slice As' (toV m vars).sizes.length cs')/\w5.cell? ⟨w4.heap.size,1,none⟩=some (.slice Ai' (toV m vars).init.length ci')/\w5.cell? ⟨w4.heap.size,2,none⟩=some (.slice Ag' (toV m vars).goal.length cg')/\w5.cell? ⟨w4.heap.size,3,none⟩=some (.slice Ao' (toV m vars).ops.length co')/\w5.cell? ⟨w1.heap.size,0,none⟩=some (.int .i64 0)/\w5.cell? ⟨w1.heap.size,1,none⟩=some (.int .i64 0):=(by simp[F5])
 go_wp2_with fail
 refine hK.out _ _ hSS ?_;clear hK K
 try simp only[ap]
 refine xJ3 (i:=6) (by kernel_rfl) rfl (fun K hK=>?_);go_simp;go_at_call 47;refine (xXt _ _ _ _ _ _ _ (hS.below bch) hls (hI.below bch) (by omega) HRT).mono ?_;rintro e w6 ⟨v6,rfl,hO6,hB6⟩;have D6:=xJ4 w hB6 bch;have Ew4_6:=xJ4 w4 hB6 bch;have C6:=Cls.below (l:=[(w.heap.size,0,.slice As m.sizes.length cs),(w.heap.size,1,.slice Ai m.init.length ci),(w.heap.size,2,.slice Ag m.goal.length cg),(w.heap.size,3,.slice Ao m.ops.length co),(w.heap.size+1,0,.int .i64 0),(w.heap.size+1,1,.int .i64 0),(w1.heap.size,0,.int .i64 0),(w1.heap.size,1,.int .i64 0),(w4.heap.size,0,.slice As' (toV m vars).sizes.length cs'),(w4.heap.size,1,.slice Ai' (toV m vars).init.length ci'),(w4.heap.size,2,.slice Ag' (toV m vars).goal.length cg'),(w4.heap.size,3,.slice Ao' (toV m vars).ops.length co')]) hB6 (by simp[Cls,go_sem,F5,y5w1,y5w10,y5w40]);have F6:=C6;simp only[Cls,and_true] at F6;have y6w1:w.heap.size+1 < w6.heap.size:=C6.blk (b:=w.heap.size+1) (k:=0) (v:=.int .i64 0) (by simp);have y6w10:w1.heap.size < w6.heap.size:=C6.blk (b:=w1.heap.size) (k:=0) (v:=.int .i64 0) (by simp);have y6w40:w4.heap.size < w6.heap.size:=C6.blk (b:=w4.heap.size) (k:=0) (v:=.slice As' (toV m vars).sizes.length cs') (by simp);obtain⟨A6,c6,hv6,-,hI6⟩:=hO6.form;subst hv6;have HI6:=lHd hI6;clear hI6 hO6;have hSS:w6.cell? ⟨w4.heap.size,0,none⟩=some (.slice As' (toV m vars).sizes.length cs')/\w6.cell? ⟨w4.heap.size,1,none⟩=some (.slice Ai' (toV m vars).init.length ci')/\w6.cell? ⟨w4.heap.size,2,none⟩=some (.slice Ag' (toV m vars).goal.length cg')/\w6.cell? ⟨w4.heap.size,3,none⟩=some (.slice Ao' (toV m vars).ops.length co')/\w6.cell? ⟨w1.heap.size,0,none⟩=some (.int .i64 0)/\w6.cell? ⟨w1.heap.size,1,none⟩=some (.int .i64 0):=(by simp[F6])
 go_wp2_with fail
 refine hK.out _ _ hSS ?_;clear hK K
 try simp only[ap]
 refine xJ3 (i:=7) (by kernel_rfl) rfl (fun K hK=>?_);go_simp;go_at_call 46;refine (zZ0 _ _ _ _ _ _ _ (HP.out.sizes.below bch) HI6.out HSV.out HSM.out (fun j hj=>(HS6.out j hj).2)).mono ?_;rintro e w9 ⟨he,rfl⟩;subst he;obtain⟨⟨hr0,hr1⟩,_⟩:=HSM.out.rk;obtain⟨r,hr⟩:=Int.eq_ofNat_of_zero_le hr0;have hrr:rkA (toV m vars).sizes (xXq st vars)=(r:Int):=hr;rw[hrr];have hr2:r < (xWg (toV m vars).sizes).length:=(by have h:(r:Int) < ((xWg (toV m vars).sizes).length:Int):=hr ▸ hr1;omega);have hr3:(r:Int) < ((xWg (toV m vars).sizes).length:Int):=(by omega);have hAD6:=HAD.out.below hB6;obtain⟨d,hd,hdc,hdf⟩:=hAD6.cell (i:=r) (by rw[HDL.out];exact hr2);have HVD:=lHd (show DVal m vars st d from ⟨_,HDO.out,by show d=xJ2 D (rkA (toV m vars).sizes (xXq st vars));rw[hrr];exact (xJ5 (by rw[Int.toNat_natCast];exact hd.out)).symm⟩);clear hr0 hr1 hr;have hSS:w6.cell? ⟨w4.heap.size,0,none⟩=some (.slice As' (toV m vars).sizes.length cs')/\w6.cell? ⟨w4.heap.size,1,none⟩=some (.slice Ai' (toV m vars).init.length ci')/\w6.cell? ⟨w4.heap.size,2,none⟩=some (.slice Ag' (toV m vars).goal.length cg')/\w6.cell? ⟨w4.heap.size,3,none⟩=some (.slice Ao' (toV m vars).ops.length co')/\w6.cell? ⟨w1.heap.size,0,none⟩=some (.int .i64 0)/\w6.cell? ⟨w1.heap.size,1,none⟩=some (.int .i64 0):=(by simp[F6])
 go_wp2_with fail
 refine hK.out _ _ hSS ?_;clear hK K
 try simp only[ap]
 refine xJl (i:=8) (v:=?vz18) rfl (by kernel_rfl) (by kernel_rfl) (by kernel_rfl) (by kernel_rfl) (by kernel_rfl) (fun _ _ _ h=>h) (Or.inl ⟨by rfl,?hz18⟩) (by assumption) ?rz18
 case hz18=>(intro w hSw;(try dsimp only at hSw);go_simp;(try with_reducible rfl))
 try simp only[ap]
 refine xJ3 (i:=9) (by kernel_rfl) rfl (fun K hK=>?_);go_simp
 go_wp2_with fail
 have hSS:w6.cell? ⟨w4.heap.size,0,none⟩=some (.slice As' (toV m vars).sizes.length cs')/\w6.cell? ⟨w4.heap.size,1,none⟩=some (.slice Ai' (toV m vars).init.length ci')/\w6.cell? ⟨w4.heap.size,2,none⟩=some (.slice Ag' (toV m vars).goal.length cg')/\w6.cell? ⟨w4.heap.size,3,none⟩=some (.slice Ao' (toV m vars).ops.length co')/\w6.cell? ⟨w1.heap.size,0,none⟩=some (.int .i64 0)/\w6.cell? ⟨w1.heap.size,1,none⟩=some (.int .i64 0):=(by simp[F6]);refine hK.out _ _ hSS ?_;clear hK K
 try simp only[ap]
 refine xJl (i:=11) (v:=?vz111) rfl (by kernel_rfl) (by kernel_rfl) (by kernel_rfl) (by kernel_rfl) (by kernel_rfl) (fun _ _ _ h=>h) (Or.inl ⟨by rfl,?hz111⟩) (by assumption) ?rz111
 case hz111=>(intro w hSw;(try dsimp only at hSw);go_simp;(try with_reducible rfl))
 try simp only[ap]
 refine xJc (i:=12) (by kernel_rfl) rfl (by kernel_rfl) (fun K hK=>?_);go_simp
 go_wp2_with fail
 refine hK.out _ _ ?_;clear hK K
 try simp only[ap]
 refine xJ7 (by kernel_rfl) ?_ _;go_wp2;refine bodyPost_ret (v:=.tuple #[.int .i64 d,.agg #[.int .i64 0,.int .i64 0]]) ?_ rfl ⟨d,rfl,HVD.out,bch⟩;simp[results,Tryz.results15,go_sem,F6,y6w1,y6w10,y6w40]
noncomputable def zJd(o:MopV)(vars:List Int):Bool:=@decide (zZm o vars) (Classical.propDecidable _)
theorem xQf{o:MopV}{vars:List Int}:zJd o vars=true↔zZm o vars:=by unfold zJd;exact @decide_eq_true_iff _ (Classical.propDecidable _)
theorem zK1{o:MopV}{vars:List Int}:zJd o vars=false↔¬ zZm o vars:=by unfold zJd;exact @decide_eq_false_iff_not _ (Classical.propDecidable _)
theorem zVr:xXm 130:=fun args w=>by kernel_rfl
theorem vQe(b:Nat)(V:Option Addr)(c:Nat)(vars:List Int)(v x:Int)(w:World)(hb:w.cell? ⟨b,0,none⟩=some (.slice V vars.length c))(hV:Ints w V vars)(hlv:vars.length<=9223372036854775807) :
  Calls Tryz.prog 130 #[.agg #[.int .i64 v,.int .i64 x],.pointer (some ⟨b,0,none⟩)] w fun e w'=>e=.returned (.bool (decide (v∈vars)))/\Below w.heap.size w w':=by
 have hbl:=World.block_lt_of_cell? w _ hb;go_enter Tryz.func130,Tryz.ntmps130
 go_wp2_with fail
 refine (zZf _ _ _ _ _ (hV.below bch) hlv).mono ?_;rintro e w1 ⟨rfl,hB⟩;go_wp2;go_ret;exact⟨rfl,xJ4 w hB bch⟩
theorem xVj(w:World)(o:MopV)(A0 A1:Option Addr)(c0 c1:Nat)(ha:AsAt w A0 o.pre/\AsAt w A1 o.post)(hln:lenOk o.pre.length/\lenOk o.post.length)(V:Option Addr)(c:Nat)(vars:List Int)(hV:Ints w V vars)(hlv:vars.length<=9223372036854775807) :
  Calls Tryz.prog 91 #[.agg #[.slice A0 o.pre.length c0,.slice A1 o.post.length c1,.int .i64 o.cost],.slice V vars.length c] w fun e w'=>e=.returned (.bool (zJd o vars))/\Below w.heap.size w w':=by
 have hl1:=hln.2.le;have D0:Below w.heap.size w ((w.alloc (.cells #[.slice A0 o.pre.length c0,.slice A1 o.post.length c1,.int .i64 o.cost] 156)).alloc (.cells #[.slice V vars.length c] 22)):=bch;have hc:((w.alloc (.cells #[.slice A0 o.pre.length c0,.slice A1 o.post.length c1,.int .i64 o.cost] 156)).alloc (.cells #[.slice V vars.length c] 22)).cell? ⟨w.heap.size+1,0,none⟩=some (.slice V vars.length c):=by simp[go_sem]
 have hT:zXy 130 #[.pointer (some ⟨w.heap.size+1,0,none⟩)] o.post (fun a=>decide (a.1∈vars)) ((w.alloc (.cells #[.slice A0 o.pre.length c0,.slice A1 o.post.length c1,.int .i64 o.cost] 156)).alloc (.cells #[.slice V vars.length c] 22)):=by
  intro v x hm wr hB;have hc':wr.cell? ⟨w.heap.size+1,0,none⟩=some (.slice V vars.length c):=(hB.cell (World.block_lt_of_cell? _ _ hc)).trans hc;exact vQe (w.heap.size+1) V c vars v x wr hc' ((hV.below D0).below hB) hlv
 by_cases hh:zZm o vars
 ·have HH:=lHd (xQf.2 hh);have HV:Hid (∃ a∈o.post,decide (a.1∈vars)=true):=lHd (by obtain⟨a,ha,h⟩:=hh;exact⟨a,ha,decide_eq_true h⟩);clear hh;go_enter Tryz.func91,Tryz.ntmps91
  go_wp2_with fail
  refine (xZ6 _ _ o.post _ _ (fun a=>decide (a.1∈vars)) _ (ha.2.below D0) hl1 zVr hT true (iff_of_true rfl HV.out)).mono ?_;rintro e w1 ⟨rfl,hB⟩;go_wp2;go_ret;exact⟨xJh HH.out.symm,xJ4 w hB D0⟩
 ·have HH:=lHd (zK1.2 hh);have HV:Hid (¬ ∃ a∈o.post,decide (a.1∈vars)=true):=lHd (by rintro ⟨a,ha,h⟩;exact hh ⟨a,ha,of_decide_eq_true h⟩);clear hh;go_enter Tryz.func91,Tryz.ntmps91
  go_wp2_with fail
  refine (xZ6 _ _ o.post _ _ (fun a=>decide (a.1∈vars)) _ (ha.2.below D0) hl1 zVr hT false (iff_of_false (by decide) HV.out)).mono ?_;rintro e w1 ⟨rfl,hB⟩;go_wp2;go_ret;exact⟨xJh HH.out.symm,xJ4 w hB D0⟩
theorem zVs:xXm 90:=fun args w=>by kernel_rfl
theorem vQf(ba bb:Nat)(U V:Option Addr)(cu cv:Nat)(va vb:List Int)(o:MopV)(A0 A1:Option Addr)(c0 c1:Nat)(w:World)(ha:AsAt w A0 o.pre/\AsAt w A1 o.post)(hln:lenOk o.pre.length/\lenOk o.post.length)
  (hba:w.cell? ⟨ba,0,none⟩=some (.slice U va.length cu)) (hbb:w.cell? ⟨bb,0,none⟩=some (.slice V vb.length cv)) (hU:Ints w U va) (hV:Ints w V vb) (hlva:va.length<=9223372036854775807) (hlvb:vb.length<=9223372036854775807) :
  Calls Tryz.prog 90 #[.agg #[.slice A0 o.pre.length c0,.slice A1 o.post.length c1,.int .i64 o.cost],.pointer (some ⟨ba,0,none⟩),.pointer (some ⟨bb,0,none⟩)] w fun e w'=>e=.returned (.bool (zJd o va && zJd o vb))/\Below w.heap.size w w':=by
 have hbla:=World.block_lt_of_cell? w _ hba;have hblb:=World.block_lt_of_cell? w _ hbb
 cases hx:zJd o va with
 | false=>
  have HX:=lHd hx;clear hx;go_enter Tryz.func90,Tryz.ntmps90
  go_wp2_with fail
  refine (xVj _ _ _ _ _ _ ⟨ha.1.below bch,ha.2.below bch⟩ hln _ _ _ (hU.below bch) hlva).mono ?_;rintro e w1 ⟨he,hB1⟩;rw[HX.out] at he;subst he;have D1:=xJ4 w hB1 bch;have C1:=Cls.below (l:=[(w.heap.size,0,.slice A0 o.pre.length c0),(w.heap.size,1,.slice A1 o.post.length c1),(w.heap.size,2,.int .i64 o.cost)]) hB1 (by simp[Cls,go_sem]);have F1:=C1;simp only[Cls,and_true] at F1;have y1w0:w.heap.size < w1.heap.size:=C1.blk (b:=w.heap.size) (k:=0) (v:=.slice A0 o.pre.length c0) (by simp);go_wp2;go_ret;exact⟨by simp,bch⟩
 | true=>
  have HX:=lHd hx;clear hx;obtain⟨z,hz⟩:∃ z,Hid (zJd o vb=z):=⟨_,lHd rfl⟩;rw[hz.out];go_enter Tryz.func90,Tryz.ntmps90
  go_wp2_with fail
  refine (xVj _ _ _ _ _ _ ⟨ha.1.below bch,ha.2.below bch⟩ hln _ _ _ (hU.below bch) hlva).mono ?_;rintro e w1 ⟨he,hB1⟩;rw[HX.out] at he;subst he;have D1:=xJ4 w hB1 bch;have C1:=Cls.below (l:=[(w.heap.size,0,.slice A0 o.pre.length c0),(w.heap.size,1,.slice A1 o.post.length c1),(w.heap.size,2,.int .i64 o.cost)]) hB1 (by simp[Cls,go_sem]);have F1:=C1;simp only[Cls,and_true] at F1;have y1w0:w.heap.size < w1.heap.size:=C1.blk (b:=w.heap.size) (k:=0) (v:=.slice A0 o.pre.length c0) (by simp);have hbb1:=(D1.cell hblb).trans hbb
  go_wp2_with fail
  refine (xVj _ _ _ _ _ _ ⟨ha.1.below bch,ha.2.below bch⟩ hln _ _ _ (hV.below bch) hlvb).mono ?_;rintro e w2 ⟨he,hB2⟩;rw[hz.out] at he;subst he;have D2:=xJ4 w hB2 bch;have C2:=Cls.below (l:=[(w.heap.size,0,.slice A0 o.pre.length c0),(w.heap.size,1,.slice A1 o.post.length c1),(w.heap.size,2,.int .i64 o.cost)]) hB2 (by simp[Cls,go_sem,F1,y1w0]);have y2w0:w.heap.size < w2.heap.size:=C2.blk (b:=w.heap.size) (k:=0) (v:=.slice A0 o.pre.length c0) (by simp);go_wp2;go_ret;exact⟨by simp,bch⟩
def vYn(ops:List MopV)(a b:List Int):Prop:=∀ o∈ops,¬ (zZm o a/\zZm o b)
noncomputable def zK2(ops:List MopV)(a b:List Int):Bool:=@decide (vYn ops a b) (Classical.propDecidable _)
theorem xKb{ops:List MopV}{a b:List Int}:zK2 ops a b=true↔vYn ops a b:=by unfold zK2;exact @decide_eq_true_iff _ (Classical.propDecidable _)
theorem zK3{ops:List MopV}{a b:List Int}:zK2 ops a b=false↔¬ vYn ops a b:=by unfold zK2;exact @decide_eq_false_iff_not _ (Classical.propDecidable _)
theorem zWx{ops:List MopV}{a b:List Int}:(∃ o∈ops,(zJd o a && zJd o b)=true)↔¬ vYn ops a b:=by
 constructor
 ·rintro ⟨o,ho,h⟩ hc;rw[Bool.and_eq_true] at h;exact hc o ho ⟨xQf.1 h.1,xQf.1 h.2⟩
 ·intro h;refine Classical.byContradiction fun hn=>h fun o ho hc=>hn ⟨o,ho,?_⟩
  rw[Bool.and_eq_true];exact⟨xQf.2 hc.1,xQf.2 hc.2⟩
theorem xWe(w:World)(m:MtV)(As Ai Ag Ao:Option Addr)(cs ci cg co:Nat)(hM:MMem w As Ai Ag Ao m)(U:Option Addr)(cu:Nat)(va:List Int)(hU:Ints w U va)(hlva:va.length<=9223372036854775807)(V:Option Addr)(cv:Nat)(vb:List Int)(hV:Ints w V vb)(hlvb:vb.length<=9223372036854775807) :
  Calls Tryz.prog 40 #[.agg #[.slice As m.sizes.length cs,.slice Ai m.init.length ci,.slice Ag m.goal.length cg,.slice Ao m.ops.length co],.slice U va.length cu,.slice V vb.length cv] w fun e w'=>e=.returned (.bool (zK2 m.ops va vb))/\Below w.heap.size w w':=by
 have hlo:=hM.lops.le;have D0:Below w.heap.size w (((w.alloc (.cells #[.slice As m.sizes.length cs,.slice Ai m.init.length ci,.slice Ag m.goal.length cg,.slice Ao m.ops.length co] 43)).alloc (.cells #[.slice U va.length cu] 22)).alloc (.cells #[.slice V vb.length cv] 22)):=bch;have hca:(((w.alloc (.cells #[.slice As m.sizes.length cs,.slice Ai m.init.length ci,.slice Ag m.goal.length cg,.slice Ao m.ops.length co] 43)).alloc (.cells #[.slice U va.length cu] 22)).alloc (.cells #[.slice V vb.length cv] 22)).cell? ⟨w.heap.size+1,0,none⟩=some (.slice U va.length cu):=by simp[go_sem]
 have hcb:(((w.alloc (.cells #[.slice As m.sizes.length cs,.slice Ai m.init.length ci,.slice Ag m.goal.length cg,.slice Ao m.ops.length co] 43)).alloc (.cells #[.slice U va.length cu] 22)).alloc (.cells #[.slice V vb.length cv] 22)).cell? ⟨w.heap.size+1+1,0,none⟩=some (.slice V vb.length cv):=by simp[go_sem]
 have hT:zY4 90 #[.pointer (some ⟨w.heap.size+1,0,none⟩),.pointer (some ⟨w.heap.size+1+1,0,none⟩)] m.ops (fun o=>zJd o va && zJd o vb) (((w.alloc (.cells #[.slice As m.sizes.length cs,.slice Ai m.init.length ci,.slice Ag m.goal.length cg,.slice Ao m.ops.length co] 43)).alloc (.cells #[.slice U va.length cu] 22)).alloc (.cells #[.slice V vb.length cv] 22)):=by
  intro o A0 A1 c0 c1 wr hm hB ha hln;have hca':wr.cell? ⟨w.heap.size+1,0,none⟩=some (.slice U va.length cu):=(hB.cell (World.block_lt_of_cell? _ _ hca)).trans hca;have hcb':wr.cell? ⟨w.heap.size+1+1,0,none⟩=some (.slice V vb.length cv):=(hB.cell (World.block_lt_of_cell? _ _ hcb)).trans hcb;exact vQf _ _ _ _ _ _ _ _ o A0 A1 c0 c1 wr ha hln hca' hcb' ((hU.below D0).below hB) ((hV.below D0).below hB) hlva hlvb
 by_cases hh:vYn m.ops va vb
 ·have HH:=lHd (xKb.2 hh);have HV:=lHd (show ¬ ∃ o∈m.ops,(zJd o va && zJd o vb)=true from fun h=>zWx.1 h hh);clear hh;go_enter Tryz.func40,Tryz.ntmps40
  go_wp2_with fail
  refine (xVr _ _ m.ops _ _ (fun o=>zJd o va && zJd o vb) _ (hM.ops.below D0) hlo zVs hT false (iff_of_false (by decide) HV.out)).mono ?_;rintro e w1 ⟨rfl,hB⟩;go_wp2;go_ret;exact⟨xJh HH.out.symm,xJ4 w hB D0⟩
 ·have HH:=lHd (zK3.2 hh);have HV:=lHd (zWx.2 hh);clear hh;go_enter Tryz.func40,Tryz.ntmps40
  go_wp2_with fail
  refine (xVr _ _ m.ops _ _ (fun o=>zJd o va && zJd o vb) _ (hM.ops.below D0) hlo zVs hT true (iff_of_true rfl HV.out)).mono ?_;rintro e w1 ⟨rfl,hB⟩;go_wp2;go_ret;exact⟨xJh HH.out.symm,xJ4 w hB D0⟩
def vYs(x y:OpV):Prop:=(∀ q∈x.add,q∉y.pre)/\(∀ q∈x.del,q∉y.pre)/\∀ q∈x.add,q∉y.del
def IndV(a b:OpV):Prop:=vYs a b/\vYs b a
theorem vJ4{n:Nat}{l:List Int}{a b:OpV}(h:IndV a b):xJe n (xJe n l a) b=xJe n (xJe n l b) a:=by
 obtain⟨⟨_,_,h1⟩,⟨_,_,h2⟩⟩:=h;have key:∀ (l:List Int) (o:OpV) (x:Int),(x∈(List.range n).map fun (p:Nat)=>(p:Int))->(x∈xJe n l o↔x∈o.add\/(x∈l/\x∉o.del)):=fun l o x hx=>by
  rw[xJn];obtain⟨k,hk,rfl⟩:=List.mem_map.1 hx;rw[List.mem_range] at hk;constructor
  ·exact fun h=>h.2
  ·exact fun h=>⟨by omega,h⟩
 show List.filter _ _=List.filter _ _;refine List.filter_congr fun x hx=>?_
 rw[decide_eq_decide];rw[key l a x hx,key l b x hx];have:=h1 x;have:=h2 x
 by_cases ha:x∈a.add <;> by_cases hb:x∈b.add <;> by_cases hda:x∈a.del <;> by_cases hdb:x∈b.del <;> by_cases hl:x∈l <;> simp_all
theorem zVv{n:Nat}{l:List Int}{a o:OpV}(h:vYs a o)(hr:∀ q∈o.pre,0<=q/\q < (n:Int))(hp:∀ q∈o.pre,q∈l):∀ q∈o.pre,q∈xJe n l a:=fun q hq=>
 xJn.2 ⟨hr q hq,.inr ⟨hp q hq,fun hd=>h.2.1 q hd hq⟩⟩
theorem Fp.move{n:Nat}{ops:List OpV}{goal:List Int}(hr:∀ o∈ops,∀ q∈o.pre,0<=q/\q < (n:Int)){k:Nat}{o:OpV}(hk:ops[k]? = some o){B:List Nat} :
  ∀ {A:List Nat} {s:List Int},(∀ q∈o.pre,q∈s)->(∀ a∈A,∀ oa,ops[a]? = some oa->IndV o oa)->Fp n ops goal s (A ++ k :: B)->Fp n ops goal s (k :: (A ++ B)):=by
 intro A
 induction A with
 | nil=>intro s _ _ h;exact h
 | cons a A ih=>
  intro s hp hi h
  cases h with
  | @cons _ _ oa _ h1 h2 h3=>
   have hia:=hi a (List.mem_cons_self ..) oa h1;have h4:=ih (zVv hia.2 (hr o (lMg hk)) hp) (fun b hb=>hi b (List.mem_cons_of_mem _ hb)) h3
   cases h4 with
   | @cons _ _ o' _ h5 h6 h7=>
    rw[hk] at h5;obtain rfl:=Option.some.inj h5;refine .cons hk hp (.cons h1 (zVv hia.1 (hr oa (lMg h1)) h2) ?_);rw[vJ4 hia];exact h7
theorem Fp.adds{n:Nat}{ops:List OpV}{goal:List Int}{s:List Int}{ps:List Nat}(h:Fp n ops goal s ps){g:Int}(hg:g∈goal):g∉s->∃ p∈ps,∃ o,ops[p]? = some o/\g∈o.add:=by
 induction h with
 | nil h=>exact fun hn=>absurd (h g hg) hn
 | @cons l p o ps h1 h2 h3 ih=>
  intro hn
  by_cases e:g∈xJe n l o
  ·rcases (xJn.1 e).2 with h4 | h4
   ·exact⟨p,List.mem_cons_self ..,o,h1,h4⟩
   ·exact absurd h4.1 hn
  ·obtain⟨q,hq,r⟩:=ih e;exact⟨q,List.mem_cons_of_mem _ hq,r⟩
theorem Fp.adds2{n:Nat}{ops:List OpV}{goal:List Int}{k:Nat}{o:OpV}(hk:ops[k]? = some o){B:List Nat}{g:Int}(hg:g∈o.pre):∀ {A:List Nat} {s:List Int},Fp n ops goal s (A ++ k :: B)->g∉s->∃ p∈A,∃ o,ops[p]? = some o/\g∈o.add:=by
 intro A
 induction A with
 | nil=>
  intro s h hn
  cases h with
  | cons h1 h2 _=>
   rw[hk] at h1;obtain rfl:=Option.some.inj h1;exact absurd (h2 g hg) hn
 | cons a A ih=>
  intro s h hn
  cases h with
  | @cons _ _ oa _ h1 h2 h3=>
   by_cases e:g∈xJe n s oa
   ·rcases (xJn.1 e).2 with h4 | h4
    ·exact⟨a,List.mem_cons_self ..,oa,h1,h4⟩
    ·exact absurd h4.1 hn
   ·obtain⟨q,hq,r⟩:=ih h3 e;exact⟨q,List.mem_cons_of_mem _ hq,r⟩
theorem vQi{S:Nat->Prop}:∀ {ps:List Nat},(∃ p∈ps,S p)->∃ A k B,ps=A ++ k :: B/\S k/\∀ a∈A,¬ S a:=by
 intro ps
 induction ps with
 | nil=>rintro ⟨p,hp,_⟩;cases hp
 | cons a ps ih=>
  rintro ⟨p,hp,hs⟩
  by_cases ha:S a
  ·exact⟨[],a,ps,rfl,ha,by simp⟩
  ·rcases List.mem_cons.1 hp with e | e
   ·subst e;exact absurd hs ha
   ·obtain⟨A,k,B,h1,h2,h3⟩:=ih ⟨p,e,hs⟩;refine⟨a :: A,k,B,by rw[h1];rfl,h2,fun b hb=>?_⟩;rcases List.mem_cons.1 hb with e | e
    ·subst e;exact ha
    ·exact h3 b e
structure Stub(ops:List OpV)(goal s:List Int)(S:Nat->Prop):Prop where
 goal:∃ g∈goal,g∉s/\∀ i o,ops[i]? = some o->g∈o.add->S i
 step:∀ i o,S i->ops[i]? = some o->(∃ q∈o.pre,q∉s/\∀ j o',ops[j]? = some o'->q∈o'.add->S j)\/((∀ q∈o.pre,q∈s)/\∀ j o',ops[j]? = some o'->¬ IndV o o'->S j)
theorem Stub.path{n:Nat}{ops:List OpV}{goal s:List Int}{S:Nat->Prop}(h:Stub ops goal s S)(hr:∀ o∈ops,∀ q∈o.pre,0<=q/\q < (n:Int)){ps:List Nat}(hp:Fp n ops goal s ps) :
  ∃ k o ps',S k/\ops[k]? = some o/\(∀ q∈o.pre,q∈s)/\Fp n ops goal (xJe n s o) ps'/\(k :: ps').Perm ps:=by
 obtain⟨g,hg,hn,hS⟩:=h.goal;obtain⟨p,hpm,o,h1,h2⟩:=hp.adds hg hn;obtain⟨A,k,B,rfl,hk,hA⟩:=vQi (S:=S) ⟨p,hpm,hS p o h1 h2⟩;have hko:∃ o,ops[k]? = some o:=by
  clear hpm;have:∀ {A:List Nat} {s:List Int},Fp n ops goal s (A ++ k :: B)->∃ o,ops[k]? = some o:=by
   intro A
   induction A with
   | nil=>intro s h;cases h with | cons h1 _ _=>exact⟨_,h1⟩
   | cons a A ih=>intro s h;cases h with | cons _ _ h3=>exact ih h3
  exact this hp
 obtain⟨o,ho⟩:=hko;rcases h.step k o hk ho with ⟨q,hq,hqs,hadd⟩ | ⟨hpre,hind⟩
 ·obtain⟨a,ha,oa,h3,h4⟩:=Fp.adds2 ho hq hp hqs;exact absurd (hadd a oa h3 h4) (hA a ha)
 ·have h5:=Fp.move hr ho hpre (fun a ha oa hoa=>Classical.byContradiction fun hni=>hA a ha (hind a oa hoa hni)) hp
  cases h5 with
  | @cons _ _ o' _ h6 h7 h8=>
   rw[ho] at h6;obtain rfl:=Option.some.inj h6;exact⟨k,o,A ++ B,hk,ho,hpre,h8,List.perm_middle.symm⟩
theorem zQq{cs:List Int}{a b:List Nat}(h:a.Perm b):xJ9 cs a=xJ9 cs b:=by
 unfold xJ9
 induction h with
 | nil=>rfl
 | cons x _ ih=>rw[List.map_cons,List.sum_cons,List.map_cons,List.sum_cons,ih]
 | swap x y l=>simp only[List.map_cons,List.sum_cons];omega
 | trans _ _ h1 h2=>rw[h1,h2]
structure NodeV where
 state:List Int
 cost:Int
 parent:Int
 op:Int
structure DN(n:Nat)(ops:List OpV)(st:List Int)(N:List NodeV):Prop where
 n0:∃ nd,N[0]? = some nd/\nd.state=st/\nd.cost=0/\nd.parent = -1
 par:∀ (j:Nat) (nd:NodeV),N[j]? = some nd->0 < j->∃ (p k:Nat) (np:NodeV) (o:OpV),nd.parent=(p:Int)/\p < j/\N[p]? = some np/\nd.op=(k:Int)/\ops[k]? = some o/\(∀ q∈o.pre,q∈np.state)/\nd.state=xJe n np.state o/\nd.cost=np.cost+o.cost
inductive Up(N:List NodeV):Nat->List Nat->Prop
 | nil {j:Nat} {nd:NodeV}:N[j]? = some nd->nd.parent = -1->Up N j []
 | snoc {j p k:Nat} {nd:NodeV} {ps:List Nat}:N[j]? = some nd->nd.parent=(p:Int)->nd.op=(k:Int)->p < j->Up N p ps->Up N j (ps ++ [k])
theorem DN.up{n:Nat}{ops:List OpV}{st:List Int}{N:List NodeV}(h:DN n ops st N):∀ (m j:Nat),j<=m->∀ nd,N[j]? = some nd->∃ ps,Up N j ps/\Pth n ops st nd.state ps/\xJ9 (ops.map (·.cost)) ps=nd.cost/\ps.length<=j:=by
 have base:∀ nd,N[0]? = some nd->∃ ps,Up N 0 ps/\Pth n ops st nd.state ps/\xJ9 (ops.map (·.cost)) ps=nd.cost/\ps.length<=0:=fun nd hn=>by
  obtain⟨nd',h1,h2,h3,h4⟩:=h.n0;rw[hn] at h1;obtain rfl:=Option.some.inj h1;exact⟨[],.nil hn h4,by rw[h2];exact .init,by rw[h3];rfl,Nat.le_refl _⟩
 intro m
 induction m with
 | zero=>
   intro j hj nd hn;obtain rfl:j=0:=by omega
   exact base nd hn
 | succ m ih=>
  intro j hj nd hn
  by_cases hj0:j=0
  ·subst hj0;exact base nd hn
  ·obtain⟨p,k,np,o,h1,h2,h3,h4,h5,h6,h7,h8⟩:=h.par j nd hn (by omega);obtain⟨ps,i1,i2,i3,i4⟩:=ih p (by omega) np h3;refine⟨ps ++ [k],.snoc hn h1 h4 h2 i1,by rw[h7];exact .step i2 h5 h6,?_,by rw[List.length_append];simp;omega⟩;rw[xZf,xJx h5,i3,h8]
theorem zXx{ops:List OpV}(hc:∀ o∈ops,0<=o.cost)(ps:List Nat):0<=xJ9 (ops.map (·.cost)) ps:=by
 induction ps with
 | nil=>simp[xJ9]
 | cons p ps ih=>
  rw[xJi];have:0<=xJ2 (ops.map (·.cost)) (p:Int):=by
   unfold xJ2
   cases e:(ops.map (·.cost))[((p:Int)).toNat]? with
   | none=>simp
   | some v=>
    obtain⟨o,h1,h2⟩:=List.mem_map.1 (lMg e);rw[<- h2];exact hc o h1
  omega
structure DS(n:Nat)(ops:List OpV)(goal st:List Int)(N:List NodeV)(hp:List Nat)(cl:List Int->Option Int):Prop where
 lt:∀ j∈hp,j < N.length
 start:(∃ c,cl st=some c/\c<=0)\/0∈hp
 mono:∀ x c,cl x=some c->∀ j∈hp,∀ nd,N[j]? = some nd->c<=nd.cost
 step:∀ x c,cl x=some c->∃ S,Stub ops goal x S/\∀ k o,S k->ops[k]? = some o->(∀ q∈o.pre,q∈x)->(∃ c',cl (xJe n x o)=some c'/\c'<=c+o.cost)\/∃ j∈hp,∃ nd,N[j]? = some nd/\nd.state=xJe n x o/\nd.cost<=c+o.cost
section
variable {n:Nat}{ops:List OpV}{goal st:List Int}{N:List NodeV}{hp rest:List Nat}{cl:List Int->Option Int}
theorem DS.front(h:DS n ops goal st N hp cl)(hr:∀ o∈ops,∀ q∈o.pre,0<=q/\q < (n:Int))(hc0:∀ o∈ops,0<=o.cost):∀ (m:Nat) (ps:List Nat) (x:List Int) (c:Int),ps.length<=m->cl x=some c->Fp n ops goal x ps->∃ j∈hp,∃ nd,N[j]? = some nd/\nd.cost<=c+xJ9 (ops.map (·.cost)) ps:=by
 intro m
 induction m with
 | zero=>
  intro ps x c hl hx hf;obtain⟨S,h1,h2⟩:=h.step x c hx;obtain⟨k,o,ps',_,_,_,_,hq⟩:=h1.path hr hf;have:=hq.length_eq;rw[List.length_cons] at this;omega
 | succ m ih=>
  intro ps x c hl hx hf;obtain⟨S,h1,h2⟩:=h.step x c hx;obtain⟨k,o,ps',h3,h4,h5,h6,hq⟩:=h1.path hr hf;have hlen:=hq.length_eq;rw[List.length_cons] at hlen;have hc:=zQq (cs:=ops.map (·.cost)) hq;rw[xJi,xJx h4] at hc;rcases h2 k o h3 h4 h5 with ⟨c',h7,h8⟩ | ⟨j,hj,nd,h7,h8,h9⟩
  ·obtain⟨j,hj,nd,h10,h11⟩:=ih ps' _ c' (by omega) h7 h6;exact⟨j,hj,nd,h10,by omega⟩
  ·refine⟨j,hj,nd,h7,?_⟩;have:=zXx hc0 ps';omega
end
inductive FpA(n:Nat)(ops:List OpV)(goal:List Int)(A:List (List Int)):List Int->List Nat->Prop
 | nil {l:List Int}:l∈A->(∀ q∈goal,q∈l)->FpA n ops goal A l []
 | cons {l:List Int} {p:Nat} {o:OpV} {ps:List Nat}:l∈A->ops[p]? = some o->(∀ q∈o.pre,q∈l)->FpA n ops goal A (xJe n l o) ps->FpA n ops goal A l (p :: ps)
section
variable {n:Nat}{ops:List OpV}{goal:List Int}{A:List (List Int)}
theorem FpA.mem{x:List Int}{ps:List Nat}(h:FpA n ops goal A x ps):x∈A:=by cases h <;> assumption
theorem Fp.all(hA:∀ l∈A,∀ (p:Nat) (o:OpV),ops[p]? = some o->(∀ q∈o.pre,q∈l)->xJe n l o∈A){x:List Int}{ps:List Nat}(h:Fp n ops goal x ps):x∈A->FpA n ops goal A x ps:=by
 induction h with
 | nil h=>exact fun hx=>.nil hx h
 | cons h1 h2 _ ih=>exact fun hx=>.cons hx h1 h2 (ih (hA _ hx _ _ h1 h2))
theorem FpA.last(hc0:∀ o∈ops,0<=o.cost)(l:List Int){x:List Int}{ps:List Nat}(h:FpA n ops goal A x ps):FpA n ops goal (A.filter (fun y=>decide (y≠l))) x ps \/
  ((∀ q∈goal,q∈l)\/∃ p o ps',ops[p]? = some o/\(∀ q∈o.pre,q∈l)/\FpA n ops goal (A.filter (fun y=>decide (y≠l))) (xJe n l o) ps'/\xJ9 (ops.map (·.cost)) (p :: ps')<=xJ9 (ops.map (·.cost)) ps):=by
 induction h with
 | @nil x hx hg=>
  by_cases e:x=l
  ·subst e;exact .inr (.inl hg)
  ·exact .inl (.nil (List.mem_filter.2 ⟨hx,by simpa using e⟩) hg)
 | @cons x p o ps hx h1 h2 h3 ih=>
  have hcp:=hc0 o (lMg h1);rcases ih with h4 | h4 | ⟨p',o',ps',h5,h6,h7,h8⟩
  ·by_cases e:x=l
   ·subst e;exact .inr (.inr ⟨p,o,ps,h1,h2,h4,Int.le_refl _⟩)
   ·exact .inl (.cons (List.mem_filter.2 ⟨hx,by simpa using e⟩) h1 h2 h4)
  ·exact .inr (.inl h4)
  ·refine .inr (.inr ⟨p',o',ps',h5,h6,h7,?_⟩);rw[xJi _ p ps,xJx h1];omega
theorem FpA.short(hc0:∀ o∈ops,0<=o.cost):∀ (k:Nat) {A:List (List Int)} {x:List Int} {ps:List Nat},A.length<=k->FpA n ops goal A x ps->∃ ps',Fp n ops goal x ps'/\xJ9 (ops.map (·.cost)) ps'<=xJ9 (ops.map (·.cost)) ps/\ps'.length < A.length:=by
 intro k
 induction k with
 | zero=>
  intro A x ps hk h;have:=h.mem;have:A=[]:=List.eq_nil_of_length_eq_zero (by omega);subst this
  cases h.mem
 | succ k ih=>
  intro A x ps hk h;have hx:=h.mem;have hpos:0 < A.length:=List.length_pos_of_mem hx;rcases h.last hc0 x with h1 | h1 | ⟨p,o,ps',h1,h2,h3,h4⟩
  ·have:=h1.mem;rw[List.mem_filter] at this;simp at this
  ·exact⟨[],.nil h1,by have:=zXx hc0 ps;simpa[xJ9] using this,by simpa using hpos⟩
  ·have hlen:(A.filter (fun y=>decide (y≠x))).length < A.length:=by
    rcases Nat.lt_or_ge (A.filter (fun y=>decide (y≠x))).length A.length with h5 | h5
    ·exact h5
    ·exfalso;have h6:(A.filter (fun y=>decide (y≠x))).length=A.length:=Nat.le_antisymm (List.length_filter_le ..) h5;have:=List.length_filter_eq_length_iff.1 h6 x hx;simp at this
   obtain⟨qs,i1,i2,i3⟩:=ih (by omega) h3;refine⟨p :: qs,.cons h1 h2 i1,?_,by rw[List.length_cons];omega⟩;rw[xJi] at h4 ⊢;omega
end
theorem zWt{ops:List OpV}{c:Int}(hc:∀ o∈ops,o.cost<=c)(h0:0<=c)(ps:List Nat):xJ9 (ops.map (·.cost)) ps<=c * (ps.length:Int):=by
 induction ps with
 | nil=>simp[xJ9]
 | cons p ps ih=>
  rw[xJi,List.length_cons];have:xJ2 (ops.map (·.cost)) (p:Int)<=c:=by
   unfold xJ2
   cases e:(ops.map (·.cost))[((p:Int)).toNat]? with
   | none=>simpa using h0
   | some v=>
    obtain⟨o,h1,h2⟩:=List.mem_map.1 (lMg e);rw[<- h2];exact hc o h1
  have e:((ps.length+1:Nat):Int)=(ps.length:Int)+1:=by omega
  rw[e,Int.mul_add,Int.mul_one];omega
def rsV(F s:List Int):List Int:=s.filterMap fun p=>if p∈F then some ((F.idxOf p:Nat):Int) else none
def zYy(F:List Int)(o:OpV):OpV:=⟨rsV F o.pre,rsV F o.add,rsV F o.del,o.cost⟩
def opN(ops:List OpV)(i:Nat):OpV:=(ops[i]?).getD ⟨[],[],[],0⟩
def xXd(t:TaskV)(F:List Int)(R:List Nat):TaskV:=⟨F.length,rsV F t.init,rsV F t.goal,R.map fun i=>zYy F (opN t.ops i)⟩
structure RelV(t:TaskV)(F:List Int)(R:List Nat):Prop where
 set:SetP F t.facts
 goal:∀ q∈t.goal,q∈F
 pre:∀ i∈R,∀ q∈(opN t.ops i).pre,q∈F
 out:∀ (i:Nat) (o:OpV),t.ops[i]? = some o->i∉R->∀ q∈o.add,q∉F
 lt:∀ i∈R,i < t.ops.length
 inc:R.Pairwise (· < ·)
theorem SetP.pw{l:List Int}{n:Int}(h:SetP l n):l.Pairwise (· < ·):=by
 have h2:=h.2;clear h
 induction l with
 | nil=>exact List.Pairwise.nil
 | cons a l ih=>
  have h3:=ih (fun i x y hx hy=>h2 (i+1) x y (by simpa using hx) (by simpa using hy));refine List.pairwise_cons.2 ⟨fun b hb=>?_,h3⟩
  cases l with
  | nil=>cases hb
  | cons c l=>
   have h4:=h2 0 a c rfl rfl;rcases List.mem_cons.1 hb with e | e
   ·subst e;exact h4
   ·have:=(List.pairwise_cons.1 h3).1 b e;omega
theorem SetP.of_pw{l:List Int}{n:Int}(hr:∀ x∈l,0<=x/\x < n)(h:l.Pairwise (· < ·)):SetP l n:=
 ⟨hr,fun i x y hx hy=>by
  obtain⟨h1,rfl⟩:=List.getElem?_eq_some_iff.1 hx;obtain⟨h2,rfl⟩:=List.getElem?_eq_some_iff.1 hy;exact List.pairwise_iff_getElem.1 h i (i+1) h1 h2 (by omega)⟩
theorem xQ3{l:List Int}(h:l.Pairwise (· < ·)):l.Nodup:=h.imp (fun h=>by omega)
theorem vWa{F:List Int}(hF:F.Nodup){i:Nat}{x:Int}(h:F[i]? = some x):F.idxOf x=i:=by
 obtain⟨h1,rfl⟩:=List.getElem?_eq_some_iff.1 h;exact hF.idxOf_getElem i h1
theorem zVq{F:List Int}{x:Int}(h:x∈F):F[F.idxOf x]? = some x:=by
 rw[lGe (List.idxOf_lt_length_iff.2 h)];congr 1;exact List.getElem_idxOf (List.idxOf_lt_length_iff.2 h)
theorem xVe{F s:List Int}(hF:F.Nodup){i:Nat}{x:Int}(hi:F[i]? = some x):(i:Int)∈rsV F s↔x∈s:=by
 unfold rsV;rw[List.mem_filterMap];constructor
 ·rintro ⟨y,hy,h⟩
  split at h
  ·rename_i hyF
   injection h with h
   have h1:=zVq hyF;have h2:F.idxOf y=i:=by omega
   rw[h2,hi] at h1;rw[Option.some.inj h1];exact hy
  ·cases h
 ·intro h;refine⟨x,h,?_⟩;rw[if_pos (lMg hi),vWa hF hi]
theorem zWu{F s:List Int}{z:Int}(h:z∈rsV F s):∃ (i:Nat) (x:Int),z=(i:Int)/\F[i]? = some x/\x∈s:=by
 unfold rsV at h;rw[List.mem_filterMap] at h;obtain⟨y,hy,h⟩:=h
 split at h
 ·rename_i hyF
  injection h with h
  exact⟨_,y,h.symm,zVq hyF,hy⟩
 ·cases h
theorem xWm{F s:List Int}{n:Int}(hF:SetP F n)(hs:SetP s n):SetP (rsV F s) (F.length:Int):=by
 refine SetP.of_pw (fun z hz=>?_) ?_
 ·obtain⟨i,x,rfl,h1,_⟩:=zWu hz;have:=(List.getElem?_eq_some_iff.1 h1).1;omega
 ·unfold rsV;rw[List.pairwise_filterMap];refine hs.pw.imp ?_;intro a b hab x hx y hy
  split at hx
  ·rename_i ha
   split at hy
   ·rename_i hb
    injection hx with hx;injection hy with hy
    subst hx;subst hy;have h1:=zVq ha;have h2:=zVq hb;obtain⟨l1,e1⟩:=List.getElem?_eq_some_iff.1 h1;obtain⟨l2,e2⟩:=List.getElem?_eq_some_iff.1 h2;have hlt:F.idxOf a < F.idxOf b:=by
     rcases Nat.lt_trichotomy (F.idxOf a) (F.idxOf b) with h | h | h
     ·exact h
     ·exfalso;have:F[F.idxOf a]? = F[F.idxOf b]?:=by rw[h]
      rw[h1,h2] at this;injection this with this
      omega
     ·have:=List.pairwise_iff_getElem.1 hF.pw _ _ l2 l1 h;omega
    omega
   ·cases hy
  ·cases hx
theorem zWv{ops:List OpV}{i:Nat}{o:OpV}(h:ops[i]? = some o):opN ops i=o:=by unfold opN;rw[h];rfl
section
variable {t:TaskV}{F:List Int}{R:List Nat}{n:Nat}
theorem RelV.sop(h:RelV t F R){r:Nat}{o':OpV}(hr:(xXd t F R).ops[r]? = some o'):∃ i o,i∈R/\R[r]? = some i/\t.ops[i]? = some o/\o'=zYy F o:=by
 have h1:(R.map fun i=>zYy F (opN t.ops i))[r]? = some o':=hr;rw[List.getElem?_map] at h1;obtain⟨i,h2,h3⟩:=Option.map_eq_some_iff.1 h1;have hi:=lMg h2;have h4:t.ops[i]? = some (t.ops[i]'(h.lt i hi)):=lGe _;refine⟨i,_,hi,h2,h4,?_⟩;rw[<- h3,zWv h4]
theorem RelV.at_(h:RelV t F R){i:Nat}{o:OpV}(hi:i∈R)(ho:t.ops[i]? = some o):∃ r:Nat,(xXd t F R).ops[r]? = some (zYy F o):=by
 obtain⟨r,hr⟩:=List.getElem?_of_mem hi;refine⟨r,?_⟩;show (R.map fun i=>zYy F (opN t.ops i))[r]? = _;rw[List.getElem?_map,hr];show some (zYy F (opN t.ops i))=_;rw[zWv ho]
theorem RelV.down(h:RelV t F R)(hn:t.facts=n)(hc0:∀ o∈t.ops,0<=o.cost){l:List Int}{ps:List Nat}(hp:Fp n t.ops t.goal l ps):∀ {l':List Int},(∀ (i:Nat) (x:Int),F[i]? = some x->x∈l->(i:Int)∈l') ->
  ∃ ps',Fp F.length (xXd t F R).ops (xXd t F R).goal l' ps'/\xJ9 ((xXd t F R).ops.map (·.cost)) ps'<=xJ9 (t.ops.map (·.cost)) ps:=by
 have hF:F.Nodup:=xQ3 h.set.pw
 induction hp with
 | @nil l hg=>
  intro l' hl;refine⟨[],.nil fun z hz=>?_,Int.le_refl _⟩;obtain⟨i,x,rfl,h1,h2⟩:=zWu hz;exact hl i x h1 (hg x h2)
 | @cons l p o ps h1 h2 h3 ih=>
  intro l' hl;have hcp:=hc0 o (lMg h1)
  by_cases hR:p∈R
  ·obtain⟨r,hr⟩:=h.at_ hR h1;obtain⟨ps',i1,i2⟩:=ih (l':=xJe F.length l' (zYy F o)) (fun i x hi hx=>by
    have hlt:=(List.getElem?_eq_some_iff.1 hi).1;rw[xJn] at hx ⊢;refine⟨by omega,?_⟩;rcases hx.2 with h4 | ⟨h4,h5⟩
    ·exact .inl ((xVe hF hi).2 h4)
    ·exact .inr ⟨hl i x hi h4,fun h6=>h5 ((xVe hF hi).1 h6)⟩)
   refine⟨r :: ps',.cons hr (fun z hz=>?_) i1,?_⟩
   ·obtain⟨i,x,rfl,h4,h5⟩:=zWu hz;exact hl i x h4 (h2 x h5)
   ·rw[xJi,xJi,xJx hr,xJx h1];show o.cost+_<=_;omega
  ·obtain⟨ps',i1,i2⟩:=ih (l':=l') (fun i x hi hx=>by
    rcases (xJn.1 hx).2 with h4 | h4
    ·exact absurd (lMg hi) (h.out p o h1 hR x h4)
    ·exact hl i x hi h4.1)
   refine⟨ps',i1,?_⟩;rw[xJi,xJx h1];omega
def zYz(F l l':List Int):Prop:=∀ (i:Nat) (x:Int),F[i]? = some x->(x∈l↔(i:Int)∈l')
theorem RelV.same_next(h:RelV t F R)(hn:t.facts=n){l l':List Int}{i:Nat}{o:OpV}(hi:i∈R)(ho:t.ops[i]? = some o)(hs:zYz F l l'):zYz F (xJe n l o) (xJe F.length l' (zYy F o)):=fun k x hk=>by
 have hF:F.Nodup:=xQ3 h.set.pw;have hlt:=(List.getElem?_eq_some_iff.1 hk).1;have hx:=h.set.1 x (lMg hk);rw[hn] at hx;rw[xJn,xJn];have h1:(k:Int)∈(zYy F o).add↔x∈o.add:=xVe hF hk;have h2:(k:Int)∈(zYy F o).del↔x∈o.del:=xVe hF hk;rw[h1,h2,hs k x hk];constructor
 ·exact fun h=>⟨by omega,h.2⟩
 ·exact fun h=>⟨hx,h.2⟩
theorem RelV.can(h:RelV t F R){l l':List Int}{i:Nat}{o:OpV}(hi:i∈R)(ho:t.ops[i]? = some o)(hs:zYz F l l')(hp:∀ z∈(zYy F o).pre,z∈l'):∀ q∈o.pre,q∈l:=fun q hq=>by
 have hF:F.Nodup:=xQ3 h.set.pw;have hqF:q∈F:=h.pre i hi q (by rw[zWv ho];exact hq);obtain⟨k,hk⟩:=List.getElem?_of_mem hqF;exact (hs k q hk).2 (hp _ ((xVe hF hk).2 hq))
theorem RelV.up(h:RelV t F R)(hn:t.facts=n){l':List Int}{qs:List Nat}(hp:Fp F.length (xXd t F R).ops (xXd t F R).goal l' qs):∀ {l:List Int},zYz F l l' ->
  ∃ ps,Fp n t.ops t.goal l ps/\xJ9 (t.ops.map (·.cost)) ps=xJ9 ((xXd t F R).ops.map (·.cost)) qs:=by
 have hF:F.Nodup:=xQ3 h.set.pw
 induction hp with
 | @nil l' hg=>
  intro l hs;refine⟨[],.nil fun q hq=>?_,rfl⟩;obtain⟨k,hk⟩:=List.getElem?_of_mem (h.goal q hq);exact (hs k q hk).2 (hg _ ((xVe hF hk).2 hq))
 | @cons l' r o' qs h1 h2 h3 ih=>
  intro l hs;obtain⟨i,o,hi,_,ho,rfl⟩:=h.sop h1;obtain⟨ps,i1,i2⟩:=ih (h.same_next hn hi ho hs);refine⟨i :: ps,.cons ho (h.can hi ho hs h2) i1,?_⟩;rw[xJi,xJi,xJx h1,xJx ho,i2];rfl
theorem RelV.init(h:RelV t F R):zYz F t.init (xXd t F R).init:=fun k x hk=>(xVe (xQ3 h.set.pw) hk).symm
end
section
open Go.Shelf
def hF(fh:Int->Option Int):Int->Option Value:=fun x=>(fh x).map (Value.int .i64)
theorem vYd(fh:Int->Option Int)(x h:Int):hF (xZi fh x h)=upd (hF fh) x (.int .i64 h):=by
 funext y;unfold hF xZi upd
 split <;> rfl
theorem vK9{fh:Int->Option Int}{x h:Int}(e:fh x=some h):upd (hF fh) x (.int .i64 h)=hF fh:=by
 funext y;unfold upd hF
 split
 ·rename_i e2;rw[e2,e];rfl
 ·rfl
theorem vV9{fh:Int->Option Int}{x h:Int}(e:fh x=none):ExtH fh (xZi fh x h):=fun y v hy=>by
 unfold xZi
 split
 ·rename_i e2;rw[e2,e] at hy;cases hy
 ·exact hy
def HeuOk(n:Nat)(t:TaskV)(fh:Int->Option Int):Prop:=∀ l,SetP l (n:Int)->∀ v,fh (xJ1 l)=some v->xVf n t l v
theorem HeuOk.nil(n:Nat)(t:TaskV):HeuOk n t (fun _=>none):=fun _ _ _ h=>by cases h
theorem HeuOk.put{n:Nat}{t:TaskV}{fh:Int->Option Int}{l:List Int}{h:Int}(hk:HeuOk n t fh)(hl:SetP l (n:Int))(hv:xVf n t l h):HeuOk n t (xZi fh (xJ1 l) h):=fun l' hl' v e=>by
 unfold xZi at e
 split at e
 ·rename_i e2
  injection e with e
  rw[<- e,xJq hl' hl e2];exact hv
 ·exact hk l' hl' v e
def HBox(hb:Nat)(W:World)(t:TaskV)(Ai Ag Ao:Option Addr)(ci cg co:Nat):Prop:=Arr W hb 25 [.int .i64 t.facts,.slice Ai t.init.length ci,.slice Ag t.goal.length cg,.slice Ao t.ops.length co]/\Arr W (hb+1) 3 [.int .i64 4]/\Arr W (hb+1+1+1) 54 [.map (some (hb+1+1))]
section
variable {hb:Nat}{w w':World}{t:TaskV}{Ai Ag Ao:Option Addr}{ci cg co:Nat}
theorem HBox.alloc(h:HBox hb w t Ai Ag Ao ci cg co)(o:Obj):HBox hb (w.alloc o) t Ai Ag Ao ci cg co:=⟨h.1.alloc o,h.2.1.alloc o,h.2.2.alloc o⟩
theorem HBox.drew(h:HBox hb w t Ai Ag Ao ci cg co):HBox hb w.drew t Ai Ag Ao ci cg co:=h
theorem HBox.drewN(h:HBox hb w t Ai Ag Ao ci cg co)(d:Nat):HBox hb (w.drewN d) t Ai Ag Ao ci cg co:=h
theorem HBox.below{B:Nat}(h:HBox hb w t Ai Ag Ao ci cg co)(hB:Below w.heap.size w w'):HBox hb w' t Ai Ag Ao ci cg co:=⟨h.1.below hB,h.2.1.below hB,h.2.2.below hB⟩
theorem HBox.by_map{b n:Nat}{f:Int->Option Value}(hM:MapF w b n f)(hg:w.grownBy w' (some b))(h:HBox hb w t Ai Ag Ao ci cg co):HBox hb w' t Ai Ag Ao ci cg co:=⟨h.1.by_map hM hg,h.2.1.by_map hM hg,h.2.2.by_map hM hg⟩
theorem HBox.turn{B:Nat}(h:HBox hb w t Ai Ag Ao ci cg co)(ht:Turn B w w'):HBox hb w' t Ai Ag Ao ci cg co:=⟨h.1.turn ht,h.2.1.turn ht,h.2.2.turn ht⟩
theorem HBox.qup{base' m:Nat}(h:HBox hb w t Ai Ag Ao ci cg co)(hq:QUp base' m w w')(hm:∃ es cl,w.heap[m]? = some (.map es cl)):HBox hb w' t Ai Ag Ao ci cg co:=by
 obtain⟨h1,h2,h3⟩:=h;exact⟨h1.qup (hq:=hq) hm (by decide),h2.qup (hq:=hq) hm (by decide),h3.qup (hq:=hq) hm (by decide)⟩
theorem HBox.set_(h:HBox hb w t Ai Ag Ao ci cg co){p:Addr}(u:Value){g:Nat}{T:TypeId}{xs:List Value}(hA:Arr w g T xs)(hp:p.block=g)(h1:T≠25)(h2:T≠3)(h3:T≠54):HBox hb (w.setCell p u) t Ai Ag Ao ci cg co:=
 ⟨h.1.far2 u hA hp h1,h.2.1.far2 u hA hp h2,h.2.2.far2 u hA hp h3⟩
theorem HBox.lt(h:HBox hb w t Ai Ag Ao ci cg co):(hb+1+1+1) < w.heap.size:=h.2.2.lt
end
theorem mvh{p:Prop}(h:p:=by repeat' (with_reducible first  | assumption | apply HBox.alloc | apply HBox.drew | apply HBox.drewN | (apply HBox.by_map;case hg=>assumption) | (apply HBox.qup;case hq=>assumption)  | assumption | apply Que.alloc | apply Que.drew | apply Que.drewN | (apply Que.set_;(case hp=>rfl);(case hA=>assumption);(case hT=>decide)) | (apply Que.by_row;(case hg=>assumption);(case hT=>decide)) | (apply Que.by_map;(case hg=>assumption);(case hne=>omega)) | apply Back.alloc | apply Back.drew | apply Back.drewN | apply Arr.drewN | apply MapF.drewN | apply zZ6 | apply MarksOk.drewN | (apply Arr.qup;(case hq=>assumption);(case he=>decide)) | (apply MapF.qup;(case hq=>assumption);(case hb=>omega)) | (apply zVa;(case hq=>assumption);(case he=>decide)) | (apply Back.qup;(case hq=>assumption);(case hb=>omega)) | (apply MarksOk.qup;case hq=>assumption) | (refine Below.trans ?_ (QUp.below_of (by assumption) ?_);rotate_left;omega) | (apply Back.set_;(case hp=>rfl);(case hA=>assumption);(case hT=>decide)) | (apply Back.by_map;(case hg=>assumption);(case hne=>omega)) | (apply Back.by_row;(case hg=>assumption);(case hT=>decide))  | assumption | exact Below.refl _ _ | apply Arr.alloc | apply Arr.drew | (apply Arr.far;(case hp=>(first | (simp;done) | (simp;omega) | omega))) | apply World.ownsRow.alloc | apply World.ownsRow.drew | apply MapF.alloc | apply MapF.drew | (apply MapF.setCell;(case hp=>(first | (simp;done) | (simp;omega) | omega))) | apply MarksOk.alloc | apply MarksOk.drew | apply MarksOk.set_ | apply xKx | apply xYv | apply xYw | (apply Below.alloc;(case hB=>(first | omega | (simp;done) | (simp;omega) | (dsimp only[World.drewN];omega)))) | (apply Below.setCell;(case hp=>(first | omega | (simp;done) | (simp;omega)))) | ((refine Arr.by_row ?_ (by assumption) ?_ ?_);rotate_right;decide) | refine MapF.by_row ?_ (by assumption) ?_ | refine MarksOk.by_row ?_ ?_ (by assumption) | (apply zXd;(case hp=>rfl);(case hA=>assumption);(case hT=>decide)) | (apply Arr.by_row;case hg=>assumption) | (apply MapF.by_row;case hg=>assumption) | (apply MarksOk.by_row;case hg=>assumption) | (apply xZb;case hg=>assumption) | (apply Arr.by_map;case hg=>assumption) | (apply xZc;case hg=>assumption) | (apply MarksOk.by_map;case hg=>assumption) | (apply MapF.by_map;(case hg=>assumption);(case hne=>omega)) | (apply Below.by_map;(case hg=>assumption);(case hB=>(first | omega | (simp;done) | (simp;omega) | (dsimp only[World.drewN];omega)));(case hb=>omega)) | (apply Below.by_row;(case hg=>assumption);(case hB=>(first | omega | (simp;done) | (simp;omega) | (dsimp only[World.drewN];omega)));(case hb=>exact Nat.le_refl _)) | decide)):p:=h
theorem vVa(w:World)(t:TaskV)(Ai Ag Ao:Option Addr)(ci cg co:Nat) :
  Calls Tryz.prog 29 #[.agg #[.int .i64 t.facts,.slice Ai t.init.length ci,.slice Ag t.goal.length cg,.slice Ao t.ops.length co],.int .i64 4] w fun e w'=>∃ hb,hb=w.heap.size/\e=.returned (.func (.func 81) #[] #[.pointer (some ⟨(hb+1+1+1),0,none⟩),.pointer (some ⟨hb,0,none⟩),.pointer (some ⟨(hb+1),0,none⟩)])/\HBox hb w' t Ai Ag Ao ci cg co/\MapF w' (hb+1+1) 0 (hF fun _=>none)/\Below w.heap.size w w':=by
 have hmm:=@run_makeMap Tryz.prog;go_enter Tryz.func29,Tryz.ntmps29;go_wp2;refine bodyPost_ret (v:=.func (.func 81) #[] #[.pointer (some ⟨(w.heap.size+1+1+1),0,none⟩),.pointer (some ⟨w.heap.size,0,none⟩),.pointer (some ⟨(w.heap.size+1),0,none⟩)]) ?_ rfl ⟨w.heap.size,rfl,rfl,⟨?_,?_,?_⟩,?_,?_⟩
 ·simp[results,Tryz.results29,go_sem]
 ·exact (((Arr.new w _ [.int .i64 t.facts,.slice Ai t.init.length ci,.slice Ag t.goal.length cg,.slice Ao t.ops.length co]).alloc _).alloc _).alloc _
 ·exact ((Arr.new_at (w.alloc _) (w.heap.size+1) (by simp) 3 [.int .i64 4]).alloc _).alloc _
 ·exact Arr.new_at (((w.alloc _).alloc _).alloc _) (w.heap.size+1+1+1) (by simp) 54 [.map (some (w.heap.size+1+1))]
 ·have h:∀ W:World,∀ g,g=W.heap.size->MapF (W.alloc (.map #[] 0)) g 0 (hF fun _=>none):=fun W g e=>by subst e;exact MapF.made W
  exact (h _ _ (by simp)).alloc _
 ·exact mvh
theorem xZu{w0 W:World}{hb nh n:Nat}{fh:Int->Option Int}{l:List Int}{t:TaskV}{Ai Ag Ao:Option Addr}{ci cg co:Nat}(hT:TaskMem w0 Ai Ag Ao t)(hB:Below w0.heap.size w0 W)(hX:HBox hb W t Ai Ag Ao ci cg co)(hM:MapF W (hb+1+1) nh (hF fh))(hnh:nh < 1000000000000)
  (hn:t.facts=n) (hv:Valid t) (hl:SetP l (n:Int)) (hk:HeuOk n t fh) (hsz:w0.heap.size<=W.heap.size) :
  Calls Tryz.prog 81 #[.int .u32 (xJ1 l),.pointer (some ⟨(hb+1+1+1),0,none⟩),.pointer (some ⟨hb,0,none⟩),.pointer (some ⟨(hb+1),0,none⟩)] W (fun e W'=>∃ (h:Int) (fh':Int->Option Int),e=.returned (.int .i64 h)/\xVf n t l h/\fh' (xJ1 l)=some h/\ExtH fh fh'/\HeuOk n t fh'/\hF fh'=upd (hF fh) (xJ1 l) (.int .i64 h)/\MapF W' (hb+1+1) (up1 (hF fh) (xJ1 l) nh) (hF fh')/\W.grownBy W' (some (hb+1+1))):=by
 have hn24:n<=24:=by have:=hv.f1;omega
 have hwl:=hl.wrd hn24;have hc0:W.cell? ⟨(hb+1+1+1),0,none⟩=some (.map (some (hb+1+1))):=hX.2.2.cell 0
 cases hf:fh (xJ1 l) with
 | some h=>
  have hy:(hF fh (xJ1 l)).getD (.int .i64 0)=.int .i64 h:=by unfold hF;rw[hf];rfl
  have hy2:(hF fh (xJ1 l)).isSome=true:=by unfold hF;rw[hf];rfl
  have hcv:=hk l hl h hf;have hlk:=hM.look_ok Tryz.underlying54 (xVc _) hwl;rw[hy,hy2] at hlk;have HR:Hid (up1 (hF fh) (xJ1 l) nh=nh):=by show _=_;unfold up1;rw[if_pos hy2]
  have HF:=lHd hf;have HK:=lHd hk;have HM:=lHd hM;have HC:=lHd hcv;clear hy hy2 hf hk hM hcv hv hn hT;go_enter Tryz.func81,Tryz.ntmps81;go_wp2;go_ret;exact⟨h,fh,rfl,HC.out,HF.out,ExtH.refl _,HK.out,(vK9 HF.out).symm,by rw[HR.out];exact HM.out,World.grownBy.refl _ _⟩
 | none=>
  have hy:(hF fh (xJ1 l)).getD (.int .i64 0)=.int .i64 0:=by unfold hF;rw[hf];rfl
  have hy2:(hF fh (xJ1 l)).isSome=false:=by unfold hF;rw[hf];rfl
  have hlk:=hM.look_ok Tryz.underlying54 (xVc _) hwl;rw[hy,hy2] at hlk;have HF:=lHd hf;have HK:=lHd hk;have HN:=lHd hn;have HV:=lHd hv;have H2:Hid (SetP l t.facts):=by show SetP l t.facts;rw[hn];exact hl
  have hll:Hid (l.length<=n):=by have h:=hl.length (by omega);show l.length<=n;omega
  clear hy hy2 hf hk hv hn;have hSS0:W.drew.cell? ⟨hb,0,none⟩=some (.int .i64 t.facts)/\W.drew.cell? ⟨hb,1,none⟩=some (.slice Ai t.init.length ci)/\W.drew.cell? ⟨hb,2,none⟩=some (.slice Ag t.goal.length cg)/\W.drew.cell? ⟨hb,3,none⟩=some (.slice Ao t.ops.length co)/\W.drew.cell? ⟨(hb+1),0,none⟩=some (.int .i64 4):=⟨hX.1.cell 0,hX.1.cell 1,hX.1.cell 2,hX.1.cell 3,hX.2.1.cell 0⟩;go_enter Tryz.func81,Tryz.ntmps81;go_wp2;refine xJg (fun W=>W.cell? ⟨hb,0,none⟩=some (.int .i64 t.facts)/\W.cell? ⟨hb,1,none⟩=some (.slice Ai t.init.length ci)/\W.cell? ⟨hb,2,none⟩=some (.slice Ag t.goal.length cg)/\W.cell? ⟨hb,3,none⟩=some (.slice Ao t.ops.length co)/\W.cell? ⟨(hb+1),0,none⟩=some (.int .i64 4)) [5] (by kernel_rfl) ?_;have hSS:=hSS0;refine xJ0 (i:=0) (v:=?vz10) rfl (by kernel_rfl) (by kernel_rfl) (by kernel_rfl) (by kernel_rfl) (by kernel_rfl) (fun _ _ _ h=>h) (Or.inl ⟨by rfl,?hz10⟩) (by assumption) ?rz10
  case hz10=>(intro w hSw;(try dsimp only at hSw);go_simp;(try with_reducible rfl))
  try simp only[ap]
  refine xJ0 (i:=1) (v:=?vz11) rfl (by kernel_rfl) (by kernel_rfl) (by kernel_rfl) (by kernel_rfl) (by kernel_rfl) (fun _ _ _ h=>h) (Or.inl ⟨by rfl,?hz11⟩) (by assumption) ?rz11
  case hz11=>(intro w hSw;(try dsimp only at hSw);go_simp;(try with_reducible rfl))
  try simp only[ap]
  refine xJ0 (i:=2) (v:=?vz12) rfl (by kernel_rfl) (by kernel_rfl) (by kernel_rfl) (by kernel_rfl) (by kernel_rfl) (fun _ _ _ h=>h) (Or.inl ⟨by rfl,?hz12⟩) (by assumption) ?rz12
  case hz12=>(intro w hSw;(try dsimp only at hSw);go_simp;(try with_reducible rfl))
  try simp only[ap]
  refine xJ3 (i:=3) (by kernel_rfl) rfl (fun K hK=>?_);go_simp;go_at_call 53;refine (xY7 _ hl hn24).mono ?_;rintro e w3 ⟨hB3x,_,v3,rfl,hO3⟩;have hB3:Below W.heap.size W w3:=Below.trans (b:=W.drew) mvh hB3x;obtain⟨A3,c3,rfl,hnl3,hI3⟩:=hO3.form;have hX3:HBox hb w3 t Ai Ag Ao ci cg co:=HBox.below (B:=0) hX hB3;have hBW3:Below w0.heap.size w0 w3:=hB.trans (hB3.mono hsz);have hs3:=hB3.size
  go_wp2_with fail
  have hSS:w3.cell? ⟨hb,0,none⟩=some (.int .i64 t.facts)/\w3.cell? ⟨hb,1,none⟩=some (.slice Ai t.init.length ci)/\w3.cell? ⟨hb,2,none⟩=some (.slice Ag t.goal.length cg)/\w3.cell? ⟨hb,3,none⟩=some (.slice Ao t.ops.length co)/\w3.cell? ⟨(hb+1),0,none⟩=some (.int .i64 4):=⟨hX3.1.cell 0,hX3.1.cell 1,hX3.1.cell 2,hX3.1.cell 3,hX3.2.1.cell 0⟩;refine hK.out _ _ hSS ?_;clear hK K
  try simp only[ap]
  refine xJ3 (i:=4) (by kernel_rfl) rfl (fun K hK=>?_);go_simp;go_at_call 82;refine (vQd _ t Ai Ag Ao ci cg co (hT.below hBW3) A3 c3 l hI3 (by have:=hll.out;simp only[lenOk];omega) n HN.out HV.out H2.out).mono ?_;rintro e w4 ⟨hB4,hv4,rfl,hC4⟩;have hX4:HBox hb w4 t Ai Ag Ao ci cg co:=HBox.below (B:=0) hX3 hB4;have hB5:Below W.heap.size W w4:=hB3.trans (hB4.mono hs3)
  go_wp2_with fail
  have hSS:w4.cell? ⟨hb,0,none⟩=some (.int .i64 t.facts)/\w4.cell? ⟨hb,1,none⟩=some (.slice Ai t.init.length ci)/\w4.cell? ⟨hb,2,none⟩=some (.slice Ag t.goal.length cg)/\w4.cell? ⟨hb,3,none⟩=some (.slice Ao t.ops.length co)/\w4.cell? ⟨(hb+1),0,none⟩=some (.int .i64 4):=⟨hX4.1.cell 0,hX4.1.cell 1,hX4.1.cell 2,hX4.1.cell 3,hX4.2.1.cell 0⟩;refine hK.out _ _ hSS ?_;clear hK K
  try simp only[ap]
  refine xJc (i:=5) (by kernel_rfl) rfl (by kernel_rfl) (fun K hK=>?_);go_simp
  go_wp2_with fail
  refine hK.out _ _ ?_;clear hK K
  try simp only[ap]
  refine xJ7 (by kernel_rfl) ?_ _;have hM4:MapF w4 (hb+1+1) nh (hF fh):=hM.below hB5 hM.lt;have hc4:w4.cell? ⟨(hb+1+1+1),0,none⟩=some (.map (some (hb+1+1))):=hX4.2.2.cell 0;have hg4:W.grownBy w4 (some (hb+1+1)):=⟨hB5.os,hB5.tape,hB5.output,hB5.size,fun i hi _=>hB5.block i hi⟩
  go_wp2_with (at_mapUpdate;refine xXe rfl (.tmp 21) (.tmp 22) (.tmp 23) 54 rfl 3 Tryz.underlying54 rfl hM4 hnh (xJ1 l) (.int .i64 hv4) rfl rfl hwl ?_;intro w6 hM6 hg6)
  refine bodyPost_ret (v:=.int .i64 hv4) ?_ rfl ⟨hv4,xZi fh (xJ1 l) hv4,rfl,hC4,by unfold xZi;rw[if_pos rfl],vV9 HF.out,HK.out.put hl hC4,vYd _ _ _,by rw[vYd];exact hM6,hg4.trans hg6⟩;simp[results,Tryz.results81,go_sem]
end
section
open Go.Shelf
structure Blk where
 hb:Nat
 b0:Nat
 mp:Nat
 bp:Nat
 ma:Nat
 ba:Nat
 m:Nat
 q:Nat
 bq:Nat
 me:Nat
structure BlkOk(k:Blk)(w0 w:World):Prop where
 o1:w0.heap.size<=k.hb
 o2:k.hb+1+1+1 < w.heap.size
 o3:k.b0=w.heap.size
 o4:k.b0 < k.mp
 o5:k.mp < k.bp
 o6:k.bp < k.ma
 o7:k.ma < k.ba
 o8:k.ba < k.m
 o9:k.m < k.q
 o10:k.q < k.bq
 o11:k.bq < k.me
structure BM(k:Blk)(w0 w:World)(t:TaskV)(Ai Ag Ao:Option Addr)(ci cg co:Nat)(ds:List Deferred)(nh nP nB nE nq:Nat)(fh:Int->Option Int)(fP fB fE:Int->Option Value)(fq:Int->Option Int)(W:World):Prop where
 ok:BlkOk k w0 w
 hx:HBox k.hb W t Ai Ag Ao ci cg co
 hm:MapF W (k.hb+1+1) nh (hF fh)
 b0:Arr W k.b0 73 [.func (.func 81) #[] #[.pointer (some ⟨(k.hb+1+1+1),0,none⟩),.pointer (some ⟨k.hb,0,none⟩),.pointer (some ⟨(k.hb+1),0,none⟩)]]
 mp:MapF W k.mp nP fP
 bp:Arr W k.bp 54 [.map (some k.mp)]
 ma:MapF W k.ma nB fB
 ba:Arr W k.ba 147 [.map (some k.ma)]
 q:Que k.m k.q k.m W nq fq
 bq:Arr W k.bq 102 [.pointer (some ⟨k.q,0,none⟩)]
 me:MapF W k.me nE fE
 mks:MarksOk w.heap.size ds W
 bel:Below w0.heap.size w0 W
section
variable {k:Blk}{w0 w W W':World}{t:TaskV}{Ai Ag Ao:Option Addr}{ci cg co:Nat}{ds:List Deferred}{nh nP nB nE nq:Nat}{fh:Int->Option Int}{fP fB fE:Int->Option Value}{fq:Int->Option Int}
theorem BM.lt(h:BM k w0 w t Ai Ag Ao ci cg co ds nh nP nB nE nq fh fP fB fE fq W):k.me < W.heap.size:=h.me.lt
theorem BM.alloc(h:BM k w0 w t Ai Ag Ao ci cg co ds nh nP nB nE nq fh fP fB fE fq W)(o:Obj):BM k w0 w t Ai Ag Ao ci cg co ds nh nP nB nE nq fh fP fB fE fq (W.alloc o):=by
 obtain⟨h0,h1,h2,h3,h4,h5,h6,h7,h8,h9,h10,h11,h12⟩:=h;exact⟨h0,mvh,mvh,mvh,mvh,mvh,mvh,mvh,mvh,mvh,mvh,mvh,mvh⟩
theorem BM.drew(h:BM k w0 w t Ai Ag Ao ci cg co ds nh nP nB nE nq fh fP fB fE fq W):BM k w0 w t Ai Ag Ao ci cg co ds nh nP nB nE nq fh fP fB fE fq W.drew:=by
 obtain⟨h0,h1,h2,h3,h4,h5,h6,h7,h8,h9,h10,h11,h12⟩:=h;exact⟨h0,mvh,mvh,mvh,mvh,mvh,mvh,mvh,mvh,mvh,mvh,mvh,mvh⟩
theorem BM.drewN(h:BM k w0 w t Ai Ag Ao ci cg co ds nh nP nB nE nq fh fP fB fE fq W)(d:Nat):BM k w0 w t Ai Ag Ao ci cg co ds nh nP nB nE nq fh fP fB fE fq (W.drewN d):=by
 obtain⟨h0,h1,h2,h3,h4,h5,h6,h7,h8,h9,h10,h11,h12⟩:=h;exact⟨h0,mvh,mvh,mvh,mvh,mvh,mvh,mvh,mvh,mvh,mvh,mvh,mvh⟩
theorem BM.turn{W0:World}(hk0:MarksOk w.heap.size ds W0)(hM0:k.me < W0.heap.size)(h:BM k w0 w t Ai Ag Ao ci cg co ds nh nP nB nE nq fh fP fB fE fq W)(ht:Turn W0.heap.size W W'):BM k w0 w t Ai Ag Ao ci cg co ds nh nP nB nE nq fh fP fB fE fq W':=by
 obtain⟨h0,h1,h2,h3,h4,h5,h6,h7,h8,h9,h10,h11,h12⟩:=h;obtain⟨o1,o2,o3,o4,o5,o6,o7,o8,o9,o10,o11⟩:=h0;have h13:=h12.size;exact⟨⟨o1,o2,o3,o4,o5,o6,o7,o8,o9,o10,o11⟩,h1.turn ht,h2.turn ht (by omega),h3.turn ht,h4.turn ht (by omega),h5.turn ht,h6.turn ht (by omega),h7.turn ht,h8.turn ht (by omega),h9.turn ht,h10.turn ht (by omega),h11.turn hk0 (Nat.le_refl _) ht,xY2 h12 ht (by omega) (by omega)⟩
theorem BM.byH(h:BM k w0 w t Ai Ag Ao ci cg co ds nh nP nB nE nq fh fP fB fE fq W){nh':Nat}{fh':Int->Option Int}(hg:W.grownBy W' (some (k.hb+1+1)))(hM:MapF W' (k.hb+1+1) nh' (hF fh')):BM k w0 w t Ai Ag Ao ci cg co ds nh' nP nB nE nq fh' fP fB fE fq W':=by
 obtain⟨h0,h1,h2,h3,h4,h5,h6,h7,h8,h9,h10,h11,h12⟩:=h;obtain⟨o1,o2,o3,o4,o5,o6,o7,o8,o9,o10,o11⟩:=h0;have h13:=h12.size;exact⟨⟨o1,o2,o3,o4,o5,o6,o7,o8,o9,o10,o11⟩,mvh,hM,mvh,mvh,mvh,mvh,mvh,mvh,mvh,mvh,mvh,mvh⟩
theorem BM.byP(h:BM k w0 w t Ai Ag Ao ci cg co ds nh nP nB nE nq fh fP fB fE fq W){nP':Nat}{fP':Int->Option Value}(hg:W.grownBy W' (some k.mp))(hM:MapF W' k.mp nP' fP'):BM k w0 w t Ai Ag Ao ci cg co ds nh nP' nB nE nq fh fP' fB fE fq W':=by
 obtain⟨h0,h1,h2,h3,h4,h5,h6,h7,h8,h9,h10,h11,h12⟩:=h;obtain⟨o1,o2,o3,o4,o5,o6,o7,o8,o9,o10,o11⟩:=h0;have h13:=h12.size;exact⟨⟨o1,o2,o3,o4,o5,o6,o7,o8,o9,o10,o11⟩,mvh,mvh,mvh,hM,mvh,mvh,mvh,mvh,mvh,mvh,mvh,mvh⟩
theorem BM.byB(h:BM k w0 w t Ai Ag Ao ci cg co ds nh nP nB nE nq fh fP fB fE fq W){nB':Nat}{fB':Int->Option Value}(hg:W.grownBy W' (some k.ma))(hM:MapF W' k.ma nB' fB'):BM k w0 w t Ai Ag Ao ci cg co ds nh nP nB' nE nq fh fP fB' fE fq W':=by
 obtain⟨h0,h1,h2,h3,h4,h5,h6,h7,h8,h9,h10,h11,h12⟩:=h;obtain⟨o1,o2,o3,o4,o5,o6,o7,o8,o9,o10,o11⟩:=h0;have h13:=h12.size;exact⟨⟨o1,o2,o3,o4,o5,o6,o7,o8,o9,o10,o11⟩,mvh,mvh,mvh,mvh,mvh,hM,mvh,mvh,mvh,mvh,mvh,mvh⟩
theorem BM.byE(h:BM k w0 w t Ai Ag Ao ci cg co ds nh nP nB nE nq fh fP fB fE fq W){nE':Nat}{fE':Int->Option Value}(hg:W.grownBy W' (some k.me))(hM:MapF W' k.me nE' fE'):BM k w0 w t Ai Ag Ao ci cg co ds nh nP nB nE' nq fh fP fB fE' fq W':=by
 obtain⟨h0,h1,h2,h3,h4,h5,h6,h7,h8,h9,h10,h11,h12⟩:=h;obtain⟨o1,o2,o3,o4,o5,o6,o7,o8,o9,o10,o11⟩:=h0;have h13:=h12.size;exact⟨⟨o1,o2,o3,o4,o5,o6,o7,o8,o9,o10,o11⟩,mvh,mvh,mvh,mvh,mvh,mvh,mvh,mvh,mvh,hM,mvh,mvh⟩
theorem BM.byQ(h:BM k w0 w t Ai Ag Ao ci cg co ds nh nP nB nE nq fh fP fB fE fq W){nq':Nat}{fq':Int->Option Int}(hg:QUp k.m k.m W W')(hQ:Que k.m k.q k.m W' nq' fq'):BM k w0 w t Ai Ag Ao ci cg co ds nh nP nB nE nq' fh fP fB fE fq' W':=by
 obtain⟨h0,h1,h2,h3,h4,h5,h6,h7,h8,h9,h10,h11,h12⟩:=h;obtain⟨o1,o2,o3,o4,o5,o6,o7,o8,o9,o10,o11⟩:=h0;have hqm:=h8.obj;exact⟨⟨o1,o2,o3,o4,o5,o6,o7,o8,o9,o10,o11⟩,mvh,mvh,mvh,mvh,mvh,mvh,mvh,hQ,mvh,mvh,mvh,mvh⟩
theorem BM.cells(h:BM k w0 w t Ai Ag Ao ci cg co ds nh nP nB nE nq fh fP fB fE fq W):W.cell? ⟨k.b0,0,none⟩=some (.func (.func 81) #[] #[.pointer (some ⟨(k.hb+1+1+1),0,none⟩),.pointer (some ⟨k.hb,0,none⟩),.pointer (some ⟨(k.hb+1),0,none⟩)])/\W.cell? ⟨k.bp,0,none⟩=some (.map (some k.mp))/\W.cell? ⟨k.ba,0,none⟩=some (.map (some k.ma))/\W.cell? ⟨k.bq,0,none⟩=some (.pointer (some ⟨k.q,0,none⟩)):=⟨h.b0.cell 0,h.bp.cell 0,h.ba.cell 0,h.bq.cell 0⟩
end
def KpB(B n0 b2:Nat)(W W':World):Prop:=KeepsFrom B W W'/\KpS n0 b2 W W'
section
variable {B n0 b2:Nat}{W W' W'':World}
theorem KpB.refl(B n0 b2:Nat)(W:World):KpB B n0 b2 W W:=⟨(KeepsOthers.refl W).from B,Below.refl _ _,rfl⟩
theorem KpB.trans(h:KpB B n0 b2 W W')(k:KpB B n0 b2 W' W''):KpB B n0 b2 W W'':=⟨h.1.trans k.1,vWp h.2 k.2⟩
theorem KpB.drew(h:KpB B n0 b2 W W'):KpB B n0 b2 W W'.drew:=h.trans ⟨(KeepsOthers.drew _).from _,xKx (Below.refl _ _),rfl⟩
theorem KpB.map(h:KpB B n0 b2 W W'){r:Nat}(hg:W'.grownBy W'' (some r))(h0:n0<=r)(hs:n0<=W'.heap.size)(hr:r < B)(hb:b2 < W'.heap.size)(hne:r≠b2):KpB B n0 b2 W W'':=
 h.trans ⟨KeepsFrom.of_grownBy hg (fun j e=>by injection e with e;omega),(Below.refl _ _).grown hg hs (fun j e=>by injection e with e;omega),hg.block b2 hb (fun e=>by injection e with e;omega)⟩
theorem KpB.q(h:KpB B n0 b2 W W'){base m:Nat}(hq:QUp base m W' W'')(h0:n0<=base)(hm:m < B){xs:List Value}(hA:Arr W' b2 56 xs)(hne:b2≠m):KpB B n0 b2 W W'':=
 h.trans ⟨⟨hq.below.size,fun k o hk ho hc=>hq.same k o ho (by cases o <;> first | rfl | (cases hc)) (by omega)⟩,hq.below.mono h0,(hq.same b2 _ hA rfl hne).trans hA.symm⟩
end
theorem zJk{base q m n:Nat}{w:World}{f:Int->Option Int}(h:Que base q m w n f)(x k:Int)(hx:Wrd x)(hnn:n < 1000000000) :
  Calls Tryz.prog 56 #[.pointer (some ⟨q,0,none⟩),.int .u32 x,.int .i64 k] w (yJ6 base q m w (upN f x n) (xZi f x k)):=by
 cases hf:f x with
 | none=>
  have e:upN f x n=n+1:=by unfold upN;rw[hf];rfl
  rw[e];exact zJf h x k hx hf hnn
 | some v=>
  have e:upN f x n=n:=by unfold upN;rw[hf];rfl
  rw[e];exact zVx h x k hx (by rw[hf];rfl)
end
end Go.Proofs.YtpeipeljmapkmaaGreat
