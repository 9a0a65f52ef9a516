/-
  Lemmas.
-/
import Derived.Test.YtjjjeohejhmpoaaGreatX17
import Derived.Test.YtjjjeohejhmpoaaGreatX32
set_option linter.unusedVariables false
set_option linter.unusedSimpArgs false
set_option maxRecDepth 100000
set_option maxHeartbeats 4000000
namespace Go.Proofs.YtjjjeohejhmpoaaGreat
open Go.RowKit Go.Proofs.Tryz
def xYu(n:Nat)(t:TaskV)(l:List Int)(h:Int):Prop:=0<=h/\h<=1000000000/\h<=vKm n (t.ops.map rxO) t.goal l
theorem zQ6{n:Nat}{t:TaskV}{st:List Int}{xs:List (List Int×Int)}(hv:Valid t)(hok:CutsOk n st t.goal t.ops (t.ops.map (·.cost)) xs):xYu n t st (xJm xs):=by
 have hl:(t.ops.map (·.cost)).length=t.ops.length:=zQl _;have hc:∀c∈t.ops.map (·.cost),0<=c/\c<=100:=fun c h=>by obtain⟨o,h1,rfl⟩:=vWz.1 h;exact(hv.ops o h1).2
 have h1:=(zQr hv hok).tot;have hd:=xZ8 (n:=n) (xVo (fun o ho=>(hv.ops o ho).2.1)) t.goal st;refine⟨h1.1,by omega,?_⟩;rcases hd.1 with e|⟨l,h3,h4⟩
 ·omega
 ·obtain⟨ps,h5,h6⟩:=h3.pth;rw[h6];exact hok.path hl hc h5 h4
theorem zXu{n:Nat}{t:TaskV}{st:List Int}(hv:Valid t)(hre:¬xKv t st):xYu n t st 1000000000:=by
 have hd:=xZ8 (n:=n) (xVo (fun o ho=>(hv.ops o ho).2.1)) t.goal st;refine⟨by omega,by omega,?_⟩;rcases hd.1 with e|⟨l,h3,h4⟩
 ·omega
 ·exact absurd (yZt h3 h4) hre
theorem yWo(w:World)(t:TaskV)(Ai Ag Ao:Option Addr)(ci cg co:Nat)(hT:TaskMem w Ai Ag Ao t)(S:Option Addr)(cs:Nat)(st:List Int)(hS:Ints w S st)(hls:lenOk st.length)(n:Nat)(hn:t.facts=n)(hv:Valid t)(h2:SetP st t.facts)(hre:¬xKv t st) :
  Calls prog 116 #[.agg #[.int .i64 t.facts,.slice Ai t.init.length ci,.slice Ag t.goal.length cg,.slice Ao t.ops.length co],.int .i64 4,.slice S st.length cs] w ((fun e w'=>Below w.heap.size w w'/\∃h,e=.returned (.int .i64 h)/\xYu n t st h)):=by
 have HN:=lHd hn;have HV:=lHd hv;have H2:=lHd h2;have HRE:=lHd hre;clear hv h2 hn hre;go_enter func116,ntmps116
 go_wp2_with fail
 refine(vX9 _ t Ai Ag Ao ci cg co (hT.below bch) S cs st (hS.below bch) hls n HN.out HV.out H2.out HRE.out).mono ?_;rintro e w1 ⟨rfl,hB1⟩;have D1:=xJ3 w hB1 bch;have C1:=Cls.below (l:=[(w.heap.size,0,.int .i64 t.facts),(w.heap.size,1,.slice Ai t.init.length ci),(w.heap.size,2,.slice Ag t.goal.length cg),(w.heap.size,3,.slice Ao t.ops.length co)]) hB1 (by simp[Cls,go_sem]);have y1w0:=C1.blk (b:=w.heap.size) (k:=0) (v:=.int .i64 t.facts) (by simp);go_wp2;refine bodyPost_ret (v:=.int .i64 1000000000) ?_ rfl ⟨mvk,1000000000,rfl,zXu HV.out HRE.out⟩;simp[results,results116,go_sem]
theorem yVt(w:World)(t:TaskV)(Ai Ag Ao:Option Addr)(ci cg co:Nat)(hT:TaskMem w Ai Ag Ao t)(S:Option Addr)(cs:Nat)(st:List Int)(hS:Ints w S st)(hls:lenOk st.length)(n:Nat)(hn:t.facts=n)(hv:Valid t)(h2:SetP st t.facts)(hre:xKv t st) :
  Calls prog 116 #[.agg #[.int .i64 t.facts,.slice Ai t.init.length ci,.slice Ag t.goal.length cg,.slice Ao t.ops.length co],.int .i64 4,.slice S st.length cs] w ((fun e w'=>Below w.heap.size w w'/\∃h,e=.returned (.int .i64 h)/\xYu n t st h)):=by
 have HN:=lHd hn;have HV:=lHd hv;have H2:=lHd h2;have HRE:=lHd hre;clear hv h2 hn hre;go_enter func116,ntmps116
 go_wp2_with fail
 refine(zY1 _ t Ai Ag Ao ci cg co (hT.below bch) S cs st (hS.below bch) hls n HN.out HV.out H2.out HRE.out).mono ?_;rintro e w1 ⟨v1,xs,bs,rfl,hbs,hcs,hok,hbest,hz,hB1⟩;have D1:=xJ3 w hB1 bch;have C1:=Cls.below (l:=[(w.heap.size,0,.int .i64 t.facts),(w.heap.size,1,.slice Ai t.init.length ci),(w.heap.size,2,.slice Ag t.goal.length cg),(w.heap.size,3,.slice Ao t.ops.length co)]) hB1 (by simp[Cls,go_sem]);have y1w0:=C1.blk (b:=w.heap.size) (k:=0) (v:=.int .i64 t.facts) (by simp);have Hok:=lHd hok;clear hok hbest hz hcs;go_wp2;refine bodyPost_ret (v:=.int .i64 (xJm xs)) ?_ rfl ⟨mvk,(xJm xs),rfl,zQ6 HV.out Hok.out⟩;simp[results,results116,go_sem]
theorem yVu(w:World)(t:TaskV)(Ai Ag Ao:Option Addr)(ci cg co:Nat)(hT:TaskMem w Ai Ag Ao t)(S:Option Addr)(cs:Nat)(st:List Int)(hS:Ints w S st)(hls:lenOk st.length)(n:Nat)(hn:t.facts=n)(hv:Valid t)(h2:SetP st t.facts) :
  Calls prog 116 #[.agg #[.int .i64 t.facts,.slice Ai t.init.length ci,.slice Ag t.goal.length cg,.slice Ao t.ops.length co],.int .i64 4,.slice S st.length cs] w (fun e w'=>Below w.heap.size w w'/\∃h,e=.returned (.int .i64 h)/\xYu n t st h):=by
 by_cases hre:xKv t st
 ·exact yVt w t Ai Ag Ao ci cg co hT S cs st hS hls n hn hv h2 hre
 ·exact yWo w t Ai Ag Ao ci cg co hT S cs st hS hls n hn hv h2 hre
theorem vY2:xJ8 false 2 [] xJ1.ops (xJ1.ops.map (·.cost))=[2,5]:=by
 refine(zXx (zVu (V:=[2,5]) ⟨⟨rfl,?_,?_⟩,fun U hU=>?_⟩ ?_)).symm;rotate_left
 ·intro p hp;cases hp
 rotate_right
 ·intro v hv;simp at hv;rcases hv with rfl|rfl
  ·exact⟨by omega,by omega⟩
  ·exact⟨by omega,by omega⟩
 ·have h0:=hU.closed 0 ⟨[],[0],[],2⟩ 2 (by decide) rfl rfl 0 (by simp);have h1:=hU.closed 1 ⟨[0],[1],[],3⟩ 3 (by decide) rfl rfl 1 (by simp);have hl:=hU.shape.len;have ha:=hU.shape.all
  match U,hl with
  | [a,b],_=>
   have ha0:=ha a (by simp);have e0:xJ2 [a,b] 0=a:=rfl;have e1:xJ2 [a,b] 1=b:=rfl;have k0:opV false [a,b] ⟨[],[0],[],2⟩ 2=2:=rfl;have k1:opV false [a,b] ⟨[0],[1],[],3⟩ 3=xXf (if a>0 then a else 0) 3:=rfl;rw[e0,k0] at h0;rw[e1,k1] at h1;have hb:b<=5:=by
    unfold xXf at h1;unfold InV at ha0
    split at h1<;>(try split at h1)<;>(try split at h1)<;>omega
   intro p;unfold xJ2;generalize p.toNat=m
   match m with
   |0=>exact h0
   |1=>exact hb
   |m+2=>exact Int.le_refl _
 ·intro i o c hi ho hc p hp
  match i,ho,hc with
  |0,ho,hc=>cases ho;cases hc;simp at hp;subst hp;decide
  |1,ho,hc=>cases ho;cases hc;simp at hp;subst hp;decide
  |i+2,ho,hc=>simp[xJ1] at ho
theorem yJi:xJf false (xJ8 false 2 [] xJ1.ops (xJ1.ops.map (·.cost))) xJ1.goal=5:=by
 rw[vY2];decide
theorem vJs:xKv xJ1 []:=fun q hq=>by
 have hq1:q=1:=by simpa[xJ1] using hq
 subst hq1;have h0:Reach [] xJ1.ops (fun _=>true) 0:=.step (i:=0) (o:=⟨[],[0],[],2⟩) rfl rfl (by simp) (by simp);exact .step (i:=1) (o:=⟨[0],[1],[],3⟩) rfl rfl (fun x hx=>by simp at hx;subst hx;exact h0) (by simp)
theorem zXn{d:Int}(h:RBest 2 (xJ1.ops.map rxO) xJ1.goal [] d):d=5:=xWn h
theorem yJj{xs:List (List Int×Int)}(hok:CutsOk 2 [] xJ1.goal xJ1.ops (xJ1.ops.map (·.cost)) xs)(hz:xJf false (xJ8 false 2 [] xJ1.ops (xJi (xJ1.ops.map (·.cost)) xs)) xJ1.goal=0)(h16:(xJo xs).length<=16)
  {c:Int} {v:Nat} (h:Cho (xXb (xXm xJ1.ops (xJo xs))) (zJe (xKi (xJo xs) xs) (2^(xXm xJ1.ops (xJo xs)).length)) c v):c=5:=by
 have h1:=vK8 xX7 hok h;obtain⟨d,hd⟩:=zQp (n:=2) (ops:=xJ1.ops.map rxO) (by decide) xJ1.goal [];have h2:=zZq xX7 hok h16 h hd;rw[zXn hd] at h2;have h3:=hok.value (zQl _) (zJy xX7) (by simp) (fun o ho=>(xYx xX7 rfl o ho).2);rw[yJi,hz] at h3;omega
theorem yJk{xs:List (List Int×Int)}(hok:CutsOk 2 [] xJ1.goal xJ1.ops (xJ1.ops.map (·.cost)) xs):¬(16<xs.length\/16<(xJo xs).length):=by
 have h1:=hok.total (zQl _) xs.length (Nat.le_refl _);rw[yQ7] at h1;have h2:xV4 (xJ1.ops.map (·.cost))=5:=by decide
 have h3:=yZl xX7 hok;have h4:=h3.length (by decide);have h5:(xJ1.ops.length:Int)=2:=rfl;omega
