/-
  Lemmas for the law: Tva.
-/
import Derived.Test.YtpeipeljmapkmaaGreatU15
import Derived.Test.YtpeipeljmapkmaaGreatU20
import Derived.Test.YtpeipeljmapkmaaGreatU5
import Derived.Test.YtpeipeljmapkmaaGreatU21
set_option linter.unusedVariables false
set_option linter.unusedSimpArgs false
set_option maxRecDepth 100000
set_option maxHeartbeats 4000000
namespace Go.Proofs.YtpeipeljmapkmaaGreat
open Go.RowKit
def xQt(n:Nat)(t:TaskV)(l:List Int)(h:Int):Prop:=0<=h/\h<=1000000000/\h<=vZa n (t.ops.map rxO) t.goal l
theorem zVx{n:Nat}{t:TaskV}{st:List Int}{xs:List (List Int×Int)}(hv:Valid t)(hok:CutsOk n st t.goal t.ops (t.ops.map (·.cost)) xs):xQt n t st (xJr xs):=by
 have hl:(t.ops.map (·.cost)).length=t.ops.length:=List.length_map _;have hc:∀ c∈t.ops.map (·.cost),0<=c/\c<=100:=fun c h=>by obtain⟨o,h1,rfl⟩:=List.mem_map.1 h;exact (hv.ops o h1).2
 have h1:=(vY0 hv hok).tot;have hd:=xXw (n:=n) (xVp (fun o ho=>(hv.ops o ho).2.1)) t.goal st;refine⟨h1.1,by omega,?_⟩;rcases hd.1 with e | ⟨l,h3,h4⟩
 ·omega
 ·obtain⟨ps,h5,h6⟩:=h3.pth;rw[h6];exact hok.path hl hc h5 h4
theorem zKn{n:Nat}{t:TaskV}{st:List Int}(hv:Valid t)(hre:¬ zJ4 t st):xQt n t st 1000000000:=by
 have hd:=xXw (n:=n) (xVp (fun o ho=>(hv.ops o ho).2.1)) t.goal st;refine⟨by omega,by omega,?_⟩;rcases hd.1 with e | ⟨l,h3,h4⟩
 ·omega
 ·exact absurd (vZb h3 h4) hre
theorem vV2(w:World)(t:TaskV)(Ai Ag Ao:Option Addr)(ci cg co:Nat)(hT:TaskMem w Ai Ag Ao t)(S:Option Addr)(cs:Nat)(st:List Int)(hS:Ints w S st)(hls:lenOk st.length)(n:Nat)(hn:t.facts=n)(hv:Valid t)(h2:SetP st t.facts)(hre:¬ zJ4 t st) :
  Calls Tryz.prog 82 #[.agg #[.int .i64 t.facts,.slice Ai t.init.length ci,.slice Ag t.goal.length cg,.slice Ao t.ops.length co],.int .i64 4,.slice S st.length cs] w ((fun e w'=>Below w.heap.size w w'/\∃ h,e=.returned (.int .i64 h)/\xQt n t st h)):=by
 have HN:=lHd hn;have HV:=lHd hv;have H2:=lHd h2;have HRE:=lHd hre;clear hv h2 hn hre;go_enter Tryz.func82,Tryz.ntmps82
 go_wp2_with fail
 refine (vV9 _ t Ai Ag Ao ci cg co (hT.below bch) S cs st (hS.below bch) hls n HN.out HV.out H2.out HRE.out).mono ?_;rintro e w1 ⟨rfl,hB1⟩;have D1:=xJ3 w hB1 bch;have C1:=Cls.below (l:=[(w.heap.size,0,.int .i64 t.facts),(w.heap.size,1,.slice Ai t.init.length ci),(w.heap.size,2,.slice Ag t.goal.length cg),(w.heap.size,3,.slice Ao t.ops.length co)]) hB1 (by simp[Cls,go_sem]);have y1w0:w.heap.size < w1.heap.size:=C1.blk (b:=w.heap.size) (k:=0) (v:=.int .i64 t.facts) (by simp);go_wp2;refine bodyPost_ret (v:=.int .i64 1000000000) ?_ rfl ⟨mvk,1000000000,rfl,zKn HV.out HRE.out⟩;simp[results,Tryz.results82,go_sem,y1w0]
theorem vXp(w:World)(t:TaskV)(Ai Ag Ao:Option Addr)(ci cg co:Nat)(hT:TaskMem w Ai Ag Ao t)(S:Option Addr)(cs:Nat)(st:List Int)(hS:Ints w S st)(hls:lenOk st.length)(n:Nat)(hn:t.facts=n)(hv:Valid t)(h2:SetP st t.facts)(hre:zJ4 t st) :
  Calls Tryz.prog 82 #[.agg #[.int .i64 t.facts,.slice Ai t.init.length ci,.slice Ag t.goal.length cg,.slice Ao t.ops.length co],.int .i64 4,.slice S st.length cs] w ((fun e w'=>Below w.heap.size w w'/\∃ h,e=.returned (.int .i64 h)/\xQt n t st h)):=by
 have HN:=lHd hn;have HV:=lHd hv;have H2:=lHd h2;have HRE:=lHd hre;clear hv h2 hn hre;go_enter Tryz.func82,Tryz.ntmps82
 go_wp2_with fail
 refine (vZ2 _ t Ai Ag Ao ci cg co (hT.below bch) S cs st (hS.below bch) hls n HN.out HV.out H2.out HRE.out).mono ?_;rintro e w1 ⟨v1,xs,bs,rfl,hbs,hcs,hok,hbest,hz,hB1⟩;have D1:=xJ3 w hB1 bch;have C1:=Cls.below (l:=[(w.heap.size,0,.int .i64 t.facts),(w.heap.size,1,.slice Ai t.init.length ci),(w.heap.size,2,.slice Ag t.goal.length cg),(w.heap.size,3,.slice Ao t.ops.length co)]) hB1 (by simp[Cls,go_sem]);have y1w0:w.heap.size < w1.heap.size:=C1.blk (b:=w.heap.size) (k:=0) (v:=.int .i64 t.facts) (by simp);have Hok:=lHd hok;clear hok hbest hz hcs;go_wp2;refine bodyPost_ret (v:=.int .i64 (xJr xs)) ?_ rfl ⟨mvk,(xJr xs),rfl,zVx HV.out Hok.out⟩;simp[results,Tryz.results82,go_sem,y1w0]
theorem vXq(w:World)(t:TaskV)(Ai Ag Ao:Option Addr)(ci cg co:Nat)(hT:TaskMem w Ai Ag Ao t)(S:Option Addr)(cs:Nat)(st:List Int)(hS:Ints w S st)(hls:lenOk st.length)(n:Nat)(hn:t.facts=n)(hv:Valid t)(h2:SetP st t.facts) :
  Calls Tryz.prog 82 #[.agg #[.int .i64 t.facts,.slice Ai t.init.length ci,.slice Ag t.goal.length cg,.slice Ao t.ops.length co],.int .i64 4,.slice S st.length cs] w (fun e w'=>Below w.heap.size w w'/\∃ h,e=.returned (.int .i64 h)/\xQt n t st h):=by
 by_cases hre:zJ4 t st
 ·exact vXp w t Ai Ag Ao ci cg co hT S cs st hS hls n hn hv h2 hre
 ·exact vV2 w t Ai Ag Ao ci cg co hT S cs st hS hls n hn hv h2 hre
end Go.Proofs.YtpeipeljmapkmaaGreat
