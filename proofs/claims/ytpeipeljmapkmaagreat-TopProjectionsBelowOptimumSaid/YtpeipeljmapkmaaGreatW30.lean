/-
  Lemmas for the law: Tbe, Prd.
-/
import Derived.Test.YtpeipeljmapkmaaGreatW26
import Derived.Test.YtpeipeljmapkmaaGreatW16
set_option linter.unusedVariables false
set_option linter.unusedSimpArgs false
set_option maxRecDepth 100000
set_option maxHeartbeats 4000000
namespace Go.Proofs.YtpeipeljmapkmaaGreat
open Go.RowKit
section
open Go.Shelf
attribute [local go_sem] Oper.semAt_some
theorem zKx(x:Int)(h : -9223372036854775808<=x)(h':x<=9223372036854775807):IntKind.i64.wrap x=x:=by
 simp[IntKind.wrap,IntKind.bits,IntKind.signed];omega
theorem zZ8{fn:Func}{t u s:Tmp}(h:fn.results = #[.tmp t,.tmp u,.tmp s])(tmps:Array Value)(P:Program)(w:World) :
  (results fn tmps).run P w=.ok (.tuple #[tmps.getD t undef,tmps.getD u undef,tmps.getD s undef]) w:=by
 simp[results,h]
theorem xVm{P:Program}{fn:Func}{R:Ending->World->Prop}{n B:Nat}{t u s:Tmp}{a:Act}{W:World}(h:fn.results = #[.tmp t,.tmp u,.tmp s])(hm:MarksOk B a.defers W)(hR:∀ W',MTurn B W W'->R (.returned (.tuple #[a.tmps.getD t undef,a.tmps.getD u undef,a.tmps.getD s undef])) W'):bodyPostM Fence.wide n P fn R .ret a W:=
 xQg hm fun W' h'=>⟨zZ8 h _ _ _,hR W' h'⟩
def zZ9(n:Nat)(t:TaskV):Prop:=∀ qs,Fp n t.ops t.goal t.init qs->1000000000<=xJ9 (t.ops.map (·.cost)) qs
def vX8(n:Nat)(t:TaskV)(ps:List Nat):Prop:=∀ qs,Fp n t.ops t.goal t.init qs->xJ9 (t.ops.map (·.cost)) qs < 1000000000->4096 * xJ9 (t.ops.map (·.cost)) ps+ps.length<=4096 * xJ9 (t.ops.map (·.cost)) qs+qs.length
def BestP(n:Nat)(t:TaskV)(w0 w:World)(ls:List (List Int))(e:Ending)(w':World):Prop:=Below w0.heap.size w0 w' /\
 (
   (∃ ne:Nat,e=.returned (.tuple #[.slice none 0 0,.int .i64 ne,.bool false])/\zZ9 n t) \/
   (∃ (v:Value) (ne:Nat) (l:List Int) (ps:List Nat),e=.returned (.tuple #[v,.int .i64 ne,.bool true])/\(∃ B,w0.heap.size<=B/\OwnI B w' v (ps.map Int.ofNat))/\Pth n t.ops t.init l ps/\(∀ q∈t.goal,q∈l)/\ps.length+1<=ls.length/\vX8 n t ps))
def CntA(ls:List (List Int))(nh nP nB:Nat)(fh:Int->Option Int)(fP fB:Int->Option Value):Prop:=nh+unF ls (hF fh)<=ls.length/\nP+unF ls fP<=ls.length/\nB+unF ls fB<=ls.length
def PMem(ls:List (List Int))(D:List Int->Int)(fP:Int->Option Value):Prop:=∀ l∈ls,(D l=1000000000/\fP (xJ1 l)=none)\/(D l < 1000000000/\D l+409601 * (unF ls fP:Int)<=409601 * (ls.length:Int)/\fP (xJ1 l)=some (.int .i64 (D l)))
theorem PMem.start{n:Nat}{ls:List (List Int)}{st:List Int}(hn:ls.Nodup)(hs:∀ x∈ls,SetP x (n:Int))(hst:st∈ls):PMem ls (D0 st) (upd (fun _=>none) (xJ1 st) (.int .i64 0)):=fun l hl=>by
 have h1:=xYg (f:=fun _=>none) (v:=.int .i64 0) hn hs hst 0;rw[xY0] at h1
 by_cases e:l=st
 ·subst e;right;have e2:D0 l l=0:=if_pos rfl;rw[e2,xXb];refine⟨by omega,by omega,rfl⟩
 ·left;exact⟨if_neg e,by rw[xJp _ _ (fun e2=>e (xJq (hs l hl) (hs st hst) e2))]⟩
theorem PMem.put{n:Nat}{ls:List (List Int)}{D:List Int->Int}{fP:Int->Option Value}{s l':List Int}{N c:Int}(h:PMem ls D fP)(hn:ls.Nodup)(hset:∀ x∈ls,SetP x (n:Int))(hs:s∈ls)(hsD:D s < 1000000000)(hl:l'∈ls)(hN:N=D s+(c * 4096+1))(hc:0<=c/\c<=100)(hlt:N < D l')(hls:ls.length<=2000) :
  PMem ls (xVs D l' N) (upd fP (xJ1 l') (.int .i64 N)):=by
 have h1:=xYg (f:=fP) (v:=.int .i64 N) hn hset hl 0;have hP:=h s hs;have hsb:D s+409601 * (unF ls fP:Int)<=409601 * (ls.length:Int):=by rcases hP with h2 | h2 <;> omega
 intro x hx
 by_cases e:x=l'
 ·subst e;right;have e2:xVs D x N x=N:=if_pos rfl;rw[e2,xXb];rcases h x hx with ⟨h2,h3⟩ | ⟨h2,h3,h4⟩
  ·have h5:up1 fP (xJ1 x) 0=1:=by unfold up1;rw[h3];rfl
   refine⟨by omega,by omega,rfl⟩
  ·have h5:up1 fP (xJ1 x) 0=0:=by unfold up1;rw[h4];rfl
   refine⟨by omega,by omega,rfl⟩
 ·have e2:xVs D l' N x=D x:=if_neg e;rw[e2,xJp _ _ (fun e3=>e (xJq (hset x hx) (hset l' hl) e3))];rcases h x hx with h2 | ⟨h2,h3,h4⟩
  ·exact .inl h2
  ·refine .inr ⟨h2,by omega,h4⟩
theorem CntA.h{n:Nat}{ls:List (List Int)}{nh nP nB:Nat}{fh fh':Int->Option Int}{fP fB:Int->Option Value}(h:CntA ls nh nP nB fh fP fB)(hn:ls.Nodup)(hset:∀ x∈ls,SetP x (n:Int)){l:List Int}(hl:l∈ls){v:Int}(e:hF fh'=upd (hF fh) (xJ1 l) (.int .i64 v)):CntA ls (up1 (hF fh) (xJ1 l) nh) nP nB fh' fP fB:=by
 refine⟨?_,h.2⟩;rw[e,xYg hn hset hl];exact h.1
theorem CntA.pb{n:Nat}{ls:List (List Int)}{nh nP nB:Nat}{fh:Int->Option Int}{fP fB:Int->Option Value}(h:CntA ls nh nP nB fh fP fB)(hn:ls.Nodup)(hset:∀ x∈ls,SetP x (n:Int)){l:List Int}(hl:l∈ls)(u v:Value):CntA ls nh (up1 fP (xJ1 l) nP) (up1 fB (xJ1 l) nB) fh (upd fP (xJ1 l) u) (upd fB (xJ1 l) v):=
 ⟨h.1,by rw[xYg hn hset hl];exact h.2.1,by rw[xYg hn hset hl];exact h.2.2⟩
def IBest(k:Blk)(w0 w:World)(t:TaskV)(Ai Ag Ao:Option Addr)(ci cg co:Nat)(ds:List Deferred)(nE:Nat)(fE:Int->Option Value)(n:Nat)(ls:List (List Int))(b9 b2 M:Nat)(s:List Int)(d:Int)(pre:List (xZo n t.ops s))(W:World):Prop:=
 ∃ (nh nP nB nq:Nat) (fh:Int->Option Int) (fP fB:Int->Option Value) (fq:Int->Option Int) (D:List Int->Int),BM k w0 w t Ai Ag Ao ci cg co ds nh nP nB nE nq fh fP fB fE fq W/\Hid (AS1 n t.ops t.goal t.init ls D fB fh fq s d (pre.map (·.1)))/\Hid (HeuOk n t fh)/\Hid (CntA ls nh nP nB fh fP fB)/\Hid (PMem ls D fP)/\Hid (2 * xWc ls D+nq<=M)/\Arr W b9 56 [.int .u32 (xJ1 s)]/\Arr W b2 56 [.int .u32 (xJ1 s)]/\b2+1<=W.heap.size
theorem IBest.turn{k:Blk}{w0 w W0 W W':World}{t:TaskV}{Ai Ag Ao:Option Addr}{ci cg co:Nat}{ds:List Deferred}{nE:Nat}{fE:Int->Option Value}{n:Nat}{ls:List (List Int)}{b9 b2 M:Nat}{s:List Int}{d:Int}{pre:List (xZo n t.ops s)}(hk0:MarksOk w.heap.size ds W0)(hM0:k.me < W0.heap.size)
  (h:IBest k w0 w t Ai Ag Ao ci cg co ds nE fE n ls b9 b2 M s d pre W) (ht:Turn W0.heap.size W W'):IBest k w0 w t Ai Ag Ao ci cg co ds nE fE n ls b9 b2 M s d pre W':=by
 obtain⟨nh,nP,nB,nq,fh,fP,fB,fq,D,h1,h2,h3,h4,h5,h6,h7,h8,h9⟩:=h;have hsz:W.heap.size<=W'.heap.size:=by obtain⟨row,hg,_⟩:=ht;exact hg.size
 exact⟨nh,nP,nB,nq,fh,fP,fB,fq,D,h1.turn hk0 hM0 ht,h2,h3,h4,h5,h6,h7.turn ht,h8.turn ht,Nat.le_trans h9 hsz⟩
theorem vX9{n:Nat}{t:TaskV}{ls:List (List Int)}{D:List Int->Int}{Pa fP:Int->Option Value}{fh fq:Int->Option Int}(h:ASt n t.ops t.goal t.init ls D Pa fh fq)(hC:Clos n t.ops t.init ls)(hv:Valid t)(hn:t.facts=n)(hH:HeuOk n t fh)(hP:PMem ls D fP)(hl:ls.length<=2000)(he:∀ x,fq x=none):zZ9 n t:=fun qs hq=>by
 refine Classical.byContradiction fun hc=>?_
 have hb:∀ l∈ls,D l < 1000000000->D l < 900000000:=fun l h1 h2=>by rcases hP l h1 with h3 | h3 <;> omega
 obtain⟨x,k,h1,_⟩:=h.queued hC hv hn hb hH hq hC.hst (by rw[h.d0];omega) (by omega) 0 (by rw[h.d0];omega);rw[he] at h1;cases h1
theorem vVi{n:Nat}{t:TaskV}{ls:List (List Int)}{D:List Int->Int}{Pa fP:Int->Option Value}{fh fq:Int->Option Int}(h:ASt n t.ops t.goal t.init ls D Pa fh fq)(hC:Clos n t.ops t.init ls)(hv:Valid t)(hn:t.facts=n)(hH:HeuOk n t fh)(hP:PMem ls D fP)(hl:ls.length<=2000){l:List Int}{k:Int}{ps:List Nat}(hlm:l∈ls)(hk:fq (xJ1 l)=some k)(hmin:∀ y k',fq y=some k'->k<=k')(hps:4096 * xJ9 (t.ops.map (·.cost)) ps+ps.length<=D l):vX8 n t ps:=fun qs hq hc=>by
 have hb:∀ l∈ls,D l < 1000000000->D l < 900000000:=fun l h1 h2=>by rcases hP l h1 with h3 | h3 <;> omega
 obtain⟨x,k',h1,h2⟩:=h.queued hC hv hn hb hH hq hC.hst (by rw[h.d0];omega) hc 0 (by rw[h.d0];omega);have h3:=hmin _ _ h1;obtain⟨l',h4,h5,h6,v,h7,h8⟩:=h.q _ _ hk;have e:=xJq (hC.set l' h4) (hC.set l hlm) h5;subst e;have h9:=(hH l' (hC.set l' h4) v h7).1;omega
theorem zKy{n:Nat}{t:TaskV}(hv:Valid t)(hn:t.facts=n)(hs:SetP t.init (n:Int)){h:Int}(hc:xVf n t t.init h)(hi:1000000000<=h):zZ9 n t:=fun qs hq=>by
 refine Classical.byContradiction fun hc2=>?_
 have:=hq.low hv hn hs (by omega);have:=hc.2.2;omega
theorem vXa{B b:Nat}{w w':World}{v:Value}{xs:List Int}(h:OwnI B w v xs)(hm:MTurn b w w'):OwnI B w' v xs:=zXq h hm
theorem vXb{base g n hb:Nat}{w0 w:World}{t:TaskV}{Ai Ag Ao:Option Addr}{ci cg co:Nat}{ls:List (List Int)}(hW:WMem base w0 g t)(hT:TaskMem w0 Ai Ag Ao t)(hB0:Below w0.heap.size w0 w)(hX:HBox hb w t Ai Ag Ao ci cg co)(hMh:MapF w (hb+1+1) 0 (hF fun _=>none))(hhb:w0.heap.size<=hb)(hn:t.facts=n)(hv:Valid t)(hC:Clos n t.ops t.init ls)(hl:ls.length<=2000) :
  Calls Tryz.prog 28 #[.iface 50 (.pointer (some ⟨g,0,none⟩)),.func (.func 81) #[] #[.pointer (some ⟨(hb+1+1+1),0,none⟩),.pointer (some ⟨hb,0,none⟩),.pointer (some ⟨(hb+1),0,none⟩)]] w (BestP n t w0 w ls):=by
 have hvs:=zXa hv hn;have hn24:=hvs.n24;have hSi:=hvs.init;have hwi:=hSi.wrd hn24;have HVS:=lHd hvs;have HV:=lHd hv;have HC:=lHd hC;have hs1:=fun n w=>vJx ⟨g,0,none⟩ n w
 have hs2:=fun n w=>vJy ⟨g,0,none⟩ n w
 have hs3:=fun n w=>vWn ⟨g,0,none⟩ n w
 have hmm:=@run_makeMap Tryz.prog;have hz0:=hB0.size;have hxl:=hX.lt;clear hvs hv hC;refine xZq Tryz.func28 rfl ?_;simp only[Tryz.ntmps28,List.size_toArray,List.length_cons,List.length_nil,Nat.reduceAdd,Nat.reduceSub,Array.replicate_succ,Array.replicate_zero,List.push_toArray,List.append_toArray,List.nil_append,List.cons_append];have hB1:Below w0.heap.size w0 (w.alloc (.cells #[.func (.func 81) #[] #[.pointer (some ⟨(hb+1+1+1),0,none⟩),.pointer (some ⟨hb,0,none⟩),.pointer (some ⟨(hb+1),0,none⟩)]] 73)):=mvh;have hX1:HBox hb (w.alloc (.cells #[.func (.func 81) #[] #[.pointer (some ⟨(hb+1+1+1),0,none⟩),.pointer (some ⟨hb,0,none⟩),.pointer (some ⟨(hb+1),0,none⟩)]] 73)) t Ai Ag Ao ci cg co:=mvh;have hM1:MapF (w.alloc (.cells #[.func (.func 81) #[] #[.pointer (some ⟨(hb+1+1+1),0,none⟩),.pointer (some ⟨hb,0,none⟩),.pointer (some ⟨(hb+1),0,none⟩)]] 73)) (hb+1+1) 0 (hF fun _=>none):=mvh;have hb1:Arr (w.alloc (.cells #[.func (.func 81) #[] #[.pointer (some ⟨(hb+1+1+1),0,none⟩),.pointer (some ⟨hb,0,none⟩),.pointer (some ⟨(hb+1),0,none⟩)]] 73)) w.heap.size 73 [.func (.func 81) #[] #[.pointer (some ⟨(hb+1+1+1),0,none⟩),.pointer (some ⟨hb,0,none⟩),.pointer (some ⟨(hb+1),0,none⟩)]]:=Arr.new_at w _ rfl _ _;have hc1:=hb1.cell 0
 go_wp2_with (go_at_call 18;refine (xYi (WMem.below hW hB1)).mono ?_;rintro e w' ⟨rfl,rfl⟩)
 refine (xZu hT hB1 hX1 hM1 (by omega) hn HV.out hSi (HeuOk.nil n t) (by simp;omega)).mono ?_;rintro e w2 ⟨h0,fh,rfl,hcv,hfh,hext,hok,hFe,hM2,hg2⟩;have hX2:HBox hb w2 t Ai Ag Ao ci cg co:=mvh;have hb2:Arr w2 w.heap.size 73 [.func (.func 81) #[] #[.pointer (some ⟨(hb+1+1+1),0,none⟩),.pointer (some ⟨hb,0,none⟩),.pointer (some ⟨(hb+1),0,none⟩)]]:=mvh;have hB2:Below w0.heap.size w0 w2:=mvh;have hz2:=hg2.size;simp only[World.size_alloc] at hz2;have hk2:MarksOk w.heap.size [] w2:=MarksOk.nil _ _;have HI:=lHd (zKy HV.out hn hSi hcv);have HH:=lHd hok;have HFE:=lHd hFe;have hnh1:up1 (hF fun _=>none) (xJ1 t.init) 0<=1:=zZs _ _ _;clear hX1 hM1 hb1 hc1 hB1 hcv hok hfh hFe hext hMh
 by_cases hinf:1000000000<=h0
 ·have HI2:=lHd (HI.out hinf);go_wp2
  (try simp only[Exit.inBlock,Exit.then])
  refine xVm rfl hk2 ?_;intro W' hW';exact⟨hB2.trans (hW'.below.mono (by omega)),.inl ⟨0,rfl,HI2.out⟩⟩
 ·have hlt0:h0 < 1000000000:=by omega
  have hMm:=MapF.made w2;have hMh2:MapF w2 (hb+1+1) (up1 (hF fun _=>none) (xJ1 t.init) 0) (hF fh):=hM2
  go_wp2_with (first | (refine xQs rfl (.tmp 25) (.tmp 26) (.const (.int .i64 0)) 54 rfl 3 Tryz.underlying54 rfl (MapF.made w2) (by omega) (xJ1 t.init) (.int .i64 0) rfl rfl hwi ?_;intro w3 hM3 hg3;have hz3:=hg3.size;simp only[World.size_alloc] at hz3;have hMn:=MapF.made_at (w3.alloc (.cells #[.map (some w2.heap.size)] 54)) (w3.heap.size+1) (by simp)) | (refine xQs rfl (.tmp 28) (.tmp 29) (.tmp 31) 147 rfl 146 Tryz.underlying147 rfl hMn (by omega) (xJ1 t.init) (.agg #[.int .u32 (xJ1 t.init),.int .i64 0]) rfl rfl hwi ?_;intro w4 hM4 hg4;have hz4:=hg4.size;simp only[World.size_alloc] at hz4) | (go_at_call 54;(refine (zYg _).mono ?_);rintro e w5 ⟨rfl,hQ5,hB5⟩))
  have hz5:=hB5.size;simp only[World.size_alloc] at hQ5 hz5;have hX3:HBox hb w3 t Ai Ag Ao ci cg co:=mvh;have hMh3:MapF w3 (hb+1+1) (up1 (hF fun _=>none) (xJ1 t.init) 0) (hF fh):=mvh;have hb3:Arr w3 w.heap.size 73 [.func (.func 81) #[] #[.pointer (some ⟨(hb+1+1+1),0,none⟩),.pointer (some ⟨hb,0,none⟩),.pointer (some ⟨(hb+1),0,none⟩)]]:=mvh;have hB3:Below w0.heap.size w0 w3:=mvh;have hX4:HBox hb w4 t Ai Ag Ao ci cg co:=mvh;have hMh4:MapF w4 (hb+1+1) (up1 (hF fun _=>none) (xJ1 t.init) 0) (hF fh):=mvh;have hb4:Arr w4 w.heap.size 73 [.func (.func 81) #[] #[.pointer (some ⟨(hb+1+1+1),0,none⟩),.pointer (some ⟨hb,0,none⟩),.pointer (some ⟨(hb+1),0,none⟩)]]:=mvh;have hB4:Below w0.heap.size w0 w4:=mvh;have hMp4:MapF w4 w2.heap.size (up1 (fun _=>none) (xJ1 t.init) 0) (upd (fun _=>none) (xJ1 t.init) (.int .i64 0)):=mvh;have hbp0:Arr ((w3.alloc (.cells #[.map (some w2.heap.size)] 54)).alloc (.map #[] 0)) w3.heap.size 54 [.map (some w2.heap.size)]:=(Arr.new_at w3 _ rfl _ _).alloc _;have hbp4:Arr w4 w3.heap.size 54 [.map (some w2.heap.size)]:=mvh;have hba0:Arr (w4.alloc (.cells #[.map (some (w3.heap.size+1))] 147)) w4.heap.size 147 [.map (some (w3.heap.size+1))]:=Arr.new_at w4 _ rfl _ _;have hX5:HBox hb w5 t Ai Ag Ao ci cg co:=HBox.below (B:=0) (hX4.alloc _) hB5;have hMh5:MapF w5 (hb+1+1) (up1 (hF fun _=>none) (xJ1 t.init) 0) (hF fh):=(hMh4.alloc _).below hB5 (by simp;omega);have hb5:Arr w5 w.heap.size 73 [.func (.func 81) #[] #[.pointer (some ⟨(hb+1+1+1),0,none⟩),.pointer (some ⟨hb,0,none⟩),.pointer (some ⟨(hb+1),0,none⟩)]]:=(hb4.alloc _).below hB5;have hB50:Below w0.heap.size w0 w5:=(hB4.alloc (by omega) _).trans (hB5.mono (by simp;omega));have hMp5:MapF w5 w2.heap.size (up1 (fun _=>none) (xJ1 t.init) 0) (upd (fun _=>none) (xJ1 t.init) (.int .i64 0)):=(hMp4.alloc _).below hB5 (by simp;omega);have hbp5:Arr w5 w3.heap.size 54 [.map (some w2.heap.size)]:=(hbp4.alloc _).below hB5;have hMa5:MapF w5 (w3.heap.size+1) (up1 (fun _=>none) (xJ1 t.init) 0) (upd (fun _=>none) (xJ1 t.init) (.agg #[.int .u32 (xJ1 t.init),.int .i64 0])):=(hM4.alloc _).below hB5 (by simp;omega);have hba5:Arr w5 w4.heap.size 147 [.map (some (w3.heap.size+1))]:=hba0.below hB5;have hql:=hQ5.qlt;obtain⟨W5,hW5⟩:∃ x,Hid (x=(w5.alloc (.cells #[.pointer (some ⟨w4.heap.size+1+1,0,none⟩)] 102)).drew):=⟨_,rfl⟩;have hbq5:Arr W5 w5.heap.size 102 [.pointer (some ⟨w4.heap.size+1+1,0,none⟩)]:=by rw[hW5.out];exact (Arr.new_at w5 _ rfl _ _).drew
  have gX5:HBox hb W5 t Ai Ag Ao ci cg co:=by rw[hW5.out];exact mvh
  have gM5:MapF W5 (hb+1+1) (up1 (hF fun _=>none) (xJ1 t.init) 0) (hF fh):=by rw[hW5.out];exact mvh
  have gb5:Arr W5 w.heap.size 73 [.func (.func 81) #[] #[.pointer (some ⟨(hb+1+1+1),0,none⟩),.pointer (some ⟨hb,0,none⟩),.pointer (some ⟨(hb+1),0,none⟩)]]:=by rw[hW5.out];exact mvh
  have gB5:Below w0.heap.size w0 W5:=by rw[hW5.out];exact mvh
  have gMp5:MapF W5 w2.heap.size (up1 (fun _=>none) (xJ1 t.init) 0) (upd (fun _=>none) (xJ1 t.init) (.int .i64 0)):=by rw[hW5.out];exact mvh
  have gbp5:Arr W5 w3.heap.size 54 [.map (some w2.heap.size)]:=by rw[hW5.out];exact mvh
  have gMa5:MapF W5 (w3.heap.size+1) (up1 (fun _=>none) (xJ1 t.init) 0) (upd (fun _=>none) (xJ1 t.init) (.agg #[.int .u32 (xJ1 t.init),.int .i64 0])):=by rw[hW5.out];exact mvh
  have gba5:Arr W5 w4.heap.size 147 [.map (some (w3.heap.size+1))]:=by rw[hW5.out];exact mvh
  have gQ5:Que (w4.heap.size+1) (w4.heap.size+1+1) (w4.heap.size+1) W5 0 (fun _=>none):=by rw[hW5.out];exact mvh
  have gz5:w5.heap.size+1<=W5.heap.size:=by rw[hW5.out];exact Nat.le_of_eq (World.size_alloc _ _).symm
  clear hX2 hb2 hB2 hk2 hX3 hMh3 hb3 hB3 hX4 hMh4 hb4 hB4 hMp4 hbp0 hbp4 hba0 hX5 hMh5 hb5 hB50 hMp5 hbp5 hMa5 hba5 hM3 hg3 hM4 hg4 hMm hMn hQ5 hMh2 hM2 hg2 hB5;have hSS0:(w5.alloc (.cells #[.pointer (some ⟨w4.heap.size+1+1,0,none⟩)] 102)).drew.cell? ⟨w5.heap.size,0,none⟩=some (.pointer (some ⟨w4.heap.size+1+1,0,none⟩))/\(w5.alloc (.cells #[.pointer (some ⟨w4.heap.size+1+1,0,none⟩)] 102)).drew.cell? ⟨w.heap.size,0,none⟩=some (.func (.func 81) #[] #[.pointer (some ⟨(hb+1+1+1),0,none⟩),.pointer (some ⟨hb,0,none⟩),.pointer (some ⟨(hb+1),0,none⟩)]):=by rw[<- hW5.out];exact⟨hbq5.cell 0,gb5.cell 0⟩
  go_wp2;refine xKv (fun W=>W.cell? ⟨w5.heap.size,0,none⟩=some (.pointer (some ⟨w4.heap.size+1+1,0,none⟩))/\W.cell? ⟨w.heap.size,0,none⟩=some (.func (.func 81) #[] #[.pointer (some ⟨(hb+1+1+1),0,none⟩),.pointer (some ⟨hb,0,none⟩),.pointer (some ⟨(hb+1),0,none⟩)])) [] (by kernel_rfl) ?_;have hSS:=hSS0;refine xJ0 (i:=0) (v:=?vz10) rfl (by kernel_rfl) (by kernel_rfl) (by kernel_rfl) (by kernel_rfl) (by kernel_rfl) (fun _ _ _ h=>h) (Or.inl ⟨by rfl,?hz10⟩) (by assumption) ?rz10
  case hz10=>(intro w hSw;(try dsimp only at hSw);go_simp;(try with_reducible rfl))
  try simp only[ap]
  refine xJ0 (i:=1) (v:=?vz11) rfl (by kernel_rfl) (by kernel_rfl) (by kernel_rfl) (by kernel_rfl) (by kernel_rfl) (fun _ _ _ h=>h) (Or.inl ⟨by rfl,?hz11⟩) (by assumption) ?rz11
  case hz11=>(intro w hSw;(try dsimp only at hSw);go_simp;(try with_reducible rfl))
  try simp only[ap]
  refine xJ0 (i:=2) (v:=?vz12) rfl (by kernel_rfl) (by kernel_rfl) (by kernel_rfl) (by kernel_rfl) (by kernel_rfl) (fun _ _ _ h=>h) (Or.inl ⟨by rfl,?hz12⟩) (by assumption) ?rz12
  case hz12=>(intro w hSw;(try dsimp only at hSw);go_simp;(try with_reducible rfl))
  try simp only[ap]
  refine xJ0 (i:=3) (v:=?vz13) rfl (by kernel_rfl) (by kernel_rfl) (by kernel_rfl) (by kernel_rfl) (by kernel_rfl) (fun _ _ _ h=>h) (Or.inl ⟨by rfl,?hz13⟩) (by assumption) ?rz13
  case hz13=>(intro w hSw;(try dsimp only at hSw);go_simp;(try with_reducible rfl))
  try simp only[ap]
  refine xJ3 (i:=4) (by kernel_rfl) rfl (fun K hK=>?_);go_simp;go_at_call 81;rw[<- hW5.out];refine (xZu hT gB5 gX5 gM5 (by omega) hn HV.out hSi HH.out (by omega)).mono ?_;rintro e w6 ⟨h1,fh1,rfl,hcv1,hfh1,hext1,hok1,hFe1,hM6,hg6⟩;have hb6:Arr w6 w.heap.size 73 [.func (.func 81) #[] #[.pointer (some ⟨(hb+1+1+1),0,none⟩),.pointer (some ⟨hb,0,none⟩),.pointer (some ⟨(hb+1),0,none⟩)]]:=mvh;have hq6:Arr w6 w5.heap.size 102 [.pointer (some ⟨w4.heap.size+1+1,0,none⟩)]:=mvh;have hQ6:Que (w4.heap.size+1) (w4.heap.size+1+1) (w4.heap.size+1) w6 0 (fun _=>none):=mvh;have hcvb:=hcv1.1;have hcvb2:=hcv1.2.1
  go_wp2_with fail
  have hSS:w6.cell? ⟨w5.heap.size,0,none⟩=some (.pointer (some ⟨w4.heap.size+1+1,0,none⟩))/\w6.cell? ⟨w.heap.size,0,none⟩=some (.func (.func 81) #[] #[.pointer (some ⟨(hb+1+1+1),0,none⟩),.pointer (some ⟨hb,0,none⟩),.pointer (some ⟨(hb+1),0,none⟩)]):=⟨hq6.cell 0,hb6.cell 0⟩;refine hK.out _ _ hSS ?_;clear hK K
  try simp only[ap]
  refine xJ3 (i:=5) (by kernel_rfl) rfl (fun K hK=>?_);go_simp
  go_wp2_with fail
  rw[zKx _ (by omega) (by omega)];have hSS:w6.cell? ⟨w5.heap.size,0,none⟩=some (.pointer (some ⟨w4.heap.size+1+1,0,none⟩))/\w6.cell? ⟨w.heap.size,0,none⟩=some (.func (.func 81) #[] #[.pointer (some ⟨(hb+1+1+1),0,none⟩),.pointer (some ⟨hb,0,none⟩),.pointer (some ⟨(hb+1),0,none⟩)]):=⟨hq6.cell 0,hb6.cell 0⟩;refine hK.out _ _ hSS ?_;clear hK K
  try simp only[ap]
  refine xJ3 (i:=6) (by kernel_rfl) rfl (fun K hK=>?_);go_simp;go_at_call 56;refine (zJk hQ6 (xJ1 t.init) (4096 * h1) hwi (by omega)).mono ?_;rintro e w7 ⟨rfl,hQ7,hU7⟩;have hqm6:=hQ6.obj;have hb7:Arr w7 w.heap.size 73 [.func (.func 81) #[] #[.pointer (some ⟨(hb+1+1+1),0,none⟩),.pointer (some ⟨hb,0,none⟩),.pointer (some ⟨(hb+1),0,none⟩)]]:=mvh;have hq7:Arr w7 w5.heap.size 102 [.pointer (some ⟨w4.heap.size+1+1,0,none⟩)]:=mvh
  go_wp2_with fail
  have hSS:w7.cell? ⟨w5.heap.size,0,none⟩=some (.pointer (some ⟨w4.heap.size+1+1,0,none⟩))/\w7.cell? ⟨w.heap.size,0,none⟩=some (.func (.func 81) #[] #[.pointer (some ⟨(hb+1+1+1),0,none⟩),.pointer (some ⟨hb,0,none⟩),.pointer (some ⟨(hb+1),0,none⟩)]):=⟨hq7.cell 0,hb7.cell 0⟩;refine hK.out _ _ hSS ?_;clear hK K
  try simp only[ap]
  refine xJ7 (by kernel_rfl) ?_ _;dsimp only[vY2];obtain⟨k,hk⟩:∃ k:Blk,k=⟨hb,w.heap.size,w2.heap.size,w3.heap.size,w3.heap.size+1,w4.heap.size,w4.heap.size+1,w4.heap.size+1+1,w5.heap.size,w7.heap.size⟩:=⟨_,rfl⟩;have hz6:=hg6.size;have hz7:=hU7.below.size;have gX6:HBox hb w6 t Ai Ag Ao ci cg co:=mvh;have gB6:Below w0.heap.size w0 w6:=mvh;have gMp6:MapF w6 w2.heap.size (up1 (fun _=>none) (xJ1 t.init) 0) (upd (fun _=>none) (xJ1 t.init) (.int .i64 0)):=mvh;have gbp6:Arr w6 w3.heap.size 54 [.map (some w2.heap.size)]:=mvh;have gMa6:MapF w6 (w3.heap.size+1) (up1 (fun _=>none) (xJ1 t.init) 0) (upd (fun _=>none) (xJ1 t.init) (.agg #[.int .u32 (xJ1 t.init),.int .i64 0])):=mvh;have gba6:Arr w6 w4.heap.size 147 [.map (some (w3.heap.size+1))]:=mvh;have gX7:HBox hb w7 t Ai Ag Ao ci cg co:=mvh;have gM7:MapF w7 (hb+1+1) (up1 (hF fh) (xJ1 t.init) (up1 (hF fun _=>none) (xJ1 t.init) 0)) (hF fh1):=mvh;have gb7:Arr w7 w.heap.size 73 [.func (.func 81) #[] #[.pointer (some ⟨(hb+1+1+1),0,none⟩),.pointer (some ⟨hb,0,none⟩),.pointer (some ⟨(hb+1),0,none⟩)]]:=mvh;have gbq7:Arr w7 w5.heap.size 102 [.pointer (some ⟨w4.heap.size+1+1,0,none⟩)]:=mvh;have gMp7:MapF w7 w2.heap.size (up1 (fun _=>none) (xJ1 t.init) 0) (upd (fun _=>none) (xJ1 t.init) (.int .i64 0)):=mvh;have gbp7:Arr w7 w3.heap.size 54 [.map (some w2.heap.size)]:=mvh;have gMa7:MapF w7 (w3.heap.size+1) (up1 (fun _=>none) (xJ1 t.init) 0) (upd (fun _=>none) (xJ1 t.init) (.agg #[.int .u32 (xJ1 t.init),.int .i64 0])):=mvh;have gba7:Arr w7 w4.heap.size 147 [.map (some (w3.heap.size+1))]:=mvh;have gB7:Below w0.heap.size w0 w7:=mvh;have hBM:BM k w0 w t Ai Ag Ao ci cg co [] (up1 (hF fh) (xJ1 t.init) (up1 (hF fun _=>none) (xJ1 t.init) 0)) (up1 (fun _=>none) (xJ1 t.init) 0) (up1 (fun _=>none) (xJ1 t.init) 0) 0 (upN (fun _=>none) (xJ1 t.init) 0) fh1 (upd (fun _=>none) (xJ1 t.init) (.int .i64 0)) (upd (fun _=>none) (xJ1 t.init) (.agg #[.int .u32 (xJ1 t.init),.int .i64 0])) (fun _=>none) (xZi (fun _=>none) (xJ1 t.init) (4096 * h1)) (w7.alloc (.map #[] 0)):=by
   subst hk;exact⟨⟨hhb,hxl,rfl,by dsimp only;omega,by dsimp only;omega,by dsimp only;omega,by dsimp only;omega,by dsimp only;omega,by dsimp only;omega,by dsimp only;omega,by dsimp only;omega⟩,gX7.alloc _,gM7.alloc _,gb7.alloc _,gMp7.alloc _,gbp7.alloc _,gMa7.alloc _,gba7.alloc _,hQ7.alloc _,gbq7.alloc _,MapF.made w7,MarksOk.nil _ _,gB7.alloc (by omega) _⟩
  have hk0:k.b0=w.heap.size/\k.bp=w3.heap.size/\k.ba=w4.heap.size/\k.bq=w5.heap.size/\k.me=w7.heap.size:=by subst hk;exact⟨rfl,rfl,rfl,rfl,rfl⟩
  have hcnt:CntA ls (up1 (hF fh) (xJ1 t.init) (up1 (hF fun _=>none) (xJ1 t.init) 0)) (up1 (fun _=>none) (xJ1 t.init) 0) (up1 (fun _=>none) (xJ1 t.init) 0) fh1 (upd (fun _=>none) (xJ1 t.init) (.int .i64 0)) (upd (fun _=>none) (xJ1 t.init) (.agg #[.int .u32 (xJ1 t.init),.int .i64 0])):=by
   have e0:CntA ls 0 0 0 (fun _=>none) (fun _=>none) (fun _=>none):=by
    have e:hF (fun _=>none)=fun _=>none:=rfl
    refine⟨?_,?_,?_⟩
    ·rw[e,xY0];omega
    ·rw[xY0];omega
    ·rw[xY0];omega
   exact ((e0.h HC.out.nd HC.out.set HC.out.hst HFE.out).h HC.out.nd HC.out.set HC.out.hst hFe1).pb HC.out.nd HC.out.set HC.out.hst _ _
  have HCN:=lHd hcnt;have HPM:=lHd (PMem.start HC.out.nd HC.out.set HC.out.hst);have HAS:=lHd (ASt.start (n:=n) (ops:=t.ops) (goal:=t.goal) (Pa:=upd (fun _=>none) (xJ1 t.init) (.agg #[.int .u32 (xJ1 t.init),.int .i64 0])) HC.out.set HC.out.hst hfh1);have HOK:=lHd hok1;clear hcnt hfh1 hok1 hFe1 hext1 hcv1 gX5 gM5 gb5 gB5 gMp5 gbp5 gMa5 gba5 gQ5 gz5 hbq5 gX6 gB6 gMp6 gbp6 gMa6 gba6 gX7 gM7 gb7 gbq7 gMp7 gbp7 gMa7 gba7 gB7 hQ7 hU7 hQ6 hqm6 hb6 hq6 hM6 hg6 hSS0 hW5;go_wp2;rw[<- hk0.1,<- hk0.2.1,<- hk0.2.2.1,<- hk0.2.2.2.1,<- hk0.2.2.2.2];refine wp_loop_ghost_k (fun gk a wr=>∃ (ds:List Deferred) (F:Array Value),(∃ (nh nP nB nE nq:Nat) (fh:Int->Option Int) (fP fB fE:Int->Option Value) (fq:Int->Option Int) (D:List Int->Int),BM k w0 w t Ai Ag Ao ci cg co ds nh nP nB nE nq fh fP fB fE fq wr/\Hid (ASt n t.ops t.goal t.init ls D fB fh fq)/\Hid (HeuOk n t fh)/\Hid (CntA ls nh nP nB fh fP fB)/\nE+unF ls fE<=ls.length/\Hid (PMem ls D fP)/\Hid (gk=2 * xWc ls D+nq))/\a={ tmps:=#[.iface 50 (.pointer (some ⟨g,0,none⟩)),fr F 1,fr F 2,.pointer (some ⟨k.b0,0,none⟩),fr F 4,fr F 5,fr F 6,.int .u32 (xJ1 t.init),.pointer (some ⟨k.bp,0,none⟩),.pointer (some ⟨k.ba,0,none⟩),.pointer (some ⟨k.bq,0,none⟩),.map (some k.me),fr F 12,fr F 13,fr F 14,fr F 15,fr F 16,fr F 17,fr F 18,fr F 19,fr F 20,fr F 21,fr F 22,fr F 23,fr F 24,fr F 25,fr F 26,fr F 27,fr F 28,fr F 29,fr F 30,fr F 31,fr F 32,fr F 33,fr F 34,fr F 35,fr F 36,fr F 37,fr F 38,fr F 39,fr F 40,fr F 41,fr F 42,fr F 43,fr F 44,fr F 45,fr F 46,fr F 47,fr F 48,fr F 49,fr F 50,fr F 51,fr F 52,fr F 53,fr F 54,fr F 55,fr F 56,fr F 57,fr F 58,fr F 59,fr F 60,fr F 61,fr F 62,fr F 63,fr F 64,fr F 65,fr F 66,fr F 67,fr F 68,fr F 69,fr F 70,fr F 71,fr F 72,fr F 73,fr F 74,fr F 75,fr F 76,fr F 77,fr F 78,fr F 79,fr F 80,fr F 81,fr F 82,fr F 83,fr F 84,fr F 85,fr F 86,fr F 87,fr F 88,fr F 89,fr F 90,fr F 91,fr F 92,fr F 93,fr F 94,fr F 95,fr F 96,fr F 97,fr F 98,fr F 99,fr F 100,fr F 101,fr F 102,fr F 103,fr F 104,fr F 105,fr F 106,fr F 107,fr F 108,fr F 109,fr F 110,fr F 111,fr F 112,fr F 113,fr F 114,fr F 115,fr F 116,fr F 117],defers:=ds }) (2 * xWc ls (D0 t.init)+upN (fun _=>none) (xJ1 t.init) 0) ?start ?round
  case start=>exact⟨[],zJs ⟨_,_,_,_,_,_,_,_,_,_,_,hBM,HAS.out,HOK.out,HCN.out,by rw[xY0];omega,HPM.out,rfl⟩ rfl⟩
  case round=>
   clear hBM HAS HOK HCN HPM hcvb hcvb2 HI HH HFE hnh1 hk hk0 hX hB0;intro gk a wr hinv;obtain⟨ds,F,⟨nh,nP,nB,nE,nq,fh,fP,fB,fE,fq,D,hBM,hA,hH,hCn,hnE,hP,hgk⟩,rfl⟩:=hinv;intro J K hJ hK;obtain⟨c1,c2,c3,c4⟩:=hBM.cells;have hQ:=hBM.q;obtain⟨o1,o2,o3,o4,o5,o6,o7,o8,o9,o10,o11⟩:=hBM.ok;have o3a:w.heap.size<=k.b0:=by omega
   have o3b:k.b0<=w.heap.size:=by omega
   clear o3
   by_cases hq0:nq=0
   ·subst hq0;have HN:=lHd (vX9 hA.out HC.out HV.out hn hH.out hP.out hl hQ.empty);have HM:=lHd hBM.mks;have HB:=lHd hBM.bel;have hlen:=hBM.me.len Tryz.underlying148 3;clear hA hH hCn hP hgk hBM hJ
    go_wp2_with (go_at_call 58;(refine (xK3 hQ).mono ?_);rintro e w9 ⟨rfl,rfl⟩)
    (try simp only[Exit.inBlock,Exit.then])
    refine xVm rfl HM.out ?_;intro W' hW';exact⟨HB.out.trans (hW'.below.mono (by omega)),.inl ⟨nE,rfl,HN.out⟩⟩
   ·have hnn:0 < nq:=by omega
    go_wp2_with (first | (go_at_call 58;(refine (xK3 hQ).mono ?_);rintro e w9 ⟨rfl,rfl⟩) | (go_at_call 59;(refine (zZ7 hQ hnn).mono ?_);rintro e w2 ⟨x,d0,hx,hfx,hmin,rfl,hQ2,hU2⟩;obtain⟨l,hlm,rfl,hlD,v1,hv1,hv2⟩:=hA.out.q _ _ hfx;have hBM2:=hBM.byQ hU2 hQ2;obtain⟨d1,d2,d3,d4⟩:=hBM2.cells))
    have hSl:=HC.out.set l hlm;have hwl:=hSl.wrd hn24;have hB2:=hBM2.bel;have hz2:=hBM2.lt
    by_cases hg:∀ q∈t.goal,q∈l
    ·obtain⟨ps,sts,i1,i2,i3,i4,i5,i6⟩:=hA.out.toAB.trail HC.out.set hn24 HC.out.hst (fun o ho=>(HV.out.ops o ho).2.1) (D l).toNat l hlm hlD (Nat.le_refl _);have hlen1:ps.length+1<=ls.length:=by have:=xV2 i4 (fun x hx=>(i5 x hx).1);omega
     have HCH:=lHd (vVi hA.out HC.out HV.out hn hH.out hP.out hl hlm hfx hmin i3);have HTR:=lHd i1;have HPT:=lHd i2;have HG:=lHd hg;clear hA hH hCn hP hgk hJ hmin hfx hlD i1 i2 i3 i4 i5 i6 hg hv1 hv2 hU2 hQ2 hQ hBM;refine (zQf (WMem.below hW (hB2.alloc (by omega) _)) HVS.out hSl HG.out).mono ?_;rintro e w' ⟨rfl,dd,rfl⟩;obtain⟨W3,hW3⟩:∃ x,Hid (x=(w2.alloc (.cells #[.int .u32 (xJ1 l)] 56)).drewN dd):=⟨_,rfl⟩;rw[<- hW3.out];have hBM3:BM k w0 w t Ai Ag Ao ci cg co ds nh nP nB nE (nq - 1) fh fP fB fE (xWd fq (xJ1 l)) W3:=by rw[hW3.out];exact (hBM2.alloc _).drewN _
     have hx3:Arr W3 w2.heap.size 56 [.int .u32 (xJ1 l)]:=by rw[hW3.out];exact (Arr.new_at w2 _ rfl _ _).drewN _
     have hxc3:=hx3.cell 0;obtain⟨e1,e2,e3,e4⟩:=hBM3.cells;have hz3:=hBM3.bel.size;clear hBM2 d1 d2 d3 d4 hB2 hW3
     go_wp2_with (go_at_call 79;refine (vZ2 hBM3.ma HTR.out (by simp;omega)).mono ?_;rintro e w5 ⟨hB5,v,rfl,hO5⟩;have hlen:=(hBM3.me.below hB5 hBM3.me.lt).len Tryz.underlying148 3)
     (try simp only[Exit.inBlock,Exit.then])
     refine xVm rfl (hBM3.mks.below hB5) ?_;intro W' hW';exact⟨(hBM3.bel.trans (hB5.mono (by omega))).trans (hW'.below.mono (by omega)),.inr ⟨v,nE,l,ps,rfl,⟨W3.heap.size,by omega,vXa hO5 hW'⟩,HPT.out,HG.out,hlen1,HCH.out⟩⟩
    ·have hAS1:=lHd (hA.out.take HC.out.set hlm hfx hg);obtain⟨dl,hdl⟩:∃ x,Hid (x=D l):=⟨_,rfl⟩;rw[<- hdl.out] at hAS1;have HG:=lHd hg;have HHJ:=lHd hJ;clear hA hmin hfx hg hv1 hv2 hU2 hQ2 hQ hBM hJ;refine (zYr (WMem.below hW (hB2.alloc (by omega) _)) HVS.out hSl HG.out).mono ?_;rintro e w' ⟨rfl,dd,rfl⟩;obtain⟨W3,hW3⟩:∃ x,Hid (x=(w2.alloc (.cells #[.int .u32 (xJ1 l)] 56)).drewN dd):=⟨_,rfl⟩;rw[<- hW3.out];have hBM3:BM k w0 w t Ai Ag Ao ci cg co ds nh nP nB nE (nq - 1) fh fP fB fE (xWd fq (xJ1 l)) W3:=by rw[hW3.out];exact (hBM2.alloc _).drewN _
     have hx3:Arr W3 w2.heap.size 56 [.int .u32 (xJ1 l)]:=by rw[hW3.out];exact (Arr.new_at w2 _ rfl _ _).drewN _
     have hxc3:=hx3.cell 0;have hMe3:=hBM3.me;have hz3:w2.heap.size+1<=W3.heap.size:=hx3.lt;clear hBM2 d1 d2 d3 d4 hB2 hW3
     go_wp2_with (first | (at_mapUpdate;refine xXe rfl (.tmp 60) (.tmp 61) (.tmp 62) 148 rfl 150 Tryz.underlying148 rfl hMe3 (by omega) (xJ1 l) (.agg #[]) rfl rfl hwl ?_;intro w4 hM4 hg4;have hx4:Arr w4 w2.heap.size 56 [.int .u32 (xJ1 l)]:=mvh;have hxc4:=hx4.cell 0) | (go_at_call 57;refine (xVd _ _ _).mono ?_;rintro e w' ⟨rfl,rfl⟩))
     have hBM4:=hBM3.byE hg4 hM4;have hz4:=hg4.size;have hz5:=hBM4.lt;have hnE4:up1 fE (xJ1 l) nE+unF ls (upd fE (xJ1 l) (.agg #[]))<=ls.length:=by rw[xYg HC.out.nd HC.out.set hlm];exact hnE
     have hB4:=hBM4.bel;have hm4:=hBM4.mks;clear hBM3 hx3 hxc3 hMe3 hM4 hg4;refine xQh (b1:=w4.heap.size) (b2:=w4.heap.size+1) (es:=15) hW HVS.out hSl ?hB ?hc1 ?hc2 ?hb2 rfl rfl (IBest k w0 w t Ai Ag Ao ci cg co ds (up1 fE (xJ1 l) nE) (upd fE (xJ1 l) (.agg #[])) n ls w2.heap.size (w4.heap.size+1) (2 * xWc ls D+(nq - 1)) l dl) ?hI ?hIs ?h0 ?hassign ?hbody ?hdone
     case hB=>exact mvh
     case hc1=>exact ((Arr.new_at w4 _ rfl _ _).alloc _).cell 0
     case hc2=>exact (Arr.new_at (w4.alloc _) _ (by simp) _ [.int .u32 (xJ1 l)]).cell 0
     case hb2=>omega
     case hI=>exact fun pre W W' h ht=>h.turn ((hm4.alloc _).alloc _) (by simp;omega) ht
     case hIs=>rintro pre W ⟨_,_,_,_,_,_,_,_,_,_,_,_,_,_,_,_,_,h⟩;simpa using h
     case h0=>exact⟨nh,nP,nB,nq - 1,fh,fP,fB,_,D,(hBM4.alloc _).alloc _,hAS1.out,hH.out,hCn.out,hP.out,Nat.le_refl _,mvh,Arr.new_at (w4.alloc _) _ (by simp) _ _,by simp⟩
     case hassign=>
      intro y x W K hK;simp only[xX9,List.setIfInBounds_toArray,List.set_cons_succ,List.set_cons_zero] at hK ⊢
      gi_wp2
      rfl
     case hdone=>
      intro D' xs W hD hxs hi hDh;obtain⟨nh',nP',nB',nq',fh',fP',fB',fq',D2,h1,h2,h3,h4,h5,h6,h7,h8,h9⟩:=hi;have HMK:=lHd (h1.mks.cons hDh (by simp at hD;omega) (((hm4.alloc _).alloc _).lt hD));have HA2:=lHd (h2.out.fin hxs);have HBM2:BM k w0 w t Ai Ag Ao ci cg co (zQm D' :: ds) nh' nP' nB' (up1 fE (xJ1 l) nE) nq' fh' fP' fB' (upd fE (xJ1 l) (.agg #[])) fq' W:={ h1 with mks:=HMK.out };have HB2:=lHd HBM2;clear h1 h2 hDh hBM4 hm4 HBM2 h7 h8 hx4 hxc4;go_wp2;refine Handed.intro (2 * xWc ls D2+nq') ?measure (HHJ.out _ _ _ ⟨zQm D' :: ds,zJs ⟨nh',nP',nB',_,nq',fh',fP',fB',_,fq',D2,HB2.out,HA2.out,h3.out,h4.out,hnE4,h5.out,rfl⟩ rfl⟩)
      case measure=>
       have h:=h6.out;have h':=hgk.out;omega
     case hbody=>
      obtain⟨M,hM⟩:∃ x,x=2 * xWc ls D+(nq - 1):=⟨_,rfl⟩;rw[<- hM];clear hM hdl hlD hBM4 hB4 hm4 hx4 hxc4 hAS1 hH hCn hP hgk HHJ hq0 hnn;intro y pre x Bx W hlt hi hx hBx a' ha';obtain⟨⟨p,o,l2⟩,hmem⟩:=x;obtain⟨nh,nP,nB,nq,fh,fP,fB,fq,D,h1,hA,hH,hCn,hP,hMe,h9,h11,h12⟩:=hi;obtain⟨hplt,hop,hpre,hnx⟩:=xX8.1 hmem;dsimp only at hop hpre hnx;have hl2m:l2∈ls:=by rw[hnx];exact HC.out.closed l hlm p o hop hpre
      have hB9:((w4.alloc (.cells #[.pointer (some ⟨g,0,none⟩)] 50)).alloc (.cells #[.int .u32 (xJ1 l)] 56)).heap.size=w4.heap.size+1+1:=by simp
      have HNX:=lHd hnx;clear hnx;have hSl2:=HC.out.set l2 hl2m;have hwl2:=hSl2.wrd hn24;have hoc:0<=o.cost/\o.cost<=100:=(HV.out.ops o (lMg hop)).2;have hcur:=hA.out.cur;have hd1:=hA.out.hd;have hPl:fP (xJ1 l)=some (.int .i64 dl)/\dl+409601 * (unF ls fP:Int)<=409601 * (ls.length:Int):=by
       rcases hP.out l hlm with ⟨u1,u2⟩ | ⟨u1,u2,u3⟩
       ·omega
       ·rw[hcur] at u2 u3;exact⟨u3,u2⟩
      have hd0:0<=dl:=by have:=hA.out.lo l hlm;omega
      have hd9:dl<=819202000:=by omega
      have hlk1:(Instr.lookup 54 (.map (some k.mp)) (.int .u32 (xJ1 l)) false).run Tryz.prog W.drew=.ok (.int .i64 dl) W.drew:=by
       have h:=h1.mp.drew.look Tryz.underlying54 (xVc _) hwl;rw[hPl.1] at h;exact h
      have hPl2:=hP.out l2 hl2m;obtain⟨c1,c2,c3,c4⟩:=h1.cells;have hsW:=h1.bel.size;have hxs1:=hx.cell 1;have hxs2:=hx.cell 2;have h9c:=h9.cell 0;have hnn:nh < 1000000000000/\nP < 1000000000000/\nB < 1000000000000:=by have h:=hCn.out;unfold CntA at h;omega
      have hqn:nq < 1000000000:=by
       have h:=h1.q.count (ls:=ls) (fun x hx=>by cases hk:fq x with
        | none=>exact absurd hk hx
        | some v=>obtain⟨l',e1,e2,_⟩:=hA.out.q x v hk;exact⟨l',e1,e2⟩)
       omega
      simp only[xX9,List.setIfInBounds_toArray,List.set_cons_succ,List.set_cons_zero] at ha';subst ha';have hSS0:W.drew.cell? ⟨k.bp,0,none⟩=some (.map (some k.mp))/\W.drew.cell? ⟨w2.heap.size,0,none⟩=some (.int .u32 (xJ1 l))/\W.drew.cell? ⟨Bx,1,none⟩=some (.int .i64 o.cost)/\(Instr.lookup 54 (.map (some k.mp)) (.int .u32 (xJ1 l)) false).run Tryz.prog W.drew=.ok (.int .i64 dl) W.drew:=⟨c2,h9c,hxs1,hlk1⟩
      gi_wp2
      refine xQ7 (fun W=>W.cell? ⟨k.bp,0,none⟩=some (.map (some k.mp))/\W.cell? ⟨w2.heap.size,0,none⟩=some (.int .u32 (xJ1 l))/\W.cell? ⟨Bx,1,none⟩=some (.int .i64 o.cost)/\(Instr.lookup 54 (.map (some k.mp)) (.int .u32 (xJ1 l)) false).run Tryz.prog W=.ok (.int .i64 dl) W) [] (by kernel_rfl) (by kernel_rfl) (fun _ _ h=>h) ?_;have hSS:=hSS0;refine xJ0 (i:=0) (v:=?_) rfl (by kernel_rfl) (by kernel_rfl) (by kernel_rfl) (by kernel_rfl) (by kernel_rfl) (fun _ _ _ h=>h) (Or.inl ⟨by rfl,?_⟩) (by assumption) ?_;rotate_left
      ·(intro w hSw;(try dsimp only at hSw);go_simp;(try with_reducible rfl))
      try simp only[ap]
      refine xJ0 (i:=1) (v:=?_) rfl (by kernel_rfl) (by kernel_rfl) (by kernel_rfl) (by kernel_rfl) (by kernel_rfl) (fun _ _ _ h=>h) (Or.inl ⟨by rfl,?_⟩) (by assumption) ?_;rotate_left
      ·(intro w hSw;(try dsimp only at hSw);go_simp;(try with_reducible rfl))
      try simp only[ap]
      refine xJ0 (i:=2) (v:=?_) rfl (by kernel_rfl) (by kernel_rfl) (by kernel_rfl) (by kernel_rfl) (by kernel_rfl) (fun _ _ _ h=>h) (Or.inl ⟨by rfl,?_⟩) (by assumption) ?_;rotate_left
      ·(intro w hSw;(try dsimp only at hSw);go_simp;(try with_reducible rfl))
      try simp only[ap]
      refine xJ0 (i:=3) (v:=?_) rfl (by kernel_rfl) (by kernel_rfl) (by kernel_rfl) (by kernel_rfl) (by kernel_rfl) (fun _ _ _ h=>h) (Or.inl ⟨by rfl,?_⟩) (by assumption) ?_;rotate_left
      ·(intro w hSw;(try dsimp only at hSw);go_simp;(try with_reducible rfl))
      try simp only[ap]
      refine xJ0 (i:=4) (v:=?_) rfl (by kernel_rfl) (by kernel_rfl) (by kernel_rfl) (by kernel_rfl) (by kernel_rfl) (fun _ _ _ h=>h) (Or.inl ⟨by rfl,?_⟩) (by assumption) ?_;rotate_left
      ·(intro w hSw;(try dsimp only at hSw);go_simp;(try with_reducible rfl))
      try simp only[ap]
      refine xJ3 (i:=5) (by kernel_rfl) rfl (fun K hK=>?_);go_simp;go_at_call 80;refine (zW7 _ hoc _).mono ?_;rintro e w9 ⟨rfl,rfl⟩
      go_wp2_with fail
      have hSS:W.drew.cell? ⟨k.bp,0,none⟩=some (.map (some k.mp))/\W.drew.cell? ⟨w2.heap.size,0,none⟩=some (.int .u32 (xJ1 l))/\W.drew.cell? ⟨Bx,1,none⟩=some (.int .i64 o.cost)/\(Instr.lookup 54 (.map (some k.mp)) (.int .u32 (xJ1 l)) false).run Tryz.prog W.drew=.ok (.int .i64 dl) W.drew:=hSS0;refine hK.out _ _ hSS ?_;clear hK K
      try simp only[ap]
      refine xJ3 (i:=6) (by kernel_rfl) rfl (fun K hK=>?_);go_simp
      go_wp2_with fail
      rw[zKx _ (by omega) (by omega)];have hSS:W.drew.cell? ⟨k.bp,0,none⟩=some (.map (some k.mp))/\W.drew.cell? ⟨w2.heap.size,0,none⟩=some (.int .u32 (xJ1 l))/\W.drew.cell? ⟨Bx,1,none⟩=some (.int .i64 o.cost)/\(Instr.lookup 54 (.map (some k.mp)) (.int .u32 (xJ1 l)) false).run Tryz.prog W.drew=.ok (.int .i64 dl) W.drew:=hSS0;refine hK.out _ _ hSS ?_;clear hK K
      try simp only[ap]
      refine xJ3 (i:=7) (by kernel_rfl) rfl (fun K hK=>?_);go_simp
      go_wp2_with fail
      have hSS:W.drew.cell? ⟨k.bp,0,none⟩=some (.map (some k.mp))/\W.drew.cell? ⟨w2.heap.size,0,none⟩=some (.int .u32 (xJ1 l))/\W.drew.cell? ⟨Bx,1,none⟩=some (.int .i64 o.cost)/\(Instr.lookup 54 (.map (some k.mp)) (.int .u32 (xJ1 l)) false).run Tryz.prog W.drew=.ok (.int .i64 dl) W.drew:=hSS0;refine hK.out _ _ hSS ?_;clear hK K
      try simp only[ap]
      refine xJ7 (by kernel_rfl) ?_ _;obtain⟨N,hNH⟩:∃ x,Hid (x=dl+(o.cost * 4096+1)):=⟨_,rfl⟩;rw[<- hNH.out];have hNb:0<=N/\N < 1000000000:=by have:=hNH.out;omega
      have hBM1:=h1.drew;have hzd:W.drew.heap.size=W.heap.size:=rfl;have hx1:=hx.drew;have h91:=h9.drew;have h111:=h11.drew;have hkp1:KpB (w4.heap.size+1+1) w0.heap.size (w4.heap.size+1) W W.drew:=(KpB.refl _ _ _ _).drew;have hlk2:=hBM1.mp.look_ok Tryz.underlying54 (xVc _) hwl2;rcases hPl2 with ⟨u1,u2⟩ | ⟨u1,u2,u3⟩
      case' inl=>
       rw[u2] at hlk2;simp only[Option.getD_none,Option.isSome_none] at hlk2;have hDl:N < D l2:=by have:=hNH.out;omega
       gi_wp2
       refine⟨trivial,CallsIn.mono (CallsIn.inRound y (callsIn_wide.2 (xZu hT hBM1.bel hBM1.hx hBM1.hm hnn.1 hn HV.out hSl2 hH.out (by omega)))) ?_⟩;rintro e w5 ⟨hv,fh1,rfl,hcv,hfh1,hext,hok,hFe,hM5,hg5⟩;have hm1:=hBM1.hm;have hBM5:=hBM1.byH hg5 hM5;have hx5:Arr w5 Bx 110 [.int .i64 (p:Int),.int .i64 o.cost,.int .u32 (xJ1 l2)]:=mvh;have h95:Arr w5 w2.heap.size 56 [.int .u32 (xJ1 l)]:=mvh;have h115:Arr w5 (w4.heap.size+1) 56 [.int .u32 (xJ1 l)]:=mvh;have hz5:=hg5.size;have hxc5:=hx5.cell 2;have ok5:=hBM5.bel.size;obtain⟨a51,a52,a53,a54⟩:=hBM5.cells;have hkp5:KpB (w4.heap.size+1+1) w0.heap.size (w4.heap.size+1) W w5:=hkp1.map hg5 (by omega) (by omega) (by omega) (by omega) (by omega);have hcvb1:=hcv.1;have hcvb2:=hcv.2.1;have hnh5:up1 (hF fh) (xJ1 l2) nh < 1000000000000:=by have h:=(hCn.out.h HC.out.nd HC.out.set hl2m hFe).1;omega
       by_cases hinf:1000000000<=hv
       ·gi_wp2
        refine⟨by rw[hB9];exact hkp5.1,hkp5.2,_,nP,nB,nq,fh1,fP,fB,fq,D,hBM5,?_,hok,hCn.out.h HC.out.nd HC.out.set hl2m hFe,hP,hMe,h95,h115,by omega⟩;rw[List.map_append];exact (hA.out.ext hext).skip (.inl ⟨hv,hfh1,hinf⟩)
       ·have hfin:hv < 1000000000:=by omega
        have hmp5:=hBM5.mp
        gi_wp2_with (first | (gi_at_mapUpdate;refine xXi rfl (.tmp 94) (.tmp 96) (.tmp 97) 54 rfl 3 Tryz.underlying54 rfl hmp5 hnn.2.1 (xJ1 l2) (.int .i64 N) rfl rfl hwl2 ?_;intro w6 hM6 hg6;have hBM6:=hBM5.byP hg6 hM6;have hx6:Arr w6 Bx 110 [.int .i64 (p:Int),.int .i64 o.cost,.int .u32 (xJ1 l2)]:=mvh;have h96:Arr w6 w2.heap.size 56 [.int .u32 (xJ1 l)]:=mvh;have h116:Arr w6 (w4.heap.size+1) 56 [.int .u32 (xJ1 l)]:=mvh;have hz6:=hg6.size;have hxa6:=hx6.cell 0;have hxb6:=hx6.cell 1;have hxc6:=hx6.cell 2;have h9c6:=h96.cell 0;have ok6:=hBM6.bel.size;obtain⟨a61,a62,a63,a64⟩:=hBM6.cells;have hma6:=hBM6.ma) | (gi_at_mapUpdate;refine xXi rfl (.tmp 98) (.tmp 100) (.tmp 104) 147 rfl 146 Tryz.underlying147 rfl hma6 hnn.2.2 (xJ1 l2) (.agg #[.int .u32 (xJ1 l),.int .i64 (p:Int)]) rfl rfl hwl2 ?_;intro w7 hM7 hg7;have hBM7:=hBM6.byB hg7 hM7;have hx7:Arr w7 Bx 110 [.int .i64 (p:Int),.int .i64 o.cost,.int .u32 (xJ1 l2)]:=mvh;have h97:Arr w7 w2.heap.size 56 [.int .u32 (xJ1 l)]:=mvh;have h117:Arr w7 (w4.heap.size+1) 56 [.int .u32 (xJ1 l)]:=mvh;have hz7:=hg7.size;have hxa7:=hx7.cell 0;have hxb7:=hx7.cell 1;have hxc7:=hx7.cell 2;have h9c7:=h97.cell 0;have ok7:=hBM7.bel.size;obtain⟨a71,a72,a73,a74⟩:=hBM7.cells))
        have hkp6:KpB (w4.heap.size+1+1) w0.heap.size (w4.heap.size+1) W w6:=hkp5.map hg6 (by omega) (by omega) (by omega) (by omega) (by omega);have hkp7:KpB (w4.heap.size+1+1) w0.heap.size (w4.heap.size+1) W w7:=hkp6.map hg7 (by omega) (by omega) (by omega) (by omega) (by omega);obtain⟨w8,hw8⟩:∃ x,Hid (x=w7.drew):=⟨_,rfl⟩;have hBM8:BM k w0 w t Ai Ag Ao ci cg co ds (up1 (hF fh) (xJ1 l2) nh) (up1 fP (xJ1 l2) nP) (up1 fB (xJ1 l2) nB) (up1 fE (xJ1 l) nE) nq fh1 (upd fP (xJ1 l2) (.int .i64 N)) (upd fB (xJ1 l2) (.agg #[.int .u32 (xJ1 l),.int .i64 (p:Int)])) (upd fE (xJ1 l) (.agg #[])) fq w8:=by rw[hw8.out];exact hBM7.drew
        have hx8:Arr w8 Bx 110 [.int .i64 (p:Int),.int .i64 o.cost,.int .u32 (xJ1 l2)]:=by rw[hw8.out];exact hx7
        have h98:Arr w8 w2.heap.size 56 [.int .u32 (xJ1 l)]:=by rw[hw8.out];exact h97
        have h118:Arr w8 (w4.heap.size+1) 56 [.int .u32 (xJ1 l)]:=by rw[hw8.out];exact h117
        have hkp8:KpB (w4.heap.size+1+1) w0.heap.size (w4.heap.size+1) W w8:=by rw[hw8.out];exact hkp7.drew
        have hz8:w8.heap.size=w7.heap.size:=by rw[hw8.out];rfl
        have hSS0:w7.drew.cell? ⟨k.bq,0,none⟩=some (.pointer (some ⟨k.q,0,none⟩))/\w7.drew.cell? ⟨Bx,2,none⟩=some (.int .u32 (xJ1 l2))/\w7.drew.cell? ⟨k.b0,0,none⟩=some (.func (.func 81) #[] #[.pointer (some ⟨(k.hb+1+1+1),0,none⟩),.pointer (some ⟨k.hb,0,none⟩),.pointer (some ⟨(k.hb+1),0,none⟩)]):=⟨a74,hxc7,a71⟩;clear hM6 hM7 hmp5 hma6;refine xQ7 (fun W=>W.cell? ⟨k.bq,0,none⟩=some (.pointer (some ⟨k.q,0,none⟩))/\W.cell? ⟨Bx,2,none⟩=some (.int .u32 (xJ1 l2))/\W.cell? ⟨k.b0,0,none⟩=some (.func (.func 81) #[] #[.pointer (some ⟨(k.hb+1+1+1),0,none⟩),.pointer (some ⟨k.hb,0,none⟩),.pointer (some ⟨(k.hb+1),0,none⟩)])) [] (by kernel_rfl) (by kernel_rfl) (fun _ _ h=>h) ?_;have hSS:=hSS0;refine xJ0 (i:=0) (v:=?_) rfl (by kernel_rfl) (by kernel_rfl) (by kernel_rfl) (by kernel_rfl) (by kernel_rfl) (fun _ _ _ h=>h) (Or.inl ⟨by rfl,?_⟩) (by assumption) ?_;rotate_left
        ·(intro w hSw;(try dsimp only at hSw);go_simp;(try with_reducible rfl))
        try simp only[ap]
        refine xJ0 (i:=1) (v:=?_) rfl (by kernel_rfl) (by kernel_rfl) (by kernel_rfl) (by kernel_rfl) (by kernel_rfl) (fun _ _ _ h=>h) (Or.inl ⟨by rfl,?_⟩) (by assumption) ?_;rotate_left
        ·(intro w hSw;(try dsimp only at hSw);go_simp;(try with_reducible rfl))
        try simp only[ap]
        refine xJ0 (i:=2) (v:=?_) rfl (by kernel_rfl) (by kernel_rfl) (by kernel_rfl) (by kernel_rfl) (by kernel_rfl) (fun _ _ _ h=>h) (Or.inl ⟨by rfl,?_⟩) (by assumption) ?_;rotate_left
        ·(intro w hSw;(try dsimp only at hSw);go_simp;(try with_reducible rfl))
        try simp only[ap]
        refine xJ0 (i:=3) (v:=?_) rfl (by kernel_rfl) (by kernel_rfl) (by kernel_rfl) (by kernel_rfl) (by kernel_rfl) (fun _ _ _ h=>h) (Or.inl ⟨by rfl,?_⟩) (by assumption) ?_;rotate_left
        ·(intro w hSw;(try dsimp only at hSw);go_simp;(try with_reducible rfl))
        try simp only[ap]
        refine xJ0 (i:=4) (v:=?_) rfl (by kernel_rfl) (by kernel_rfl) (by kernel_rfl) (by kernel_rfl) (by kernel_rfl) (fun _ _ _ h=>h) (Or.inl ⟨by rfl,?_⟩) (by assumption) ?_;rotate_left
        ·(intro w hSw;(try dsimp only at hSw);go_simp;(try with_reducible rfl))
        try simp only[ap]
        refine xJ0 (i:=5) (v:=?_) rfl (by kernel_rfl) (by kernel_rfl) (by kernel_rfl) (by kernel_rfl) (by kernel_rfl) (fun _ _ _ h=>h) (Or.inl ⟨by rfl,?_⟩) (by assumption) ?_;rotate_left
        ·(intro w hSw;(try dsimp only at hSw);go_simp;(try with_reducible rfl))
        try simp only[ap]
        refine xJ0 (i:=6) (v:=?_) rfl (by kernel_rfl) (by kernel_rfl) (by kernel_rfl) (by kernel_rfl) (by kernel_rfl) (fun _ _ _ h=>h) (Or.inl ⟨by rfl,?_⟩) (by assumption) ?_;rotate_left
        ·(intro w hSw;(try dsimp only at hSw);go_simp;(try with_reducible rfl))
        try simp only[ap]
        refine xJ3 (i:=7) (by kernel_rfl) rfl (fun K hK=>?_);go_simp;go_at_call 81;rw[<- hw8.out];refine (xZu hT hBM8.bel hBM8.hx hBM8.hm hnh5 hn HV.out hSl2 hok (by omega)).mono ?_;rintro e w9 ⟨hv2,fh2,rfl,hcv2,hfh2,hext2,hok2,hFe2,hM9,hg9⟩;have hme:hv2=hv:=by have h:=hext2 _ _ hfh1;rw[hfh2] at h;injection h
        subst hme;have hm8:=hBM8.hm;have hBM9:=hBM8.byH hg9 hM9;have hx9:Arr w9 Bx 110 [.int .i64 (p:Int),.int .i64 o.cost,.int .u32 (xJ1 l2)]:=mvh;have h99:Arr w9 w2.heap.size 56 [.int .u32 (xJ1 l)]:=mvh;have h119:Arr w9 (w4.heap.size+1) 56 [.int .u32 (xJ1 l)]:=mvh;have hz9:=hg9.size;have hxc9:=hx9.cell 2;obtain⟨a91,a92,a93,a94⟩:=hBM9.cells;have hQ9:=hBM9.q
        go_wp2_with fail
        have hSS:w9.cell? ⟨k.bq,0,none⟩=some (.pointer (some ⟨k.q,0,none⟩))/\w9.cell? ⟨Bx,2,none⟩=some (.int .u32 (xJ1 l2))/\w9.cell? ⟨k.b0,0,none⟩=some (.func (.func 81) #[] #[.pointer (some ⟨(k.hb+1+1+1),0,none⟩),.pointer (some ⟨k.hb,0,none⟩),.pointer (some ⟨(k.hb+1),0,none⟩)]):=⟨a94,hxc9,a91⟩;refine hK.out _ _ hSS ?_;clear hK K
        try simp only[ap]
        refine xJ3 (i:=8) (by kernel_rfl) rfl (fun K hK=>?_);go_simp
        go_wp2_with fail
        rw[zKx _ (by omega) (by omega)];have hSS:w9.cell? ⟨k.bq,0,none⟩=some (.pointer (some ⟨k.q,0,none⟩))/\w9.cell? ⟨Bx,2,none⟩=some (.int .u32 (xJ1 l2))/\w9.cell? ⟨k.b0,0,none⟩=some (.func (.func 81) #[] #[.pointer (some ⟨(k.hb+1+1+1),0,none⟩),.pointer (some ⟨k.hb,0,none⟩),.pointer (some ⟨(k.hb+1),0,none⟩)]):=⟨a94,hxc9,a91⟩;refine hK.out _ _ hSS ?_;clear hK K
        try simp only[ap]
        refine xJ3 (i:=9) (by kernel_rfl) rfl (fun K hK=>?_);go_simp
        go_wp2_with fail
        rw[zKx _ (by omega) (by omega)];have hSS:w9.cell? ⟨k.bq,0,none⟩=some (.pointer (some ⟨k.q,0,none⟩))/\w9.cell? ⟨Bx,2,none⟩=some (.int .u32 (xJ1 l2))/\w9.cell? ⟨k.b0,0,none⟩=some (.func (.func 81) #[] #[.pointer (some ⟨(k.hb+1+1+1),0,none⟩),.pointer (some ⟨k.hb,0,none⟩),.pointer (some ⟨(k.hb+1),0,none⟩)]):=⟨a94,hxc9,a91⟩;refine hK.out _ _ hSS ?_;clear hK K
        try simp only[ap]
        refine xJ3 (i:=10) (by kernel_rfl) rfl (fun K hK=>?_);go_simp;go_at_call 56;refine (zJk hQ9 (xJ1 l2) (N+4096 * hv2) hwl2 hqn).mono ?_;rintro e w10 ⟨rfl,hQ10,hU10⟩;have hqm9:=hQ9.obj;have hBM10:=hBM9.byQ hU10 hQ10;have hx10:Arr w10 Bx 110 [.int .i64 (p:Int),.int .i64 o.cost,.int .u32 (xJ1 l2)]:=mvh;obtain⟨aa1,aa2,aa3,aa4⟩:=hBM10.cells;have hxc10:=hx10.cell 2
        go_wp2_with fail
        have hSS:w10.cell? ⟨k.bq,0,none⟩=some (.pointer (some ⟨k.q,0,none⟩))/\w10.cell? ⟨Bx,2,none⟩=some (.int .u32 (xJ1 l2))/\w10.cell? ⟨k.b0,0,none⟩=some (.func (.func 81) #[] #[.pointer (some ⟨(k.hb+1+1+1),0,none⟩),.pointer (some ⟨k.hb,0,none⟩),.pointer (some ⟨(k.hb+1),0,none⟩)]):=⟨aa4,hxc10,aa1⟩;refine hK.out _ _ hSS ?_;clear hK K
        try simp only[ap]
        refine xJ7 (by kernel_rfl) ?_ _;have hz10:=hU10.below.size;have hkp9:KpB (w4.heap.size+1+1) w0.heap.size (w4.heap.size+1) W w9:=hkp8.map hg9 (by omega) (by omega) (by omega) (by omega) (by omega);have hkp10:KpB (w4.heap.size+1+1) w0.heap.size (w4.heap.size+1) W w10:=hkp9.q hU10 (by omega) (by omega) h119 (by omega);have h910:Arr w10 w2.heap.size 56 [.int .u32 (xJ1 l)]:=mvh;have h1110:Arr w10 (w4.heap.size+1) 56 [.int .u32 (xJ1 l)]:=mvh
        gi_wp2
        refine⟨by rw[hB9];exact hkp10.1,hkp10.2,_,_,_,_,fh2,_,_,_,xVs D l2 N,hBM10,?_,hok2,((hCn.out.h HC.out.nd HC.out.set hl2m hFe).h HC.out.nd HC.out.set hl2m hFe2).pb HC.out.nd HC.out.set hl2m _ _,?_,?_,h910,h1110,by omega⟩
        ·rw[List.map_append];exact ((hA.out.ext hext).ext hext2).relax HC.out.set HC.out.hst hl2m hop hpre HNX.out.symm hoc.1 hNH.out hDl (by omega) hfh2 rfl
        ·exact hP.out.put HC.out.nd HC.out.set hlm (by omega) hl2m (by rw[hcur];exact hNH.out) hoc hDl hl
        ·have h:=hMe.out;have h':=zV4 (v:=N) HC.out.nd hl2m (by omega) hDl;have h'':upN fq (xJ1 l2) nq<=nq+1:=by unfold upN;split <;> omega
         show 2 * xWc ls (xVs D l2 N)+upN fq (xJ1 l2) nq<=M;omega
      case' inr=>
       rw[u3] at hlk2;simp only[Option.getD_some,Option.isSome_some] at hlk2
       by_cases hle:D l2<=N
       ·gi_wp2
        refine⟨(fun f _=>trivial),?_⟩
        gi_wp2
        refine⟨by rw[hB9];exact hkp1.1,hkp1.2,nh,nP,nB,nq,fh,fP,fB,fq,D,hBM1,?_,hH,hCn,hP,hMe,h91,h111,by simpa using h12⟩;rw[List.map_append];exact hA.out.skip (.inr (by have:=hNH.out;dsimp only;omega))
       ·have hDl:N < D l2:=by have:=hNH.out;omega
        gi_wp2
        refine⟨trivial,CallsIn.mono (CallsIn.inRound y (callsIn_wide.2 (xZu hT hBM1.bel hBM1.hx hBM1.hm hnn.1 hn HV.out hSl2 hH.out (by omega)))) ?_⟩;rintro e w5 ⟨hv,fh1,rfl,hcv,hfh1,hext,hok,hFe,hM5,hg5⟩;have hm1:=hBM1.hm;have hBM5:=hBM1.byH hg5 hM5;have hx5:Arr w5 Bx 110 [.int .i64 (p:Int),.int .i64 o.cost,.int .u32 (xJ1 l2)]:=mvh;have h95:Arr w5 w2.heap.size 56 [.int .u32 (xJ1 l)]:=mvh;have h115:Arr w5 (w4.heap.size+1) 56 [.int .u32 (xJ1 l)]:=mvh;have hz5:=hg5.size;have hxc5:=hx5.cell 2;have ok5:=hBM5.bel.size;obtain⟨a51,a52,a53,a54⟩:=hBM5.cells;have hkp5:KpB (w4.heap.size+1+1) w0.heap.size (w4.heap.size+1) W w5:=hkp1.map hg5 (by omega) (by omega) (by omega) (by omega) (by omega);have hcvb1:=hcv.1;have hcvb2:=hcv.2.1;have hnh5:up1 (hF fh) (xJ1 l2) nh < 1000000000000:=by have h:=(hCn.out.h HC.out.nd HC.out.set hl2m hFe).1;omega
        by_cases hinf:1000000000<=hv
        ·gi_wp2
         refine⟨by rw[hB9];exact hkp5.1,hkp5.2,_,nP,nB,nq,fh1,fP,fB,fq,D,hBM5,?_,hok,hCn.out.h HC.out.nd HC.out.set hl2m hFe,hP,hMe,h95,h115,by omega⟩;rw[List.map_append];exact (hA.out.ext hext).skip (.inl ⟨hv,hfh1,hinf⟩)
        ·have hfin:hv < 1000000000:=by omega
         have hmp5:=hBM5.mp
         gi_wp2_with (first | (gi_at_mapUpdate;refine xXi rfl (.tmp 94) (.tmp 96) (.tmp 97) 54 rfl 3 Tryz.underlying54 rfl hmp5 hnn.2.1 (xJ1 l2) (.int .i64 N) rfl rfl hwl2 ?_;intro w6 hM6 hg6;have hBM6:=hBM5.byP hg6 hM6;have hx6:Arr w6 Bx 110 [.int .i64 (p:Int),.int .i64 o.cost,.int .u32 (xJ1 l2)]:=mvh;have h96:Arr w6 w2.heap.size 56 [.int .u32 (xJ1 l)]:=mvh;have h116:Arr w6 (w4.heap.size+1) 56 [.int .u32 (xJ1 l)]:=mvh;have hz6:=hg6.size;have hxa6:=hx6.cell 0;have hxb6:=hx6.cell 1;have hxc6:=hx6.cell 2;have h9c6:=h96.cell 0;have ok6:=hBM6.bel.size;obtain⟨a61,a62,a63,a64⟩:=hBM6.cells;have hma6:=hBM6.ma) | (gi_at_mapUpdate;refine xXi rfl (.tmp 98) (.tmp 100) (.tmp 104) 147 rfl 146 Tryz.underlying147 rfl hma6 hnn.2.2 (xJ1 l2) (.agg #[.int .u32 (xJ1 l),.int .i64 (p:Int)]) rfl rfl hwl2 ?_;intro w7 hM7 hg7;have hBM7:=hBM6.byB hg7 hM7;have hx7:Arr w7 Bx 110 [.int .i64 (p:Int),.int .i64 o.cost,.int .u32 (xJ1 l2)]:=mvh;have h97:Arr w7 w2.heap.size 56 [.int .u32 (xJ1 l)]:=mvh;have h117:Arr w7 (w4.heap.size+1) 56 [.int .u32 (xJ1 l)]:=mvh;have hz7:=hg7.size;have hxa7:=hx7.cell 0;have hxb7:=hx7.cell 1;have hxc7:=hx7.cell 2;have h9c7:=h97.cell 0;have ok7:=hBM7.bel.size;obtain⟨a71,a72,a73,a74⟩:=hBM7.cells))
         have hkp6:KpB (w4.heap.size+1+1) w0.heap.size (w4.heap.size+1) W w6:=hkp5.map hg6 (by omega) (by omega) (by omega) (by omega) (by omega);have hkp7:KpB (w4.heap.size+1+1) w0.heap.size (w4.heap.size+1) W w7:=hkp6.map hg7 (by omega) (by omega) (by omega) (by omega) (by omega);obtain⟨w8,hw8⟩:∃ x,Hid (x=w7.drew):=⟨_,rfl⟩;have hBM8:BM k w0 w t Ai Ag Ao ci cg co ds (up1 (hF fh) (xJ1 l2) nh) (up1 fP (xJ1 l2) nP) (up1 fB (xJ1 l2) nB) (up1 fE (xJ1 l) nE) nq fh1 (upd fP (xJ1 l2) (.int .i64 N)) (upd fB (xJ1 l2) (.agg #[.int .u32 (xJ1 l),.int .i64 (p:Int)])) (upd fE (xJ1 l) (.agg #[])) fq w8:=by rw[hw8.out];exact hBM7.drew
         have hx8:Arr w8 Bx 110 [.int .i64 (p:Int),.int .i64 o.cost,.int .u32 (xJ1 l2)]:=by rw[hw8.out];exact hx7
         have h98:Arr w8 w2.heap.size 56 [.int .u32 (xJ1 l)]:=by rw[hw8.out];exact h97
         have h118:Arr w8 (w4.heap.size+1) 56 [.int .u32 (xJ1 l)]:=by rw[hw8.out];exact h117
         have hkp8:KpB (w4.heap.size+1+1) w0.heap.size (w4.heap.size+1) W w8:=by rw[hw8.out];exact hkp7.drew
         have hz8:w8.heap.size=w7.heap.size:=by rw[hw8.out];rfl
         have hSS0:w7.drew.cell? ⟨k.bq,0,none⟩=some (.pointer (some ⟨k.q,0,none⟩))/\w7.drew.cell? ⟨Bx,2,none⟩=some (.int .u32 (xJ1 l2))/\w7.drew.cell? ⟨k.b0,0,none⟩=some (.func (.func 81) #[] #[.pointer (some ⟨(k.hb+1+1+1),0,none⟩),.pointer (some ⟨k.hb,0,none⟩),.pointer (some ⟨(k.hb+1),0,none⟩)]):=⟨a74,hxc7,a71⟩;clear hM6 hM7 hmp5 hma6;refine xQ7 (fun W=>W.cell? ⟨k.bq,0,none⟩=some (.pointer (some ⟨k.q,0,none⟩))/\W.cell? ⟨Bx,2,none⟩=some (.int .u32 (xJ1 l2))/\W.cell? ⟨k.b0,0,none⟩=some (.func (.func 81) #[] #[.pointer (some ⟨(k.hb+1+1+1),0,none⟩),.pointer (some ⟨k.hb,0,none⟩),.pointer (some ⟨(k.hb+1),0,none⟩)])) [] (by kernel_rfl) (by kernel_rfl) (fun _ _ h=>h) ?_;have hSS:=hSS0;refine xJ0 (i:=0) (v:=?_) rfl (by kernel_rfl) (by kernel_rfl) (by kernel_rfl) (by kernel_rfl) (by kernel_rfl) (fun _ _ _ h=>h) (Or.inl ⟨by rfl,?_⟩) (by assumption) ?_;rotate_left
         ·(intro w hSw;(try dsimp only at hSw);go_simp;(try with_reducible rfl))
         try simp only[ap]
         refine xJ0 (i:=1) (v:=?_) rfl (by kernel_rfl) (by kernel_rfl) (by kernel_rfl) (by kernel_rfl) (by kernel_rfl) (fun _ _ _ h=>h) (Or.inl ⟨by rfl,?_⟩) (by assumption) ?_;rotate_left
         ·(intro w hSw;(try dsimp only at hSw);go_simp;(try with_reducible rfl))
         try simp only[ap]
         refine xJ0 (i:=2) (v:=?_) rfl (by kernel_rfl) (by kernel_rfl) (by kernel_rfl) (by kernel_rfl) (by kernel_rfl) (fun _ _ _ h=>h) (Or.inl ⟨by rfl,?_⟩) (by assumption) ?_;rotate_left
         ·(intro w hSw;(try dsimp only at hSw);go_simp;(try with_reducible rfl))
         try simp only[ap]
         refine xJ0 (i:=3) (v:=?_) rfl (by kernel_rfl) (by kernel_rfl) (by kernel_rfl) (by kernel_rfl) (by kernel_rfl) (fun _ _ _ h=>h) (Or.inl ⟨by rfl,?_⟩) (by assumption) ?_;rotate_left
         ·(intro w hSw;(try dsimp only at hSw);go_simp;(try with_reducible rfl))
         try simp only[ap]
         refine xJ0 (i:=4) (v:=?_) rfl (by kernel_rfl) (by kernel_rfl) (by kernel_rfl) (by kernel_rfl) (by kernel_rfl) (fun _ _ _ h=>h) (Or.inl ⟨by rfl,?_⟩) (by assumption) ?_;rotate_left
         ·(intro w hSw;(try dsimp only at hSw);go_simp;(try with_reducible rfl))
         try simp only[ap]
         refine xJ0 (i:=5) (v:=?_) rfl (by kernel_rfl) (by kernel_rfl) (by kernel_rfl) (by kernel_rfl) (by kernel_rfl) (fun _ _ _ h=>h) (Or.inl ⟨by rfl,?_⟩) (by assumption) ?_;rotate_left
         ·(intro w hSw;(try dsimp only at hSw);go_simp;(try with_reducible rfl))
         try simp only[ap]
         refine xJ0 (i:=6) (v:=?_) rfl (by kernel_rfl) (by kernel_rfl) (by kernel_rfl) (by kernel_rfl) (by kernel_rfl) (fun _ _ _ h=>h) (Or.inl ⟨by rfl,?_⟩) (by assumption) ?_;rotate_left
         ·(intro w hSw;(try dsimp only at hSw);go_simp;(try with_reducible rfl))
         try simp only[ap]
         refine xJ3 (i:=7) (by kernel_rfl) rfl (fun K hK=>?_);go_simp;go_at_call 81;rw[<- hw8.out];refine (xZu hT hBM8.bel hBM8.hx hBM8.hm hnh5 hn HV.out hSl2 hok (by omega)).mono ?_;rintro e w9 ⟨hv2,fh2,rfl,hcv2,hfh2,hext2,hok2,hFe2,hM9,hg9⟩;have hme:hv2=hv:=by have h:=hext2 _ _ hfh1;rw[hfh2] at h;injection h
         subst hme;have hm8:=hBM8.hm;have hBM9:=hBM8.byH hg9 hM9;have hx9:Arr w9 Bx 110 [.int .i64 (p:Int),.int .i64 o.cost,.int .u32 (xJ1 l2)]:=mvh;have h99:Arr w9 w2.heap.size 56 [.int .u32 (xJ1 l)]:=mvh;have h119:Arr w9 (w4.heap.size+1) 56 [.int .u32 (xJ1 l)]:=mvh;have hz9:=hg9.size;have hxc9:=hx9.cell 2;obtain⟨a91,a92,a93,a94⟩:=hBM9.cells;have hQ9:=hBM9.q
         go_wp2_with fail
         have hSS:w9.cell? ⟨k.bq,0,none⟩=some (.pointer (some ⟨k.q,0,none⟩))/\w9.cell? ⟨Bx,2,none⟩=some (.int .u32 (xJ1 l2))/\w9.cell? ⟨k.b0,0,none⟩=some (.func (.func 81) #[] #[.pointer (some ⟨(k.hb+1+1+1),0,none⟩),.pointer (some ⟨k.hb,0,none⟩),.pointer (some ⟨(k.hb+1),0,none⟩)]):=⟨a94,hxc9,a91⟩;refine hK.out _ _ hSS ?_;clear hK K
         try simp only[ap]
         refine xJ3 (i:=8) (by kernel_rfl) rfl (fun K hK=>?_);go_simp
         go_wp2_with fail
         rw[zKx _ (by omega) (by omega)];have hSS:w9.cell? ⟨k.bq,0,none⟩=some (.pointer (some ⟨k.q,0,none⟩))/\w9.cell? ⟨Bx,2,none⟩=some (.int .u32 (xJ1 l2))/\w9.cell? ⟨k.b0,0,none⟩=some (.func (.func 81) #[] #[.pointer (some ⟨(k.hb+1+1+1),0,none⟩),.pointer (some ⟨k.hb,0,none⟩),.pointer (some ⟨(k.hb+1),0,none⟩)]):=⟨a94,hxc9,a91⟩;refine hK.out _ _ hSS ?_;clear hK K
         try simp only[ap]
         refine xJ3 (i:=9) (by kernel_rfl) rfl (fun K hK=>?_);go_simp
         go_wp2_with fail
         rw[zKx _ (by omega) (by omega)];have hSS:w9.cell? ⟨k.bq,0,none⟩=some (.pointer (some ⟨k.q,0,none⟩))/\w9.cell? ⟨Bx,2,none⟩=some (.int .u32 (xJ1 l2))/\w9.cell? ⟨k.b0,0,none⟩=some (.func (.func 81) #[] #[.pointer (some ⟨(k.hb+1+1+1),0,none⟩),.pointer (some ⟨k.hb,0,none⟩),.pointer (some ⟨(k.hb+1),0,none⟩)]):=⟨a94,hxc9,a91⟩;refine hK.out _ _ hSS ?_;clear hK K
         try simp only[ap]
         refine xJ3 (i:=10) (by kernel_rfl) rfl (fun K hK=>?_);go_simp;go_at_call 56;refine (zJk hQ9 (xJ1 l2) (N+4096 * hv2) hwl2 hqn).mono ?_;rintro e w10 ⟨rfl,hQ10,hU10⟩;have hqm9:=hQ9.obj;have hBM10:=hBM9.byQ hU10 hQ10;have hx10:Arr w10 Bx 110 [.int .i64 (p:Int),.int .i64 o.cost,.int .u32 (xJ1 l2)]:=mvh;obtain⟨aa1,aa2,aa3,aa4⟩:=hBM10.cells;have hxc10:=hx10.cell 2
         go_wp2_with fail
         have hSS:w10.cell? ⟨k.bq,0,none⟩=some (.pointer (some ⟨k.q,0,none⟩))/\w10.cell? ⟨Bx,2,none⟩=some (.int .u32 (xJ1 l2))/\w10.cell? ⟨k.b0,0,none⟩=some (.func (.func 81) #[] #[.pointer (some ⟨(k.hb+1+1+1),0,none⟩),.pointer (some ⟨k.hb,0,none⟩),.pointer (some ⟨(k.hb+1),0,none⟩)]):=⟨aa4,hxc10,aa1⟩;refine hK.out _ _ hSS ?_;clear hK K
         try simp only[ap]
         refine xJ7 (by kernel_rfl) ?_ _;have hz10:=hU10.below.size;have hkp9:KpB (w4.heap.size+1+1) w0.heap.size (w4.heap.size+1) W w9:=hkp8.map hg9 (by omega) (by omega) (by omega) (by omega) (by omega);have hkp10:KpB (w4.heap.size+1+1) w0.heap.size (w4.heap.size+1) W w10:=hkp9.q hU10 (by omega) (by omega) h119 (by omega);have h910:Arr w10 w2.heap.size 56 [.int .u32 (xJ1 l)]:=mvh;have h1110:Arr w10 (w4.heap.size+1) 56 [.int .u32 (xJ1 l)]:=mvh
         gi_wp2
         refine⟨by rw[hB9];exact hkp10.1,hkp10.2,_,_,_,_,fh2,_,_,_,xVs D l2 N,hBM10,?_,hok2,((hCn.out.h HC.out.nd HC.out.set hl2m hFe).h HC.out.nd HC.out.set hl2m hFe2).pb HC.out.nd HC.out.set hl2m _ _,?_,?_,h910,h1110,by omega⟩
         ·rw[List.map_append];exact ((hA.out.ext hext).ext hext2).relax HC.out.set HC.out.hst hl2m hop hpre HNX.out.symm hoc.1 hNH.out hDl (by omega) hfh2 rfl
         ·exact hP.out.put HC.out.nd HC.out.set hlm (by omega) hl2m (by rw[hcur];exact hNH.out) hoc hDl hl
         ·have h:=hMe.out;have h':=zV4 (v:=N) HC.out.nd hl2m (by omega) hDl;have h'':upN fq (xJ1 l2) nq<=nq+1:=by unfold upN;split <;> omega
          show 2 * xWc ls (xVs D l2 N)+upN fq (xJ1 l2) nq<=M;omega
end
theorem Cst.pth3{n:Nat}{ops:List OpV}{st l:List Int}{c:Int}(h:Cst n ops st l c):∃ ps,Pth n ops st l ps/\c=xJ9 (ops.map (·.cost)) ps:=by
 induction h with
 | init=>exact⟨[],.init,rfl⟩
 | @step l c p o _ hp hq ih=>
  obtain⟨ps,h1,h2⟩:=ih;exact⟨ps ++ [p],.step h1 hp hq,by rw[xZf,xJx hp,h2]⟩
theorem Fp.cst{n:Nat}{ops:List OpV}{goal st l:List Int}{qs:List Nat}(h:Fp n ops goal l qs):∀ {c:Int},Cst n ops st l c->∃ l',Cst n ops st l' (c+xJ9 (ops.map (·.cost)) qs)/\∀ q∈goal,q∈l':=by
 induction h with
 | @nil l hg=>intro c h;exact⟨l,by simpa[xJ9] using h,hg⟩
 | @cons l p o ps h1 h2 h3 ih=>
  intro c h;obtain⟨l',h4,h5⟩:=ih (h.step h1 h2);refine⟨l',?_,h5⟩;rw[xJi,xJx h1,<- Int.add_assoc];exact h4
theorem RBest.le_fp{n:Nat}{ops:List OpV}{goal st:List Int}{d:Int}(h:RBest n ops goal st d){qs:List Nat}(hq:Fp n ops goal st qs):d<=xJ9 (ops.map (·.cost)) qs:=by
 obtain⟨l,h1,h2⟩:=hq.cst .init;rw[Int.zero_add] at h1;exact h.2.2 l _ h1 h2
theorem RBest.fp{n:Nat}{ops:List OpV}{goal st:List Int}{d:Int}(h:RBest n ops goal st d)(hd:d≠1000000000):∃ qs,Fp n ops goal st qs/\xJ9 (ops.map (·.cost)) qs=d:=by
 rcases h.1 with e | ⟨l,h1,h2⟩
 ·exact absurd e hd
 ·obtain⟨ps,h3,h4⟩:=h1.pth3;have h5:=h3.front (goal:=goal) (.nil h2);rw[List.append_nil] at h5;exact⟨ps,h5,h4.symm⟩
theorem Clos.short{n:Nat}{t:TaskV}{ls:List (List Int)}(hv:Valid t)(hC:Clos n t.ops t.init ls)(hl:ls.length<=2000){qs:List Nat}(hq:Fp n t.ops t.goal t.init qs) :
  ∃ ps,Fp n t.ops t.goal t.init ps/\xJ9 (t.ops.map (·.cost)) ps<=xJ9 (t.ops.map (·.cost)) qs/\ps.length < 2000/\xJ9 (t.ops.map (·.cost)) ps<=200000:=by
 obtain⟨ps,h1,h2,h3⟩:=FpA.short (fun o ho=>(hv.ops o ho).2.1) ls.length (Nat.le_refl _) (hq.all hC.closed hC.hst);have h4:=zWt (fun o ho=>(hv.ops o ho).2.2) (by decide) ps;exact⟨ps,h1,h2,by omega,by omega⟩
section
variable {t:TaskV}{F:List Int}{R:List Nat}{n:Nat}
theorem RelV.flen(h:RelV t F R)(hv:Valid t):(F.length:Int)<=24:=Int.le_trans (h.set.length hv.f0) hv.f1
theorem RelV.valid(h:RelV t F R)(hv:Valid t):Valid (xXd t F R):=by
 have hF:F.Nodup:=xQ3 h.set.pw;refine⟨by show (0:Int)<=(F.length:Int);omega,h.flen hv,xWm h.set hv.init,xWm h.set hv.goal,?_,fun o' ho'=>?_⟩
 ·show (R.map _).length<=40;rw[List.length_map];have h1:R.length<=(List.range t.ops.length).length:=xV2 (h.inc.imp (fun h=>by omega)) (fun x hx=>List.mem_range.2 (h.lt x hx));rw[List.length_range] at h1;have:=hv.nops;omega
 ·obtain⟨r,hr⟩:=List.getElem?_of_mem ho';obtain⟨i,o,_,_,ho,rfl⟩:=h.sop hr;obtain⟨⟨h1,h2,h3,h4⟩,h5,h6⟩:=hv.ops o (lMg ho);refine⟨⟨xWm h.set h1,xWm h.set h2,xWm h.set h3,fun z hz hd=>?_⟩,h5,h6⟩;obtain⟨k,x,rfl,hk,hx⟩:=zWu hz;exact h4 x hx ((xVe hF hk).1 hd)
theorem RelV.cost(h:RelV t F R)(hv:Valid t)(hn:t.facts=n){ls:List (List Int)}(hC:Clos n t.ops t.init ls)(hl:ls.length<=2000){d:Int}(hd:RBest n t.ops t.goal t.init d)(hne:d≠1000000000){l':List Int}{ps:List Nat}(hp:Pth F.length (xXd t F R).ops (xXd t F R).init l' ps)(hg:∀ q∈(xXd t F R).goal,q∈l')(hch:vX8 F.length (xXd t F R) ps) :
  xJ9 ((xXd t F R).ops.map (·.cost)) ps=d:=by
 have hc0:∀ o∈t.ops,0<=o.cost:=fun o ho=>(hv.ops o ho).2.1
 have h1:=hp.front (goal:=(xXd t F R).goal) (.nil hg);rw[List.append_nil] at h1;obtain⟨qs,h2,h3⟩:=h.up hn h1 h.init;have h4:=hd.le_fp h2;obtain⟨rs,h5,h6⟩:=hd.fp hne;obtain⟨us,h7,h8,h9,h10⟩:=Clos.short hv hC hl h5;have h11:=hd.le_fp h7;obtain⟨vs,h12,h13⟩:=h.down hn hc0 h7 (l':=(xXd t F R).init) (fun i x hi hx=>(h.init i x hi).1 hx);have hvs:=h.valid hv;have hlen:∃ ws,Fp F.length (xXd t F R).ops (xXd t F R).goal (xXd t F R).init ws/\xJ9 ((xXd t F R).ops.map (·.cost)) ws<=d/\ws.length < 4096:=by
  obtain⟨A,hA,hAl,hAi⟩:∃ A:List (List Int),(∀ l∈A,∀ (p:Nat) (o:OpV),(xXd t F R).ops[p]? = some o->(∀ q∈o.pre,q∈l)->xJe F.length l o∈A)/\A.length<=2000/\(xXd t F R).init∈A:=by
   refine⟨ls.map (rsV F),fun l' hl' p o' hr hp=>?_,by rw[List.length_map];exact hl,List.mem_map.2 ⟨_,hC.hst,rfl⟩⟩;obtain⟨l,hl1,rfl⟩:=List.mem_map.1 hl';obtain⟨i,o,hi,_,ho,rfl⟩:=h.sop hr;have hF:F.Nodup:=xQ3 h.set.pw;have hs:zYz F l (rsV F l):=fun k x hk=>(xVe hF hk).symm
   have h20:=hC.closed l hl1 i o ho (h.can hi ho hs hp);refine List.mem_map.2 ⟨_,h20,?_⟩;have h21:=h.same_next hn hi ho hs;have h22:SetP (rsV F (xJe n l o)) (F.length:Int):=xWm h.set (by rw[hn];exact hC.set _ h20);refine h22.ext (xX0 F.length (rsV F l) (zYy F o)) fun z=>?_
   constructor
   ·intro hz;obtain⟨k,x,rfl,hk,hx⟩:=zWu hz;exact (h21 k x hk).1 hx
   ·intro hz;have hzr:=(xX0 F.length (rsV F l) (zYy F o)).1 z hz;obtain⟨k,rfl⟩:=Int.eq_ofNat_of_zero_le hzr.1;have hk:F[k]? = some (F[k]'(by omega)):=lGe _;exact (xVe hF hk).2 ((h21 k _ hk).2 hz)
  obtain⟨ws,w1,w2,w3⟩:=FpA.short (fun o ho=>(hvs.ops o ho).2.1) A.length (Nat.le_refl _) (h12.all hA hAi);exact⟨ws,w1,by omega,by omega⟩
 obtain⟨ws,w1,w2,w3⟩:=hlen;have h14:=hch ws w1 (by omega);omega
end
end Go.Proofs.YtpeipeljmapkmaaGreat
