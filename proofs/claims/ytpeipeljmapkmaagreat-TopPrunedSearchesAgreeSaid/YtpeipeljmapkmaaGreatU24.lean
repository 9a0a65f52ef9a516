/-
  Lemmas for the law: Tbe, Tpl.
-/
import Derived.Test.YtpeipeljmapkmaaGreatU23
import Derived.Test.YtpeipeljmapkmaaGreatU15
set_option linter.unusedVariables false
set_option linter.unusedSimpArgs false
set_option maxRecDepth 100000
set_option maxHeartbeats 4000000
namespace Go.Proofs.YtpeipeljmapkmaaGreat
open Go.RowKit
section
open Go.Shelf
attribute [local go_sem] Oper.semAt_some
theorem zYj(x:Int)(h : -9223372036854775808<=x)(h':x<=9223372036854775807):IntKind.i64.wrap x=x:=by
 simp[IntKind.wrap,IntKind.bits,IntKind.signed];omega
theorem zXm{fn:Func}{t u s:Tmp}(h:fn.results = #[.tmp t,.tmp u,.tmp s])(tmps:Array Value)(P:Program)(w:World) :
  (results fn tmps).run P w=.ok (.tuple #[tmps.getD t undef,tmps.getD u undef,tmps.getD s undef]) w:=by
 simp[results,h]
theorem xQy{P:Program}{fn:Func}{R:Ending->World->Prop}{n B:Nat}{t u s:Tmp}{a:Act}{W:World}(h:fn.results = #[.tmp t,.tmp u,.tmp s])(hm:MarksOk B a.defers W)(hR:∀ W',MTurn B W W'->R (.returned (.tuple #[a.tmps.getD t undef,a.tmps.getD u undef,a.tmps.getD s undef])) W'):bodyPostM Fence.wide n P fn R .ret a W:=
 xZs hm fun W' h'=>⟨zXm h _ _ _,hR W' h'⟩
def zV6(n:Nat)(t:TaskV):Prop:=∀ qs,Fp n t.ops t.goal t.init qs->1000000000<=xJ6 (t.ops.map (·.cost)) qs
def vZu(n:Nat)(t:TaskV)(ps:List Nat):Prop:=∀ qs,Fp n t.ops t.goal t.init qs->xJ6 (t.ops.map (·.cost)) qs < 1000000000->4096 * xJ6 (t.ops.map (·.cost)) ps+ps.length<=4096 * xJ6 (t.ops.map (·.cost)) qs+qs.length
def BestP(n:Nat)(t:TaskV)(w0 w:World)(ls:List (List Int))(e:Ending)(w':World):Prop:=Below w0.heap.size w0 w' /\
 (
   (∃ ne:Nat,e=.returned (.tuple #[.slice none 0 0,.int .i64 ne,.bool false])/\zV6 n t) \/
   (∃ (v:Value) (ne:Nat) (l:List Int) (ps:List Nat),e=.returned (.tuple #[v,.int .i64 ne,.bool true])/\(∃ B,w0.heap.size<=B/\OwnI B w' v (ps.map Int.ofNat))/\Pth n t.ops t.init l ps/\(∀ q∈t.goal,q∈l)/\ps.length+1<=ls.length/\vZu n t ps))
def CntA(ls:List (List Int))(nh nP nB:Nat)(fh:Int->Option Int)(fP fB:Int->Option Value):Prop:=nh+unF ls (hF fh)<=ls.length/\nP+unF ls fP<=ls.length/\nB+unF ls fB<=ls.length
def PMem(ls:List (List Int))(D:List Int->Int)(fP:Int->Option Value):Prop:=∀ l∈ls,(D l=1000000000/\fP (xJ0 l)=none)\/(D l < 1000000000/\D l+409601 * (unF ls fP:Int)<=409601 * (ls.length:Int)/\fP (xJ0 l)=some (.int .i64 (D l)))
theorem PMem.start{n:Nat}{ls:List (List Int)}{st:List Int}(hn:ls.Nodup)(hs:∀ x∈ls,SetP x (n:Int))(hst:st∈ls):PMem ls (D0 st) (upd (fun _=>none) (xJ0 st) (.int .i64 0)):=fun l hl=>by
 have h1:=xVy (f:=fun _=>none) (v:=.int .i64 0) hn hs hst 0;rw[xVk] at h1
 by_cases e:l=st
 ·subst e;right;have e2:D0 l l=0:=if_pos rfl;rw[e2,xX1];refine⟨by omega,by omega,rfl⟩
 ·left;exact⟨if_neg e,by rw[xJe _ _ (fun e2=>e (xJi (hs l hl) (hs st hst) e2))]⟩
theorem PMem.put{n:Nat}{ls:List (List Int)}{D:List Int->Int}{fP:Int->Option Value}{s l':List Int}{N c:Int}(h:PMem ls D fP)(hn:ls.Nodup)(hset:∀ x∈ls,SetP x (n:Int))(hs:s∈ls)(hsD:D s < 1000000000)(hl:l'∈ls)(hN:N=D s+(c * 4096+1))(hc:0<=c/\c<=100)(hlt:N < D l')(hls:ls.length<=2000) :
  PMem ls (xV9 D l' N) (upd fP (xJ0 l') (.int .i64 N)):=by
 have h1:=xVy (f:=fP) (v:=.int .i64 N) hn hset hl 0;have hP:=h s hs;have hsb:D s+409601 * (unF ls fP:Int)<=409601 * (ls.length:Int):=by rcases hP with h2 | h2 <;> omega
 intro x hx
 by_cases e:x=l'
 ·subst e;right;have e2:xV9 D x N x=N:=if_pos rfl;rw[e2,xX1];rcases h x hx with ⟨h2,h3⟩ | ⟨h2,h3,h4⟩
  ·have h5:up1 fP (xJ0 x) 0=1:=by unfold up1;rw[h3];rfl
   refine⟨by omega,by omega,rfl⟩
  ·have h5:up1 fP (xJ0 x) 0=0:=by unfold up1;rw[h4];rfl
   refine⟨by omega,by omega,rfl⟩
 ·have e2:xV9 D l' N x=D x:=if_neg e;rw[e2,xJe _ _ (fun e3=>e (xJi (hset x hx) (hset l' hl) e3))];rcases h x hx with h2 | ⟨h2,h3,h4⟩
  ·exact .inl h2
  ·refine .inr ⟨h2,by omega,h4⟩
theorem CntA.h{n:Nat}{ls:List (List Int)}{nh nP nB:Nat}{fh fh':Int->Option Int}{fP fB:Int->Option Value}(h:CntA ls nh nP nB fh fP fB)(hn:ls.Nodup)(hset:∀ x∈ls,SetP x (n:Int)){l:List Int}(hl:l∈ls){v:Int}(e:hF fh'=upd (hF fh) (xJ0 l) (.int .i64 v)):CntA ls (up1 (hF fh) (xJ0 l) nh) nP nB fh' fP fB:=by
 refine⟨?_,h.2⟩;rw[e,xVy hn hset hl];exact h.1
theorem CntA.pb{n:Nat}{ls:List (List Int)}{nh nP nB:Nat}{fh:Int->Option Int}{fP fB:Int->Option Value}(h:CntA ls nh nP nB fh fP fB)(hn:ls.Nodup)(hset:∀ x∈ls,SetP x (n:Int)){l:List Int}(hl:l∈ls)(u v:Value):CntA ls nh (up1 fP (xJ0 l) nP) (up1 fB (xJ0 l) nB) fh (upd fP (xJ0 l) u) (upd fB (xJ0 l) v):=
 ⟨h.1,by rw[xVy hn hset hl];exact h.2.1,by rw[xVy hn hset hl];exact h.2.2⟩
def IBest(k:Blk)(w0 w:World)(t:TaskV)(Ai Ag Ao:Option Addr)(ci cg co:Nat)(ds:List Deferred)(nE:Nat)(fE:Int->Option Value)(n:Nat)(ls:List (List Int))(b9 b2 M:Nat)(s:List Int)(d:Int)(pre:List (xX4 n t.ops s))(W:World):Prop:=
 ∃ (nh nP nB nq:Nat) (fh:Int->Option Int) (fP fB:Int->Option Value) (fq:Int->Option Int) (D:List Int->Int),BM k w0 w t Ai Ag Ao ci cg co ds nh nP nB nE nq fh fP fB fE fq W/\Hid (AS1 n t.ops t.goal t.init ls D fB fh fq s d (pre.map (·.1)))/\Hid (HeuOk n t fh)/\Hid (CntA ls nh nP nB fh fP fB)/\Hid (PMem ls D fP)/\Hid (2 * xKt ls D+nq<=M)/\Arr W b9 56 [.int .u32 (xJ0 s)]/\Arr W b2 56 [.int .u32 (xJ0 s)]/\b2+1<=W.heap.size
theorem IBest.turn{k:Blk}{w0 w W0 W W':World}{t:TaskV}{Ai Ag Ao:Option Addr}{ci cg co:Nat}{ds:List Deferred}{nE:Nat}{fE:Int->Option Value}{n:Nat}{ls:List (List Int)}{b9 b2 M:Nat}{s:List Int}{d:Int}{pre:List (xX4 n t.ops s)}(hk0:MarksOk w.heap.size ds W0)(hM0:k.me < W0.heap.size)
  (h:IBest k w0 w t Ai Ag Ao ci cg co ds nE fE n ls b9 b2 M s d pre W) (ht:Turn W0.heap.size W W'):IBest k w0 w t Ai Ag Ao ci cg co ds nE fE n ls b9 b2 M s d pre W':=by
 obtain⟨nh,nP,nB,nq,fh,fP,fB,fq,D,h1,h2,h3,h4,h5,h6,h7,h8,h9⟩:=h;have hsz:W.heap.size<=W'.heap.size:=by obtain⟨row,hg,_⟩:=ht;exact hg.size
 exact⟨nh,nP,nB,nq,fh,fP,fB,fq,D,h1.turn hk0 hM0 ht,h2,h3,h4,h5,h6,h7.turn ht,h8.turn ht,Nat.le_trans h9 hsz⟩
theorem zWo{n:Nat}{t:TaskV}{ls:List (List Int)}{D:List Int->Int}{Pa fP:Int->Option Value}{fh fq:Int->Option Int}(h:ASt n t.ops t.goal t.init ls D Pa fh fq)(hC:Clos n t.ops t.init ls)(hv:Valid t)(hn:t.facts=n)(hH:HeuOk n t fh)(hP:PMem ls D fP)(hl:ls.length<=2000)(he:∀ x,fq x=none):zV6 n t:=fun qs hq=>by
 refine Classical.byContradiction fun hc=>?_
 have hb:∀ l∈ls,D l < 1000000000->D l < 900000000:=fun l h1 h2=>by rcases hP l h1 with h3 | h3 <;> omega
 obtain⟨x,k,h1,_⟩:=h.queued hC hv hn hb hH hq hC.hst (by rw[h.d0];omega) (by omega) 0 (by rw[h.d0];omega);rw[he] at h1;cases h1
theorem vZv{n:Nat}{t:TaskV}{ls:List (List Int)}{D:List Int->Int}{Pa fP:Int->Option Value}{fh fq:Int->Option Int}(h:ASt n t.ops t.goal t.init ls D Pa fh fq)(hC:Clos n t.ops t.init ls)(hv:Valid t)(hn:t.facts=n)(hH:HeuOk n t fh)(hP:PMem ls D fP)(hl:ls.length<=2000){l:List Int}{k:Int}{ps:List Nat}(hlm:l∈ls)(hk:fq (xJ0 l)=some k)(hmin:∀ y k',fq y=some k'->k<=k')(hps:4096 * xJ6 (t.ops.map (·.cost)) ps+ps.length<=D l):vZu n t ps:=fun qs hq hc=>by
 have hb:∀ l∈ls,D l < 1000000000->D l < 900000000:=fun l h1 h2=>by rcases hP l h1 with h3 | h3 <;> omega
 obtain⟨x,k',h1,h2⟩:=h.queued hC hv hn hb hH hq hC.hst (by rw[h.d0];omega) hc 0 (by rw[h.d0];omega);have h3:=hmin _ _ h1;obtain⟨l',h4,h5,h6,v,h7,h8⟩:=h.q _ _ hk;have e:=xJi (hC.set l' h4) (hC.set l hlm) h5;subst e;have h9:=(hH l' (hC.set l' h4) v h7).1;omega
theorem zYk{n:Nat}{t:TaskV}(hv:Valid t)(hn:t.facts=n)(hs:SetP t.init (n:Int)){h:Int}(hc:xQt n t t.init h)(hi:1000000000<=h):zV6 n t:=fun qs hq=>by
 refine Classical.byContradiction fun hc2=>?_
 have:=hq.low hv hn hs (by omega);have:=hc.2.2;omega
theorem zWp{B b:Nat}{w w':World}{v:Value}{xs:List Int}(h:OwnI B w v xs)(hm:MTurn b w w'):OwnI B w' v xs:=zX7 h hm
theorem zWq{base g n hb:Nat}{w0 w:World}{t:TaskV}{Ai Ag Ao:Option Addr}{ci cg co:Nat}{ls:List (List Int)}(hW:WMem base w0 g t)(hT:TaskMem w0 Ai Ag Ao t)(hB0:Below w0.heap.size w0 w)(hX:HBox hb w t Ai Ag Ao ci cg co)(hMh:MapF w (hb+1+1) 0 (hF fun _=>none))(hhb:w0.heap.size<=hb)(hn:t.facts=n)(hv:Valid t)(hC:Clos n t.ops t.init ls)(hl:ls.length<=2000) :
  Calls Tryz.prog 28 #[.iface 50 (.pointer (some ⟨g,0,none⟩)),.func (.func 81) #[] #[.pointer (some ⟨(hb+1+1+1),0,none⟩),.pointer (some ⟨hb,0,none⟩),.pointer (some ⟨(hb+1),0,none⟩)]] w (BestP n t w0 w ls):=by
 have hvs:=zJq hv hn;have hn24:=hvs.n24;have hSi:=hvs.init;have hwi:=hSi.wrd hn24;have HVS:=lHd hvs;have HV:=lHd hv;have HC:=lHd hC;have hs1:=fun n w=>zWc ⟨g,0,none⟩ n w
 have hs2:=fun n w=>zWd ⟨g,0,none⟩ n w
 have hs3:=fun n w=>vK9 ⟨g,0,none⟩ n w
 have hmm:=@run_makeMap Tryz.prog;have hz0:=hB0.size;have hxl:=hX.lt;clear hvs hv hC;refine xZ9 Tryz.func28 rfl ?_;simp only[Tryz.ntmps28,List.size_toArray,List.length_cons,List.length_nil,Nat.reduceAdd,Nat.reduceSub,Array.replicate_succ,Array.replicate_zero,List.push_toArray,List.append_toArray,List.nil_append,List.cons_append];have hB1:Below w0.heap.size w0 (w.alloc (.cells #[.func (.func 81) #[] #[.pointer (some ⟨(hb+1+1+1),0,none⟩),.pointer (some ⟨hb,0,none⟩),.pointer (some ⟨(hb+1),0,none⟩)]] 73)):=mvh;have hX1:HBox hb (w.alloc (.cells #[.func (.func 81) #[] #[.pointer (some ⟨(hb+1+1+1),0,none⟩),.pointer (some ⟨hb,0,none⟩),.pointer (some ⟨(hb+1),0,none⟩)]] 73)) t Ai Ag Ao ci cg co:=mvh;have hM1:MapF (w.alloc (.cells #[.func (.func 81) #[] #[.pointer (some ⟨(hb+1+1+1),0,none⟩),.pointer (some ⟨hb,0,none⟩),.pointer (some ⟨(hb+1),0,none⟩)]] 73)) (hb+1+1) 0 (hF fun _=>none):=mvh;have hb1:Arr (w.alloc (.cells #[.func (.func 81) #[] #[.pointer (some ⟨(hb+1+1+1),0,none⟩),.pointer (some ⟨hb,0,none⟩),.pointer (some ⟨(hb+1),0,none⟩)]] 73)) w.heap.size 73 [.func (.func 81) #[] #[.pointer (some ⟨(hb+1+1+1),0,none⟩),.pointer (some ⟨hb,0,none⟩),.pointer (some ⟨(hb+1),0,none⟩)]]:=Arr.new_at w _ rfl _ _;have hc1:=hb1.cell 0
 go_wp2_with (go_at_call 18;refine (xVz (WMem.below hW hB1)).mono ?_;rintro e w' ⟨rfl,rfl⟩)
 refine (xZd hT hB1 hX1 hM1 (by omega) hn HV.out hSi (HeuOk.nil n t) (by simp;omega)).mono ?_;rintro e w2 ⟨h0,fh,rfl,hcv,hfh,hext,hok,hFe,hM2,hg2⟩;have hX2:HBox hb w2 t Ai Ag Ao ci cg co:=mvh;have hb2:Arr w2 w.heap.size 73 [.func (.func 81) #[] #[.pointer (some ⟨(hb+1+1+1),0,none⟩),.pointer (some ⟨hb,0,none⟩),.pointer (some ⟨(hb+1),0,none⟩)]]:=mvh;have hB2:Below w0.heap.size w0 w2:=mvh;have hz2:=hg2.size;simp only[World.size_alloc] at hz2;have hk2:MarksOk w.heap.size [] w2:=MarksOk.nil _ _;have HI:=lHd (zYk HV.out hn hSi hcv);have HH:=lHd hok;have HFE:=lHd hFe;have hnh1:up1 (hF fun _=>none) (xJ0 t.init) 0<=1:=zZ4 _ _ _;clear hX1 hM1 hb1 hc1 hB1 hcv hok hfh hFe hext hMh
 by_cases hinf:1000000000<=h0
 ·have HI2:=lHd (HI.out hinf);go_wp2
  (try simp only[Exit.inBlock,Exit.then])
  refine xQy rfl hk2 ?_;intro W' hW';exact⟨hB2.trans (hW'.below.mono (by omega)),.inl ⟨0,rfl,HI2.out⟩⟩
 ·have hlt0:h0 < 1000000000:=by omega
  have hMm:=MapF.made w2;have hMh2:MapF w2 (hb+1+1) (up1 (hF fun _=>none) (xJ0 t.init) 0) (hF fh):=hM2
  go_wp2_with (first | (refine xQ5 rfl (.tmp 25) (.tmp 26) (.const (.int .i64 0)) 54 rfl 3 Tryz.underlying54 rfl (MapF.made w2) (by omega) (xJ0 t.init) (.int .i64 0) rfl rfl hwi ?_;intro w3 hM3 hg3;have hz3:=hg3.size;simp only[World.size_alloc] at hz3;have hMn:=MapF.made_at (w3.alloc (.cells #[.map (some w2.heap.size)] 54)) (w3.heap.size+1) (by simp)) | (refine xQ5 rfl (.tmp 28) (.tmp 29) (.tmp 31) 147 rfl 146 Tryz.underlying147 rfl hMn (by omega) (xJ0 t.init) (.agg #[.int .u32 (xJ0 t.init),.int .i64 0]) rfl rfl hwi ?_;intro w4 hM4 hg4;have hz4:=hg4.size;simp only[World.size_alloc] at hz4) | (go_at_call 54;(refine (zVd _).mono ?_);rintro e w5 ⟨rfl,hQ5,hB5⟩))
  have hz5:=hB5.size;simp only[World.size_alloc] at hQ5 hz5;have hX3:HBox hb w3 t Ai Ag Ao ci cg co:=mvh;have hMh3:MapF w3 (hb+1+1) (up1 (hF fun _=>none) (xJ0 t.init) 0) (hF fh):=mvh;have hb3:Arr w3 w.heap.size 73 [.func (.func 81) #[] #[.pointer (some ⟨(hb+1+1+1),0,none⟩),.pointer (some ⟨hb,0,none⟩),.pointer (some ⟨(hb+1),0,none⟩)]]:=mvh;have hB3:Below w0.heap.size w0 w3:=mvh;have hX4:HBox hb w4 t Ai Ag Ao ci cg co:=mvh;have hMh4:MapF w4 (hb+1+1) (up1 (hF fun _=>none) (xJ0 t.init) 0) (hF fh):=mvh;have hb4:Arr w4 w.heap.size 73 [.func (.func 81) #[] #[.pointer (some ⟨(hb+1+1+1),0,none⟩),.pointer (some ⟨hb,0,none⟩),.pointer (some ⟨(hb+1),0,none⟩)]]:=mvh;have hB4:Below w0.heap.size w0 w4:=mvh;have hMp4:MapF w4 w2.heap.size (up1 (fun _=>none) (xJ0 t.init) 0) (upd (fun _=>none) (xJ0 t.init) (.int .i64 0)):=mvh;have hbp0:Arr ((w3.alloc (.cells #[.map (some w2.heap.size)] 54)).alloc (.map #[] 0)) w3.heap.size 54 [.map (some w2.heap.size)]:=(Arr.new_at w3 _ rfl _ _).alloc _;have hbp4:Arr w4 w3.heap.size 54 [.map (some w2.heap.size)]:=mvh;have hba0:Arr (w4.alloc (.cells #[.map (some (w3.heap.size+1))] 147)) w4.heap.size 147 [.map (some (w3.heap.size+1))]:=Arr.new_at w4 _ rfl _ _;have hX5:HBox hb w5 t Ai Ag Ao ci cg co:=HBox.below (B:=0) (hX4.alloc _) hB5;have hMh5:MapF w5 (hb+1+1) (up1 (hF fun _=>none) (xJ0 t.init) 0) (hF fh):=(hMh4.alloc _).below hB5 (by simp;omega);have hb5:Arr w5 w.heap.size 73 [.func (.func 81) #[] #[.pointer (some ⟨(hb+1+1+1),0,none⟩),.pointer (some ⟨hb,0,none⟩),.pointer (some ⟨(hb+1),0,none⟩)]]:=(hb4.alloc _).below hB5;have hB50:Below w0.heap.size w0 w5:=(hB4.alloc (by omega) _).trans (hB5.mono (by simp;omega));have hMp5:MapF w5 w2.heap.size (up1 (fun _=>none) (xJ0 t.init) 0) (upd (fun _=>none) (xJ0 t.init) (.int .i64 0)):=(hMp4.alloc _).below hB5 (by simp;omega);have hbp5:Arr w5 w3.heap.size 54 [.map (some w2.heap.size)]:=(hbp4.alloc _).below hB5;have hMa5:MapF w5 (w3.heap.size+1) (up1 (fun _=>none) (xJ0 t.init) 0) (upd (fun _=>none) (xJ0 t.init) (.agg #[.int .u32 (xJ0 t.init),.int .i64 0])):=(hM4.alloc _).below hB5 (by simp;omega);have hba5:Arr w5 w4.heap.size 147 [.map (some (w3.heap.size+1))]:=hba0.below hB5;have hql:=hQ5.qlt;obtain⟨W5,hW5⟩:∃ x,Hid (x=(w5.alloc (.cells #[.pointer (some ⟨w4.heap.size+1+1,0,none⟩)] 102)).drew):=⟨_,rfl⟩;have hbq5:Arr W5 w5.heap.size 102 [.pointer (some ⟨w4.heap.size+1+1,0,none⟩)]:=by rw[hW5.out];exact (Arr.new_at w5 _ rfl _ _).drew
  have gX5:HBox hb W5 t Ai Ag Ao ci cg co:=by rw[hW5.out];exact mvh
  have gM5:MapF W5 (hb+1+1) (up1 (hF fun _=>none) (xJ0 t.init) 0) (hF fh):=by rw[hW5.out];exact mvh
  have gb5:Arr W5 w.heap.size 73 [.func (.func 81) #[] #[.pointer (some ⟨(hb+1+1+1),0,none⟩),.pointer (some ⟨hb,0,none⟩),.pointer (some ⟨(hb+1),0,none⟩)]]:=by rw[hW5.out];exact mvh
  have gB5:Below w0.heap.size w0 W5:=by rw[hW5.out];exact mvh
  have gMp5:MapF W5 w2.heap.size (up1 (fun _=>none) (xJ0 t.init) 0) (upd (fun _=>none) (xJ0 t.init) (.int .i64 0)):=by rw[hW5.out];exact mvh
  have gbp5:Arr W5 w3.heap.size 54 [.map (some w2.heap.size)]:=by rw[hW5.out];exact mvh
  have gMa5:MapF W5 (w3.heap.size+1) (up1 (fun _=>none) (xJ0 t.init) 0) (upd (fun _=>none) (xJ0 t.init) (.agg #[.int .u32 (xJ0 t.init),.int .i64 0])):=by rw[hW5.out];exact mvh
  have gba5:Arr W5 w4.heap.size 147 [.map (some (w3.heap.size+1))]:=by rw[hW5.out];exact mvh
  have gQ5:Que (w4.heap.size+1) (w4.heap.size+1+1) (w4.heap.size+1) W5 0 (fun _=>none):=by rw[hW5.out];exact mvh
  have gz5:w5.heap.size+1<=W5.heap.size:=by rw[hW5.out];exact Nat.le_of_eq (World.size_alloc _ _).symm
  clear hX2 hb2 hB2 hk2 hX3 hMh3 hb3 hB3 hX4 hMh4 hb4 hB4 hMp4 hbp0 hbp4 hba0 hX5 hMh5 hb5 hB50 hMp5 hbp5 hMa5 hba5 hM3 hg3 hM4 hg4 hMm hMn hQ5 hMh2 hM2 hg2 hB5;have hSS0:(w5.alloc (.cells #[.pointer (some ⟨w4.heap.size+1+1,0,none⟩)] 102)).drew.cell? ⟨w5.heap.size,0,none⟩=some (.pointer (some ⟨w4.heap.size+1+1,0,none⟩))/\(w5.alloc (.cells #[.pointer (some ⟨w4.heap.size+1+1,0,none⟩)] 102)).drew.cell? ⟨w.heap.size,0,none⟩=some (.func (.func 81) #[] #[.pointer (some ⟨(hb+1+1+1),0,none⟩),.pointer (some ⟨hb,0,none⟩),.pointer (some ⟨(hb+1),0,none⟩)]):=by rw[<- hW5.out];exact⟨hbq5.cell 0,gb5.cell 0⟩
  go_wp2;refine xKc (fun W=>W.cell? ⟨w5.heap.size,0,none⟩=some (.pointer (some ⟨w4.heap.size+1+1,0,none⟩))/\W.cell? ⟨w.heap.size,0,none⟩=some (.func (.func 81) #[] #[.pointer (some ⟨(hb+1+1+1),0,none⟩),.pointer (some ⟨hb,0,none⟩),.pointer (some ⟨(hb+1),0,none⟩)])) [] (by kernel_rfl) ?_;have hSS:=hSS0;refine xJ1 (i:=0) (v:=?vz10) rfl (by kernel_rfl) (by kernel_rfl) (by kernel_rfl) (by kernel_rfl) (by kernel_rfl) (fun _ _ _ h=>h) (Or.inl ⟨by rfl,?hz10⟩) (by assumption) ?rz10
  case hz10=>(intro w hSw;(try dsimp only at hSw);go_simp;(try with_reducible rfl))
  try simp only[ap]
  refine xJ1 (i:=1) (v:=?vz11) rfl (by kernel_rfl) (by kernel_rfl) (by kernel_rfl) (by kernel_rfl) (by kernel_rfl) (fun _ _ _ h=>h) (Or.inl ⟨by rfl,?hz11⟩) (by assumption) ?rz11
  case hz11=>(intro w hSw;(try dsimp only at hSw);go_simp;(try with_reducible rfl))
  try simp only[ap]
  refine xJ1 (i:=2) (v:=?vz12) rfl (by kernel_rfl) (by kernel_rfl) (by kernel_rfl) (by kernel_rfl) (by kernel_rfl) (fun _ _ _ h=>h) (Or.inl ⟨by rfl,?hz12⟩) (by assumption) ?rz12
  case hz12=>(intro w hSw;(try dsimp only at hSw);go_simp;(try with_reducible rfl))
  try simp only[ap]
  refine xJ1 (i:=3) (v:=?vz13) rfl (by kernel_rfl) (by kernel_rfl) (by kernel_rfl) (by kernel_rfl) (by kernel_rfl) (fun _ _ _ h=>h) (Or.inl ⟨by rfl,?hz13⟩) (by assumption) ?rz13
  case hz13=>(intro w hSw;(try dsimp only at hSw);go_simp;(try with_reducible rfl))
  try simp only[ap]
  refine xJ4 (i:=4) (by kernel_rfl) rfl (fun K hK=>?_);go_simp;go_at_call 81;rw[<- hW5.out];refine (xZd hT gB5 gX5 gM5 (by omega) hn HV.out hSi HH.out (by omega)).mono ?_;rintro e w6 ⟨h1,fh1,rfl,hcv1,hfh1,hext1,hok1,hFe1,hM6,hg6⟩;have hb6:Arr w6 w.heap.size 73 [.func (.func 81) #[] #[.pointer (some ⟨(hb+1+1+1),0,none⟩),.pointer (some ⟨hb,0,none⟩),.pointer (some ⟨(hb+1),0,none⟩)]]:=mvh;have hq6:Arr w6 w5.heap.size 102 [.pointer (some ⟨w4.heap.size+1+1,0,none⟩)]:=mvh;have hQ6:Que (w4.heap.size+1) (w4.heap.size+1+1) (w4.heap.size+1) w6 0 (fun _=>none):=mvh;have hcvb:=hcv1.1;have hcvb2:=hcv1.2.1
  go_wp2_with fail
  have hSS:w6.cell? ⟨w5.heap.size,0,none⟩=some (.pointer (some ⟨w4.heap.size+1+1,0,none⟩))/\w6.cell? ⟨w.heap.size,0,none⟩=some (.func (.func 81) #[] #[.pointer (some ⟨(hb+1+1+1),0,none⟩),.pointer (some ⟨hb,0,none⟩),.pointer (some ⟨(hb+1),0,none⟩)]):=⟨hq6.cell 0,hb6.cell 0⟩;refine hK.out _ _ hSS ?_;clear hK K
  try simp only[ap]
  refine xJ4 (i:=5) (by kernel_rfl) rfl (fun K hK=>?_);go_simp
  go_wp2_with fail
  rw[zYj _ (by omega) (by omega)];have hSS:w6.cell? ⟨w5.heap.size,0,none⟩=some (.pointer (some ⟨w4.heap.size+1+1,0,none⟩))/\w6.cell? ⟨w.heap.size,0,none⟩=some (.func (.func 81) #[] #[.pointer (some ⟨(hb+1+1+1),0,none⟩),.pointer (some ⟨hb,0,none⟩),.pointer (some ⟨(hb+1),0,none⟩)]):=⟨hq6.cell 0,hb6.cell 0⟩;refine hK.out _ _ hSS ?_;clear hK K
  try simp only[ap]
  refine xJ4 (i:=6) (by kernel_rfl) rfl (fun K hK=>?_);go_simp;go_at_call 56;refine (zJ1 hQ6 (xJ0 t.init) (4096 * h1) hwi (by omega)).mono ?_;rintro e w7 ⟨rfl,hQ7,hU7⟩;have hqm6:=hQ6.obj;have hb7:Arr w7 w.heap.size 73 [.func (.func 81) #[] #[.pointer (some ⟨(hb+1+1+1),0,none⟩),.pointer (some ⟨hb,0,none⟩),.pointer (some ⟨(hb+1),0,none⟩)]]:=mvh;have hq7:Arr w7 w5.heap.size 102 [.pointer (some ⟨w4.heap.size+1+1,0,none⟩)]:=mvh
  go_wp2_with fail
  have hSS:w7.cell? ⟨w5.heap.size,0,none⟩=some (.pointer (some ⟨w4.heap.size+1+1,0,none⟩))/\w7.cell? ⟨w.heap.size,0,none⟩=some (.func (.func 81) #[] #[.pointer (some ⟨(hb+1+1+1),0,none⟩),.pointer (some ⟨hb,0,none⟩),.pointer (some ⟨(hb+1),0,none⟩)]):=⟨hq7.cell 0,hb7.cell 0⟩;refine hK.out _ _ hSS ?_;clear hK K
  try simp only[ap]
  refine xJ8 (by kernel_rfl) ?_ _;dsimp only[vQd];obtain⟨k,hk⟩:∃ k:Blk,k=⟨hb,w.heap.size,w2.heap.size,w3.heap.size,w3.heap.size+1,w4.heap.size,w4.heap.size+1,w4.heap.size+1+1,w5.heap.size,w7.heap.size⟩:=⟨_,rfl⟩;have hz6:=hg6.size;have hz7:=hU7.below.size;have gX6:HBox hb w6 t Ai Ag Ao ci cg co:=mvh;have gB6:Below w0.heap.size w0 w6:=mvh;have gMp6:MapF w6 w2.heap.size (up1 (fun _=>none) (xJ0 t.init) 0) (upd (fun _=>none) (xJ0 t.init) (.int .i64 0)):=mvh;have gbp6:Arr w6 w3.heap.size 54 [.map (some w2.heap.size)]:=mvh;have gMa6:MapF w6 (w3.heap.size+1) (up1 (fun _=>none) (xJ0 t.init) 0) (upd (fun _=>none) (xJ0 t.init) (.agg #[.int .u32 (xJ0 t.init),.int .i64 0])):=mvh;have gba6:Arr w6 w4.heap.size 147 [.map (some (w3.heap.size+1))]:=mvh;have gX7:HBox hb w7 t Ai Ag Ao ci cg co:=mvh;have gM7:MapF w7 (hb+1+1) (up1 (hF fh) (xJ0 t.init) (up1 (hF fun _=>none) (xJ0 t.init) 0)) (hF fh1):=mvh;have gb7:Arr w7 w.heap.size 73 [.func (.func 81) #[] #[.pointer (some ⟨(hb+1+1+1),0,none⟩),.pointer (some ⟨hb,0,none⟩),.pointer (some ⟨(hb+1),0,none⟩)]]:=mvh;have gbq7:Arr w7 w5.heap.size 102 [.pointer (some ⟨w4.heap.size+1+1,0,none⟩)]:=mvh;have gMp7:MapF w7 w2.heap.size (up1 (fun _=>none) (xJ0 t.init) 0) (upd (fun _=>none) (xJ0 t.init) (.int .i64 0)):=mvh;have gbp7:Arr w7 w3.heap.size 54 [.map (some w2.heap.size)]:=mvh;have gMa7:MapF w7 (w3.heap.size+1) (up1 (fun _=>none) (xJ0 t.init) 0) (upd (fun _=>none) (xJ0 t.init) (.agg #[.int .u32 (xJ0 t.init),.int .i64 0])):=mvh;have gba7:Arr w7 w4.heap.size 147 [.map (some (w3.heap.size+1))]:=mvh;have gB7:Below w0.heap.size w0 w7:=mvh;have hBM:BM k w0 w t Ai Ag Ao ci cg co [] (up1 (hF fh) (xJ0 t.init) (up1 (hF fun _=>none) (xJ0 t.init) 0)) (up1 (fun _=>none) (xJ0 t.init) 0) (up1 (fun _=>none) (xJ0 t.init) 0) 0 (upN (fun _=>none) (xJ0 t.init) 0) fh1 (upd (fun _=>none) (xJ0 t.init) (.int .i64 0)) (upd (fun _=>none) (xJ0 t.init) (.agg #[.int .u32 (xJ0 t.init),.int .i64 0])) (fun _=>none) (xZ1 (fun _=>none) (xJ0 t.init) (4096 * h1)) (w7.alloc (.map #[] 0)):=by
   subst hk;exact⟨⟨hhb,hxl,rfl,by dsimp only;omega,by dsimp only;omega,by dsimp only;omega,by dsimp only;omega,by dsimp only;omega,by dsimp only;omega,by dsimp only;omega,by dsimp only;omega⟩,gX7.alloc _,gM7.alloc _,gb7.alloc _,gMp7.alloc _,gbp7.alloc _,gMa7.alloc _,gba7.alloc _,hQ7.alloc _,gbq7.alloc _,MapF.made w7,MarksOk.nil _ _,gB7.alloc (by omega) _⟩
  have hk0:k.b0=w.heap.size/\k.bp=w3.heap.size/\k.ba=w4.heap.size/\k.bq=w5.heap.size/\k.me=w7.heap.size:=by subst hk;exact⟨rfl,rfl,rfl,rfl,rfl⟩
  have hcnt:CntA ls (up1 (hF fh) (xJ0 t.init) (up1 (hF fun _=>none) (xJ0 t.init) 0)) (up1 (fun _=>none) (xJ0 t.init) 0) (up1 (fun _=>none) (xJ0 t.init) 0) fh1 (upd (fun _=>none) (xJ0 t.init) (.int .i64 0)) (upd (fun _=>none) (xJ0 t.init) (.agg #[.int .u32 (xJ0 t.init),.int .i64 0])):=by
   have e0:CntA ls 0 0 0 (fun _=>none) (fun _=>none) (fun _=>none):=by
    have e:hF (fun _=>none)=fun _=>none:=rfl
    refine⟨?_,?_,?_⟩
    ·rw[e,xVk];omega
    ·rw[xVk];omega
    ·rw[xVk];omega
   exact ((e0.h HC.out.nd HC.out.set HC.out.hst HFE.out).h HC.out.nd HC.out.set HC.out.hst hFe1).pb HC.out.nd HC.out.set HC.out.hst _ _
  have HCN:=lHd hcnt;have HPM:=lHd (PMem.start HC.out.nd HC.out.set HC.out.hst);have HAS:=lHd (ASt.start (n:=n) (ops:=t.ops) (goal:=t.goal) (Pa:=upd (fun _=>none) (xJ0 t.init) (.agg #[.int .u32 (xJ0 t.init),.int .i64 0])) HC.out.set HC.out.hst hfh1);have HOK:=lHd hok1;clear hcnt hfh1 hok1 hFe1 hext1 hcv1 gX5 gM5 gb5 gB5 gMp5 gbp5 gMa5 gba5 gQ5 gz5 hbq5 gX6 gB6 gMp6 gbp6 gMa6 gba6 gX7 gM7 gb7 gbq7 gMp7 gbp7 gMa7 gba7 gB7 hQ7 hU7 hQ6 hqm6 hb6 hq6 hM6 hg6 hSS0 hW5;go_wp2;rw[<- hk0.1,<- hk0.2.1,<- hk0.2.2.1,<- hk0.2.2.2.1,<- hk0.2.2.2.2];refine wp_loop_ghost_k (fun gk a wr=>∃ (ds:List Deferred) (F:Array Value),(∃ (nh nP nB nE nq:Nat) (fh:Int->Option Int) (fP fB fE:Int->Option Value) (fq:Int->Option Int) (D:List Int->Int),BM k w0 w t Ai Ag Ao ci cg co ds nh nP nB nE nq fh fP fB fE fq wr/\Hid (ASt n t.ops t.goal t.init ls D fB fh fq)/\Hid (HeuOk n t fh)/\Hid (CntA ls nh nP nB fh fP fB)/\nE+unF ls fE<=ls.length/\Hid (PMem ls D fP)/\Hid (gk=2 * xKt ls D+nq))/\a={ tmps:=#[.iface 50 (.pointer (some ⟨g,0,none⟩)),fr F 1,fr F 2,.pointer (some ⟨k.b0,0,none⟩),fr F 4,fr F 5,fr F 6,.int .u32 (xJ0 t.init),.pointer (some ⟨k.bp,0,none⟩),.pointer (some ⟨k.ba,0,none⟩),.pointer (some ⟨k.bq,0,none⟩),.map (some k.me),fr F 12,fr F 13,fr F 14,fr F 15,fr F 16,fr F 17,fr F 18,fr F 19,fr F 20,fr F 21,fr F 22,fr F 23,fr F 24,fr F 25,fr F 26,fr F 27,fr F 28,fr F 29,fr F 30,fr F 31,fr F 32,fr F 33,fr F 34,fr F 35,fr F 36,fr F 37,fr F 38,fr F 39,fr F 40,fr F 41,fr F 42,fr F 43,fr F 44,fr F 45,fr F 46,fr F 47,fr F 48,fr F 49,fr F 50,fr F 51,fr F 52,fr F 53,fr F 54,fr F 55,fr F 56,fr F 57,fr F 58,fr F 59,fr F 60,fr F 61,fr F 62,fr F 63,fr F 64,fr F 65,fr F 66,fr F 67,fr F 68,fr F 69,fr F 70,fr F 71,fr F 72,fr F 73,fr F 74,fr F 75,fr F 76,fr F 77,fr F 78,fr F 79,fr F 80,fr F 81,fr F 82,fr F 83,fr F 84,fr F 85,fr F 86,fr F 87,fr F 88,fr F 89,fr F 90,fr F 91,fr F 92,fr F 93,fr F 94,fr F 95,fr F 96,fr F 97,fr F 98,fr F 99,fr F 100,fr F 101,fr F 102,fr F 103,fr F 104,fr F 105,fr F 106,fr F 107,fr F 108,fr F 109,fr F 110,fr F 111,fr F 112,fr F 113,fr F 114,fr F 115,fr F 116,fr F 117],defers:=ds }) (2 * xKt ls (D0 t.init)+upN (fun _=>none) (xJ0 t.init) 0) ?start ?round
  case start=>exact⟨[],zJ7 ⟨_,_,_,_,_,_,_,_,_,_,_,hBM,HAS.out,HOK.out,HCN.out,by rw[xVk];omega,HPM.out,rfl⟩ rfl⟩
  case round=>
   clear hBM HAS HOK HCN HPM hcvb hcvb2 HI HH HFE hnh1 hk hk0 hX hB0;intro gk a wr hinv;obtain⟨ds,F,⟨nh,nP,nB,nE,nq,fh,fP,fB,fE,fq,D,hBM,hA,hH,hCn,hnE,hP,hgk⟩,rfl⟩:=hinv;intro J K hJ hK;obtain⟨c1,c2,c3,c4⟩:=hBM.cells;have hQ:=hBM.q;obtain⟨o1,o2,o3,o4,o5,o6,o7,o8,o9,o10,o11⟩:=hBM.ok;have o3a:w.heap.size<=k.b0:=by omega
   have o3b:k.b0<=w.heap.size:=by omega
   clear o3
   by_cases hq0:nq=0
   ·subst hq0;have HN:=lHd (zWo hA.out HC.out HV.out hn hH.out hP.out hl hQ.empty);have HM:=lHd hBM.mks;have HB:=lHd hBM.bel;have hlen:=hBM.me.len Tryz.underlying148 3;clear hA hH hCn hP hgk hBM hJ
    go_wp2_with (go_at_call 58;(refine (xYl hQ).mono ?_);rintro e w9 ⟨rfl,rfl⟩)
    (try simp only[Exit.inBlock,Exit.then])
    refine xQy rfl HM.out ?_;intro W' hW';exact⟨HB.out.trans (hW'.below.mono (by omega)),.inl ⟨nE,rfl,HN.out⟩⟩
   ·have hnn:0 < nq:=by omega
    go_wp2_with (first | (go_at_call 58;(refine (xYl hQ).mono ?_);rintro e w9 ⟨rfl,rfl⟩) | (go_at_call 59;(refine (zXl hQ hnn).mono ?_);rintro e w2 ⟨x,d0,hx,hfx,hmin,rfl,hQ2,hU2⟩;obtain⟨l,hlm,rfl,hlD,v1,hv1,hv2⟩:=hA.out.q _ _ hfx;have hBM2:=hBM.byQ hU2 hQ2;obtain⟨d1,d2,d3,d4⟩:=hBM2.cells))
    have hSl:=HC.out.set l hlm;have hwl:=hSl.wrd hn24;have hB2:=hBM2.bel;have hz2:=hBM2.lt
    by_cases hg:∀ q∈t.goal,q∈l
    ·obtain⟨ps,sts,i1,i2,i3,i4,i5,i6⟩:=hA.out.toAB.trail HC.out.set hn24 HC.out.hst (fun o ho=>(HV.out.ops o ho).2.1) (D l).toNat l hlm hlD (Nat.le_refl _);have hlen1:ps.length+1<=ls.length:=by have:=xX8 i4 (fun x hx=>(i5 x hx).1);omega
     have HCH:=lHd (vZv hA.out HC.out HV.out hn hH.out hP.out hl hlm hfx hmin i3);have HTR:=lHd i1;have HPT:=lHd i2;have HG:=lHd hg;clear hA hH hCn hP hgk hJ hmin hfx hlD i1 i2 i3 i4 i5 i6 hg hv1 hv2 hU2 hQ2 hQ hBM;refine (zZo (WMem.below hW (hB2.alloc (by omega) _)) HVS.out hSl HG.out).mono ?_;rintro e w' ⟨rfl,dd,rfl⟩;obtain⟨W3,hW3⟩:∃ x,Hid (x=(w2.alloc (.cells #[.int .u32 (xJ0 l)] 56)).drewN dd):=⟨_,rfl⟩;rw[<- hW3.out];have hBM3:BM k w0 w t Ai Ag Ao ci cg co ds nh nP nB nE (nq - 1) fh fP fB fE (xKu fq (xJ0 l)) W3:=by rw[hW3.out];exact (hBM2.alloc _).drewN _
     have hx3:Arr W3 w2.heap.size 56 [.int .u32 (xJ0 l)]:=by rw[hW3.out];exact (Arr.new_at w2 _ rfl _ _).drewN _
     have hxc3:=hx3.cell 0;obtain⟨e1,e2,e3,e4⟩:=hBM3.cells;have hz3:=hBM3.bel.size;clear hBM2 d1 d2 d3 d4 hB2 hW3
     go_wp2_with (go_at_call 79;refine (vJc hBM3.ma HTR.out (by simp;omega)).mono ?_;rintro e w5 ⟨hB5,v,rfl,hO5⟩;have hlen:=(hBM3.me.below hB5 hBM3.me.lt).len Tryz.underlying148 3)
     (try simp only[Exit.inBlock,Exit.then])
     refine xQy rfl (hBM3.mks.below hB5) ?_;intro W' hW';exact⟨(hBM3.bel.trans (hB5.mono (by omega))).trans (hW'.below.mono (by omega)),.inr ⟨v,nE,l,ps,rfl,⟨W3.heap.size,by omega,zWp hO5 hW'⟩,HPT.out,HG.out,hlen1,HCH.out⟩⟩
    ·have hAS1:=lHd (hA.out.take HC.out.set hlm hfx hg);obtain⟨dl,hdl⟩:∃ x,Hid (x=D l):=⟨_,rfl⟩;rw[<- hdl.out] at hAS1;have HG:=lHd hg;have HHJ:=lHd hJ;clear hA hmin hfx hg hv1 hv2 hU2 hQ2 hQ hBM hJ;refine (zVq (WMem.below hW (hB2.alloc (by omega) _)) HVS.out hSl HG.out).mono ?_;rintro e w' ⟨rfl,dd,rfl⟩;obtain⟨W3,hW3⟩:∃ x,Hid (x=(w2.alloc (.cells #[.int .u32 (xJ0 l)] 56)).drewN dd):=⟨_,rfl⟩;rw[<- hW3.out];have hBM3:BM k w0 w t Ai Ag Ao ci cg co ds nh nP nB nE (nq - 1) fh fP fB fE (xKu fq (xJ0 l)) W3:=by rw[hW3.out];exact (hBM2.alloc _).drewN _
     have hx3:Arr W3 w2.heap.size 56 [.int .u32 (xJ0 l)]:=by rw[hW3.out];exact (Arr.new_at w2 _ rfl _ _).drewN _
     have hxc3:=hx3.cell 0;have hMe3:=hBM3.me;have hz3:w2.heap.size+1<=W3.heap.size:=hx3.lt;clear hBM2 d1 d2 d3 d4 hB2 hW3
     go_wp2_with (first | (at_mapUpdate;refine xX7 rfl (.tmp 60) (.tmp 61) (.tmp 62) 148 rfl 150 Tryz.underlying148 rfl hMe3 (by omega) (xJ0 l) (.agg #[]) rfl rfl hwl ?_;intro w4 hM4 hg4;have hx4:Arr w4 w2.heap.size 56 [.int .u32 (xJ0 l)]:=mvh;have hxc4:=hx4.cell 0) | (go_at_call 57;refine (xQr _ _ _).mono ?_;rintro e w' ⟨rfl,rfl⟩))
     have hBM4:=hBM3.byE hg4 hM4;have hz4:=hg4.size;have hz5:=hBM4.lt;have hnE4:up1 fE (xJ0 l) nE+unF ls (upd fE (xJ0 l) (.agg #[]))<=ls.length:=by rw[xVy HC.out.nd HC.out.set hlm];exact hnE
     have hB4:=hBM4.bel;have hm4:=hBM4.mks;clear hBM3 hx3 hxc3 hMe3 hM4 hg4;refine xZt (b1:=w4.heap.size) (b2:=w4.heap.size+1) (es:=15) hW HVS.out hSl ?hB ?hc1 ?hc2 ?hb2 rfl rfl (IBest k w0 w t Ai Ag Ao ci cg co ds (up1 fE (xJ0 l) nE) (upd fE (xJ0 l) (.agg #[])) n ls w2.heap.size (w4.heap.size+1) (2 * xKt ls D+(nq - 1)) l dl) ?hI ?hIs ?h0 ?hassign ?hbody ?hdone
     case hB=>exact mvh
     case hc1=>exact ((Arr.new_at w4 _ rfl _ _).alloc _).cell 0
     case hc2=>exact (Arr.new_at (w4.alloc _) _ (by simp) _ [.int .u32 (xJ0 l)]).cell 0
     case hb2=>omega
     case hI=>exact fun pre W W' h ht=>h.turn ((hm4.alloc _).alloc _) (by simp;omega) ht
     case hIs=>rintro pre W ⟨_,_,_,_,_,_,_,_,_,_,_,_,_,_,_,_,_,h⟩;simpa using h
     case h0=>exact⟨nh,nP,nB,nq - 1,fh,fP,fB,_,D,(hBM4.alloc _).alloc _,hAS1.out,hH.out,hCn.out,hP.out,Nat.le_refl _,mvh,Arr.new_at (w4.alloc _) _ (by simp) _ _,by simp⟩
     case hassign=>
      intro y x W K hK;simp only[xX5,List.setIfInBounds_toArray,List.set_cons_succ,List.set_cons_zero] at hK ⊢
      gi_wp2
      rfl
     case hdone=>
      intro D' xs W hD hxs hi hDh;obtain⟨nh',nP',nB',nq',fh',fP',fB',fq',D2,h1,h2,h3,h4,h5,h6,h7,h8,h9⟩:=hi;have HMK:=lHd (h1.mks.cons hDh (by simp at hD;omega) (((hm4.alloc _).alloc _).lt hD));have HA2:=lHd (h2.out.fin hxs);have HBM2:BM k w0 w t Ai Ag Ao ci cg co (xWu D' :: ds) nh' nP' nB' (up1 fE (xJ0 l) nE) nq' fh' fP' fB' (upd fE (xJ0 l) (.agg #[])) fq' W:={ h1 with mks:=HMK.out };have HB2:=lHd HBM2;clear h1 h2 hDh hBM4 hm4 HBM2 h7 h8 hx4 hxc4;go_wp2;refine Handed.intro (2 * xKt ls D2+nq') ?measure (HHJ.out _ _ _ ⟨xWu D' :: ds,zJ7 ⟨nh',nP',nB',_,nq',fh',fP',fB',_,fq',D2,HB2.out,HA2.out,h3.out,h4.out,hnE4,h5.out,rfl⟩ rfl⟩)
      case measure=>
       have h:=h6.out;have h':=hgk.out;omega
     case hbody=>
      obtain⟨M,hM⟩:∃ x,x=2 * xKt ls D+(nq - 1):=⟨_,rfl⟩;rw[<- hM];clear hM hdl hlD hBM4 hB4 hm4 hx4 hxc4 hAS1 hH hCn hP hgk HHJ hq0 hnn;intro y pre x Bx W hlt hi hx hBx a' ha';obtain⟨⟨p,o,l2⟩,hmem⟩:=x;obtain⟨nh,nP,nB,nq,fh,fP,fB,fq,D,h1,hA,hH,hCn,hP,hMe,h9,h11,h12⟩:=hi;obtain⟨hplt,hop,hpre,hnx⟩:=xJz.1 hmem;dsimp only at hop hpre hnx;have hl2m:l2∈ls:=by rw[hnx];exact HC.out.closed l hlm p o hop hpre
      have hB9:((w4.alloc (.cells #[.pointer (some ⟨g,0,none⟩)] 50)).alloc (.cells #[.int .u32 (xJ0 l)] 56)).heap.size=w4.heap.size+1+1:=by simp
      have HNX:=lHd hnx;clear hnx;have hSl2:=HC.out.set l2 hl2m;have hwl2:=hSl2.wrd hn24;have hoc:0<=o.cost/\o.cost<=100:=(HV.out.ops o (lMg hop)).2;have hcur:=hA.out.cur;have hd1:=hA.out.hd;have hPl:fP (xJ0 l)=some (.int .i64 dl)/\dl+409601 * (unF ls fP:Int)<=409601 * (ls.length:Int):=by
       rcases hP.out l hlm with ⟨u1,u2⟩ | ⟨u1,u2,u3⟩
       ·omega
       ·rw[hcur] at u2 u3;exact⟨u3,u2⟩
      have hd0:0<=dl:=by have:=hA.out.lo l hlm;omega
      have hd9:dl<=819202000:=by omega
      have hlk1:(Instr.lookup 54 (.map (some k.mp)) (.int .u32 (xJ0 l)) false).run Tryz.prog W.drew=.ok (.int .i64 dl) W.drew:=by
       have h:=h1.mp.drew.look Tryz.underlying54 (xQq _) hwl;rw[hPl.1] at h;exact h
      have hPl2:=hP.out l2 hl2m;obtain⟨c1,c2,c3,c4⟩:=h1.cells;have hsW:=h1.bel.size;have hxs1:=hx.cell 1;have hxs2:=hx.cell 2;have h9c:=h9.cell 0;have hnn:nh < 1000000000000/\nP < 1000000000000/\nB < 1000000000000:=by have h:=hCn.out;unfold CntA at h;omega
      have hqn:nq < 1000000000:=by
       have h:=h1.q.count (ls:=ls) (fun x hx=>by cases hk:fq x with
        | none=>exact absurd hk hx
        | some v=>obtain⟨l',e1,e2,_⟩:=hA.out.q x v hk;exact⟨l',e1,e2⟩)
       omega
      simp only[xX5,List.setIfInBounds_toArray,List.set_cons_succ,List.set_cons_zero] at ha';subst ha';have hSS0:W.drew.cell? ⟨k.bp,0,none⟩=some (.map (some k.mp))/\W.drew.cell? ⟨w2.heap.size,0,none⟩=some (.int .u32 (xJ0 l))/\W.drew.cell? ⟨Bx,1,none⟩=some (.int .i64 o.cost)/\(Instr.lookup 54 (.map (some k.mp)) (.int .u32 (xJ0 l)) false).run Tryz.prog W.drew=.ok (.int .i64 dl) W.drew:=⟨c2,h9c,hxs1,hlk1⟩
      gi_wp2
      refine xZl (fun W=>W.cell? ⟨k.bp,0,none⟩=some (.map (some k.mp))/\W.cell? ⟨w2.heap.size,0,none⟩=some (.int .u32 (xJ0 l))/\W.cell? ⟨Bx,1,none⟩=some (.int .i64 o.cost)/\(Instr.lookup 54 (.map (some k.mp)) (.int .u32 (xJ0 l)) false).run Tryz.prog W=.ok (.int .i64 dl) W) [] (by kernel_rfl) (by kernel_rfl) (fun _ _ h=>h) ?_;have hSS:=hSS0;refine xJ1 (i:=0) (v:=?_) rfl (by kernel_rfl) (by kernel_rfl) (by kernel_rfl) (by kernel_rfl) (by kernel_rfl) (fun _ _ _ h=>h) (Or.inl ⟨by rfl,?_⟩) (by assumption) ?_;rotate_left
      ·(intro w hSw;(try dsimp only at hSw);go_simp;(try with_reducible rfl))
      try simp only[ap]
      refine xJ1 (i:=1) (v:=?_) rfl (by kernel_rfl) (by kernel_rfl) (by kernel_rfl) (by kernel_rfl) (by kernel_rfl) (fun _ _ _ h=>h) (Or.inl ⟨by rfl,?_⟩) (by assumption) ?_;rotate_left
      ·(intro w hSw;(try dsimp only at hSw);go_simp;(try with_reducible rfl))
      try simp only[ap]
      refine xJ1 (i:=2) (v:=?_) rfl (by kernel_rfl) (by kernel_rfl) (by kernel_rfl) (by kernel_rfl) (by kernel_rfl) (fun _ _ _ h=>h) (Or.inl ⟨by rfl,?_⟩) (by assumption) ?_;rotate_left
      ·(intro w hSw;(try dsimp only at hSw);go_simp;(try with_reducible rfl))
      try simp only[ap]
      refine xJ1 (i:=3) (v:=?_) rfl (by kernel_rfl) (by kernel_rfl) (by kernel_rfl) (by kernel_rfl) (by kernel_rfl) (fun _ _ _ h=>h) (Or.inl ⟨by rfl,?_⟩) (by assumption) ?_;rotate_left
      ·(intro w hSw;(try dsimp only at hSw);go_simp;(try with_reducible rfl))
      try simp only[ap]
      refine xJ1 (i:=4) (v:=?_) rfl (by kernel_rfl) (by kernel_rfl) (by kernel_rfl) (by kernel_rfl) (by kernel_rfl) (fun _ _ _ h=>h) (Or.inl ⟨by rfl,?_⟩) (by assumption) ?_;rotate_left
      ·(intro w hSw;(try dsimp only at hSw);go_simp;(try with_reducible rfl))
      try simp only[ap]
      refine xJ4 (i:=5) (by kernel_rfl) rfl (fun K hK=>?_);go_simp;go_at_call 80;refine (zYx _ hoc _).mono ?_;rintro e w9 ⟨rfl,rfl⟩
      go_wp2_with fail
      have hSS:W.drew.cell? ⟨k.bp,0,none⟩=some (.map (some k.mp))/\W.drew.cell? ⟨w2.heap.size,0,none⟩=some (.int .u32 (xJ0 l))/\W.drew.cell? ⟨Bx,1,none⟩=some (.int .i64 o.cost)/\(Instr.lookup 54 (.map (some k.mp)) (.int .u32 (xJ0 l)) false).run Tryz.prog W.drew=.ok (.int .i64 dl) W.drew:=hSS0;refine hK.out _ _ hSS ?_;clear hK K
      try simp only[ap]
      refine xJ4 (i:=6) (by kernel_rfl) rfl (fun K hK=>?_);go_simp
      go_wp2_with fail
      rw[zYj _ (by omega) (by omega)];have hSS:W.drew.cell? ⟨k.bp,0,none⟩=some (.map (some k.mp))/\W.drew.cell? ⟨w2.heap.size,0,none⟩=some (.int .u32 (xJ0 l))/\W.drew.cell? ⟨Bx,1,none⟩=some (.int .i64 o.cost)/\(Instr.lookup 54 (.map (some k.mp)) (.int .u32 (xJ0 l)) false).run Tryz.prog W.drew=.ok (.int .i64 dl) W.drew:=hSS0;refine hK.out _ _ hSS ?_;clear hK K
      try simp only[ap]
      refine xJ4 (i:=7) (by kernel_rfl) rfl (fun K hK=>?_);go_simp
      go_wp2_with fail
      have hSS:W.drew.cell? ⟨k.bp,0,none⟩=some (.map (some k.mp))/\W.drew.cell? ⟨w2.heap.size,0,none⟩=some (.int .u32 (xJ0 l))/\W.drew.cell? ⟨Bx,1,none⟩=some (.int .i64 o.cost)/\(Instr.lookup 54 (.map (some k.mp)) (.int .u32 (xJ0 l)) false).run Tryz.prog W.drew=.ok (.int .i64 dl) W.drew:=hSS0;refine hK.out _ _ hSS ?_;clear hK K
      try simp only[ap]
      refine xJ8 (by kernel_rfl) ?_ _;obtain⟨N,hNH⟩:∃ x,Hid (x=dl+(o.cost * 4096+1)):=⟨_,rfl⟩;rw[<- hNH.out];have hNb:0<=N/\N < 1000000000:=by have:=hNH.out;omega
      have hBM1:=h1.drew;have hzd:W.drew.heap.size=W.heap.size:=rfl;have hx1:=hx.drew;have h91:=h9.drew;have h111:=h11.drew;have hkp1:KpB (w4.heap.size+1+1) w0.heap.size (w4.heap.size+1) W W.drew:=(KpB.refl _ _ _ _).drew;have hlk2:=hBM1.mp.look_ok Tryz.underlying54 (xQq _) hwl2;rcases hPl2 with ⟨u1,u2⟩ | ⟨u1,u2,u3⟩
      case' inl=>
       rw[u2] at hlk2;simp only[Option.getD_none,Option.isSome_none] at hlk2;have hDl:N < D l2:=by have:=hNH.out;omega
       gi_wp2
       refine⟨trivial,CallsIn.mono (CallsIn.inRound y (callsIn_wide.2 (xZd hT hBM1.bel hBM1.hx hBM1.hm hnn.1 hn HV.out hSl2 hH.out (by omega)))) ?_⟩;rintro e w5 ⟨hv,fh1,rfl,hcv,hfh1,hext,hok,hFe,hM5,hg5⟩;have hm1:=hBM1.hm;have hBM5:=hBM1.byH hg5 hM5;have hx5:Arr w5 Bx 110 [.int .i64 (p:Int),.int .i64 o.cost,.int .u32 (xJ0 l2)]:=mvh;have h95:Arr w5 w2.heap.size 56 [.int .u32 (xJ0 l)]:=mvh;have h115:Arr w5 (w4.heap.size+1) 56 [.int .u32 (xJ0 l)]:=mvh;have hz5:=hg5.size;have hxc5:=hx5.cell 2;have ok5:=hBM5.bel.size;obtain⟨a51,a52,a53,a54⟩:=hBM5.cells;have hkp5:KpB (w4.heap.size+1+1) w0.heap.size (w4.heap.size+1) W w5:=hkp1.map hg5 (by omega) (by omega) (by omega) (by omega) (by omega);have hcvb1:=hcv.1;have hcvb2:=hcv.2.1;have hnh5:up1 (hF fh) (xJ0 l2) nh < 1000000000000:=by have h:=(hCn.out.h HC.out.nd HC.out.set hl2m hFe).1;omega
       by_cases hinf:1000000000<=hv
       ·gi_wp2
        refine⟨by rw[hB9];exact hkp5.1,hkp5.2,_,nP,nB,nq,fh1,fP,fB,fq,D,hBM5,?_,hok,hCn.out.h HC.out.nd HC.out.set hl2m hFe,hP,hMe,h95,h115,by omega⟩;rw[List.map_append];exact (hA.out.ext hext).skip (.inl ⟨hv,hfh1,hinf⟩)
       ·have hfin:hv < 1000000000:=by omega
        have hmp5:=hBM5.mp
        gi_wp2_with (first | (gi_at_mapUpdate;refine xX9 rfl (.tmp 94) (.tmp 96) (.tmp 97) 54 rfl 3 Tryz.underlying54 rfl hmp5 hnn.2.1 (xJ0 l2) (.int .i64 N) rfl rfl hwl2 ?_;intro w6 hM6 hg6;have hBM6:=hBM5.byP hg6 hM6;have hx6:Arr w6 Bx 110 [.int .i64 (p:Int),.int .i64 o.cost,.int .u32 (xJ0 l2)]:=mvh;have h96:Arr w6 w2.heap.size 56 [.int .u32 (xJ0 l)]:=mvh;have h116:Arr w6 (w4.heap.size+1) 56 [.int .u32 (xJ0 l)]:=mvh;have hz6:=hg6.size;have hxa6:=hx6.cell 0;have hxb6:=hx6.cell 1;have hxc6:=hx6.cell 2;have h9c6:=h96.cell 0;have ok6:=hBM6.bel.size;obtain⟨a61,a62,a63,a64⟩:=hBM6.cells;have hma6:=hBM6.ma) | (gi_at_mapUpdate;refine xX9 rfl (.tmp 98) (.tmp 100) (.tmp 104) 147 rfl 146 Tryz.underlying147 rfl hma6 hnn.2.2 (xJ0 l2) (.agg #[.int .u32 (xJ0 l),.int .i64 (p:Int)]) rfl rfl hwl2 ?_;intro w7 hM7 hg7;have hBM7:=hBM6.byB hg7 hM7;have hx7:Arr w7 Bx 110 [.int .i64 (p:Int),.int .i64 o.cost,.int .u32 (xJ0 l2)]:=mvh;have h97:Arr w7 w2.heap.size 56 [.int .u32 (xJ0 l)]:=mvh;have h117:Arr w7 (w4.heap.size+1) 56 [.int .u32 (xJ0 l)]:=mvh;have hz7:=hg7.size;have hxa7:=hx7.cell 0;have hxb7:=hx7.cell 1;have hxc7:=hx7.cell 2;have h9c7:=h97.cell 0;have ok7:=hBM7.bel.size;obtain⟨a71,a72,a73,a74⟩:=hBM7.cells))
        have hkp6:KpB (w4.heap.size+1+1) w0.heap.size (w4.heap.size+1) W w6:=hkp5.map hg6 (by omega) (by omega) (by omega) (by omega) (by omega);have hkp7:KpB (w4.heap.size+1+1) w0.heap.size (w4.heap.size+1) W w7:=hkp6.map hg7 (by omega) (by omega) (by omega) (by omega) (by omega);obtain⟨w8,hw8⟩:∃ x,Hid (x=w7.drew):=⟨_,rfl⟩;have hBM8:BM k w0 w t Ai Ag Ao ci cg co ds (up1 (hF fh) (xJ0 l2) nh) (up1 fP (xJ0 l2) nP) (up1 fB (xJ0 l2) nB) (up1 fE (xJ0 l) nE) nq fh1 (upd fP (xJ0 l2) (.int .i64 N)) (upd fB (xJ0 l2) (.agg #[.int .u32 (xJ0 l),.int .i64 (p:Int)])) (upd fE (xJ0 l) (.agg #[])) fq w8:=by rw[hw8.out];exact hBM7.drew
        have hx8:Arr w8 Bx 110 [.int .i64 (p:Int),.int .i64 o.cost,.int .u32 (xJ0 l2)]:=by rw[hw8.out];exact hx7
        have h98:Arr w8 w2.heap.size 56 [.int .u32 (xJ0 l)]:=by rw[hw8.out];exact h97
        have h118:Arr w8 (w4.heap.size+1) 56 [.int .u32 (xJ0 l)]:=by rw[hw8.out];exact h117
        have hkp8:KpB (w4.heap.size+1+1) w0.heap.size (w4.heap.size+1) W w8:=by rw[hw8.out];exact hkp7.drew
        have hz8:w8.heap.size=w7.heap.size:=by rw[hw8.out];rfl
        have hSS0:w7.drew.cell? ⟨k.bq,0,none⟩=some (.pointer (some ⟨k.q,0,none⟩))/\w7.drew.cell? ⟨Bx,2,none⟩=some (.int .u32 (xJ0 l2))/\w7.drew.cell? ⟨k.b0,0,none⟩=some (.func (.func 81) #[] #[.pointer (some ⟨(k.hb+1+1+1),0,none⟩),.pointer (some ⟨k.hb,0,none⟩),.pointer (some ⟨(k.hb+1),0,none⟩)]):=⟨a74,hxc7,a71⟩;clear hM6 hM7 hmp5 hma6;refine xZl (fun W=>W.cell? ⟨k.bq,0,none⟩=some (.pointer (some ⟨k.q,0,none⟩))/\W.cell? ⟨Bx,2,none⟩=some (.int .u32 (xJ0 l2))/\W.cell? ⟨k.b0,0,none⟩=some (.func (.func 81) #[] #[.pointer (some ⟨(k.hb+1+1+1),0,none⟩),.pointer (some ⟨k.hb,0,none⟩),.pointer (some ⟨(k.hb+1),0,none⟩)])) [] (by kernel_rfl) (by kernel_rfl) (fun _ _ h=>h) ?_;have hSS:=hSS0;refine xJ1 (i:=0) (v:=?_) rfl (by kernel_rfl) (by kernel_rfl) (by kernel_rfl) (by kernel_rfl) (by kernel_rfl) (fun _ _ _ h=>h) (Or.inl ⟨by rfl,?_⟩) (by assumption) ?_;rotate_left
        ·(intro w hSw;(try dsimp only at hSw);go_simp;(try with_reducible rfl))
        try simp only[ap]
        refine xJ1 (i:=1) (v:=?_) rfl (by kernel_rfl) (by kernel_rfl) (by kernel_rfl) (by kernel_rfl) (by kernel_rfl) (fun _ _ _ h=>h) (Or.inl ⟨by rfl,?_⟩) (by assumption) ?_;rotate_left
        ·(intro w hSw;(try dsimp only at hSw);go_simp;(try with_reducible rfl))
        try simp only[ap]
        refine xJ1 (i:=2) (v:=?_) rfl (by kernel_rfl) (by kernel_rfl) (by kernel_rfl) (by kernel_rfl) (by kernel_rfl) (fun _ _ _ h=>h) (Or.inl ⟨by rfl,?_⟩) (by assumption) ?_;rotate_left
        ·(intro w hSw;(try dsimp only at hSw);go_simp;(try with_reducible rfl))
        try simp only[ap]
        refine xJ1 (i:=3) (v:=?_) rfl (by kernel_rfl) (by kernel_rfl) (by kernel_rfl) (by kernel_rfl) (by kernel_rfl) (fun _ _ _ h=>h) (Or.inl ⟨by rfl,?_⟩) (by assumption) ?_;rotate_left
        ·(intro w hSw;(try dsimp only at hSw);go_simp;(try with_reducible rfl))
        try simp only[ap]
        refine xJ1 (i:=4) (v:=?_) rfl (by kernel_rfl) (by kernel_rfl) (by kernel_rfl) (by kernel_rfl) (by kernel_rfl) (fun _ _ _ h=>h) (Or.inl ⟨by rfl,?_⟩) (by assumption) ?_;rotate_left
        ·(intro w hSw;(try dsimp only at hSw);go_simp;(try with_reducible rfl))
        try simp only[ap]
        refine xJ1 (i:=5) (v:=?_) rfl (by kernel_rfl) (by kernel_rfl) (by kernel_rfl) (by kernel_rfl) (by kernel_rfl) (fun _ _ _ h=>h) (Or.inl ⟨by rfl,?_⟩) (by assumption) ?_;rotate_left
        ·(intro w hSw;(try dsimp only at hSw);go_simp;(try with_reducible rfl))
        try simp only[ap]
        refine xJ1 (i:=6) (v:=?_) rfl (by kernel_rfl) (by kernel_rfl) (by kernel_rfl) (by kernel_rfl) (by kernel_rfl) (fun _ _ _ h=>h) (Or.inl ⟨by rfl,?_⟩) (by assumption) ?_;rotate_left
        ·(intro w hSw;(try dsimp only at hSw);go_simp;(try with_reducible rfl))
        try simp only[ap]
        refine xJ4 (i:=7) (by kernel_rfl) rfl (fun K hK=>?_);go_simp;go_at_call 81;rw[<- hw8.out];refine (xZd hT hBM8.bel hBM8.hx hBM8.hm hnh5 hn HV.out hSl2 hok (by omega)).mono ?_;rintro e w9 ⟨hv2,fh2,rfl,hcv2,hfh2,hext2,hok2,hFe2,hM9,hg9⟩;have hme:hv2=hv:=by have h:=hext2 _ _ hfh1;rw[hfh2] at h;injection h
        subst hme;have hm8:=hBM8.hm;have hBM9:=hBM8.byH hg9 hM9;have hx9:Arr w9 Bx 110 [.int .i64 (p:Int),.int .i64 o.cost,.int .u32 (xJ0 l2)]:=mvh;have h99:Arr w9 w2.heap.size 56 [.int .u32 (xJ0 l)]:=mvh;have h119:Arr w9 (w4.heap.size+1) 56 [.int .u32 (xJ0 l)]:=mvh;have hz9:=hg9.size;have hxc9:=hx9.cell 2;obtain⟨a91,a92,a93,a94⟩:=hBM9.cells;have hQ9:=hBM9.q
        go_wp2_with fail
        have hSS:w9.cell? ⟨k.bq,0,none⟩=some (.pointer (some ⟨k.q,0,none⟩))/\w9.cell? ⟨Bx,2,none⟩=some (.int .u32 (xJ0 l2))/\w9.cell? ⟨k.b0,0,none⟩=some (.func (.func 81) #[] #[.pointer (some ⟨(k.hb+1+1+1),0,none⟩),.pointer (some ⟨k.hb,0,none⟩),.pointer (some ⟨(k.hb+1),0,none⟩)]):=⟨a94,hxc9,a91⟩;refine hK.out _ _ hSS ?_;clear hK K
        try simp only[ap]
        refine xJ4 (i:=8) (by kernel_rfl) rfl (fun K hK=>?_);go_simp
        go_wp2_with fail
        rw[zYj _ (by omega) (by omega)];have hSS:w9.cell? ⟨k.bq,0,none⟩=some (.pointer (some ⟨k.q,0,none⟩))/\w9.cell? ⟨Bx,2,none⟩=some (.int .u32 (xJ0 l2))/\w9.cell? ⟨k.b0,0,none⟩=some (.func (.func 81) #[] #[.pointer (some ⟨(k.hb+1+1+1),0,none⟩),.pointer (some ⟨k.hb,0,none⟩),.pointer (some ⟨(k.hb+1),0,none⟩)]):=⟨a94,hxc9,a91⟩;refine hK.out _ _ hSS ?_;clear hK K
        try simp only[ap]
        refine xJ4 (i:=9) (by kernel_rfl) rfl (fun K hK=>?_);go_simp
        go_wp2_with fail
        rw[zYj _ (by omega) (by omega)];have hSS:w9.cell? ⟨k.bq,0,none⟩=some (.pointer (some ⟨k.q,0,none⟩))/\w9.cell? ⟨Bx,2,none⟩=some (.int .u32 (xJ0 l2))/\w9.cell? ⟨k.b0,0,none⟩=some (.func (.func 81) #[] #[.pointer (some ⟨(k.hb+1+1+1),0,none⟩),.pointer (some ⟨k.hb,0,none⟩),.pointer (some ⟨(k.hb+1),0,none⟩)]):=⟨a94,hxc9,a91⟩;refine hK.out _ _ hSS ?_;clear hK K
        try simp only[ap]
        refine xJ4 (i:=10) (by kernel_rfl) rfl (fun K hK=>?_);go_simp;go_at_call 56;refine (zJ1 hQ9 (xJ0 l2) (N+4096 * hv2) hwl2 hqn).mono ?_;rintro e w10 ⟨rfl,hQ10,hU10⟩;have hqm9:=hQ9.obj;have hBM10:=hBM9.byQ hU10 hQ10;have hx10:Arr w10 Bx 110 [.int .i64 (p:Int),.int .i64 o.cost,.int .u32 (xJ0 l2)]:=mvh;obtain⟨aa1,aa2,aa3,aa4⟩:=hBM10.cells;have hxc10:=hx10.cell 2
        go_wp2_with fail
        have hSS:w10.cell? ⟨k.bq,0,none⟩=some (.pointer (some ⟨k.q,0,none⟩))/\w10.cell? ⟨Bx,2,none⟩=some (.int .u32 (xJ0 l2))/\w10.cell? ⟨k.b0,0,none⟩=some (.func (.func 81) #[] #[.pointer (some ⟨(k.hb+1+1+1),0,none⟩),.pointer (some ⟨k.hb,0,none⟩),.pointer (some ⟨(k.hb+1),0,none⟩)]):=⟨aa4,hxc10,aa1⟩;refine hK.out _ _ hSS ?_;clear hK K
        try simp only[ap]
        refine xJ8 (by kernel_rfl) ?_ _;have hz10:=hU10.below.size;have hkp9:KpB (w4.heap.size+1+1) w0.heap.size (w4.heap.size+1) W w9:=hkp8.map hg9 (by omega) (by omega) (by omega) (by omega) (by omega);have hkp10:KpB (w4.heap.size+1+1) w0.heap.size (w4.heap.size+1) W w10:=hkp9.q hU10 (by omega) (by omega) h119 (by omega);have h910:Arr w10 w2.heap.size 56 [.int .u32 (xJ0 l)]:=mvh;have h1110:Arr w10 (w4.heap.size+1) 56 [.int .u32 (xJ0 l)]:=mvh
        gi_wp2
        refine⟨by rw[hB9];exact hkp10.1,hkp10.2,_,_,_,_,fh2,_,_,_,xV9 D l2 N,hBM10,?_,hok2,((hCn.out.h HC.out.nd HC.out.set hl2m hFe).h HC.out.nd HC.out.set hl2m hFe2).pb HC.out.nd HC.out.set hl2m _ _,?_,?_,h910,h1110,by omega⟩
        ·rw[List.map_append];exact ((hA.out.ext hext).ext hext2).relax HC.out.set HC.out.hst hl2m hop hpre HNX.out.symm hoc.1 hNH.out hDl (by omega) hfh2 rfl
        ·exact hP.out.put HC.out.nd HC.out.set hlm (by omega) hl2m (by rw[hcur];exact hNH.out) hoc hDl hl
        ·have h:=hMe.out;have h':=zQ6 (v:=N) HC.out.nd hl2m (by omega) hDl;have h'':upN fq (xJ0 l2) nq<=nq+1:=by unfold upN;split <;> omega
         show 2 * xKt ls (xV9 D l2 N)+upN fq (xJ0 l2) nq<=M;omega
      case' inr=>
       rw[u3] at hlk2;simp only[Option.getD_some,Option.isSome_some] at hlk2
       by_cases hle:D l2<=N
       ·gi_wp2
        refine⟨(fun f _=>trivial),?_⟩
        gi_wp2
        refine⟨by rw[hB9];exact hkp1.1,hkp1.2,nh,nP,nB,nq,fh,fP,fB,fq,D,hBM1,?_,hH,hCn,hP,hMe,h91,h111,by simpa using h12⟩;rw[List.map_append];exact hA.out.skip (.inr (by have:=hNH.out;dsimp only;omega))
       ·have hDl:N < D l2:=by have:=hNH.out;omega
        gi_wp2
        refine⟨trivial,CallsIn.mono (CallsIn.inRound y (callsIn_wide.2 (xZd hT hBM1.bel hBM1.hx hBM1.hm hnn.1 hn HV.out hSl2 hH.out (by omega)))) ?_⟩;rintro e w5 ⟨hv,fh1,rfl,hcv,hfh1,hext,hok,hFe,hM5,hg5⟩;have hm1:=hBM1.hm;have hBM5:=hBM1.byH hg5 hM5;have hx5:Arr w5 Bx 110 [.int .i64 (p:Int),.int .i64 o.cost,.int .u32 (xJ0 l2)]:=mvh;have h95:Arr w5 w2.heap.size 56 [.int .u32 (xJ0 l)]:=mvh;have h115:Arr w5 (w4.heap.size+1) 56 [.int .u32 (xJ0 l)]:=mvh;have hz5:=hg5.size;have hxc5:=hx5.cell 2;have ok5:=hBM5.bel.size;obtain⟨a51,a52,a53,a54⟩:=hBM5.cells;have hkp5:KpB (w4.heap.size+1+1) w0.heap.size (w4.heap.size+1) W w5:=hkp1.map hg5 (by omega) (by omega) (by omega) (by omega) (by omega);have hcvb1:=hcv.1;have hcvb2:=hcv.2.1;have hnh5:up1 (hF fh) (xJ0 l2) nh < 1000000000000:=by have h:=(hCn.out.h HC.out.nd HC.out.set hl2m hFe).1;omega
        by_cases hinf:1000000000<=hv
        ·gi_wp2
         refine⟨by rw[hB9];exact hkp5.1,hkp5.2,_,nP,nB,nq,fh1,fP,fB,fq,D,hBM5,?_,hok,hCn.out.h HC.out.nd HC.out.set hl2m hFe,hP,hMe,h95,h115,by omega⟩;rw[List.map_append];exact (hA.out.ext hext).skip (.inl ⟨hv,hfh1,hinf⟩)
        ·have hfin:hv < 1000000000:=by omega
         have hmp5:=hBM5.mp
         gi_wp2_with (first | (gi_at_mapUpdate;refine xX9 rfl (.tmp 94) (.tmp 96) (.tmp 97) 54 rfl 3 Tryz.underlying54 rfl hmp5 hnn.2.1 (xJ0 l2) (.int .i64 N) rfl rfl hwl2 ?_;intro w6 hM6 hg6;have hBM6:=hBM5.byP hg6 hM6;have hx6:Arr w6 Bx 110 [.int .i64 (p:Int),.int .i64 o.cost,.int .u32 (xJ0 l2)]:=mvh;have h96:Arr w6 w2.heap.size 56 [.int .u32 (xJ0 l)]:=mvh;have h116:Arr w6 (w4.heap.size+1) 56 [.int .u32 (xJ0 l)]:=mvh;have hz6:=hg6.size;have hxa6:=hx6.cell 0;have hxb6:=hx6.cell 1;have hxc6:=hx6.cell 2;have h9c6:=h96.cell 0;have ok6:=hBM6.bel.size;obtain⟨a61,a62,a63,a64⟩:=hBM6.cells;have hma6:=hBM6.ma) | (gi_at_mapUpdate;refine xX9 rfl (.tmp 98) (.tmp 100) (.tmp 104) 147 rfl 146 Tryz.underlying147 rfl hma6 hnn.2.2 (xJ0 l2) (.agg #[.int .u32 (xJ0 l),.int .i64 (p:Int)]) rfl rfl hwl2 ?_;intro w7 hM7 hg7;have hBM7:=hBM6.byB hg7 hM7;have hx7:Arr w7 Bx 110 [.int .i64 (p:Int),.int .i64 o.cost,.int .u32 (xJ0 l2)]:=mvh;have h97:Arr w7 w2.heap.size 56 [.int .u32 (xJ0 l)]:=mvh;have h117:Arr w7 (w4.heap.size+1) 56 [.int .u32 (xJ0 l)]:=mvh;have hz7:=hg7.size;have hxa7:=hx7.cell 0;have hxb7:=hx7.cell 1;have hxc7:=hx7.cell 2;have h9c7:=h97.cell 0;have ok7:=hBM7.bel.size;obtain⟨a71,a72,a73,a74⟩:=hBM7.cells))
         have hkp6:KpB (w4.heap.size+1+1) w0.heap.size (w4.heap.size+1) W w6:=hkp5.map hg6 (by omega) (by omega) (by omega) (by omega) (by omega);have hkp7:KpB (w4.heap.size+1+1) w0.heap.size (w4.heap.size+1) W w7:=hkp6.map hg7 (by omega) (by omega) (by omega) (by omega) (by omega);obtain⟨w8,hw8⟩:∃ x,Hid (x=w7.drew):=⟨_,rfl⟩;have hBM8:BM k w0 w t Ai Ag Ao ci cg co ds (up1 (hF fh) (xJ0 l2) nh) (up1 fP (xJ0 l2) nP) (up1 fB (xJ0 l2) nB) (up1 fE (xJ0 l) nE) nq fh1 (upd fP (xJ0 l2) (.int .i64 N)) (upd fB (xJ0 l2) (.agg #[.int .u32 (xJ0 l),.int .i64 (p:Int)])) (upd fE (xJ0 l) (.agg #[])) fq w8:=by rw[hw8.out];exact hBM7.drew
         have hx8:Arr w8 Bx 110 [.int .i64 (p:Int),.int .i64 o.cost,.int .u32 (xJ0 l2)]:=by rw[hw8.out];exact hx7
         have h98:Arr w8 w2.heap.size 56 [.int .u32 (xJ0 l)]:=by rw[hw8.out];exact h97
         have h118:Arr w8 (w4.heap.size+1) 56 [.int .u32 (xJ0 l)]:=by rw[hw8.out];exact h117
         have hkp8:KpB (w4.heap.size+1+1) w0.heap.size (w4.heap.size+1) W w8:=by rw[hw8.out];exact hkp7.drew
         have hz8:w8.heap.size=w7.heap.size:=by rw[hw8.out];rfl
         have hSS0:w7.drew.cell? ⟨k.bq,0,none⟩=some (.pointer (some ⟨k.q,0,none⟩))/\w7.drew.cell? ⟨Bx,2,none⟩=some (.int .u32 (xJ0 l2))/\w7.drew.cell? ⟨k.b0,0,none⟩=some (.func (.func 81) #[] #[.pointer (some ⟨(k.hb+1+1+1),0,none⟩),.pointer (some ⟨k.hb,0,none⟩),.pointer (some ⟨(k.hb+1),0,none⟩)]):=⟨a74,hxc7,a71⟩;clear hM6 hM7 hmp5 hma6;refine xZl (fun W=>W.cell? ⟨k.bq,0,none⟩=some (.pointer (some ⟨k.q,0,none⟩))/\W.cell? ⟨Bx,2,none⟩=some (.int .u32 (xJ0 l2))/\W.cell? ⟨k.b0,0,none⟩=some (.func (.func 81) #[] #[.pointer (some ⟨(k.hb+1+1+1),0,none⟩),.pointer (some ⟨k.hb,0,none⟩),.pointer (some ⟨(k.hb+1),0,none⟩)])) [] (by kernel_rfl) (by kernel_rfl) (fun _ _ h=>h) ?_;have hSS:=hSS0;refine xJ1 (i:=0) (v:=?_) rfl (by kernel_rfl) (by kernel_rfl) (by kernel_rfl) (by kernel_rfl) (by kernel_rfl) (fun _ _ _ h=>h) (Or.inl ⟨by rfl,?_⟩) (by assumption) ?_;rotate_left
         ·(intro w hSw;(try dsimp only at hSw);go_simp;(try with_reducible rfl))
         try simp only[ap]
         refine xJ1 (i:=1) (v:=?_) rfl (by kernel_rfl) (by kernel_rfl) (by kernel_rfl) (by kernel_rfl) (by kernel_rfl) (fun _ _ _ h=>h) (Or.inl ⟨by rfl,?_⟩) (by assumption) ?_;rotate_left
         ·(intro w hSw;(try dsimp only at hSw);go_simp;(try with_reducible rfl))
         try simp only[ap]
         refine xJ1 (i:=2) (v:=?_) rfl (by kernel_rfl) (by kernel_rfl) (by kernel_rfl) (by kernel_rfl) (by kernel_rfl) (fun _ _ _ h=>h) (Or.inl ⟨by rfl,?_⟩) (by assumption) ?_;rotate_left
         ·(intro w hSw;(try dsimp only at hSw);go_simp;(try with_reducible rfl))
         try simp only[ap]
         refine xJ1 (i:=3) (v:=?_) rfl (by kernel_rfl) (by kernel_rfl) (by kernel_rfl) (by kernel_rfl) (by kernel_rfl) (fun _ _ _ h=>h) (Or.inl ⟨by rfl,?_⟩) (by assumption) ?_;rotate_left
         ·(intro w hSw;(try dsimp only at hSw);go_simp;(try with_reducible rfl))
         try simp only[ap]
         refine xJ1 (i:=4) (v:=?_) rfl (by kernel_rfl) (by kernel_rfl) (by kernel_rfl) (by kernel_rfl) (by kernel_rfl) (fun _ _ _ h=>h) (Or.inl ⟨by rfl,?_⟩) (by assumption) ?_;rotate_left
         ·(intro w hSw;(try dsimp only at hSw);go_simp;(try with_reducible rfl))
         try simp only[ap]
         refine xJ1 (i:=5) (v:=?_) rfl (by kernel_rfl) (by kernel_rfl) (by kernel_rfl) (by kernel_rfl) (by kernel_rfl) (fun _ _ _ h=>h) (Or.inl ⟨by rfl,?_⟩) (by assumption) ?_;rotate_left
         ·(intro w hSw;(try dsimp only at hSw);go_simp;(try with_reducible rfl))
         try simp only[ap]
         refine xJ1 (i:=6) (v:=?_) rfl (by kernel_rfl) (by kernel_rfl) (by kernel_rfl) (by kernel_rfl) (by kernel_rfl) (fun _ _ _ h=>h) (Or.inl ⟨by rfl,?_⟩) (by assumption) ?_;rotate_left
         ·(intro w hSw;(try dsimp only at hSw);go_simp;(try with_reducible rfl))
         try simp only[ap]
         refine xJ4 (i:=7) (by kernel_rfl) rfl (fun K hK=>?_);go_simp;go_at_call 81;rw[<- hw8.out];refine (xZd hT hBM8.bel hBM8.hx hBM8.hm hnh5 hn HV.out hSl2 hok (by omega)).mono ?_;rintro e w9 ⟨hv2,fh2,rfl,hcv2,hfh2,hext2,hok2,hFe2,hM9,hg9⟩;have hme:hv2=hv:=by have h:=hext2 _ _ hfh1;rw[hfh2] at h;injection h
         subst hme;have hm8:=hBM8.hm;have hBM9:=hBM8.byH hg9 hM9;have hx9:Arr w9 Bx 110 [.int .i64 (p:Int),.int .i64 o.cost,.int .u32 (xJ0 l2)]:=mvh;have h99:Arr w9 w2.heap.size 56 [.int .u32 (xJ0 l)]:=mvh;have h119:Arr w9 (w4.heap.size+1) 56 [.int .u32 (xJ0 l)]:=mvh;have hz9:=hg9.size;have hxc9:=hx9.cell 2;obtain⟨a91,a92,a93,a94⟩:=hBM9.cells;have hQ9:=hBM9.q
         go_wp2_with fail
         have hSS:w9.cell? ⟨k.bq,0,none⟩=some (.pointer (some ⟨k.q,0,none⟩))/\w9.cell? ⟨Bx,2,none⟩=some (.int .u32 (xJ0 l2))/\w9.cell? ⟨k.b0,0,none⟩=some (.func (.func 81) #[] #[.pointer (some ⟨(k.hb+1+1+1),0,none⟩),.pointer (some ⟨k.hb,0,none⟩),.pointer (some ⟨(k.hb+1),0,none⟩)]):=⟨a94,hxc9,a91⟩;refine hK.out _ _ hSS ?_;clear hK K
         try simp only[ap]
         refine xJ4 (i:=8) (by kernel_rfl) rfl (fun K hK=>?_);go_simp
         go_wp2_with fail
         rw[zYj _ (by omega) (by omega)];have hSS:w9.cell? ⟨k.bq,0,none⟩=some (.pointer (some ⟨k.q,0,none⟩))/\w9.cell? ⟨Bx,2,none⟩=some (.int .u32 (xJ0 l2))/\w9.cell? ⟨k.b0,0,none⟩=some (.func (.func 81) #[] #[.pointer (some ⟨(k.hb+1+1+1),0,none⟩),.pointer (some ⟨k.hb,0,none⟩),.pointer (some ⟨(k.hb+1),0,none⟩)]):=⟨a94,hxc9,a91⟩;refine hK.out _ _ hSS ?_;clear hK K
         try simp only[ap]
         refine xJ4 (i:=9) (by kernel_rfl) rfl (fun K hK=>?_);go_simp
         go_wp2_with fail
         rw[zYj _ (by omega) (by omega)];have hSS:w9.cell? ⟨k.bq,0,none⟩=some (.pointer (some ⟨k.q,0,none⟩))/\w9.cell? ⟨Bx,2,none⟩=some (.int .u32 (xJ0 l2))/\w9.cell? ⟨k.b0,0,none⟩=some (.func (.func 81) #[] #[.pointer (some ⟨(k.hb+1+1+1),0,none⟩),.pointer (some ⟨k.hb,0,none⟩),.pointer (some ⟨(k.hb+1),0,none⟩)]):=⟨a94,hxc9,a91⟩;refine hK.out _ _ hSS ?_;clear hK K
         try simp only[ap]
         refine xJ4 (i:=10) (by kernel_rfl) rfl (fun K hK=>?_);go_simp;go_at_call 56;refine (zJ1 hQ9 (xJ0 l2) (N+4096 * hv2) hwl2 hqn).mono ?_;rintro e w10 ⟨rfl,hQ10,hU10⟩;have hqm9:=hQ9.obj;have hBM10:=hBM9.byQ hU10 hQ10;have hx10:Arr w10 Bx 110 [.int .i64 (p:Int),.int .i64 o.cost,.int .u32 (xJ0 l2)]:=mvh;obtain⟨aa1,aa2,aa3,aa4⟩:=hBM10.cells;have hxc10:=hx10.cell 2
         go_wp2_with fail
         have hSS:w10.cell? ⟨k.bq,0,none⟩=some (.pointer (some ⟨k.q,0,none⟩))/\w10.cell? ⟨Bx,2,none⟩=some (.int .u32 (xJ0 l2))/\w10.cell? ⟨k.b0,0,none⟩=some (.func (.func 81) #[] #[.pointer (some ⟨(k.hb+1+1+1),0,none⟩),.pointer (some ⟨k.hb,0,none⟩),.pointer (some ⟨(k.hb+1),0,none⟩)]):=⟨aa4,hxc10,aa1⟩;refine hK.out _ _ hSS ?_;clear hK K
         try simp only[ap]
         refine xJ8 (by kernel_rfl) ?_ _;have hz10:=hU10.below.size;have hkp9:KpB (w4.heap.size+1+1) w0.heap.size (w4.heap.size+1) W w9:=hkp8.map hg9 (by omega) (by omega) (by omega) (by omega) (by omega);have hkp10:KpB (w4.heap.size+1+1) w0.heap.size (w4.heap.size+1) W w10:=hkp9.q hU10 (by omega) (by omega) h119 (by omega);have h910:Arr w10 w2.heap.size 56 [.int .u32 (xJ0 l)]:=mvh;have h1110:Arr w10 (w4.heap.size+1) 56 [.int .u32 (xJ0 l)]:=mvh
         gi_wp2
         refine⟨by rw[hB9];exact hkp10.1,hkp10.2,_,_,_,_,fh2,_,_,_,xV9 D l2 N,hBM10,?_,hok2,((hCn.out.h HC.out.nd HC.out.set hl2m hFe).h HC.out.nd HC.out.set hl2m hFe2).pb HC.out.nd HC.out.set hl2m _ _,?_,?_,h910,h1110,by omega⟩
         ·rw[List.map_append];exact ((hA.out.ext hext).ext hext2).relax HC.out.set HC.out.hst hl2m hop hpre HNX.out.symm hoc.1 hNH.out hDl (by omega) hfh2 rfl
         ·exact hP.out.put HC.out.nd HC.out.set hlm (by omega) hl2m (by rw[hcur];exact hNH.out) hoc hDl hl
         ·have h:=hMe.out;have h':=zQ6 (v:=N) HC.out.nd hl2m (by omega) hDl;have h'':upN fq (xJ0 l2) nq<=nq+1:=by unfold upN;split <;> omega
          show 2 * xKt ls (xV9 D l2 N)+upN fq (xJ0 l2) nq<=M;omega
end
section
open Go.Shelf
theorem zKs{ops:List OpV}(ps:List Nat):xZx ops (ps.map Int.ofNat)=xJ6 (ops.map (·.cost)) ps:=by
 unfold xZx xJ6;rw[List.map_map];rfl
theorem xVo{B:Nat}{w:World}{v:Value}{xs:List Int}(h:OwnI B w v xs){p:Addr}(hp:p.block < B)(u:Value):OwnI B (w.setCell p u) v xs:=ownsRow_setCell_below h hp u
theorem Pth.rng2{n:Nat}{ops:List OpV}{st l:List Int}{ps:List Nat}(h:Pth n ops st l ps):∀ x∈ps.map Int.ofNat,0<=x/\x < (ops.length:Int):=fun x hx=>by
 obtain⟨p,hp,rfl⟩:=List.mem_map.1 hx;have:=h.rng p hp;exact⟨Int.natCast_nonneg _,by show (p:Int) < _;omega⟩
def vV7(n:Nat)(t:TaskV)(w:World)(e:Ending)(w':World):Prop:=Below w.heap.size w w' /\
 (
   (e=.returned (.tuple #[.agg #[.bool false,.slice none 0 0,.int .i64 0,.int .i64 0],.agg #[.int .i64 10,.int .i64 (-7)]])/\∃ ls:List (List Int),ls.Nodup/\ls.length=2001/\∀ l∈ls,∃ c,Cst n t.ops t.init l c) \/
   (∃ ne:Nat,e=.returned (.tuple #[.agg #[.bool false,.slice none 0 0,.int .i64 0,.int .i64 ne],.agg #[.int .i64 0,.int .i64 0]])/\zV6 n t) \/
   (∃ (l:List Int) (ps:List Nat),Pth n t.ops t.init l ps/\(∀ q∈t.goal,q∈l)/\vZu n t ps /\
    ((60 < ps.length/\e=.returned (.tuple #[.agg #[.bool false,.slice none 0 0,.int .i64 0,.int .i64 0],.agg #[.int .i64 10,.int .i64 (-9)]]))\/(ps.length<=60/\∃ (v:Value) (ne:Nat),e=.returned (.tuple #[.agg #[.bool true,v,.int .i64 (xJ6 (t.ops.map (·.cost)) ps),.int .i64 ne],.agg #[.int .i64 0,.int .i64 0]])/\∃ B,w.heap.size<=B/\OwnI B w' v (ps.map Int.ofNat)))))
def CkR(n:Nat)(t:TaskV)(B:Nat)(W:World)(v:Value)(c1 c2:Int):Prop:=(c1=10/\c2 = -7/\∃ ls:List (List Int),ls.Nodup/\ls.length=2001/\∀ l∈ls,∃ c,Cst n t.ops t.init l c) \/
 (c1=0/\c2=0/\∃ (g:Nat) (ls:List (List Int)),v=.pointer (some ⟨g,0,none⟩)/\WMem B W g t/\Clos n t.ops t.init ls/\ls.length<=2000)
theorem Cls.lowT{B:Nat}{W W':World}:∀ {l:List (Nat×Nat×Value)},Cls W l->Below B W W'->(∀ x∈l,x.1 < B)->Cls W' l
 | [],_,_,_=>trivial
 | (b,k,v) :: r,h,hb,hl=>by
  obtain⟨⟨h1,h2⟩,h3⟩:=h;have hl1:b < B:=hl (b,k,v) (List.mem_cons_self ..);exact⟨⟨(hb.cell (p:=⟨b,k,none⟩) hl1).trans h1,(hb.frozen (p:=⟨b,k,none⟩) hl1).trans h2⟩,Cls.lowT h3 hb (fun x hx=>hl x (List.mem_cons_of_mem _ hx))⟩
theorem CheckedP.form{n:Nat}{t:TaskV}{w w':World}{e:Ending}(h:CheckedP n t w e w'):Below w.heap.size w w'/\∃ (v6 v7:Value) (c1 c2:Int),e=.returned (.tuple #[v6,v7,.agg #[.int .i64 c1,.int .i64 c2]])/\CkR n t w.heap.size w' v6 c1 c2:=by
 obtain⟨hB,h | ⟨g,v,ls,rfl,hW,hO,hC,hl⟩⟩:=h
 ·exact⟨hB,_,_,10,-7,h.1,.inl ⟨rfl,rfl,h.2⟩⟩
 ·exact⟨hB,_,_,0,0,rfl,.inr ⟨rfl,rfl,g,ls,rfl,hW,hC,hl⟩⟩
theorem CkR.mono{n:Nat}{t:TaskV}{B B':Nat}{W:World}{v:Value}{c1 c2:Int}(h:CkR n t B W v c1 c2)(hb:B'<=B):CkR n t B' W v c1 c2:=by
 rcases h with h | ⟨h1,h2,g,ls,h3,h4,h5⟩
 ·exact .inl h
 ·exact .inr ⟨h1,h2,g,ls,h3,h4.mono hb,h5⟩
theorem CkR.below{n:Nat}{t:TaskV}{B:Nat}{W W':World}{v:Value}{c1 c2:Int}(h:CkR n t B W v c1 c2)(hb:Below W.heap.size W W'):CkR n t B W' v c1 c2:=by
 rcases h with h | ⟨h1,h2,g,ls,h3,h4,h5⟩
 ·exact .inl h
 ·exact .inr ⟨h1,h2,g,ls,h3,h4.below hb,h5⟩
theorem CkR.low{n:Nat}{t:TaskV}{B:Nat}{W:World}{v:Value}{c1 c2:Int}(h:CkR n t B W v c1 c2){p:Addr}(hp:p.block < B)(u:Value):CkR n t B (W.setCell p u) v c1 c2:=by
 rcases h with h | ⟨h1,h2,g,ls,h3,h4,h5⟩
 ·exact .inl h
 ·exact .inr ⟨h1,h2,g,ls,h3,h4.set_low hp u,h5⟩
def CkI(n:Nat)(t:TaskV)(B:Nat)(W:World)(v:Value)(c1 c2:Int):Prop:=c1=(xJn t).1/\c2=(xJn t).2
theorem CkI.below{n:Nat}{t:TaskV}{B:Nat}{W W':World}{v:Value}{c1 c2:Int}(h:CkI n t B W v c1 c2)(hb:Below W.heap.size W W'):CkI n t B W' v c1 c2:=h
theorem CkI.low{n:Nat}{t:TaskV}{B:Nat}{W:World}{v:Value}{c1 c2:Int}(h:CkI n t B W v c1 c2){p:Addr}(hp:p.block < B)(u:Value):CkI n t B (W.setCell p u) v c1 c2:=h
theorem vV8(w:World)(t:TaskV)(Ai Ag Ao:Option Addr)(ci cg co:Nat)(hT:TaskMem w Ai Ag Ao t)(n:Nat)(hn:t.facts=n)(hv:Valid t) :
  Calls Tryz.prog 9 #[.agg #[.int .i64 t.facts,.slice Ai t.init.length ci,.slice Ag t.goal.length cg,.slice Ao t.ops.length co],.int .i64 4] w ((vV7 n t w)):=by
 have HCK:∀ w0:World,TaskMem w0 Ai Ag Ao t->Calls Tryz.prog 26 #[.agg #[.int .i64 t.facts,.slice Ai t.init.length ci,.slice Ag t.goal.length cg,.slice Ao t.ops.length co],.bool true] w0 (CheckedP n t w0):=fun w0 h=>zKe w0 t Ai Ag Ao ci cg co h n hn hv
 have HV:=lHd hv;have HN:=lHd hn;clear hv hn;go_enter Tryz.func9,Tryz.ntmps9
 go_wp2_with fail
 go_upto_region 1 with fail
 go_cut [6,7,8] (fun s6 s7 s8 wx=>∃ (bx:Nat) (c1 c2:Int),s8=.pointer (some ⟨bx,0,none⟩)/\w.heap.size+1+1 < bx/\Arr wx bx 27 [.int .i64 c1,.int .i64 c2]/\CkR n t w.heap.size wx s6 c1 c2/\Below w.heap.size w wx/\Cls wx [(w.heap.size,0,.int .i64 t.facts),(w.heap.size,1,.slice Ai t.init.length ci),(w.heap.size,2,.slice Ag t.goal.length cg),(w.heap.size,3,.slice Ao t.ops.length co),(w.heap.size+1,0,.bool false),(w.heap.size+1,1,.slice none 0 0),(w.heap.size+1,2,.int .i64 0),(w.heap.size+1,3,.int .i64 0),(w.heap.size+1+1,0,.int .i64 0),(w.heap.size+1+1,1,.int .i64 0)])
 case first=>
  obtain⟨wz,hwz⟩:∃ x,Hid (x=(((w.alloc (.cells #[.int .i64 t.facts,.slice Ai t.init.length ci,.slice Ag t.goal.length cg,.slice Ao t.ops.length co] 25)).alloc (.cells #[.bool false,.slice none 0 0,.int .i64 0,.int .i64 0] 32)).alloc (.cells #[.int .i64 0,.int .i64 0] 27)).drew):=⟨_,rfl⟩;have Cz:Cls wz [(w.heap.size,0,.int .i64 t.facts),(w.heap.size,1,.slice Ai t.init.length ci),(w.heap.size,2,.slice Ag t.goal.length cg),(w.heap.size,3,.slice Ao t.ops.length co),(w.heap.size+1,0,.bool false),(w.heap.size+1,1,.slice none 0 0),(w.heap.size+1,2,.int .i64 0),(w.heap.size+1,3,.int .i64 0),(w.heap.size+1+1,0,.int .i64 0),(w.heap.size+1+1,1,.int .i64 0)]:=by rw[hwz.out];simp[Cls,go_sem]
  have Dz:Below w.heap.size w wz:=by rw[hwz.out];exact mvh
  have zz0:Hid (wz.heap.size=w.heap.size+1+1+1):=by show _=_;rw[hwz.out];simp
  have zz1:w.heap.size+1+1 < wz.heap.size:=by have:=zz0.out;omega
  refine wp_region_held_drew (S:=fun W=>W.cell? ⟨w.heap.size,0,none⟩=some (.int .i64 t.facts)/\W.cell? ⟨w.heap.size,1,none⟩=some (.slice Ai t.init.length ci)/\W.cell? ⟨w.heap.size,2,none⟩=some (.slice Ag t.goal.length cg)/\W.cell? ⟨w.heap.size,3,none⟩=some (.slice Ao t.ops.length co)) (by kernel_rfl) (by rw[<- hwz.out];have q:=Cz;simp only[Cls,and_true] at q;simp[q]) (fun hHeld=>?_);rw[<- hwz.out] at hHeld ⊢;refine wpAnyH_take (i:=0) (v:=?vo20) rfl (by kernel_rfl) (by kernel_rfl) (by kernel_rfl) (fun _ _ _ h=>h) (Or.inl ⟨by rfl,?ho20⟩) (by assumption) ?ro20
  case ho20=>(intro w hSw;(try dsimp only at hSw);go_simp;(try with_reducible rfl))
  try simp only[ap]
  refine wpAnyH_take (i:=1) (v:=?vo21) rfl (by kernel_rfl) (by kernel_rfl) (by kernel_rfl) (fun _ _ _ h=>h) (Or.inl ⟨by rfl,?ho21⟩) (by assumption) ?ro21
  case ho21=>(intro w hSw;(try dsimp only at hSw);go_simp;(try with_reducible rfl))
  try simp only[ap]
  refine wpAnyH_ready (rs:=[2,8]) (by kernel_rfl) (by simp) ?_;refine (AllReadyH.cons rfl (fun K hK=>?bo21x2) (AllReadyH.cons rfl (fun K hK=>?bo21x8) AllReadyH.nil))
  case bo21x2=>
   go_simp;go_at_call 27;refine (zZ0 _).mono ?_;rintro e w' ⟨rfl,rfl⟩
   go_wp2_with fail
   have hSS:wz.cell? ⟨w.heap.size,0,none⟩=some (.int .i64 t.facts)/\wz.cell? ⟨w.heap.size,1,none⟩=some (.slice Ai t.init.length ci)/\wz.cell? ⟨w.heap.size,2,none⟩=some (.slice Ag t.goal.length cg)/\wz.cell? ⟨w.heap.size,3,none⟩=some (.slice Ao t.ops.length co):=(by have q:=Cz;simp only[Cls,and_true] at q;simp[q]);refine hK.out _ _ hSS (fun hHeld=>?_);clear hK K
   try simp only[ap]
   refine wpAnyH_ready (rs:=[3,8]) (by kernel_rfl) (by simp) ?_;refine (AllReadyH.cons rfl (fun K hK=>?bo22x3) (AllReadyH.cons rfl (fun K hK=>?bo22x8) AllReadyH.nil))
   case bo22x3=>
    go_simp;go_at_call 26;refine (HCK _ (hT.below Dz)).mono ?_;rintro e w1 hCK;obtain⟨hB1,v6,v7,c1,c2,rfl,hR0⟩:=hCK.form;have hs1:=hB1.size;have C1:=Cls.below hB1 Cz;have D1:Below w.heap.size w w1:=Dz.trans (hB1.mono (by omega));have hR1:=hR0.mono (B':=w.heap.size) (by omega)
    go_wp2_with fail
    have hSS:w1.cell? ⟨w.heap.size,0,none⟩=some (.int .i64 t.facts)/\w1.cell? ⟨w.heap.size,1,none⟩=some (.slice Ai t.init.length ci)/\w1.cell? ⟨w.heap.size,2,none⟩=some (.slice Ag t.goal.length cg)/\w1.cell? ⟨w.heap.size,3,none⟩=some (.slice Ao t.ops.length co):=(by have q:=C1;simp only[Cls,and_true] at q;simp[q]);refine hK.out _ _ hSS (fun hHeld=>?_);clear hK K
    try simp only[ap]
    refine wpAnyH_take (i:=4) (v:=?vo2e34) rfl (by kernel_rfl) (by kernel_rfl) (by kernel_rfl) (fun _ _ _ h=>h) (Or.inl ⟨by rfl,?ho2e34⟩) (by assumption) ?ro2e34
    case ho2e34=>(intro w hSw;(try dsimp only at hSw);go_simp;(try with_reducible rfl))
    try simp only[ap]
    refine wpAnyH_take (i:=5) (v:=?vo2e45) rfl (by kernel_rfl) (by kernel_rfl) (by kernel_rfl) (fun _ _ _ h=>h) (Or.inl ⟨by rfl,?ho2e45⟩) (by assumption) ?ro2e45
    case ho2e45=>(intro w hSw;(try dsimp only at hSw);go_simp;(try with_reducible rfl))
    try simp only[ap]
    refine wpAnyH_take (i:=6) (v:=?vo2e56) rfl (by kernel_rfl) (by kernel_rfl) (by kernel_rfl) (fun _ _ _ h=>h) (Or.inl ⟨by rfl,?ho2e56⟩) (by assumption) ?ro2e56
    case ho2e56=>(intro w hSw;(try dsimp only at hSw);go_simp;(try with_reducible rfl))
    try simp only[ap]
    refine wpAnyH_take (i:=7) (v:=?vo2e67) rfl (by kernel_rfl) (by kernel_rfl) (by kernel_rfl) (fun _ _ _ h=>h) (Or.inl ⟨by rfl,?ho2e67⟩) (by assumption) ?ro2e67
    case ho2e67=>(intro w hSw;(try dsimp only at hSw);go_simp;(try with_reducible rfl))
    try simp only[ap]
    refine wpAnyH_ready (rs:=[8]) (by kernel_rfl) (by simp) ?_;refine (AllReadyH.cons rfl (fun K hK=>?bo27x8) AllReadyH.nil)
    case bo27x8=>
     go_simp
     go_wp2_with fail
     obtain⟨wa,hwa⟩:∃ x,Hid (x=w1.alloc (.cells #[.int .i64 0,.int .i64 0] 27)):=⟨_,rfl⟩;rw[<- hwa.out];have Ca:Cls wa [(w.heap.size,0,.int .i64 t.facts),(w.heap.size,1,.slice Ai t.init.length ci),(w.heap.size,2,.slice Ag t.goal.length cg),(w.heap.size,3,.slice Ao t.ops.length co),(w.heap.size+1,0,.bool false),(w.heap.size+1,1,.slice none 0 0),(w.heap.size+1,2,.int .i64 0),(w.heap.size+1,3,.int .i64 0),(w.heap.size+1+1,0,.int .i64 0),(w.heap.size+1+1,1,.int .i64 0)]:=by rw[hwa.out];exact Cls.below ((Below.refl _ _).alloc (Nat.le_refl _) _) C1
     have Da:Below w.heap.size w wa:=by rw[hwa.out];exact D1.alloc (by omega) _
     have Aa:Arr wa w1.heap.size 27 [.int .i64 0,.int .i64 0]:=by rw[hwa.out];exact Arr.new w1 _ _
     have za:w1.heap.size < wa.heap.size:=by rw[hwa.out];simp
     have hSS:wa.cell? ⟨w.heap.size,0,none⟩=some (.int .i64 t.facts)/\wa.cell? ⟨w.heap.size,1,none⟩=some (.slice Ai t.init.length ci)/\wa.cell? ⟨w.heap.size,2,none⟩=some (.slice Ag t.goal.length cg)/\wa.cell? ⟨w.heap.size,3,none⟩=some (.slice Ao t.ops.length co):=(by have q:=Ca;simp only[Cls,and_true] at q;simp[q]);refine hK.out _ _ hSS (fun hHeld=>?_);clear hK K
     try simp only[ap]
     refine wpAnyH_take (i:=9) (v:=?vo2l89) rfl (by kernel_rfl) (by kernel_rfl) (by kernel_rfl) (fun _ _ _ h=>h) (Or.inl ⟨by rfl,?ho2l89⟩) (by assumption) ?ro2l89
     case ho2l89=>(intro w hSw;(try dsimp only at hSw);go_simp;(try with_reducible rfl))
     try simp only[ap]
     refine wpAnyH_take (i:=10) (v:=?vo2l910) rfl (by kernel_rfl) (by kernel_rfl) (by kernel_rfl) (fun _ _ _ h=>h) (Or.inl ⟨by rfl,?ho2l910⟩) (by assumption) ?ro2l910
     case ho2l910=>(intro w hSw;(try dsimp only at hSw);go_simp;(try with_reducible rfl))
     try simp only[ap]
     refine wpAnyH_ready (rs:=[11]) (by kernel_rfl) (by simp) ?_;refine AllReadyH.cons rfl (fun K hK=>?_) AllReadyH.nil;have hcb0:wa.cell? ⟨w1.heap.size,0,none⟩=some (.int .i64 0):=Aa.cell 0;have hcb1:wa.cell? ⟨w1.heap.size,1,none⟩=some (.int .i64 0):=Aa.cell 1;have hfb0:=Aa.free 0;have hfb1:=Aa.free 1;go_simp
     go_wp2_with fail
     obtain⟨wf,hwf⟩:∃ x,Hid (x=((wa.setCell ⟨w1.heap.size,0,none⟩ (.int .i64 c1)).setCell ⟨w1.heap.size,1,none⟩ (.int .i64 c2))):=⟨_,rfl⟩;rw[<- hwf.out];have Af:Arr wf (w1.heap.size) 27 [.int .i64 c1,.int .i64 c2]:=by rw[hwf.out];exact (Aa.set_ 0 _).set_ 1 _
     have Bf:Below (w1.heap.size) wa wf:=by rw[hwf.out];exact ((Below.refl _ _).setCell (by simp) _).setCell (by simp) _
     have Cf:Cls wf [(w.heap.size,0,.int .i64 t.facts),(w.heap.size,1,.slice Ai t.init.length ci),(w.heap.size,2,.slice Ag t.goal.length cg),(w.heap.size,3,.slice Ao t.ops.length co),(w.heap.size+1,0,.bool false),(w.heap.size+1,1,.slice none 0 0),(w.heap.size+1,2,.int .i64 0),(w.heap.size+1,3,.int .i64 0),(w.heap.size+1+1,0,.int .i64 0),(w.heap.size+1+1,1,.int .i64 0)]:=Cls.lowT Ca Bf (by simp;omega);have Df:Below w.heap.size w wf:=Da.trans (Bf.mono (by omega));have Rf:CkR n t w.heap.size wf v6 c1 c2:=hR1.below (((Below.refl w1.heap.size w1).alloc (Nat.le_refl _) (.cells #[.int .i64 0,.int .i64 0] 27)).trans (by rw[<- hwa.out];exact Bf));have hSS:wf.cell? ⟨w.heap.size,0,none⟩=some (.int .i64 t.facts)/\wf.cell? ⟨w.heap.size,1,none⟩=some (.slice Ai t.init.length ci)/\wf.cell? ⟨w.heap.size,2,none⟩=some (.slice Ag t.goal.length cg)/\wf.cell? ⟨w.heap.size,3,none⟩=some (.slice Ao t.ops.length co):=(by have q:=Cf;simp only[Cls,and_true] at q;simp[q]);refine hK.out _ _ hSS (fun hHeld=>?_);clear hK K
     try simp only[ap]
     refine wpAnyH_done (by kernel_rfl) ?_ _
     go_wp2_with fail
     go_meet
     exact⟨_,c1,c2,rfl,by omega,Af,Rf,Df,Cf⟩
   case bo22x8=>
    go_simp
    go_wp2_with fail
    obtain⟨wa,hwa⟩:∃ x,Hid (x=wz.alloc (.cells #[.int .i64 0,.int .i64 0] 27)):=⟨_,rfl⟩;rw[<- hwa.out];have Ca:Cls wa [(w.heap.size,0,.int .i64 t.facts),(w.heap.size,1,.slice Ai t.init.length ci),(w.heap.size,2,.slice Ag t.goal.length cg),(w.heap.size,3,.slice Ao t.ops.length co),(w.heap.size+1,0,.bool false),(w.heap.size+1,1,.slice none 0 0),(w.heap.size+1,2,.int .i64 0),(w.heap.size+1,3,.int .i64 0),(w.heap.size+1+1,0,.int .i64 0),(w.heap.size+1+1,1,.int .i64 0)]:=by rw[hwa.out];exact Cls.below ((Below.refl _ _).alloc (Nat.le_refl _) _) Cz
    have Da:Below w.heap.size w wa:=by rw[hwa.out];exact Dz.alloc (by omega) _
    have Aa:Arr wa wz.heap.size 27 [.int .i64 0,.int .i64 0]:=by rw[hwa.out];exact Arr.new wz _ _
    have za:wz.heap.size < wa.heap.size:=by rw[hwa.out];simp
    have hSS:wa.cell? ⟨w.heap.size,0,none⟩=some (.int .i64 t.facts)/\wa.cell? ⟨w.heap.size,1,none⟩=some (.slice Ai t.init.length ci)/\wa.cell? ⟨w.heap.size,2,none⟩=some (.slice Ag t.goal.length cg)/\wa.cell? ⟨w.heap.size,3,none⟩=some (.slice Ao t.ops.length co):=(by have q:=Ca;simp only[Cls,and_true] at q;simp[q]);refine hK.out _ _ hSS (fun hHeld=>?_);clear hK K
    try simp only[ap]
    refine wpAnyH_ready (rs:=[3]) (by kernel_rfl) (by simp) ?_;refine (AllReadyH.cons rfl (fun K hK=>?bo211x3) AllReadyH.nil)
    case bo211x3=>
     go_simp;go_at_call 26;refine (HCK _ (hT.below Da)).mono ?_;rintro e w1 hCK;obtain⟨hB1,v6,v7,c1,c2,rfl,hR0⟩:=hCK.form;have hs1:=hB1.size;have C1:=Cls.below hB1 Ca;have D1:Below w.heap.size w w1:=Da.trans (hB1.mono (by omega));have A1:=Aa.below hB1;have hR1:=hR0
     go_wp2_with fail
     have hSS:w1.cell? ⟨w.heap.size,0,none⟩=some (.int .i64 t.facts)/\w1.cell? ⟨w.heap.size,1,none⟩=some (.slice Ai t.init.length ci)/\w1.cell? ⟨w.heap.size,2,none⟩=some (.slice Ag t.goal.length cg)/\w1.cell? ⟨w.heap.size,3,none⟩=some (.slice Ao t.ops.length co):=(by have q:=C1;simp only[Cls,and_true] at q;simp[q]);refine hK.out _ _ hSS (fun hHeld=>?_);clear hK K
     try simp only[ap]
     refine wpAnyH_take (i:=4) (v:=?vo2e124) rfl (by kernel_rfl) (by kernel_rfl) (by kernel_rfl) (fun _ _ _ h=>h) (Or.inl ⟨by rfl,?ho2e124⟩) (by assumption) ?ro2e124
     case ho2e124=>(intro w hSw;(try dsimp only at hSw);go_simp;(try with_reducible rfl))
     try simp only[ap]
     refine wpAnyH_take (i:=5) (v:=?vo2e135) rfl (by kernel_rfl) (by kernel_rfl) (by kernel_rfl) (fun _ _ _ h=>h) (Or.inl ⟨by rfl,?ho2e135⟩) (by assumption) ?ro2e135
     case ho2e135=>(intro w hSw;(try dsimp only at hSw);go_simp;(try with_reducible rfl))
     try simp only[ap]
     refine wpAnyH_take (i:=6) (v:=?vo2e146) rfl (by kernel_rfl) (by kernel_rfl) (by kernel_rfl) (fun _ _ _ h=>h) (Or.inl ⟨by rfl,?ho2e146⟩) (by assumption) ?ro2e146
     case ho2e146=>(intro w hSw;(try dsimp only at hSw);go_simp;(try with_reducible rfl))
     try simp only[ap]
     refine wpAnyH_take (i:=7) (v:=?vo2e157) rfl (by kernel_rfl) (by kernel_rfl) (by kernel_rfl) (fun _ _ _ h=>h) (Or.inl ⟨by rfl,?ho2e157⟩) (by assumption) ?ro2e157
     case ho2e157=>(intro w hSw;(try dsimp only at hSw);go_simp;(try with_reducible rfl))
     try simp only[ap]
     refine wpAnyH_take (i:=9) (v:=?vo2l169) rfl (by kernel_rfl) (by kernel_rfl) (by kernel_rfl) (fun _ _ _ h=>h) (Or.inl ⟨by rfl,?ho2l169⟩) (by assumption) ?ro2l169
     case ho2l169=>(intro w hSw;(try dsimp only at hSw);go_simp;(try with_reducible rfl))
     try simp only[ap]
     refine wpAnyH_take (i:=10) (v:=?vo2l1710) rfl (by kernel_rfl) (by kernel_rfl) (by kernel_rfl) (fun _ _ _ h=>h) (Or.inl ⟨by rfl,?ho2l1710⟩) (by assumption) ?ro2l1710
     case ho2l1710=>(intro w hSw;(try dsimp only at hSw);go_simp;(try with_reducible rfl))
     try simp only[ap]
     refine wpAnyH_ready (rs:=[11]) (by kernel_rfl) (by simp) ?_;refine AllReadyH.cons rfl (fun K hK=>?_) AllReadyH.nil;have hcb0:w1.cell? ⟨wz.heap.size,0,none⟩=some (.int .i64 0):=A1.cell 0;have hcb1:w1.cell? ⟨wz.heap.size,1,none⟩=some (.int .i64 0):=A1.cell 1;have hfb0:=A1.free 0;have hfb1:=A1.free 1;go_simp
     go_wp2_with fail
     obtain⟨wf,hwf⟩:∃ x,Hid (x=((w1.setCell ⟨wz.heap.size,0,none⟩ (.int .i64 c1)).setCell ⟨wz.heap.size,1,none⟩ (.int .i64 c2))):=⟨_,rfl⟩;rw[<- hwf.out];have Af:Arr wf (wz.heap.size) 27 [.int .i64 c1,.int .i64 c2]:=by rw[hwf.out];exact (A1.set_ 0 _).set_ 1 _
     have Bf:Below (wz.heap.size) w1 wf:=by rw[hwf.out];exact ((Below.refl _ _).setCell (by simp) _).setCell (by simp) _
     have Cf:Cls wf [(w.heap.size,0,.int .i64 t.facts),(w.heap.size,1,.slice Ai t.init.length ci),(w.heap.size,2,.slice Ag t.goal.length cg),(w.heap.size,3,.slice Ao t.ops.length co),(w.heap.size+1,0,.bool false),(w.heap.size+1,1,.slice none 0 0),(w.heap.size+1,2,.int .i64 0),(w.heap.size+1,3,.int .i64 0),(w.heap.size+1+1,0,.int .i64 0),(w.heap.size+1+1,1,.int .i64 0)]:=Cls.lowT C1 Bf (by simp;omega);have Df:Below w.heap.size w wf:=D1.trans (Bf.mono (by omega));have Rf:CkR n t w.heap.size wf v6 c1 c2:=by rw[hwf.out];exact ((hR1.low (p:=⟨wz.heap.size,0,none⟩) (by simp;omega) _).low (p:=⟨wz.heap.size,1,none⟩) (by simp;omega) _).mono (by omega)
     have hSS:wf.cell? ⟨w.heap.size,0,none⟩=some (.int .i64 t.facts)/\wf.cell? ⟨w.heap.size,1,none⟩=some (.slice Ai t.init.length ci)/\wf.cell? ⟨w.heap.size,2,none⟩=some (.slice Ag t.goal.length cg)/\wf.cell? ⟨w.heap.size,3,none⟩=some (.slice Ao t.ops.length co):=(by have q:=Cf;simp only[Cls,and_true] at q;simp[q]);refine hK.out _ _ hSS (fun hHeld=>?_);clear hK K
     try simp only[ap]
     refine wpAnyH_done (by kernel_rfl) ?_ _
     go_wp2_with fail
     go_meet
     exact⟨_,c1,c2,rfl,by omega,Af,Rf,Df,Cf⟩
  case bo21x8=>
   go_simp
   go_wp2_with fail
   obtain⟨wa,hwa⟩:∃ x,Hid (x=wz.alloc (.cells #[.int .i64 0,.int .i64 0] 27)):=⟨_,rfl⟩;rw[<- hwa.out];have Ca:Cls wa [(w.heap.size,0,.int .i64 t.facts),(w.heap.size,1,.slice Ai t.init.length ci),(w.heap.size,2,.slice Ag t.goal.length cg),(w.heap.size,3,.slice Ao t.ops.length co),(w.heap.size+1,0,.bool false),(w.heap.size+1,1,.slice none 0 0),(w.heap.size+1,2,.int .i64 0),(w.heap.size+1,3,.int .i64 0),(w.heap.size+1+1,0,.int .i64 0),(w.heap.size+1+1,1,.int .i64 0)]:=by rw[hwa.out];exact Cls.below ((Below.refl _ _).alloc (Nat.le_refl _) _) Cz
   have Da:Below w.heap.size w wa:=by rw[hwa.out];exact Dz.alloc (by omega) _
   have Aa:Arr wa wz.heap.size 27 [.int .i64 0,.int .i64 0]:=by rw[hwa.out];exact Arr.new wz _ _
   have za:wz.heap.size < wa.heap.size:=by rw[hwa.out];simp
   have hSS:wa.cell? ⟨w.heap.size,0,none⟩=some (.int .i64 t.facts)/\wa.cell? ⟨w.heap.size,1,none⟩=some (.slice Ai t.init.length ci)/\wa.cell? ⟨w.heap.size,2,none⟩=some (.slice Ag t.goal.length cg)/\wa.cell? ⟨w.heap.size,3,none⟩=some (.slice Ao t.ops.length co):=(by have q:=Ca;simp only[Cls,and_true] at q;simp[q]);refine hK.out _ _ hSS (fun hHeld=>?_);clear hK K
   try simp only[ap]
   refine wpAnyH_ready (rs:=[2]) (by kernel_rfl) (by simp) ?_;refine (AllReadyH.cons rfl (fun K hK=>?bo219x2) AllReadyH.nil)
   case bo219x2=>
    go_simp;go_at_call 27;refine (zZ0 _).mono ?_;rintro e w' ⟨rfl,rfl⟩
    go_wp2_with fail
    have hSS:wa.cell? ⟨w.heap.size,0,none⟩=some (.int .i64 t.facts)/\wa.cell? ⟨w.heap.size,1,none⟩=some (.slice Ai t.init.length ci)/\wa.cell? ⟨w.heap.size,2,none⟩=some (.slice Ag t.goal.length cg)/\wa.cell? ⟨w.heap.size,3,none⟩=some (.slice Ao t.ops.length co):=(by have q:=Ca;simp only[Cls,and_true] at q;simp[q]);refine hK.out _ _ hSS (fun hHeld=>?_);clear hK K
    try simp only[ap]
    refine wpAnyH_ready (rs:=[3]) (by kernel_rfl) (by simp) ?_;refine (AllReadyH.cons rfl (fun K hK=>?bo220x3) AllReadyH.nil)
    case bo220x3=>
     go_simp;go_at_call 26;refine (HCK _ (hT.below Da)).mono ?_;rintro e w1 hCK;obtain⟨hB1,v6,v7,c1,c2,rfl,hR0⟩:=hCK.form;have hs1:=hB1.size;have C1:=Cls.below hB1 Ca;have D1:Below w.heap.size w w1:=Da.trans (hB1.mono (by omega));have A1:=Aa.below hB1;have hR1:=hR0
     go_wp2_with fail
     have hSS:w1.cell? ⟨w.heap.size,0,none⟩=some (.int .i64 t.facts)/\w1.cell? ⟨w.heap.size,1,none⟩=some (.slice Ai t.init.length ci)/\w1.cell? ⟨w.heap.size,2,none⟩=some (.slice Ag t.goal.length cg)/\w1.cell? ⟨w.heap.size,3,none⟩=some (.slice Ao t.ops.length co):=(by have q:=C1;simp only[Cls,and_true] at q;simp[q]);refine hK.out _ _ hSS (fun hHeld=>?_);clear hK K
     try simp only[ap]
     refine wpAnyH_take (i:=4) (v:=?vo2e214) rfl (by kernel_rfl) (by kernel_rfl) (by kernel_rfl) (fun _ _ _ h=>h) (Or.inl ⟨by rfl,?ho2e214⟩) (by assumption) ?ro2e214
     case ho2e214=>(intro w hSw;(try dsimp only at hSw);go_simp;(try with_reducible rfl))
     try simp only[ap]
     refine wpAnyH_take (i:=5) (v:=?vo2e225) rfl (by kernel_rfl) (by kernel_rfl) (by kernel_rfl) (fun _ _ _ h=>h) (Or.inl ⟨by rfl,?ho2e225⟩) (by assumption) ?ro2e225
     case ho2e225=>(intro w hSw;(try dsimp only at hSw);go_simp;(try with_reducible rfl))
     try simp only[ap]
     refine wpAnyH_take (i:=6) (v:=?vo2e236) rfl (by kernel_rfl) (by kernel_rfl) (by kernel_rfl) (fun _ _ _ h=>h) (Or.inl ⟨by rfl,?ho2e236⟩) (by assumption) ?ro2e236
     case ho2e236=>(intro w hSw;(try dsimp only at hSw);go_simp;(try with_reducible rfl))
     try simp only[ap]
     refine wpAnyH_take (i:=7) (v:=?vo2e247) rfl (by kernel_rfl) (by kernel_rfl) (by kernel_rfl) (fun _ _ _ h=>h) (Or.inl ⟨by rfl,?ho2e247⟩) (by assumption) ?ro2e247
     case ho2e247=>(intro w hSw;(try dsimp only at hSw);go_simp;(try with_reducible rfl))
     try simp only[ap]
     refine wpAnyH_take (i:=9) (v:=?vo2l259) rfl (by kernel_rfl) (by kernel_rfl) (by kernel_rfl) (fun _ _ _ h=>h) (Or.inl ⟨by rfl,?ho2l259⟩) (by assumption) ?ro2l259
     case ho2l259=>(intro w hSw;(try dsimp only at hSw);go_simp;(try with_reducible rfl))
     try simp only[ap]
     refine wpAnyH_take (i:=10) (v:=?vo2l2610) rfl (by kernel_rfl) (by kernel_rfl) (by kernel_rfl) (fun _ _ _ h=>h) (Or.inl ⟨by rfl,?ho2l2610⟩) (by assumption) ?ro2l2610
     case ho2l2610=>(intro w hSw;(try dsimp only at hSw);go_simp;(try with_reducible rfl))
     try simp only[ap]
     refine wpAnyH_ready (rs:=[11]) (by kernel_rfl) (by simp) ?_;refine AllReadyH.cons rfl (fun K hK=>?_) AllReadyH.nil;have hcb0:w1.cell? ⟨wz.heap.size,0,none⟩=some (.int .i64 0):=A1.cell 0;have hcb1:w1.cell? ⟨wz.heap.size,1,none⟩=some (.int .i64 0):=A1.cell 1;have hfb0:=A1.free 0;have hfb1:=A1.free 1;go_simp
     go_wp2_with fail
     obtain⟨wf,hwf⟩:∃ x,Hid (x=((w1.setCell ⟨wz.heap.size,0,none⟩ (.int .i64 c1)).setCell ⟨wz.heap.size,1,none⟩ (.int .i64 c2))):=⟨_,rfl⟩;rw[<- hwf.out];have Af:Arr wf (wz.heap.size) 27 [.int .i64 c1,.int .i64 c2]:=by rw[hwf.out];exact (A1.set_ 0 _).set_ 1 _
     have Bf:Below (wz.heap.size) w1 wf:=by rw[hwf.out];exact ((Below.refl _ _).setCell (by simp) _).setCell (by simp) _
     have Cf:Cls wf [(w.heap.size,0,.int .i64 t.facts),(w.heap.size,1,.slice Ai t.init.length ci),(w.heap.size,2,.slice Ag t.goal.length cg),(w.heap.size,3,.slice Ao t.ops.length co),(w.heap.size+1,0,.bool false),(w.heap.size+1,1,.slice none 0 0),(w.heap.size+1,2,.int .i64 0),(w.heap.size+1,3,.int .i64 0),(w.heap.size+1+1,0,.int .i64 0),(w.heap.size+1+1,1,.int .i64 0)]:=Cls.lowT C1 Bf (by simp;omega);have Df:Below w.heap.size w wf:=D1.trans (Bf.mono (by omega));have Rf:CkR n t w.heap.size wf v6 c1 c2:=by rw[hwf.out];exact ((hR1.low (p:=⟨wz.heap.size,0,none⟩) (by simp;omega) _).low (p:=⟨wz.heap.size,1,none⟩) (by simp;omega) _).mono (by omega)
     have hSS:wf.cell? ⟨w.heap.size,0,none⟩=some (.int .i64 t.facts)/\wf.cell? ⟨w.heap.size,1,none⟩=some (.slice Ai t.init.length ci)/\wf.cell? ⟨w.heap.size,2,none⟩=some (.slice Ag t.goal.length cg)/\wf.cell? ⟨w.heap.size,3,none⟩=some (.slice Ao t.ops.length co):=(by have q:=Cf;simp only[Cls,and_true] at q;simp[q]);refine hK.out _ _ hSS (fun hHeld=>?_);clear hK K
     try simp only[ap]
     refine wpAnyH_done (by kernel_rfl) ?_ _
     go_wp2_with fail
     go_meet
     exact⟨_,c1,c2,rfl,by omega,Af,Rf,Df,Cf⟩
 case rest=>
  obtain⟨bx,c1,c2,rfl,hbx,Ab,hR,Dc,Cc⟩:=hcut;have zc:=Dc.size;have hcb0:wc.cell? ⟨bx,0,none⟩=some (.int .i64 c1):=Ab.cell 0;have hcb1:wc.cell? ⟨bx,1,none⟩=some (.int .i64 c2):=Ab.cell 1;have hbl:=Ab.lt;have Fc:=Cc;simp only[Cls,and_true] at Fc;have ycw2:w.heap.size+1+1 < wc.heap.size:=Cc.blk (b:=w.heap.size+1+1) (k:=0) (v:=.int .i64 0) (by simp);rcases hR with ⟨rfl,rfl,HTOO⟩ | ⟨rfl,rfl,g,ls,rfl,hW,hC,hl⟩
  ·have HT1:=lHd HTOO;clear HTOO
   go_wp2_with fail
   have hSS0:wc.drew.cell? ⟨bx,0,none⟩=some (.int .i64 10)/\wc.drew.cell? ⟨bx,1,none⟩=some (.int .i64 (-7)):=⟨hcb0,hcb1⟩;refine xKc (fun W=>W.cell? ⟨bx,0,none⟩=some (.int .i64 10)/\W.cell? ⟨bx,1,none⟩=some (.int .i64 (-7))) [] (by kernel_rfl) ?_;have hSS:=hSS0;refine xJ1 (i:=0) (v:=?vz20) rfl (by kernel_rfl) (by kernel_rfl) (by kernel_rfl) (by kernel_rfl) (by kernel_rfl) (fun _ _ _ h=>h) (Or.inl ⟨by rfl,?hz20⟩) (by assumption) ?rz20
   case hz20=>(intro w hSw;(try dsimp only at hSw);go_simp;(try with_reducible rfl))
   try simp only[ap]
   refine xJ1 (i:=1) (v:=?vz21) rfl (by kernel_rfl) (by kernel_rfl) (by kernel_rfl) (by kernel_rfl) (by kernel_rfl) (fun _ _ _ h=>h) (Or.inl ⟨by rfl,?hz21⟩) (by assumption) ?rz21
   case hz21=>(intro w hSw;(try dsimp only at hSw);go_simp;(try with_reducible rfl))
   try simp only[ap]
   refine xJ4 (i:=2) (by kernel_rfl) rfl (fun K hK=>?_);go_simp
   go_wp2_with fail
   have hn1:¬ bx=w.heap.size+1:=(by omega);have hn2:¬ bx=w.heap.size+1+1:=(by omega);have hSS:((((wc.setCell ⟨w.heap.size+1,0,none⟩ (.bool false)).setCell ⟨w.heap.size+1,1,none⟩ (.slice none 0 0)).setCell ⟨w.heap.size+1,2,none⟩ (.int .i64 0)).setCell ⟨w.heap.size+1,3,none⟩ (.int .i64 0)).drew.cell? ⟨bx,0,none⟩=some (.int .i64 10)/\((((wc.setCell ⟨w.heap.size+1,0,none⟩ (.bool false)).setCell ⟨w.heap.size+1,1,none⟩ (.slice none 0 0)).setCell ⟨w.heap.size+1,2,none⟩ (.int .i64 0)).setCell ⟨w.heap.size+1,3,none⟩ (.int .i64 0)).drew.cell? ⟨bx,1,none⟩=some (.int .i64 (-7)):=(by simp[go_sem,hn1,hn2,hcb0,hcb1]);refine hK.out _ _ hSS ?_;clear hK K
   try simp only[ap]
   refine xJ4 (i:=3) (by kernel_rfl) rfl (fun K hK=>?_);go_simp
   go_wp2_with fail
   have hn1:¬ bx=w.heap.size+1:=(by omega);have hn2:¬ bx=w.heap.size+1+1:=(by omega);have hSS:((((((wc.setCell ⟨w.heap.size+1,0,none⟩ (.bool false)).setCell ⟨w.heap.size+1,1,none⟩ (.slice none 0 0)).setCell ⟨w.heap.size+1,2,none⟩ (.int .i64 0)).setCell ⟨w.heap.size+1,3,none⟩ (.int .i64 0)).setCell ⟨w.heap.size+1+1,0,none⟩ (.int .i64 10)).setCell ⟨w.heap.size+1+1,1,none⟩ (.int .i64 (-7))).drew.cell? ⟨bx,0,none⟩=some (.int .i64 10)/\((((((wc.setCell ⟨w.heap.size+1,0,none⟩ (.bool false)).setCell ⟨w.heap.size+1,1,none⟩ (.slice none 0 0)).setCell ⟨w.heap.size+1,2,none⟩ (.int .i64 0)).setCell ⟨w.heap.size+1,3,none⟩ (.int .i64 0)).setCell ⟨w.heap.size+1+1,0,none⟩ (.int .i64 10)).setCell ⟨w.heap.size+1+1,1,none⟩ (.int .i64 (-7))).drew.cell? ⟨bx,1,none⟩=some (.int .i64 (-7)):=(by simp[go_sem,hn1,hn2,hcb0,hcb1]);refine hK.out _ _ hSS ?_;clear hK K
   try simp only[ap]
   refine xJ8 (by kernel_rfl) ?_ _;dsimp only[vQd];go_wp2;refine bodyPost_ret (v:=.tuple #[.agg #[.bool false,.slice none 0 0,.int .i64 0,.int .i64 0],.agg #[.int .i64 10,.int .i64 (-7)]]) ?_ rfl ⟨?_,.inl ⟨rfl,HT1.out⟩⟩
   ·simp[results,Tryz.results9,go_sem,Fc,ycw2]
   ·exact mvh
  ·have HC:=lHd hC;have hTc:TaskMem wc Ai Ag Ao t:=hT.below Dc;clear hC
   go_wp2_with fail
   refine (vZm _ t Ai Ag Ao ci cg co).mono ?_;rintro e w2 ⟨hb,hhb,rfl,hX,hM,hB2⟩;have hhb1:wc.heap.size<=hb:=by omega
   clear hhb
   go_wp2_with fail
   refine (zWq (w0:=wc) hW hTc hB2 hX hM hhb1 HN.out HV.out HC.out hl).mono ?_;rintro e w3 ⟨hB3,hR3⟩;have D3:Below w.heap.size w w3:=Dc.trans (hB3.mono (by omega));have C3:=Cls.below hB3 Cc;have hT3:TaskMem w3 Ai Ag Ao t:=hT.below D3;have HCO:Hid (∀ o∈t.ops,0<=o.cost/\o.cost<=100):=lHd (fun o ho=>(HV.out.ops o ho).2);have F3:=C3;simp only[Cls,and_true] at F3;have y3w2:w.heap.size+1+1 < w3.heap.size:=C3.blk (b:=w.heap.size+1+1) (k:=0) (v:=.int .i64 0) (by simp);clear hX hM hB2 hW hTc hB3 Cc Ab hcb0 hcb1;rcases hR3 with ⟨ne,rfl,hNP⟩ | ⟨v,ne,l,ps,rfl,⟨B,hBB,hO⟩,hP,hG,hlen,hCh⟩
   ·have HNP:=lHd hNP;clear hNP
    go_wp2_with fail
    refine (zXu _ t Ai Ag Ao ci cg co (hT3.below bl) none 0 [] (Ints.nil _ none) false ne (by simp) (by simp) (by simp) HCO.out).mono ?_;rintro e w4 ⟨rfl,hB4⟩;have D4:=xJ3 w hB4 bch;have C4:=Cls.below (l:=[(w.heap.size,0,.int .i64 t.facts),(w.heap.size,1,.slice Ai t.init.length ci),(w.heap.size,2,.slice Ag t.goal.length cg),(w.heap.size,3,.slice Ao t.ops.length co),(w.heap.size+1,0,.bool false),(w.heap.size+1,1,.slice none 0 0),(w.heap.size+1,2,.int .i64 0),(w.heap.size+1,3,.int .i64 0),(w.heap.size+1+1,0,.int .i64 0),(w.heap.size+1+1,1,.int .i64 0)]) hB4 (by simp[Cls,go_sem,F3,y3w2]);have F4:=C4;simp only[Cls,and_true] at F4;have y4w2:w.heap.size+1+1 < w4.heap.size:=C4.blk (b:=w.heap.size+1+1) (k:=0) (v:=.int .i64 0) (by simp);rw[show xZx t.ops []=0 from rfl];go_wp2;refine bodyPost_ret (v:=.tuple #[.agg #[.bool false,.slice none 0 0,.int .i64 0,.int .i64 ne],.agg #[.int .i64 0,.int .i64 0]]) ?_ rfl ⟨?_,.inr (.inl ⟨ne,rfl,HNP.out⟩)⟩
    ·simp[results,Tryz.results9,go_sem,F4,y4w2]
    ·exact mvh
   ·obtain⟨xs,hxs⟩:∃ xs,Hid (xs=ps.map Int.ofNat):=⟨_,rfl⟩;rw[<- hxs.out] at hO;obtain⟨A3,c3,rfl,hnl3,hI3⟩:=hO.form;have HP:=lHd hP;have HG:=lHd hG;have HCH:=lHd hCh;have HRG:Hid (∀ x∈xs,0<=x/\x < (t.ops.length:Int)):=by rw[hxs.out];exact hP.rng2
    have hll:Hid (xs.length=ps.length):=by rw[hxs.out];exact List.length_map _
    have hll1:xs.length<=ps.length/\ps.length<=xs.length:=by have:=hll.out;omega
    clear hP hG hCh
    by_cases h60:60 < ps.length
    ·have H60:=lHd h60
     go_wp2_with fail
     refine (vJ2 _ t Ai Ag Ao ci cg co (hT3.below bl) A3 c3 xs (hI3.below bl) true ne (by omega) (by omega)).mono ?_;rintro e w4 ⟨rfl,hB4⟩;have D4:=xJ3 w hB4 bch;have C4:=Cls.below (l:=[(w.heap.size,0,.int .i64 t.facts),(w.heap.size,1,.slice Ai t.init.length ci),(w.heap.size,2,.slice Ag t.goal.length cg),(w.heap.size,3,.slice Ao t.ops.length co),(w.heap.size+1,0,.bool false),(w.heap.size+1,1,.slice none 0 0),(w.heap.size+1,2,.int .i64 0),(w.heap.size+1,3,.int .i64 0),(w.heap.size+1+1,0,.int .i64 0),(w.heap.size+1+1,1,.int .i64 0)]) hB4 (by simp[Cls,go_sem,F3,y3w2]);have F4:=C4;simp only[Cls,and_true] at F4;have y4w2:w.heap.size+1+1 < w4.heap.size:=C4.blk (b:=w.heap.size+1+1) (k:=0) (v:=.int .i64 0) (by simp);go_wp2;refine bodyPost_ret (v:=.tuple #[.agg #[.bool false,.slice none 0 0,.int .i64 0,.int .i64 0],.agg #[.int .i64 10,.int .i64 (-9)]]) ?_ rfl ⟨?_,.inr (.inr ⟨l,ps,HP.out,HG.out,HCH.out,.inl ⟨H60.out,rfl⟩⟩)⟩
     ·simp[results,Tryz.results9,go_sem,F4,y4w2]
     ·exact mvh
    ·go_wp2_with fail
     refine (zXu _ t Ai Ag Ao ci cg co (hT3.below bl) A3 c3 xs (hI3.below bl) true ne (by omega) (by omega) HRG.out HCO.out).mono ?_;rintro e w4 ⟨rfl,hB4⟩;have D4:=xJ3 w hB4 bch;have C4:=Cls.below (l:=[(w.heap.size,0,.int .i64 t.facts),(w.heap.size,1,.slice Ai t.init.length ci),(w.heap.size,2,.slice Ag t.goal.length cg),(w.heap.size,3,.slice Ao t.ops.length co),(w.heap.size+1,0,.bool false),(w.heap.size+1,1,.slice none 0 0),(w.heap.size+1,2,.int .i64 0),(w.heap.size+1,3,.int .i64 0),(w.heap.size+1+1,0,.int .i64 0),(w.heap.size+1+1,1,.int .i64 0)]) hB4 (by simp[Cls,go_sem,F3,y3w2]);have hO4:OwnI B w4 (.slice A3 xs.length c3) xs:=by exact OwnI.below hO (Below.trans (b:=w3) (Below.refl _ _) (by exact hB4))
     have F4:=C4;simp only[Cls,and_true] at F4;have y4w2:w.heap.size+1+1 < w4.heap.size:=C4.blk (b:=w.heap.size+1+1) (k:=0) (v:=.int .i64 0) (by simp);rw[show xZx t.ops xs=xJ6 (t.ops.map (·.cost)) ps from by rw[hxs.out];exact zKs ps];go_wp2;refine bodyPost_ret (v:=.tuple #[.agg #[.bool true,.slice A3 xs.length c3,.int .i64 (xJ6 (t.ops.map (·.cost)) ps),.int .i64 ne],.agg #[.int .i64 0,.int .i64 0]]) ?_ rfl ⟨?_,.inr (.inr ⟨l,ps,HP.out,HG.out,HCH.out,.inr ⟨by omega,_,ne,rfl,B,by omega,?_⟩⟩)⟩
     ·simp[results,Tryz.results9,go_sem,F4,y4w2]
     ·exact mvh
     ·rw[<- hxs.out];refine xVo (xVo (xVo (xVo (xVo (xVo hO4 ?_ _) ?_ _) ?_ _) ?_ _) ?_ _) ?_ _ <;> (simp;omega)
end
end Go.Proofs.YtpeipeljmapkmaaGreat
