/-
  Lemmas for the law: Vv, Vw, Vr.
-/
import Derived.Test.YtpeipeljmapkmaaGreatU32
import Derived.Test.YtpeipeljmapkmaaGreatU15
import Derived.Test.YtpeipeljmapkmaaGreatU25
import Derived.Test.YtpeipeljmapkmaaGreatU3
import Derived.Deep.RegionLawGrows
import Derived.Maps.AppendAt
import Derived.Deep.AppendSrc
set_option linter.unusedVariables false
set_option linter.unusedSimpArgs false
set_option maxRecDepth 100000
set_option maxHeartbeats 4000000
namespace Go.Proofs.YtpeipeljmapkmaaGreat
open Go.RowKit
section
open Go.Shelf
attribute [local go_sem] Oper.semAt_some
theorem MapG.upd_run{w:World}{b n:Nat}{f:Int->Option Value}(hM:MapG w b n f)(hn:n < 1000000000000)(key:Int)(hk:Wrd key)(val:Value) :
  ∃ w',(Instr.mapUpdate 125 (.map (some b)) (.int .i64 key) val).run Tryz.prog w=.ok () w'/\MapG w' b (up1 f key n) (upd f key val)/\w.grownBy w' (some b):=by
 obtain⟨D,h1,h2,h3⟩:=hM;obtain⟨w',hrun,r1,r2⟩:=h1.update xQb Tryz.underlying125 (by simp only[maxLen];omega) (xVj hk) (d:=.held val) (ps:=[]) rfl;exact⟨w',hrun,MapG.put h1 h2 h3 hk r1,r2⟩
theorem MapG.made_at(w:World)(b:Nat)(hb:b=w.heap.size):MapG (w.alloc (.map #[] 0)) b 0 (fun _=>none):=by subst hb;exact MapG.made w
theorem OwnSt.pushed{X:Nat->Prop}{B g c cc:Nat}{W W':World}{vl:Value}{Ls:List (List Int)}{cells:List Value}{S:Option Addr}{st:List Int}(hr:W.ownsRow B 22 1 vl Ls.length cells)(hc:∀ i st,Ls[i]? = some st->PStU X W vl.ownBlock ((cells.drop (i * 1)).take 1) st)
  (hg:W.grownBy W' vl.ownBlock) (hO:W'.ownsRow B 22 1 (.slice (some ⟨g,0,none⟩) (Ls.length+1) c) (Ls.length+1) (cells ++ [.slice S st.length cc])) (hat:vl.ownBlock=some g\/g=W.heap.size)
  (hP:PStU X W vl.ownBlock [.slice S st.length cc] st):OwnSt X B W' (.slice (some ⟨g,0,none⟩) (Ls.length+1) c) (Ls ++ [st]):=by
 have hcl:cells.length=Ls.length:=by have:=hr.1;omega
 have key:∀ {cs:List Value} {a:List Int},PStU X W vl.ownBlock cs a->PStU X W' (some g) cs a:=fun hp=>by
  rcases hat with h4 | h4
  ·rw[<- h4];exact ((pst_stable X).grown hp hg).1
  ·rw[h4];exact ((pst_stable X).grown hp hg).2
 refine⟨cells ++ [.slice S st.length cc],by rw[List.length_append];exact hO,fun i a hi=>?_⟩;show PStU X W' (some g) _ a
 by_cases e:i < Ls.length
 ·rw[List.getElem?_append_left e] at hi;have h:=key (hc i a hi);rw[Nat.mul_one] at h ⊢;rw[List.drop_append_of_le_length (by omega),List.take_append_of_le_length (by rw[List.length_drop];omega)];exact h
 ·have hl:=(List.getElem?_eq_some_iff.1 hi).1;rw[List.length_append] at hl;simp at hl;obtain rfl:i=Ls.length:=by omega
  rw[List.getElem?_append_right (Nat.le_refl _)] at hi;simp at hi;subst hi;rw[Nat.mul_one,<- hcl,List.drop_left,List.take_of_length_le (by simp)];exact key hP
def RI2(B bl bm bmb n:Nat)(ls:List (List Int))(w:World)(t:TaskV)(Ai Ag Ao:Option Addr)(ci cg co:Nat)(ds:List Deferred)(k:Nat)(Z:Nat->Prop)(W:World):Prop:=
 ∃ (vl:Value) (Ls:List (List Int)) (f:Int->Option Value),RS B bl bm bmb n ls W vl Ls f/\k<=Ls.length/\Below w.heap.size w W/\MarksOk w.heap.size ds W/\Arr W w.heap.size 25 [.int .i64 t.facts,.slice Ai t.init.length ci,.slice Ag t.goal.length cg,.slice Ao t.ops.length co]/\Arr W (w.heap.size+1) 3 [.int .i64 0]/\(∀ z,Z z->vl.ownBlock≠some z)
theorem RI2.turn{B bl bm bmb n:Nat}{ls:List (List Int)}{w:World}{t:TaskV}{Ai Ag Ao:Option Addr}{ci cg co:Nat}{ds:List Deferred}{k:Nat}{Z:Nat->Prop}{W0 W W':World}(h:RI2 B bl bm bmb n ls w t Ai Ag Ao ci cg co ds k Z W)(h0:MarksOk w.heap.size ds W0)(hm:bm < W0.heap.size)(hw:w.heap.size<=W0.heap.size)(ht:Turn W0.heap.size W W'):RI2 B bl bm bmb n ls w t Ai Ag Ao ci cg co ds k Z W':=by
 obtain⟨vl,Ls,f,h1,h2,h3,h4,h5,h6,h7⟩:=h;exact⟨vl,Ls,f,h1.turn ht hm,h2,xVm h3 ht hw h3.size,h4.turn h0 (Nat.le_refl _) ht,h5.turn ht,h6.turn ht,h7⟩
theorem vVw{gop:Operand}{p0 p1:Tmp}{assign body:Code}{Q:Exit->Act->World->Prop}{a:Act}{w w0:World}{n b1 b2:Nat}{t:TaskV}{Ai Ag Ao:Option Addr}{ci cg co:Nat}{S:Option Addr}{cs:Nat}{l:List Int}
  (hT:TaskMem w0 Ai Ag Ao t) (hR:OpsRead w0 Ao t.ops) (hv:Valid t) (hn:t.facts=n) (hl:SetP l (n:Int)) (hM:ScMem w0 b1 b2 t Ai Ag Ao ci cg co S cs l w)
  (hg:a.eval gop=.func (.func 104) #[] #[.pointer (some ⟨b1,0,none⟩),.pointer (some ⟨b2,0,none⟩)])
  (I:List (xX4 n t.ops l×Value)->World->Prop) (hI:∀ s W W',I s W->Turn w.heap.size W W'->I s W') (h0:I [] w) (s:Tmp)
  (hassign:∀ (y:Nat) (x:xX4 n t.ops l×Value) (W:World) (K:Act->World->Prop),K { tmps:=((a.tmps.setIfInBounds p0 (.int .i64 (x.1.1.1:Int))).setIfInBounds p1 x.2).setIfInBounds s x.2,defers:=[] } W->assign.wpIn (Fence.wide.inRound y) 3 Tryz.prog (Exit.then K (fun _ _ _=>False)) { tmps:=(a.tmps.setIfInBounds p0 (.int .i64 (x.1.1.1:Int))).setIfInBounds p1 x.2,defers:=[] } W)
  (hbody:∀ (y:Nat) (pre:List (xX4 n t.ops l×Value)) (x:xX4 n t.ops l×Value) (W:World),I pre W->vQb w.heap.size x W->body.wpIn (Fence.wide.inRound y) 3 Tryz.prog (fun e _ W'=>e=.normal/\KeepsFrom w.heap.size W W'/\KpZ w0.heap.size (ScZ b1 b2 S l) W W'/\I (pre ++ [x]) W') { tmps:=((a.tmps.setIfInBounds p0 (.int .i64 (x.1.1.1:Int))).setIfInBounds p1 x.2).setIfInBounds s x.2,defers:=[] } W)
  (hdone:∀ (D:Nat) (xs:List (xX4 n t.ops l×Value)) (W:World),w.heap.size<=D->I xs W->W.heap[D]? = some (.deferred (some []))->Q .normal { a with defers:=xWu D :: a.defers } W) :
  (Code.rangeFunc gop #[p0,p1] assign body).wp Tryz.prog Q a w:=
 range_succ hT hR hv hn hl hM hg rfl I hI h0 (fun x=>{ tmps:=((a.tmps.setIfInBounds p0 (.int .i64 (x.1.1.1:Int))).setIfInBounds p1 x.2).setIfInBounds s x.2,defers:=[] }) (fun y x W K hK=>by
  rw[show (#[p0,p1].zip (zK3 x)).foldl (fun t (p,v)=>t.setIfInBounds p v) a.tmps=(a.tmps.setIfInBounds p0 (.int .i64 (x.1.1.1:Int))).setIfInBounds p1 x.2 by simp[zK3]];exact hassign y x W K hK) hbody hdone
def ReachP(w:World)(e:Ending)(w':World):Prop:=Below w.heap.size w w'/\∃ m:Nat,e=.returned (.int .i64 (m:Int))
theorem creach_any(w:World)(t:TaskV)(Ai Ag Ao:Option Addr)(ci cg co:Nat)(hT:TaskMem w Ai Ag Ao t)(hR:OpsRead w Ao t.ops)(n:Nat)(hn:t.facts=n)(hv:Valid t)(ls:List (List Int))(hC:Clos n t.ops t.init ls)(hls:ls.length<=2000) :
  Calls Tryz.prog 22 #[.agg #[.int .i64 t.facts,.slice Ai t.init.length ci,.slice Ag t.goal.length cg,.slice Ao t.ops.length co]] w (ReachP w):=by
 have HV:=lHd hv;have HC:=lHd hC;have HN:=lHd hn;have HT:=lHd hT;have HR:=lHd hR;have hn24:n<=24:=by have:=hv.f1;omega
 have hst:=hC.set _ hC.hst;have HST:=lHd hst;have hk0:=hst.wrd hn24;have HI0:Hid (t.init≠[]->∀ ad,Ai=some ad->ad.block < w.heap.size):=fun hr ad e=>by have h:=hT.init;subst e;exact xZz h hr
 have hmm:=@run_makeMap Tryz.prog;clear hv hC hn hT hR hst;refine xZ9 Tryz.func22 rfl ?_;simp only[Tryz.ntmps22,List.size_toArray,List.length_cons,List.length_nil,Nat.reduceAdd,Nat.reduceSub,Array.replicate_succ,Array.replicate_zero,List.push_toArray,List.append_toArray,List.nil_append,List.cons_append]
 go_wp2_with (first | (go_at_call 64;refine (xK1 _ _ _ _ (HT.out.init.below bch) n HST.out hn24).mono ?_;rintro e w' ⟨rfl,rfl⟩) | (refine vV1 rfl (.tmp 10) (.tmp 13) (.const (.int .i64 0)) 125 rfl 3 Tryz.underlying125 (b:=w.heap.size+1+1) (n:=0) (f:=fun _=>none) rfl ?q1 (by decide) (xJ0 t.init) (.int .i64 0) rfl rfl hk0 ?_;(case q1=>exact MapG.made_at _ _ (by simp));intro w2 hM2 hg2;have hA2:Arr w2 w.heap.size 25 [.int .i64 t.facts,.slice Ai t.init.length ci,.slice Ag t.goal.length cg,.slice Ao t.ops.length co]:=Arr.grown (((Arr.new w 25 [.int .i64 t.facts,.slice Ai t.init.length ci,.slice Ag t.goal.length cg,.slice Ao t.ops.length co]).alloc _).alloc _) hg2 (fun e=>by injection e with e;omega);have hr2:Arr w2 (w.heap.size+1) 3 [.int .i64 0]:=Arr.grown ((Arr.new_at _ _ (by simp) _ _).alloc _) hg2 (fun e=>by injection e with e;omega);have hac1:=hA2.cell 1;have hl2:=hA2.lt;have hl3:=hr2.lt;have hl4:¬ w.heap.size=w2.heap.size:=(by omega)))
 have hs2:=hg2.size;simp only[World.size_alloc] at hs2;have hB2:Below w.heap.size w w2:=Below.grown (a:=w) (w:=((w.alloc (.cells #[.int .i64 t.facts,.slice Ai t.init.length ci,.slice Ag t.goal.length cg,.slice Ao t.ops.length co] 25)).alloc (.cells #[.int .i64 0] 3)).alloc (.map #[] 0)) bch hg2 (by simp;omega) (fun k e1=>by injection e1 with e1;omega);have hI2:Ints w2 Ai t.init:=HT.out.init.below hB2;have e0:up1 (fun _=>none) (xJ0 t.init) 0=1:=rfl;rw[e0] at hM2;have hRS0:RS (w2.heap.size) (w2.heap.size+1+1) (w.heap.size+1+1) (w2.heap.size) n ls (((w2.alloc (.cells #[.map (some (w.heap.size+1+1))] 125)).alloc (.cells #[.slice Ai t.init.length ci] 22)).alloc (.cells #[.slice (some ⟨w2.heap.size+1,0,none⟩) 1 1] 44)) (.slice (some ⟨w2.heap.size+1,0,none⟩) 1 1) [t.init] (upd (fun _=>none) (xJ0 t.init) (.int .i64 0)):=by
  have hbel:Below w2.heap.size w2 (((w2.alloc (.cells #[.map (some (w.heap.size+1+1))] 125)).alloc (.cells #[.slice Ai t.init.length ci] 22)).alloc (.cells #[.slice (some ⟨w2.heap.size+1,0,none⟩) 1 1] 44)):=bch;refine⟨⟨_,vXg (n:=1) (((Arr.new_at (w2.alloc (.cells #[.map (some (w.heap.size+1+1))] 125)) (w2.heap.size+1) (by simp) 22 [.slice Ai t.init.length ci]).alloc _)) (by omega) rfl (by decide),fun i st hi=>?_⟩,Arr.new_at _ _ (by simp) _ _,((Arr.new w2 125 [.map (some (w.heap.size+1+1))]).alloc _).alloc _,hM2.below hbel hM2.lt,fun l hl=>?_,by simp,fun l hl=>by simp at hl;subst hl;exact HC.out.hst⟩
  ·have h1:=(List.getElem?_eq_some_iff.1 hi).1;simp at h1;subst h1;simp at hi;subst hi;refine⟨Ai,ci,rfl,hI2.below hbel,fun hr ad e=>?_⟩;have:=HI0.out hr ad e;refine⟨?_,fun e2=>?_⟩
   ·rintro (h | h | h) <;> omega
   ·injection e2 with e2
    have e2:ad.block=w2.heap.size+1:=e2;omega
  ·unfold upd
   by_cases e:l=t.init
   ·subst e;simp
   ·rw[if_neg (fun e2=>e (xJi hl HST.out e2))];simp[e]
 have HRS:=lHd hRS0;have HA:=lHd (show Arr (((w2.alloc (.cells #[.map (some (w.heap.size+1+1))] 125)).alloc (.cells #[.slice Ai t.init.length ci] 22)).alloc (.cells #[.slice (some ⟨w2.heap.size+1,0,none⟩) 1 1] 44)) w.heap.size 25 [.int .i64 t.facts,.slice Ai t.init.length ci,.slice Ag t.goal.length cg,.slice Ao t.ops.length co] from ((hA2.alloc _).alloc _).alloc _);have HAR:=lHd (show Arr (((w2.alloc (.cells #[.map (some (w.heap.size+1+1))] 125)).alloc (.cells #[.slice Ai t.init.length ci] 22)).alloc (.cells #[.slice (some ⟨w2.heap.size+1,0,none⟩) 1 1] 44)) (w.heap.size+1) 3 [.int .i64 0] from ((hr2.alloc _).alloc _).alloc _);have HB:=lHd hB2;clear hRS0 hA2 hr2 hac1 hM2 hg2 hI2 e0 hB2;refine wp_loop_ghost_k (fun gk a wr=>∃ (ds:List Deferred) (vk:Value) (F:Array Value),(∃ k:Nat,vk=.int .i64 (k:Int)/\RI2 (w2.heap.size) (w2.heap.size+1+1) (w.heap.size+1+1) (w2.heap.size) n ls w t Ai Ag Ao ci cg co ds k (fun _=>False) wr/\Hid (gk=2001 - k))/\a={ tmps:=#[.agg #[.int .i64 t.facts,.slice Ai t.init.length ci,.slice Ag t.goal.length cg,.slice Ao t.ops.length co],.pointer (some ⟨w.heap.size,0,none⟩),.pointer (some ⟨w.heap.size+1,0,none⟩),.pointer (some ⟨w2.heap.size,0,none⟩),.pointer (some ⟨w2.heap.size+1+1,0,none⟩),vk,fr F 6,fr F 7,fr F 8,fr F 9,fr F 10,fr F 11,fr F 12,fr F 13,fr F 14,fr F 15,fr F 16,fr F 17,fr F 18,fr F 19,fr F 20,fr F 21,fr F 22,fr F 23,fr F 24,fr F 25,fr F 26,fr F 27,fr F 28,fr F 29,fr F 30,fr F 31,fr F 32,fr F 33,fr F 34,fr F 35,fr F 36,fr F 37,fr F 38,fr F 39,fr F 40,fr F 41,fr F 42,fr F 43,fr F 44,fr F 45,fr F 46,fr F 47,fr F 48,fr F 49,fr F 50,fr F 51,fr F 52,fr F 53,fr F 54],defers:=ds }) 2001 ?start ?round
 case start=>
  have hBz:=HB.out;exact⟨[],.int .i64 0,zJ7 ⟨0,rfl,⟨_,_,_,HRS.out,Nat.zero_le _,bch,MarksOk.nil _ _,HA.out,HAR.out,fun z h=>h.elim⟩,rfl⟩ rfl⟩
 case round=>
  clear HRS HA HAR HB;intro gk a wr hinv;obtain⟨ds,vk,F,⟨k,rfl,⟨vl,Ls,f,hRS,hk,hB,hmk,hAt,hAr,-⟩,hgk⟩,rfl⟩:=hinv;intro J K hJ hK;obtain⟨A,c,rfl⟩:=hRS.form;have hfew:=hRS.few;have hlb:=hRS.lbox.cell 0;have hBs:=hB.size;have hml:=hRS.map.lt;have hll:=hRS.lbox.lt;have hat0:=hAt.cell 0;have hat1:=hAt.cell 1;have hat2:=hAt.cell 2;have hat3:=hAt.cell 3;have har0:=hAr.cell 0;have harf:=hAr.free 0;have HRS:=lHd hRS;have HM:=lHd hmk;have HAT:=lHd hAt;have HAR:=lHd hAr;have HB:=lHd hB;clear hmk hAt hAr hRS hB
  by_cases hlt:k < Ls.length
  ·obtain⟨st,hst⟩:∃ st,Ls[k]? = some st:=⟨_,lGe hlt⟩;obtain⟨g,S,cs,eA,hgc,hIS,hXS⟩:=OwnSt.rd HRS.out.row hst;subst eA;have hSst:=HC.out.set st (HRS.out.sub st (lMg hst));have HSST:=lHd hSst;have HSTL:=lHd (HRS.out.sub st (lMg hst));have hgl:g < wr.heap.size:=(HRS.out.own.choose_spec.lt g rfl).2;have HXS:=lHd hXS;have HIS:=lHd hIS;have HGK:=lHd hgk;have HHJ:=lHd hJ;clear hst hSst hXS hIS hgk hJ
   go_wp2_with fail
   have hSS0:wr.drew.cell? ⟨w.heap.size,0,none⟩=some (.int .i64 t.facts)/\wr.drew.cell? ⟨w.heap.size,1,none⟩=some (.slice Ai t.init.length ci)/\wr.drew.cell? ⟨w.heap.size,2,none⟩=some (.slice Ag t.goal.length cg)/\wr.drew.cell? ⟨w.heap.size,3,none⟩=some (.slice Ao t.ops.length co)/\wr.drew.cell? ⟨w2.heap.size+1+1,0,none⟩=some (.slice (some ⟨g,0,none⟩) Ls.length c)/\wr.drew.cell? ⟨g,k,none⟩=some (.slice S st.length cs):=⟨hat0,hat1,hat2,hat3,hlb,hgc⟩;refine xKc (fun W=>W.cell? ⟨w.heap.size,0,none⟩=some (.int .i64 t.facts)/\W.cell? ⟨w.heap.size,1,none⟩=some (.slice Ai t.init.length ci)/\W.cell? ⟨w.heap.size,2,none⟩=some (.slice Ag t.goal.length cg)/\W.cell? ⟨w.heap.size,3,none⟩=some (.slice Ao t.ops.length co)/\W.cell? ⟨w2.heap.size+1+1,0,none⟩=some (.slice (some ⟨g,0,none⟩) Ls.length c)/\W.cell? ⟨g,k,none⟩=some (.slice S st.length cs)) [] (by kernel_rfl) ?_;have hSS:=hSS0;refine xJ1 (i:=0) (v:=?vz20) rfl (by kernel_rfl) (by kernel_rfl) (by kernel_rfl) (by kernel_rfl) (by kernel_rfl) (fun _ _ _ h=>h) (Or.inl ⟨by rfl,?hz20⟩) (by assumption) ?rz20
   case hz20=>(intro w hSw;(try dsimp only at hSw);go_simp;(try with_reducible rfl))
   try simp only[ap]
   refine xJ1 (i:=1) (v:=?vz21) rfl (by kernel_rfl) (by kernel_rfl) (by kernel_rfl) (by kernel_rfl) (by kernel_rfl) (fun _ _ _ h=>h) (Or.inl ⟨by rfl,?hz21⟩) (by assumption) ?rz21
   case hz21=>(intro w hSw;(try dsimp only at hSw);go_simp;(try with_reducible rfl))
   try simp only[ap]
   refine xJ1 (i:=2) (v:=?vz22) rfl (by kernel_rfl) (by kernel_rfl) (by kernel_rfl) (by kernel_rfl) (by kernel_rfl) (fun _ _ _ h=>h) (Or.inl ⟨by rfl,?hz22⟩) (by assumption) ?rz22
   case hz22=>(intro w hSw;(try dsimp only at hSw);go_simp;(try with_reducible rfl))
   try simp only[ap]
   refine xJ1 (i:=3) (v:=?vz23) rfl (by kernel_rfl) (by kernel_rfl) (by kernel_rfl) (by kernel_rfl) (by kernel_rfl) (fun _ _ _ h=>h) (Or.inl ⟨by rfl,?hz23⟩) (by assumption) ?rz23
   case hz23=>(intro w hSw;(try dsimp only at hSw);go_simp;(try with_reducible rfl))
   try simp only[ap]
   refine xJ1 (i:=4) (v:=?vz24) rfl (by kernel_rfl) (by kernel_rfl) (by kernel_rfl) (by kernel_rfl) (by kernel_rfl) (fun _ _ _ h=>h) (Or.inl ⟨by rfl,?hz24⟩) (by assumption) ?rz24
   case hz24=>(intro w hSw;(try dsimp only at hSw);go_simp;(try with_reducible rfl))
   try simp only[ap]
   refine xJ4 (i:=5) (by kernel_rfl) rfl (fun K hK=>?_);go_simp;go_at_call 65;refine (vKz _ t Ai Ag Ao ci cg co S cs st).mono ?_;rintro e w4 ⟨rfl,hB4,hA4,hS4,hz4⟩;have hB4':Below wr.heap.size wr w4:=xJ3 wr hB4 bch;have hz5:w4.heap.size=wr.heap.size+1+1:=by simpa using hz4
   have hA4':Arr w4 wr.heap.size 25 [.int .i64 t.facts,.slice Ai t.init.length ci,.slice Ag t.goal.length cg,.slice Ao t.ops.length co]:=by simpa using hA4
   have hS4':Arr w4 (wr.heap.size+1) 22 [.slice S st.length cs]:=by simpa using hS4
   have HRS4:=lHd (HRS.out.below hB4');have hM4:=HM.out.below hB4';have hm4:w.heap.size+1+1 < w4.heap.size:=by omega
   have HB4:=lHd (HB.out.trans (hB4'.mono hBs));have HAT4:=lHd (HAT.out.below hB4');have HAR4:=lHd (HAR.out.below hB4');have hScM:ScMem w wr.heap.size (wr.heap.size+1) t Ai Ag Ao ci cg co S cs st w4:=⟨HB4.out,hA4',hS4',HIS.out.below hB4'⟩;have k4:∀ {p:Addr} {u:Value},wr.cell? p=some u->w4.cell? p=some u:=fun {p u} hc=>(hB4'.cell (World.block_lt_of_cell? wr _ hc)).trans hc
   have hSS:w4.cell? ⟨w.heap.size,0,none⟩=some (.int .i64 t.facts)/\w4.cell? ⟨w.heap.size,1,none⟩=some (.slice Ai t.init.length ci)/\w4.cell? ⟨w.heap.size,2,none⟩=some (.slice Ag t.goal.length cg)/\w4.cell? ⟨w.heap.size,3,none⟩=some (.slice Ao t.ops.length co)/\w4.cell? ⟨w2.heap.size+1+1,0,none⟩=some (.slice (some ⟨g,0,none⟩) Ls.length c)/\w4.cell? ⟨g,k,none⟩=some (.slice S st.length cs):=⟨k4 hat0,k4 hat1,k4 hat2,k4 hat3,k4 hlb,k4 hgc⟩;clear hA4 hS4 hz4 hB4
   go_wp2_with fail
   refine hK.out _ _ hSS ?_;clear hK K
   try simp only[ap]
   refine xJ8 (by kernel_rfl) ?_ _;dsimp only[vQd]
   go_wp2_with fail
   refine vVw (w0:=w) HT.out HR.out HV.out HN.out HSST.out hScM rfl (fun pre W=>RI2 (w2.heap.size) (w2.heap.size+1+1) (w.heap.size+1+1) (w2.heap.size) n ls w t Ai Ag Ao ci cg co ds (k+1) (ScZ wr.heap.size (wr.heap.size+1) S st) W/\w4.heap.size<=W.heap.size) ?hI ?h0 7 ?hassign ?hbody ?hdone
   case hI=>exact fun pre W W' h ht=>⟨h.1.turn hM4 hm4 (by omega) ht,by have h2:=h.2;obtain⟨row,hg,_⟩:=ht;exact Nat.le_trans h2 hg.size⟩
   case h0=>exact⟨⟨_,Ls,f,HRS4.out,by omega,HB4.out,hM4,HAT4.out,HAR4.out,fun z hz e=>by
     have e:g=z:=by injection e
     rcases hz with rfl | rfl | ⟨hne,ad,e2,rfl⟩
     ·omega
     ·omega
     ·exact (HXS.out hne ad e2).2 e.symm⟩,Nat.le_refl _⟩
   case hassign=>
    intro y x W K hK;simp only[List.setIfInBounds_toArray,List.set_cons_succ,List.set_cons_zero] at hK ⊢
    gi_wp2
    exact hK
   case hbody=>
    intro y pre x W hi hx;obtain⟨⟨⟨op,o,nx⟩,hmem⟩,v⟩:=x;obtain⟨⟨vl,Ls',f',hRS',hk',hB',hmk',hAt',hAr',hZ'⟩,hszW⟩:=hi;have hx:OwnI w4.heap.size W v nx:=hx;obtain⟨hop1,hop2,hop3,hop4⟩:=xJz.1 hmem;have hnx:nx∈ls:=by dsimp only at hop2 hop3 hop4;rw[hop4];exact HC.out.closed st (by have:=HRS.out.sub;exact HSTL.out) op o hop2 hop3
    have hnxs:=HC.out.set nx hnx;have HNXS:=lHd hnxs;have hwrd:=hnxs.wrd hn24;have hblk:=hx.lt;obtain⟨A5,c5,rfl,hnl5,hI5⟩:=hx.form;obtain⟨A6,c6,rfl⟩:=hRS'.form;have hfew':=hRS'.few;have hseen:=hRS'.seen nx hnxs;have hlk:=(MapG.of_block (w':=W.drew) hRS'.map rfl).look_ok Tryz.underlying125 (xK2 _) hwrd;have hmb:=hRS'.mbox.cell 0;have hlb':=hRS'.lbox.cell 0;have hlf':=hRS'.lbox.free 0;have hml':=hRS'.map.lt;have hll':=hRS'.lbox.lt;have HRS':=lHd hRS';have HZ:=lHd hZ';have HK':=lHd hk';have HB':=lHd hB';have HMK:=lHd hmk';have HAT':=lHd hAt';have HAR':=lHd hAr';have HI5:=lHd hI5;have HBLK:=lHd hblk;have HX:=lHd hx;have HNX:=lHd hnx;obtain⟨vv,hvv⟩:∃ vv,(f' (xJ0 nx)).getD (.int .i64 0)=vv:=⟨_,rfl⟩;rw[hvv] at hlk;clear hvv hRS' hZ' hk' hB' hmk' hAt' hAr' hI5 hnxs hnx hop1 hop2 hop3 hop4 hblk hx;simp only[List.setIfInBounds_toArray,List.set_cons_succ,List.set_cons_zero]
    cases hfs:(f' (xJ0 nx)).isSome with
    | true=>
     rw[hfs] at hlk;clear hseen hfs
     gi_wp2
     have hSS0:W.drew.cell? ⟨w2.heap.size,0,none⟩=some (.map (some (w.heap.size+1+1)))/\(Instr.lookup 125 (.map (some (w.heap.size+1+1))) (.int .i64 (xJ0 nx)) true).run Tryz.prog W.drew=.ok (.tuple #[vv,.bool true]) W.drew:=⟨hmb,hlk⟩;refine xZl (fun W=>W.cell? ⟨w2.heap.size,0,none⟩=some (.map (some (w.heap.size+1+1)))/\(Instr.lookup 125 (.map (some (w.heap.size+1+1))) (.int .i64 (xJ0 nx)) true).run Tryz.prog W=.ok (.tuple #[vv,.bool true]) W) [] (by kernel_rfl) (by kernel_rfl) (fun _ _ h=>by have h2:=h.1;cases h2) ?_;have hSS:=hSS0;refine xJ1 (i:=0) (v:=?_) rfl (by kernel_rfl) (by kernel_rfl) (by kernel_rfl) (by kernel_rfl) (by kernel_rfl) (fun _ _ _ h=>h) (Or.inl ⟨by rfl,?_⟩) (by assumption) ?_;rotate_left
     ·(intro w hSw;(try dsimp only at hSw);go_simp;(try with_reducible rfl))
     try simp only[ap]
     refine xJ1 (i:=1) (v:=?_) rfl (by kernel_rfl) (by kernel_rfl) (by kernel_rfl) (by kernel_rfl) (by kernel_rfl) (fun _ _ _ h=>h) (Or.inl ⟨by rfl,?_⟩) (by assumption) ?_;rotate_left
     ·(intro w hSw;(try dsimp only at hSw);go_simp;(try with_reducible rfl))
     try simp only[ap]
     refine xJ4 (i:=2) (by kernel_rfl) rfl (fun K hK=>?_);go_simp;go_at_call 64;refine (xK1 A5 c5 nx _ (HI5.out.below bch) n HNXS.out hn24).mono ?_;rintro e w' ⟨rfl,rfl⟩
     go_wp2_with fail
     have hSS:=hSS0;refine hK.out _ _ hSS ?_;clear hK K
     try simp only[ap]
     refine xJ1 (i:=3) (v:=?_) rfl (by kernel_rfl) (by kernel_rfl) (by kernel_rfl) (by kernel_rfl) (by kernel_rfl) (fun _ _ _ h=>h) (Or.inl ⟨by rfl,?_⟩) (by assumption) ?_;rotate_left
     ·(intro w hSw;(try dsimp only at hSw);go_simp;(try with_reducible rfl))
     try simp only[ap]
     refine xJ1 (i:=4) (v:=?_) rfl (by kernel_rfl) (by kernel_rfl) (by kernel_rfl) (by kernel_rfl) (by kernel_rfl) (fun _ _ _ h=>h) (Or.inl ⟨by rfl,?_⟩) (by assumption) ?_;rotate_left
     ·(intro w hSw;(try dsimp only at hSw);go_simp;(try with_reducible rfl))
     try simp only[ap]
     refine xJ1 (i:=5) (v:=?_) rfl (by kernel_rfl) (by kernel_rfl) (by kernel_rfl) (by kernel_rfl) (by kernel_rfl) (fun _ _ _ h=>h) (Or.inl ⟨by rfl,?_⟩) (by assumption) ?_;rotate_left
     ·(intro w hSw;(try dsimp only at hSw);go_simp;(try with_reducible rfl))
     try simp only[ap]
     refine xJ1 (i:=6) (v:=?_) rfl (by kernel_rfl) (by kernel_rfl) (by kernel_rfl) (by kernel_rfl) (by kernel_rfl) (fun _ _ _ h=>h) (Or.inl ⟨by rfl,?_⟩) (by assumption) ?_;rotate_left
     ·(intro w hSw;(try dsimp only at hSw);go_simp;(try with_reducible rfl))
     try simp only[ap]
     refine xJ1 (i:=7) (v:=?_) rfl (by kernel_rfl) (by kernel_rfl) (by kernel_rfl) (by kernel_rfl) (by kernel_rfl) (fun _ _ _ h=>h) (Or.inl ⟨by rfl,?_⟩) (by assumption) ?_;rotate_left
     ·(intro w hSw;(try dsimp only at hSw);go_simp;(try with_reducible rfl))
     try simp only[ap]
     refine xJ1 (i:=8) (v:=?_) rfl (by kernel_rfl) (by kernel_rfl) (by kernel_rfl) (by kernel_rfl) (by kernel_rfl) (fun _ _ _ h=>h) (Or.inl ⟨by rfl,?_⟩) (by assumption) ?_;rotate_left
     ·(intro w hSw;(try dsimp only at hSw);go_simp;(try with_reducible rfl))
     try simp only[ap]
     refine xJ8 (by kernel_rfl) ?_ _
     gi_wp2
     refine⟨⟨Nat.le_refl _,fun _ _ _ h _=>h⟩,⟨(Below.refl _ _).drew,fun z _=>rfl⟩,⟨_,Ls',f',HRS'.out.below bch,HK'.out,HB'.out.drew,HMK.out.below bch,HAT'.out,HAR'.out,HZ.out⟩,by omega⟩
    | false=>
     rw[hfs] at hlk;have hnin:¬ nx∈Ls':=fun e=>by have:=hseen.2 e;rw[hfs] at this;cases this
     have hl1:Ls'.length+1<=ls.length:=xX8 (a:=nx :: Ls') (List.nodup_cons.2 ⟨hnin,HRS'.out.nd⟩) (fun z hz=>by
      rcases List.mem_cons.1 hz with e | e
      ·rw[e];exact HNX.out
      ·exact HRS'.out.sub z e)
     have hne:((Ls'.length:Int) == 2000)=false:=by simpa using (by omega:¬ (Ls'.length:Int)=2000)
     have HNIN:=lHd hnin;have HFS:=lHd hfs;clear hseen hfs hnin
     gi_wp2
     have hSS0:W.drew.cell? ⟨w2.heap.size,0,none⟩=some (.map (some (w.heap.size+1+1)))/\(Instr.lookup 125 (.map (some (w.heap.size+1+1))) (.int .i64 (xJ0 nx)) true).run Tryz.prog W.drew=.ok (.tuple #[vv,.bool false]) W.drew:=⟨hmb,hlk⟩;refine xZl (fun W=>W.cell? ⟨w2.heap.size,0,none⟩=some (.map (some (w.heap.size+1+1)))/\(Instr.lookup 125 (.map (some (w.heap.size+1+1))) (.int .i64 (xJ0 nx)) true).run Tryz.prog W=.ok (.tuple #[vv,.bool false]) W) [] (by kernel_rfl) (by kernel_rfl) (fun _ _ h=>by have h2:=h.1;cases h2) ?_;have hSS:=hSS0;refine xJ1 (i:=0) (v:=?_) rfl (by kernel_rfl) (by kernel_rfl) (by kernel_rfl) (by kernel_rfl) (by kernel_rfl) (fun _ _ _ h=>h) (Or.inl ⟨by rfl,?_⟩) (by assumption) ?_;rotate_left
     ·(intro w hSw;(try dsimp only at hSw);go_simp;(try with_reducible rfl))
     try simp only[ap]
     refine xJ1 (i:=1) (v:=?_) rfl (by kernel_rfl) (by kernel_rfl) (by kernel_rfl) (by kernel_rfl) (by kernel_rfl) (fun _ _ _ h=>h) (Or.inl ⟨by rfl,?_⟩) (by assumption) ?_;rotate_left
     ·(intro w hSw;(try dsimp only at hSw);go_simp;(try with_reducible rfl))
     try simp only[ap]
     refine xJ4 (i:=2) (by kernel_rfl) rfl (fun K hK=>?_);go_simp;go_at_call 64;refine (xK1 A5 c5 nx _ (HI5.out.below bch) n HNXS.out hn24).mono ?_;rintro e w' ⟨rfl,rfl⟩
     go_wp2_with fail
     have hSS:=hSS0;refine hK.out _ _ hSS ?_;clear hK K
     try simp only[ap]
     refine xJ1 (i:=3) (v:=?_) rfl (by kernel_rfl) (by kernel_rfl) (by kernel_rfl) (by kernel_rfl) (by kernel_rfl) (fun _ _ _ h=>h) (Or.inl ⟨by rfl,?_⟩) (by assumption) ?_;rotate_left
     ·(intro w hSw;(try dsimp only at hSw);go_simp;(try with_reducible rfl))
     try simp only[ap]
     refine xJ1 (i:=4) (v:=?_) rfl (by kernel_rfl) (by kernel_rfl) (by kernel_rfl) (by kernel_rfl) (by kernel_rfl) (fun _ _ _ h=>h) (Or.inl ⟨by rfl,?_⟩) (by assumption) ?_;rotate_left
     ·(intro w hSw;(try dsimp only at hSw);go_simp;(try with_reducible rfl))
     try simp only[ap]
     refine xJ1 (i:=5) (v:=?_) rfl (by kernel_rfl) (by kernel_rfl) (by kernel_rfl) (by kernel_rfl) (by kernel_rfl) (fun _ _ _ h=>h) (Or.inl ⟨by rfl,?_⟩) (by assumption) ?_;rotate_left
     ·(intro w hSw;(try dsimp only at hSw);go_simp;(try with_reducible rfl))
     try simp only[ap]
     refine xJ1 (i:=6) (v:=?_) rfl (by kernel_rfl) (by kernel_rfl) (by kernel_rfl) (by kernel_rfl) (by kernel_rfl) (fun _ _ _ h=>h) (Or.inl ⟨by rfl,?_⟩) (by assumption) ?_;rotate_left
     ·(intro w hSw;(try dsimp only at hSw);go_simp;(try with_reducible rfl))
     try simp only[ap]
     refine xJ1 (i:=7) (v:=?_) rfl (by kernel_rfl) (by kernel_rfl) (by kernel_rfl) (by kernel_rfl) (by kernel_rfl) (fun _ _ _ h=>h) (Or.inl ⟨by rfl,?_⟩) (by assumption) ?_;rotate_left
     ·(intro w hSw;(try dsimp only at hSw);go_simp;(try with_reducible rfl))
     try simp only[ap]
     refine xJ1 (i:=8) (v:=?_) rfl (by kernel_rfl) (by kernel_rfl) (by kernel_rfl) (by kernel_rfl) (by kernel_rfl) (fun _ _ _ h=>h) (Or.inl ⟨by rfl,?_⟩) (by assumption) ?_;rotate_left
     ·(intro w hSw;(try dsimp only at hSw);go_simp;(try with_reducible rfl))
     try simp only[ap]
     refine xJ8 (by kernel_rfl) ?_ _
     gi_wp2
     have hSS1:W.drew.drew.cell? ⟨w2.heap.size,0,none⟩=some (.map (some (w.heap.size+1+1)))/\W.drew.drew.cell? ⟨w2.heap.size+1+1,0,none⟩=some (.slice A6 Ls'.length c6):=⟨hmb,hlb'⟩;obtain⟨w6,hrun,hM6,hg6⟩:=MapG.upd_run (MapG.of_block (w':=W.drew.drew) HRS'.out.map rfl) (by omega) (xJ0 nx) hwrd (.int .i64 (Ls'.length:Int));refine xZl (fun W=>W.cell? ⟨w2.heap.size,0,none⟩=some (.map (some (w.heap.size+1+1)))/\W.cell? ⟨w2.heap.size+1+1,0,none⟩=some (.slice A6 Ls'.length c6)) [5] (by kernel_rfl) (by kernel_rfl) (fun _ _ h=>by have h2:=h.1;cases h2) ?_;have hSS:=hSS1;refine xJ1 (i:=0) (v:=?_) rfl (by kernel_rfl) (by kernel_rfl) (by kernel_rfl) (by kernel_rfl) (by kernel_rfl) (fun _ _ _ h=>h) (Or.inl ⟨by rfl,?_⟩) (by assumption) ?_;rotate_left
     ·(intro w hSw;(try dsimp only at hSw);go_simp;(try with_reducible rfl))
     try simp only[ap]
     refine xJ1 (i:=1) (v:=?_) rfl (by kernel_rfl) (by kernel_rfl) (by kernel_rfl) (by kernel_rfl) (by kernel_rfl) (fun _ _ _ h=>h) (Or.inl ⟨by rfl,?_⟩) (by assumption) ?_;rotate_left
     ·(intro w hSw;(try dsimp only at hSw);go_simp;(try with_reducible rfl))
     try simp only[ap]
     refine xJ1 (i:=3) (v:=?_) rfl (by kernel_rfl) (by kernel_rfl) (by kernel_rfl) (by kernel_rfl) (by kernel_rfl) (fun _ _ _ h=>h) (Or.inl ⟨by rfl,?_⟩) (by assumption) ?_;rotate_left
     ·(intro w hSw;(try dsimp only at hSw);go_simp;(try with_reducible rfl))
     try simp only[ap]
     refine xJ1 (i:=4) (v:=?_) rfl (by kernel_rfl) (by kernel_rfl) (by kernel_rfl) (by kernel_rfl) (by kernel_rfl) (fun _ _ _ h=>h) (Or.inl ⟨by rfl,?_⟩) (by assumption) ?_;rotate_left
     ·(intro w hSw;(try dsimp only at hSw);go_simp;(try with_reducible rfl))
     try simp only[ap]
     refine xJ4 (i:=2) (by kernel_rfl) rfl (fun K hK=>?_);go_simp;go_at_call 64;refine (xK1 A5 c5 nx _ (HI5.out.below bch) n HNXS.out hn24).mono ?_;rintro e w' ⟨rfl,rfl⟩
     go_wp2_with fail
     have hSS:=hSS1;refine hK.out _ _ hSS ?_;clear hK K
     try simp only[ap]
     refine xJd (i:=5) (by kernel_rfl) rfl (by kernel_rfl) (fun K hK=>?_);go_simp
     go_wp2_with fail
     refine hK.out _ _ ?_;clear hK K
     try simp only[ap]
     refine xJ8 (by kernel_rfl) ?_ _;have hKm:Kept (fun z=>z=w.heap.size+1+1) W w6:=(((Kept.refl _ W).drew).drew).grown hg6 (fun z e=>.inl (by injection e with e;exact e.symm));have hs6:=hKm.size;have hrow6:OwnSt (RX (w2.heap.size+1+1) (w.heap.size+1+1) (w2.heap.size)) (w2.heap.size) w6 (.slice A6 Ls'.length c6) Ls':=HRS'.out.row.kept hKm (fun z _ e=>.inr (.inl e)) (fun z hz e=>by subst e;exact MapG.ne_own HRS'.out.map HRS'.out.own.choose_spec hz);obtain⟨cells,hO6,hP6⟩:=hrow6;have hl6:Arr w6 (w2.heap.size+1+1) 44 [.slice A6 Ls'.length c6]:=HRS'.out.lbox.kept hKm (by omega);have hlc6:=hl6.cell 0;have hbA5:∀ ad,A5=some ad->w4.heap.size<=ad.block/\ad.block < W.heap.size:=fun ad e=>by subst e;exact HBLK.out ad.block rfl
     have hI6:Ints w6 A5 nx:=HI5.out.kept hKm (fun hr ad e e2=>by have:=(hbA5 ad e).1;omega);have hO6p:(w6.alloc (.cells #[.slice A5 nx.length c5] 22)).ownsRow (w2.heap.size) 22 1 (.slice A6 Ls'.length c6) Ls'.length cells:=xQ7 hO6 bch;have HO6:=lHd hO6p;have HP6:=lHd hP6;have HL6:=lHd hl6;have HKM:=lHd hKm;have HI6:=lHd hI6;have HM6:=lHd hM6;have HG6:=lHd hg6;have hl6s:=hl6.lt;clear hO6 hO6p hP6 hl6 hKm hI6 hM6 hg6 hrun
     gi_wp2_with (gi_at_builtin;refine xW0 rfl (.tmp 49) (.tmp 51) 44 22 (.slice none 0 0) 24 Tryz.underlying44 info_li rfl (by decide) rfl (w2.heap.size) (.slice A6 Ls'.length c6) Ls'.length cells (.slice A5 nx.length c5) rfl rfl HO6.out _ 1 rfl ?p1 (by omega) ?p3 ?_;(case p1=>simp[go_sem]);(case p3=>(simp;omega));intro g7 c7 w7 hO7 hg7 hat7;have hl7:Arr w7 (w2.heap.size+1+1) 44 [.slice A6 Ls'.length c6]:=Arr.grown (HL6.out.alloc _) hg7 (Arr.ne_own (HL6.out.alloc _) HO6.out (by decide));have hlc7:=hl7.cell 0;have hlf7:=hl7.free 0)
     have hs7:=hg7.size;simp only[World.size_alloc] at hs7;have hKall:Kept (fun z=>z=w.heap.size+1+1\/z=w2.heap.size+1+1\/(Value.slice A6 Ls'.length c6).ownBlock=some z) W (w7.setCell ⟨w2.heap.size+1+1,0,none⟩ (.slice (some ⟨g7,0,none⟩) (Ls'.length+1) c7)):=(((HKM.out.mono (fun z _ e=>.inl e)).alloc _).grown hg7 (fun z e=>.inl (.inr (.inr e)))).set (p:=⟨w2.heap.size+1+1,0,none⟩) (.inl (.inr (.inl rfl))) _;have hown':∀ z,(Value.slice A6 Ls'.length c6).ownBlock=some z->w2.heap.size<=z/\z < W.heap.size:=HRS'.out.own.choose_spec.lt;have hZb:∀ z,ScZ wr.heap.size (wr.heap.size+1) S st z->z < W.heap.size/\z≠w.heap.size+1+1/\z≠w2.heap.size+1+1:=by
      rintro z (rfl | rfl | ⟨hne,ad,e2,rfl⟩)
      ·exact⟨by omega,by omega,by omega⟩
      ·exact⟨by omega,by omega,by omega⟩
      ·have h1:=(HXS.out hne ad e2).1;have h2:ad.block < wr.heap.size:=by have h:=HIS.out;subst e2;exact xZz h hne
       exact⟨by omega,fun e=>h1 (.inr (.inl e)),fun e=>h1 (.inl e)⟩
     have hBall:Below w.heap.size W (w7.setCell ⟨w2.heap.size+1+1,0,none⟩ (.slice (some ⟨g7,0,none⟩) (Ls'.length+1) c7)):=hKall.toBelow (by rintro z (e | e | e) <;> first | omega | (have:=(hown' z e).1;omega)) (by omega);have hS7:Kept (fun z=>z=w2.heap.size+1+1) w7 (w7.setCell ⟨w2.heap.size+1+1,0,none⟩ (.slice (some ⟨g7,0,none⟩) (Ls'.length+1) c7)):=(Kept.refl (fun z=>z=w2.heap.size+1+1) w7).set (p:=⟨w2.heap.size+1+1,0,none⟩) (.inl rfl) _;have hrow7:OwnSt (RX (w2.heap.size+1+1) (w.heap.size+1+1) (w2.heap.size)) (w2.heap.size) w7 (.slice (some ⟨g7,0,none⟩) (Ls'.length+1) c7) (Ls' ++ [nx]):=OwnSt.pushed HO6.out (fun i s2 hi=>(pst_stable _).below (HP6.out i s2 hi) bch) hg7 hO7 hat7 ⟨A5,c5,rfl,HI6.out.below bch,fun hr ad e=>⟨by
       have:=(hbA5 ad e).1;rintro (h | h | h) <;> omega,fun e2=>by
       subst e;exact xVq HX.out HRS'.out.own.choose_spec (by decide) ad.block rfl e2.symm⟩⟩
     have hmap8:MapG (w7.setCell ⟨w2.heap.size+1+1,0,none⟩ (.slice (some ⟨g7,0,none⟩) (Ls'.length+1) c7)) (w.heap.size+1+1) (up1 f' (xJ0 nx) Ls'.length) (upd f' (xJ0 nx) (.int .i64 (Ls'.length:Int))):=((HM6.out.alloc (.cells #[.slice A5 nx.length c5] 22)).grown hg7 (MapG.ne_own (HM6.out.alloc _) HO6.out)).kept hS7 (by omega);refine⟨?kf,⟨hBall,fun z hz=>hKall.block z (hZb z hz).1 (by
       rintro (e | e | e)
       ·exact (hZb z hz).2.1 e
       ·exact (hZb z hz).2.2 e
       ·exact HZ.out z hz e)⟩,⟨Value.slice (some ⟨g7,0,none⟩) (Ls'.length+1) c7,Ls' ++ [nx],upd f' (xJ0 nx) (.int .i64 (Ls'.length:Int)),⟨hrow7.kept hS7 (fun z _ e=>.inl e) (fun z hz e=>by subst e;exact Arr.ne_own hl7 hO7 (by decide) hz),hl7.set_ 0 _,HRS'.out.mbox.kept hKall ?mb,?map,?seen,?nd,?sub⟩,by rw[List.length_append];have:=HK'.out;omega,HB'.out.trans hBall,?mk,HAT'.out.kept hKall ?att,HAR'.out.kept hKall ?ar,?zz⟩,by omega⟩
     case kf=>
      have hk1:KeepsFrom (wr.heap.size+1+1) W w6:=by
       have h:=KeepsFrom.of_grownBy (B:=wr.heap.size+1+1) HG6.out (fun j e=>by injection e with e;omega);exact⟨h.size,h.same⟩
      exact ((hk1.trans ((KeepsOthers.alloc w6 _).from _)).trans ((KeepsOthers.of_grownBy hg7 (fun j o e1 e2=>by obtain⟨cu,h⟩:=xXe HO6.out e1;rw[h] at e2;injection e2 with e2;rw[<- e2];rfl)).from _)).trans ((KeepsOthers.setCell w7 _ _).from _)
     case mb=>
      rintro (e | e | e)
      ·omega
      ·omega
      ·exact Arr.ne_own HRS'.out.mbox HRS'.out.own.choose_spec (by decide) e
     case map=>
      have e1:up1 f' (xJ0 nx) Ls'.length=(Ls' ++ [nx]).length:=by unfold up1;rw[HFS.out];simp
      rw[<- e1];exact hmap8
     case seen=>
      intro l hl;unfold upd
      by_cases e:l=nx
      ·subst e;simp
      ·rw[if_neg (fun e2=>e (xJi hl HNXS.out e2)),HRS'.out.seen l hl];simp[e]
     case nd=>exact List.nodup_append.2 ⟨HRS'.out.nd,by simp,fun a ha b hb e=>by simp at hb;subst hb;subst e;exact HNIN.out ha⟩
     case sub=>
      intro l hl;rcases List.mem_append.1 hl with h | h
      ·exact HRS'.out.sub l h
      ·simp at h;subst h;exact HNX.out
     case mk=>
      refine HMK.out.keep (fun D hD hd=>(hKall.block D (Array.getElem?_eq_some_iff.1 hd).1 ?_).trans hd);rintro (e | e | e)
      ·subst e;obtain⟨es,cl,ho⟩:=HRS'.out.map.obj;rw[ho] at hd;cases hd
      ·subst e;have h:=HRS'.out.lbox;unfold Arr at h;rw[h] at hd;cases hd
      ·obtain⟨cu,h⟩:=xXe HRS'.out.own.choose_spec e;rw[h] at hd;cases hd
     case att=>
      rintro (e | e | e)
      ·omega
      ·omega
      ·exact Arr.ne_own HAT'.out HRS'.out.own.choose_spec (by decide) e
     case ar=>
      rintro (e | e | e)
      ·omega
      ·omega
      ·exact Arr.ne_own HAR'.out HRS'.out.own.choose_spec (by decide) e
     case zz=>
      intro z hz e;have e:g7=z:=by injection e
      subst e;rcases hat7 with h | h
      ·exact HZ.out g7 hz h
      ·have:=(hZb _ hz).1;simp at h;omega
   case hdone=>
    intro D xs W hD hi hDh;obtain⟨⟨vl,Ls',f',hRS',hk',hB',hmk',hAt',hAr',hZ'⟩,hsz⟩:=hi;have HMK:=lHd (hmk'.cons hDh (by omega) (hM4.lt hD));go_wp2;refine Handed.intro (2001 - (k+1)) ?measure (HHJ.out _ _ _ ⟨xWu D :: ds,.int .i64 ((k:Int)+1),zJ7 ⟨k+1,by go_num,⟨vl,Ls',f',hRS',hk',hB',HMK.out,hAt',hAr',fun z h=>h.elim⟩,rfl⟩ rfl⟩)
    case measure=>have:=HGK.out.out;omega
  ·go_wp2
   (try simp only[Exit.inBlock,Exit.then])
   have HM2:MarksOk w.heap.size ds (wr.setCell ⟨w.heap.size+1,0,none⟩ (.int .i64 (Ls.length:Int))):=HM.out.set_ _ _;refine xZs (v:=.int .i64 (Ls.length:Int)) HM2 (fun W' h'=>⟨?_,(HB.out.setCell (p:=⟨w.heap.size+1,0,none⟩) (by show w.heap.size<=w.heap.size+1;omega) _).trans h'.below,Ls.length,rfl⟩);have hc:W'.cell? ⟨w.heap.size+1,0,none⟩=some (.int .i64 (Ls.length:Int)):=h'.cells (HAR.out.set_ 0 _ |>.cell 0);simp[results,Tryz.results22,go_sem,hc]
end
def vK7(n:Nat)(t:TaskV)(w:World)(e:Ending)(w':World):Prop:=Below w.heap.size w w' /\
 (
   (∃ x:Int,e=.returned (.tuple #[.agg #[.bool false,.slice none 0 0,.int .i64 0,.int .i64 x],.agg #[.int .i64 0,.int .i64 0]])/\∀ ps,¬ Fp n t.ops t.goal t.init ps) \/
   ∃ (v:Option Addr) (v1 v2:Nat) (c x:Int) (ps:List Nat),e=.returned (.tuple #[.agg #[.bool true,.slice v v1 v2,.int .i64 c,.int .i64 x],.agg #[.int .i64 0,.int .i64 0]])/\Fp n t.ops t.goal t.init ps/\xJ6 (t.ops.map (·.cost)) ps=c/\∀ qs,Fp n t.ops t.goal t.init qs->c<=xJ6 (t.ops.map (·.cost)) qs)
theorem cplan_any(w:World)(t:TaskV)(Ai Ag Ao:Option Addr)(ci cg co:Nat)(hT:TaskMem w Ai Ag Ao t)(hR:OpsRead w Ao t.ops)(n:Nat)(hn:t.facts=n)(hv:Valid t)(ls:List (List Int))(hC:Clos n t.ops t.init ls)(hls:ls.length<=2000) :
  Calls Tryz.prog 7 #[.agg #[.int .i64 t.facts,.slice Ai t.init.length ci,.slice Ag t.goal.length cg,.slice Ao t.ops.length co]] w (vK7 n t w):=by
 have HT0:=lHd (xZ8 hv);have HS:∀ w0:World,TaskMem w0 Ai Ag Ao t->OpsRead w0 Ao t.ops->Calls Tryz.prog 23 #[.agg #[.int .i64 t.facts,.slice Ai t.init.length ci,.slice Ag t.goal.length cg,.slice Ao t.ops.length co]] w0 (vYi n t w0):=fun w0 h1 h2=>vYk w0 t Ai Ag Ao ci cg co h1 h2 n hn hv ls hC hls
 have HE:∀ w0:World,TaskMem w0 Ai Ag Ao t->OpsRead w0 Ao t.ops->Calls Tryz.prog 22 #[.agg #[.int .i64 t.facts,.slice Ai t.init.length ci,.slice Ag t.goal.length cg,.slice Ao t.ops.length co]] w0 (ReachP w0):=fun w0 h1 h2=>creach_any w0 t Ai Ag Ao ci cg co h1 h2 n hn hv ls hC hls
 have HT:=lHd hT;have HR:=lHd hR;clear hv hT hR hC hls hn;go_enter Tryz.func7,Tryz.ntmps7
 go_wp2_with fail
 refine (xXq _ _ _ _ _ _ _ _ (HT.out.below bch)).mono ?_;rintro e w1 ⟨he,hB1⟩;rw[HT0.out] at he;subst he;have D1:=xJ3 w hB1 bch;have C1:=Cls.below (l:=[(w.heap.size,0,.int .i64 t.facts),(w.heap.size,1,.slice Ai t.init.length ci),(w.heap.size,2,.slice Ag t.goal.length cg),(w.heap.size,3,.slice Ao t.ops.length co),(w.heap.size+1,0,.bool false),(w.heap.size+1,1,.slice none 0 0),(w.heap.size+1,2,.int .i64 0),(w.heap.size+1,3,.int .i64 0),(w.heap.size+1+1,0,.int .i64 0),(w.heap.size+1+1,1,.int .i64 0)]) hB1 (by simp[Cls,go_sem]);have F1:=C1;simp only[Cls,and_true] at F1;have y1w2:w.heap.size+1+1 < w1.heap.size:=C1.blk (b:=w.heap.size+1+1) (k:=0) (v:=.int .i64 0) (by simp);have y1w1:w.heap.size+1 < w1.heap.size:=(by omega);have y1w0:w.heap.size < w1.heap.size:=(by omega)
 go_wp2_with fail
 go_at_call 22;refine (HE _ (HT.out.below bch) (HR.out.below bch)).mono ?_;rintro e w2 ⟨hB2,m,rfl⟩;have D2:=xJ3 w hB2 bch;have C2:=Cls.below (l:=[(w.heap.size,0,.int .i64 t.facts),(w.heap.size,1,.slice Ai t.init.length ci),(w.heap.size,2,.slice Ag t.goal.length cg),(w.heap.size,3,.slice Ao t.ops.length co),(w.heap.size+1,0,.bool false),(w.heap.size+1,1,.slice none 0 0),(w.heap.size+1,2,.int .i64 0),(w.heap.size+1,3,.int .i64 0),(w.heap.size+1+1,0,.int .i64 0),(w.heap.size+1+1,1,.int .i64 0),(w1.heap.size,0,.int .i64 0),(w1.heap.size,1,.int .i64 0)]) hB2 (by simp[Cls,go_sem,F1,y1w2,y1w1,y1w0]);have F2:=C2;simp only[Cls,and_true] at F2;have y2w2:w.heap.size+1+1 < w2.heap.size:=C2.blk (b:=w.heap.size+1+1) (k:=0) (v:=.int .i64 0) (by simp);have y2w10:w1.heap.size < w2.heap.size:=C2.blk (b:=w1.heap.size) (k:=0) (v:=.int .i64 0) (by simp);have g2:decide ((m:Int) < 0)=false:=decide_eq_false (by omega)
 go_wp2_with fail
 go_at_call 23;refine (HS _ (HT.out.below bch) (HR.out.below bch)).mono ?_;rintro e w3 ⟨hB3,hr3⟩;have D3:=xJ3 w hB3 bch;have C3:=Cls.below (l:=[(w.heap.size,0,.int .i64 t.facts),(w.heap.size,1,.slice Ai t.init.length ci),(w.heap.size,2,.slice Ag t.goal.length cg),(w.heap.size,3,.slice Ao t.ops.length co),(w.heap.size+1,0,.bool false),(w.heap.size+1,1,.slice none 0 0),(w.heap.size+1,2,.int .i64 0),(w.heap.size+1,3,.int .i64 0),(w.heap.size+1+1,0,.int .i64 0),(w.heap.size+1+1,1,.int .i64 0),(w1.heap.size,0,.int .i64 0),(w1.heap.size,1,.int .i64 0)]) hB3 (by simp[Cls,go_sem,F2,y2w2,y2w10]);have F3:=C3;simp only[Cls,and_true] at F3;have y3w2:w.heap.size+1+1 < w3.heap.size:=C3.blk (b:=w.heap.size+1+1) (k:=0) (v:=.int .i64 0) (by simp);have y3w10:w1.heap.size < w3.heap.size:=C3.blk (b:=w1.heap.size) (k:=0) (v:=.int .i64 0) (by simp);rcases hr3 with ⟨x,rfl,hno⟩ | ⟨v,v1,v2,c,x,ps,rfl,hf,hc,hle⟩
 ·go_wp2_with fail
  refine bodyPost_ret (v:=.tuple #[.agg #[.bool false,.slice none 0 0,.int .i64 0,.int .i64 x],.agg #[.int .i64 0,.int .i64 0]]) ?_ rfl ⟨bch,.inl ⟨x,rfl,hno⟩⟩;simp[results,Tryz.results7,go_sem,F3,y3w2,y3w10]
 ·have HF:=lHd hf;clear hf
  go_wp2_with fail
  refine bodyPost_ret (v:=.tuple #[.agg #[.bool true,.slice v v1 v2,.int .i64 c,.int .i64 x],.agg #[.int .i64 0,.int .i64 0]]) ?_ rfl ⟨bch,.inr ⟨v,v1,v2,c,x,ps,rfl,HF.out,hc,hle⟩⟩;simp[results,Tryz.results7,go_sem,F3,y3w2,y3w10]
section
variable {P:Program}{ops:Array Oper}{Q:Exit->Act->World->Prop}{md:Region.Mode}{S:World->Prop}{X:List Nat}
theorem xYb{i j:Nat}{oi oj:Oper}{fuel:Nat}{listed:Array Bool}{a:Act}{w:World}(hr:Region.ready md ops listed=[i,j])(hi:ops[i]? = some oi)(hj:ops[j]? = some oj)
  (h1:∀ K':Act->World->Prop,Shut (∀ a w,S w->xJx P md ops Q S X fuel (listed.setIfInBounds i true) a w->K' a w)->if Region.wanted oi (yielded ops a.tmps)=true then Oper.wp P oi a w K' Q else K' (a.put oi.dst undef) w)
  (h2:∀ K':Act->World->Prop,Shut (∀ a w,S w->xJx P md ops Q S X fuel (listed.setIfInBounds j true) a w->K' a w)->if Region.wanted oj (yielded ops a.tmps)=true then Oper.wp P oj a w K' Q else K' (a.put oj.dst undef) w) :
  xJx P md ops Q S X (fuel+1) listed a w:=by
 refine⟨fun h0=>absurd (hr ▸ h0) (by simp),fun k hk=>?_⟩;rw[hr] at hk;rcases List.mem_cons.1 hk with rfl | hk
 ·exact wpOp_step hi (fun K' hK=>h1 K' (fun a w hS hW=>hK a w ⟨fun _=>hS,hW⟩))
 ·obtain rfl:=List.mem_singleton.1 hk;exact wpOp_step hj (fun K' hK=>h2 K' (fun a w hS hW=>hK a w ⟨fun _=>hS,hW⟩))
end
def vKs(t:TaskV)(w:World)(e:Ending)(w':World):Prop:=Below w.heap.size w w'/\∃ (B1 B2 B3:Option Addr) (b1 b2 b3:Nat) (F:List Int) (R:List Nat) (v3 v4:Value),e=.returned (.tuple #[.agg #[.int .i64 (F.length:Int),.slice B1 (rsV F t.init).length b1,.slice B2 (rsV F t.goal).length b2,.slice B3 R.length b3],v3,v4,.agg #[.int .i64 0,.int .i64 0]]) /\
 TaskMem w' B1 B2 B3 (xJl t F R)/\RelV t F R
theorem vJm(w:World)(t:TaskV)(Ai Ag Ao:Option Addr)(ci cg co:Nat)(hT:TaskMem w Ai Ag Ao t)(hR:OpsRead w Ao t.ops)(hv:Valid t) :
  Calls Tryz.prog 8 #[.agg #[.int .i64 t.facts,.slice Ai t.init.length ci,.slice Ag t.goal.length cg,.slice Ao t.ops.length co]] w (vKs t w):=by
 have HT0:=lHd (xZ8 hv);have HV:=lHd hv;have HT:=lHd hT;have HR:=lHd hR;have hil:t.init.length<=1000000:=by have:=hv.init.length hv.f0;have:=hv.f1;omega
 have hgl:t.goal.length<=1000000:=by have:=hv.goal.length hv.f0;have:=hv.f1;omega
 clear hv hT hR;go_enter Tryz.func8,Tryz.ntmps8
 go_wp2_with fail
 refine (xXq _ _ _ _ _ _ _ _ (HT.out.below bch)).mono ?_;rintro e w1 ⟨he,hB1⟩;rw[HT0.out] at he;subst he;have D1:=xJ3 w hB1 bch;have C1:=Cls.below (l:=[(w.heap.size,0,.int .i64 t.facts),(w.heap.size,1,.slice Ai t.init.length ci),(w.heap.size,2,.slice Ag t.goal.length cg),(w.heap.size,3,.slice Ao t.ops.length co),(w.heap.size+1,0,.int .i64 0),(w.heap.size+1,1,.slice none 0 0),(w.heap.size+1,2,.slice none 0 0),(w.heap.size+1,3,.slice none 0 0),(w.heap.size+1+1,0,.int .i64 0),(w.heap.size+1+1,1,.int .i64 0)]) hB1 (by simp[Cls,go_sem]);have F1:=C1;simp only[Cls,and_true] at F1;have y1w2:w.heap.size+1+1 < w1.heap.size:=C1.blk (b:=w.heap.size+1+1) (k:=0) (v:=.int .i64 0) (by simp);have y1w1:w.heap.size+1 < w1.heap.size:=(by omega);have y1w0:w.heap.size < w1.heap.size:=(by omega)
 go_wp2_with fail
 refine (zXt _ t Ai Ag Ao ci cg co (HT.out.below bch) (HR.out.below bch) HV.out).mono ?_;rintro e w2 ⟨hB2,A,A',c,c',F,R,rfl,hIF0,hIR0,hRel⟩;have D2:=xJ3 w hB2 bch;have C2:=Cls.below (l:=[(w.heap.size,0,.int .i64 t.facts),(w.heap.size,1,.slice Ai t.init.length ci),(w.heap.size,2,.slice Ag t.goal.length cg),(w.heap.size,3,.slice Ao t.ops.length co),(w.heap.size+1,0,.int .i64 0),(w.heap.size+1,1,.slice none 0 0),(w.heap.size+1,2,.slice none 0 0),(w.heap.size+1,3,.slice none 0 0),(w.heap.size+1+1,0,.int .i64 0),(w.heap.size+1+1,1,.int .i64 0),(w1.heap.size,0,.int .i64 0),(w1.heap.size,1,.int .i64 0)]) hB2 (by simp[Cls,go_sem,F1,y1w2,y1w1,y1w0]);have F2:=C2;simp only[Cls,and_true] at F2;have y2w2:w.heap.size+1+1 < w2.heap.size:=C2.blk (b:=w.heap.size+1+1) (k:=0) (v:=.int .i64 0) (by simp);have y2w1:w.heap.size+1 < w2.heap.size:=(by omega);have y2w0:w.heap.size < w2.heap.size:=(by omega);have y2w10:w1.heap.size < w2.heap.size:=C2.blk (b:=w1.heap.size) (k:=0) (v:=.int .i64 0) (by simp);have HREL:=lHd hRel;have hIF:=lHd hIF0;have hIR:=lHd hIR0;have hFl:F.length<=1000000000000:=by have:=hRel.flen HV.out;omega
 have HFS:=lHd hRel.set.pairwise;clear hRel hIF0 hIR0
 go_wp2_with fail
 go_cut [9] (fun s9 wx=>∃ ob B1 b1 B2 b2,s9=.pointer (some ⟨ob,0,none⟩)/\w2.heap.size<=ob/\ob < wx.heap.size/\Ints wx B1 (rsV F t.init)/\Ints wx B2 (rsV F t.goal)/\Hid (∀ ad,B1=some ad\/B2=some ad->w2.heap.size<=ad.block/\ad.block < wx.heap.size/\ad.block≠ob)/\Below w2.heap.size w2 wx/\Cls wx [(ob,0,.int .i64 (F.length:Int)),(ob,1,.slice B1 (rsV F t.init).length b1),(ob,2,.slice B2 (rsV F t.goal).length b2),(ob,3,.slice none 0 0)])
 case first=>
  refine xJk (fun W=>W.cell? ⟨w.heap.size,1,none⟩=some (.slice Ai t.init.length ci)/\W.cell? ⟨w.heap.size,2,none⟩=some (.slice Ag t.goal.length cg)) [12] (by kernel_rfl) ?_;have hSS:w2.drew.cell? ⟨w.heap.size,1,none⟩=some (.slice Ai t.init.length ci)/\w2.drew.cell? ⟨w.heap.size,2,none⟩=some (.slice Ag t.goal.length cg):=(by simp[F2]);refine xJ1 (i:=0) (v:=?vt1x0) rfl (by kernel_rfl) (by kernel_rfl) (by kernel_rfl) (by kernel_rfl) (by kernel_rfl) (fun _ _ _ h=>h) (Or.inl ⟨by rfl,?ht1x0⟩) (by assumption) ?rt1x0
  case ht1x0=>(intro w hSw;(try dsimp only at hSw);go_simp;(try with_reducible rfl))
  try simp only[ap]
  refine xJ1 (i:=1) (v:=?vt2x1) rfl (by kernel_rfl) (by kernel_rfl) (by kernel_rfl) (by kernel_rfl) (by kernel_rfl) (fun _ _ _ h=>h) (Or.inl ⟨by rfl,?ht2x1⟩) (by assumption) ?rt2x1
  case ht2x1=>(intro w hSw;(try dsimp only at hSw);go_simp;(try with_reducible rfl))
  try simp only[ap]
  refine xJ1 (i:=2) (v:=?vt3x2) rfl (by kernel_rfl) (by kernel_rfl) (by kernel_rfl) (by kernel_rfl) (by kernel_rfl) (fun _ _ _ h=>h) (Or.inl ⟨by rfl,?ht3x2⟩) (by assumption) ?rt3x2
  case ht3x2=>(intro w hSw;(try dsimp only at hSw);go_simp;(try with_reducible rfl))
  try simp only[ap]
  refine xJ1 (i:=3) (v:=?vt4x3) rfl (by kernel_rfl) (by kernel_rfl) (by kernel_rfl) (by kernel_rfl) (by kernel_rfl) (fun _ _ _ h=>h) (Or.inl ⟨by rfl,?ht4x3⟩) (by assumption) ?rt4x3
  case ht4x3=>(intro w hSw;(try dsimp only at hSw);go_simp;(try with_reducible rfl))
  try simp only[ap]
  refine xJ1 (i:=4) (v:=?vt5x4) rfl (by kernel_rfl) (by kernel_rfl) (by kernel_rfl) (by kernel_rfl) (by kernel_rfl) (fun _ _ _ h=>h) (Or.inl ⟨by rfl,?ht5x4⟩) (by assumption) ?rt5x4
  case ht5x4=>(intro w hSw;(try dsimp only at hSw);go_simp;(try with_reducible rfl))
  try simp only[ap]
  refine xJ1 (i:=6) (v:=?vt6x6) rfl (by kernel_rfl) (by kernel_rfl) (by kernel_rfl) (by kernel_rfl) (by kernel_rfl) (fun _ _ _ h=>h) (Or.inl ⟨by rfl,?ht6x6⟩) (by assumption) ?rt6x6
  case ht6x6=>(intro w hSw;(try dsimp only at hSw);go_simp;(try with_reducible rfl))
  try simp only[ap]
  refine xJ1 (i:=7) (v:=?vt7x7) rfl (by kernel_rfl) (by kernel_rfl) (by kernel_rfl) (by kernel_rfl) (by kernel_rfl) (fun _ _ _ h=>h) (Or.inl ⟨by rfl,?ht7x7⟩) (by assumption) ?rt7x7
  case ht7x7=>(intro w hSw;(try dsimp only at hSw);go_simp;(try with_reducible rfl))
  try simp only[ap]
  refine xJ1 (i:=8) (v:=?vt8x8) rfl (by kernel_rfl) (by kernel_rfl) (by kernel_rfl) (by kernel_rfl) (by kernel_rfl) (fun _ _ _ h=>h) (Or.inl ⟨by rfl,?ht8x8⟩) (by assumption) ?rt8x8
  case ht8x8=>(intro w hSw;(try dsimp only at hSw);go_simp;(try with_reducible rfl))
  try simp only[ap]
  refine xYb (i:=5) (j:=11) (by kernel_rfl) rfl rfl (fun K hK=>?b9c) (fun K hK=>?b9a)
  case b9c=>
   go_simp;go_at_call 25;refine (xJs _ A c F (hIF.out.below bch) hFl HFS _ _ _ (HT.out.init.below bch) hil).mono ?_;rintro e w3 ⟨v5,rfl,hO5,hB3⟩;have D3:=xJ3 w hB3 bch;have Ew2_3:=xJ3 w2 hB3 bch;have C3:=Cls.below (l:=[(w.heap.size,0,.int .i64 t.facts),(w.heap.size,1,.slice Ai t.init.length ci),(w.heap.size,2,.slice Ag t.goal.length cg),(w.heap.size,3,.slice Ao t.ops.length co),(w.heap.size+1,0,.int .i64 0),(w.heap.size+1,1,.slice none 0 0),(w.heap.size+1,2,.slice none 0 0),(w.heap.size+1,3,.slice none 0 0),(w.heap.size+1+1,0,.int .i64 0),(w.heap.size+1+1,1,.int .i64 0)]) hB3 (by simp[Cls,go_sem,F2,y2w2,y2w1,y2w0,y2w10]);have F3:=C3;simp only[Cls,and_true] at F3;have y3w2:w.heap.size+1+1 < w3.heap.size:=C3.blk (b:=w.heap.size+1+1) (k:=0) (v:=.int .i64 0) (by simp);have y3w1:w.heap.size+1 < w3.heap.size:=(by omega);have y3w0:w.heap.size < w3.heap.size:=(by omega);have hz3:=hB3.size
   (try simp at hz3)
   obtain⟨B1,b1,hv5,-,hI5⟩:=hO5.form;subst hv5;have hb5:=hO5.blk_
   (first | simp at hb5 | skip)
   have hSS:w3.cell? ⟨w.heap.size,1,none⟩=some (.slice Ai t.init.length ci)/\w3.cell? ⟨w.heap.size,2,none⟩=some (.slice Ag t.goal.length cg):=(by have q:=C3;simp only[Cls,and_true] at q;simp[q])
   go_wp2_with fail
   refine hK.out _ _ hSS ?_;clear hK K
   try simp only[ap]
   refine xYb (i:=9) (j:=11) (by kernel_rfl) rfl rfl (fun K hK=>?b10c) (fun K hK=>?b10a)
   case b10c=>
    go_simp;go_at_call 25;refine (xJs _ A c F (hIF.out.below bch) hFl HFS _ _ _ (HT.out.goal.below bch) hgl).mono ?_;rintro e w4 ⟨v9,rfl,hO9,hB4⟩;have D4:=xJ3 w hB4 bch;have Ew2_4:=xJ3 w2 hB4 bch;have Ew3_4:=xJ3 w3 hB4 bch;have C4:=Cls.below (l:=[(w.heap.size,0,.int .i64 t.facts),(w.heap.size,1,.slice Ai t.init.length ci),(w.heap.size,2,.slice Ag t.goal.length cg),(w.heap.size,3,.slice Ao t.ops.length co),(w.heap.size+1,0,.int .i64 0),(w.heap.size+1,1,.slice none 0 0),(w.heap.size+1,2,.slice none 0 0),(w.heap.size+1,3,.slice none 0 0),(w.heap.size+1+1,0,.int .i64 0),(w.heap.size+1+1,1,.int .i64 0)]) hB4 (by simp[Cls,go_sem,F3,y3w2,y3w1,y3w0]);have F4:=C4;simp only[Cls,and_true] at F4;have y4w2:w.heap.size+1+1 < w4.heap.size:=C4.blk (b:=w.heap.size+1+1) (k:=0) (v:=.int .i64 0) (by simp);have y4w0:w.heap.size < w4.heap.size:=(by omega);have hz4:=hB4.size
    (try simp at hz4)
    obtain⟨B2,b2,hv9,-,hI9⟩:=hO9.form;subst hv9;have hb9:=hO9.blk_
    (first | simp at hb9 | skip)
    have hSS:w4.cell? ⟨w.heap.size,1,none⟩=some (.slice Ai t.init.length ci)/\w4.cell? ⟨w.heap.size,2,none⟩=some (.slice Ag t.goal.length cg):=(by have q:=C4;simp only[Cls,and_true] at q;simp[q])
    go_wp2_with fail
    refine hK.out _ _ hSS ?_;clear hK K
    try simp only[ap]
    refine xJ1 (i:=10) (v:=?vt11x10) rfl (by kernel_rfl) (by kernel_rfl) (by kernel_rfl) (by kernel_rfl) (by kernel_rfl) (fun _ _ _ h=>h) (Or.inl ⟨by rfl,?ht11x10⟩) (by assumption) ?rt11x10
    case ht11x10=>(intro w hSw;(try dsimp only at hSw);go_simp;(try with_reducible rfl))
    try simp only[ap]
    refine xJ4 (i:=11) (by kernel_rfl) rfl (fun K hK=>?_);go_simp;have hSS:(w4.alloc (.cells #[.int .i64 0,.slice none 0 0,.slice none 0 0,.slice none 0 0] 25)).cell? ⟨w.heap.size,1,none⟩=some (.slice Ai t.init.length ci)/\(w4.alloc (.cells #[.int .i64 0,.slice none 0 0,.slice none 0 0,.slice none 0 0] 25)).cell? ⟨w.heap.size,2,none⟩=some (.slice Ag t.goal.length cg):=(by simp[go_sem,F4,y4w2,y4w0])
    go_wp2_with fail
    refine hK.out _ _ hSS ?_;clear hK K
    try simp only[ap]
    refine xJd (i:=12) (by kernel_rfl) rfl (by kernel_rfl) (fun K hK=>?_);go_simp
    go_wp2_with fail
    refine hK.out _ _ ?_;clear hK K
    try simp only[ap]
    refine xJ8 (by kernel_rfl) ?_ _
    go_wp2_with fail
    go_meet
    have hne5:∀ ad,B1=some ad->ad.block≠w4.heap.size:=fun ad he=>(by have:=hb5 ad he;omega)
    have hne9:∀ ad,B2=some ad->ad.block≠w4.heap.size:=fun ad he=>(by have:=hb9 ad he;omega)
    exact⟨w4.heap.size,B1,b1,B2,b2,rfl,(by omega),(by (first | omega | (simp <;> omega))),(hI5.below (w':=(w4.alloc (.cells #[.int .i64 (F.length:Int),.slice B1 (rsV F t.init).length b1,.slice B2 (rsV F t.goal).length b2,.slice none 0 0] 25))) bch),(hI9.below (w':=(w4.alloc (.cells #[.int .i64 (F.length:Int),.slice B1 (rsV F t.init).length b1,.slice B2 (rsV F t.goal).length b2,.slice none 0 0] 25))) bch),lHd (fun ad h=>by rcases h with h | h;exact⟨by have:=hb5 ad h;omega,by have:=hb5 ad h;(first | omega | (simp <;> omega)),hne5 ad h⟩;exact⟨by have:=hb9 ad h;omega,by have:=hb9 ad h;(first | omega | (simp <;> omega)),hne9 ad h⟩),bch,(by simp[Cls,go_sem,F4,y4w2,y4w0])⟩
   case b10a=>
    go_simp;have hSS:(w3.alloc (.cells #[.int .i64 0,.slice none 0 0,.slice none 0 0,.slice none 0 0] 25)).cell? ⟨w.heap.size,1,none⟩=some (.slice Ai t.init.length ci)/\(w3.alloc (.cells #[.int .i64 0,.slice none 0 0,.slice none 0 0,.slice none 0 0] 25)).cell? ⟨w.heap.size,2,none⟩=some (.slice Ag t.goal.length cg):=(by simp[go_sem,F3,y3w2,y3w1,y3w0])
    go_wp2_with fail
    refine hK.out _ _ hSS ?_;clear hK K
    try simp only[ap]
    refine xJ4 (i:=9) (by kernel_rfl) rfl (fun K hK=>?_);go_simp;go_at_call 25;refine (xJs _ A c F (hIF.out.below bch) hFl HFS _ _ _ (HT.out.goal.below bch) hgl).mono ?_;rintro e w4 ⟨v9,rfl,hO9,hB4⟩;have D4:=xJ3 w hB4 bch;have Ew2_4:=xJ3 w2 hB4 bch;have Ew3_4:=xJ3 w3 hB4 bch;have C4:=Cls.below (l:=[(w.heap.size,0,.int .i64 t.facts),(w.heap.size,1,.slice Ai t.init.length ci),(w.heap.size,2,.slice Ag t.goal.length cg),(w.heap.size,3,.slice Ao t.ops.length co),(w.heap.size+1,0,.int .i64 0),(w.heap.size+1,1,.slice none 0 0),(w.heap.size+1,2,.slice none 0 0),(w.heap.size+1,3,.slice none 0 0),(w.heap.size+1+1,0,.int .i64 0),(w.heap.size+1+1,1,.int .i64 0),(w3.heap.size,0,.int .i64 0),(w3.heap.size,1,.slice none 0 0),(w3.heap.size,2,.slice none 0 0),(w3.heap.size,3,.slice none 0 0)]) hB4 (by simp[Cls,go_sem,F3,y3w2,y3w1,y3w0]);have F4:=C4;simp only[Cls,and_true] at F4;have y4w2:w.heap.size+1+1 < w4.heap.size:=C4.blk (b:=w.heap.size+1+1) (k:=0) (v:=.int .i64 0) (by simp);have y4w0:w.heap.size < w4.heap.size:=(by omega);have y4w30:w3.heap.size < w4.heap.size:=C4.blk (b:=w3.heap.size) (k:=0) (v:=.int .i64 0) (by simp);have hz4:=hB4.size
    (try simp at hz4)
    obtain⟨B2,b2,hv9,-,hI9⟩:=hO9.form;subst hv9;have hb9:=hO9.blk_
    (first | simp at hb9 | skip)
    have hSS:w4.cell? ⟨w.heap.size,1,none⟩=some (.slice Ai t.init.length ci)/\w4.cell? ⟨w.heap.size,2,none⟩=some (.slice Ag t.goal.length cg):=(by have q:=C4;simp only[Cls,and_true] at q;simp[q])
    go_wp2_with fail
    refine hK.out _ _ hSS ?_;clear hK K
    try simp only[ap]
    refine xJ1 (i:=10) (v:=?vt12x10) rfl (by kernel_rfl) (by kernel_rfl) (by kernel_rfl) (by kernel_rfl) (by kernel_rfl) (fun _ _ _ h=>h) (Or.inl ⟨by rfl,?ht12x10⟩) (by assumption) ?rt12x10
    case ht12x10=>(intro w hSw;(try dsimp only at hSw);go_simp;(try with_reducible rfl))
    try simp only[ap]
    refine xJd (i:=12) (by kernel_rfl) rfl (by kernel_rfl) (fun K hK=>?_);go_simp
    go_wp2_with fail
    refine hK.out _ _ ?_;clear hK K
    try simp only[ap]
    refine xJ8 (by kernel_rfl) ?_ _
    go_wp2_with fail
    go_meet
    have hne5:∀ ad,B1=some ad->ad.block≠w3.heap.size:=fun ad he=>(by have:=hb5 ad he;omega)
    have hne9:∀ ad,B2=some ad->ad.block≠w3.heap.size:=fun ad he=>(by have:=hb9 ad he;omega)
    exact⟨w3.heap.size,B1,b1,B2,b2,rfl,(by omega),(by (first | omega | (simp <;> omega))),(((((hI5.below (w':=w4) bch).far (p:=⟨w3.heap.size,0,none⟩) hne5 _).far (p:=⟨w3.heap.size,1,none⟩) hne5 _).far (p:=⟨w3.heap.size,2,none⟩) hne5 _).far (p:=⟨w3.heap.size,3,none⟩) hne5 _),(((((hI9.below (w':=w4) bch).far (p:=⟨w3.heap.size,0,none⟩) hne9 _).far (p:=⟨w3.heap.size,1,none⟩) hne9 _).far (p:=⟨w3.heap.size,2,none⟩) hne9 _).far (p:=⟨w3.heap.size,3,none⟩) hne9 _),lHd (fun ad h=>by rcases h with h | h;exact⟨by have:=hb5 ad h;omega,by have:=hb5 ad h;(first | omega | (simp <;> omega)),hne5 ad h⟩;exact⟨by have:=hb9 ad h;omega,by have:=hb9 ad h;(first | omega | (simp <;> omega)),hne9 ad h⟩),bch,(by simp[Cls,go_sem,F4,y4w2,y4w0,y4w30])⟩
  case b9a=>
   go_simp;have hSS:(w2.drew.alloc (.cells #[.int .i64 0,.slice none 0 0,.slice none 0 0,.slice none 0 0] 25)).cell? ⟨w.heap.size,1,none⟩=some (.slice Ai t.init.length ci)/\(w2.drew.alloc (.cells #[.int .i64 0,.slice none 0 0,.slice none 0 0,.slice none 0 0] 25)).cell? ⟨w.heap.size,2,none⟩=some (.slice Ag t.goal.length cg):=(by simp[go_sem,F2,y2w2,y2w1,y2w0,y2w10])
   go_wp2_with fail
   refine hK.out _ _ hSS ?_;clear hK K
   try simp only[ap]
   refine xJ4 (i:=5) (by kernel_rfl) rfl (fun K hK=>?_);go_simp;go_at_call 25;refine (xJs _ A c F (hIF.out.below bch) hFl HFS _ _ _ (HT.out.init.below bch) hil).mono ?_;rintro e w3 ⟨v5,rfl,hO5,hB3⟩;have D3:=xJ3 w hB3 bch;have Ew2_3:=xJ3 w2 hB3 bch;have C3:=Cls.below (l:=[(w.heap.size,0,.int .i64 t.facts),(w.heap.size,1,.slice Ai t.init.length ci),(w.heap.size,2,.slice Ag t.goal.length cg),(w.heap.size,3,.slice Ao t.ops.length co),(w.heap.size+1,0,.int .i64 0),(w.heap.size+1,1,.slice none 0 0),(w.heap.size+1,2,.slice none 0 0),(w.heap.size+1,3,.slice none 0 0),(w.heap.size+1+1,0,.int .i64 0),(w.heap.size+1+1,1,.int .i64 0),(w2.heap.size,0,.int .i64 0),(w2.heap.size,1,.slice none 0 0),(w2.heap.size,2,.slice none 0 0),(w2.heap.size,3,.slice none 0 0)]) hB3 (by simp[Cls,go_sem,F2,y2w2,y2w1,y2w0,y2w10]);have F3:=C3;simp only[Cls,and_true] at F3;have y3w2:w.heap.size+1+1 < w3.heap.size:=C3.blk (b:=w.heap.size+1+1) (k:=0) (v:=.int .i64 0) (by simp);have y3w1:w.heap.size+1 < w3.heap.size:=(by omega);have y3w0:w.heap.size < w3.heap.size:=(by omega);have y3w20:w2.heap.size < w3.heap.size:=C3.blk (b:=w2.heap.size) (k:=0) (v:=.int .i64 0) (by simp);have hz3:=hB3.size
   (try simp at hz3)
   obtain⟨B1,b1,hv5,-,hI5⟩:=hO5.form;subst hv5;have hb5:=hO5.blk_
   (first | simp at hb5 | skip)
   have hSS:w3.cell? ⟨w.heap.size,1,none⟩=some (.slice Ai t.init.length ci)/\w3.cell? ⟨w.heap.size,2,none⟩=some (.slice Ag t.goal.length cg):=(by have q:=C3;simp only[Cls,and_true] at q;simp[q])
   go_wp2_with fail
   refine hK.out _ _ hSS ?_;clear hK K
   try simp only[ap]
   refine xJ4 (i:=9) (by kernel_rfl) rfl (fun K hK=>?_);go_simp;go_at_call 25;refine (xJs _ A c F (hIF.out.below bch) hFl HFS _ _ _ (HT.out.goal.below bch) hgl).mono ?_;rintro e w4 ⟨v9,rfl,hO9,hB4⟩;have D4:=xJ3 w hB4 bch;have Ew2_4:=xJ3 w2 hB4 bch;have Ew3_4:=xJ3 w3 hB4 bch;have C4:=Cls.below (l:=[(w.heap.size,0,.int .i64 t.facts),(w.heap.size,1,.slice Ai t.init.length ci),(w.heap.size,2,.slice Ag t.goal.length cg),(w.heap.size,3,.slice Ao t.ops.length co),(w.heap.size+1,0,.int .i64 0),(w.heap.size+1,1,.slice none 0 0),(w.heap.size+1,2,.slice none 0 0),(w.heap.size+1,3,.slice none 0 0),(w.heap.size+1+1,0,.int .i64 0),(w.heap.size+1+1,1,.int .i64 0),(w2.heap.size,0,.int .i64 0),(w2.heap.size,1,.slice none 0 0),(w2.heap.size,2,.slice none 0 0),(w2.heap.size,3,.slice none 0 0)]) hB4 (by simp[Cls,go_sem,F3,y3w2,y3w1,y3w0,y3w20]);have F4:=C4;simp only[Cls,and_true] at F4;have y4w2:w.heap.size+1+1 < w4.heap.size:=C4.blk (b:=w.heap.size+1+1) (k:=0) (v:=.int .i64 0) (by simp);have y4w0:w.heap.size < w4.heap.size:=(by omega);have y4w20:w2.heap.size < w4.heap.size:=C4.blk (b:=w2.heap.size) (k:=0) (v:=.int .i64 0) (by simp);have hz4:=hB4.size
   (try simp at hz4)
   obtain⟨B2,b2,hv9,-,hI9⟩:=hO9.form;subst hv9;have hb9:=hO9.blk_
   (first | simp at hb9 | skip)
   have hSS:w4.cell? ⟨w.heap.size,1,none⟩=some (.slice Ai t.init.length ci)/\w4.cell? ⟨w.heap.size,2,none⟩=some (.slice Ag t.goal.length cg):=(by have q:=C4;simp only[Cls,and_true] at q;simp[q])
   go_wp2_with fail
   refine hK.out _ _ hSS ?_;clear hK K
   try simp only[ap]
   refine xJ1 (i:=10) (v:=?vt13x10) rfl (by kernel_rfl) (by kernel_rfl) (by kernel_rfl) (by kernel_rfl) (by kernel_rfl) (fun _ _ _ h=>h) (Or.inl ⟨by rfl,?ht13x10⟩) (by assumption) ?rt13x10
   case ht13x10=>(intro w hSw;(try dsimp only at hSw);go_simp;(try with_reducible rfl))
   try simp only[ap]
   refine xJd (i:=12) (by kernel_rfl) rfl (by kernel_rfl) (fun K hK=>?_);go_simp
   go_wp2_with fail
   refine hK.out _ _ ?_;clear hK K
   try simp only[ap]
   refine xJ8 (by kernel_rfl) ?_ _
   go_wp2_with fail
   go_meet
   have hne5:∀ ad,B1=some ad->ad.block≠w2.heap.size:=fun ad he=>(by have:=hb5 ad he;omega)
   have hne9:∀ ad,B2=some ad->ad.block≠w2.heap.size:=fun ad he=>(by have:=hb9 ad he;omega)
   exact⟨w2.heap.size,B1,b1,B2,b2,rfl,(by omega),(by (first | omega | (simp <;> omega))),(((((hI5.below (w':=w4) bch).far (p:=⟨w2.heap.size,0,none⟩) hne5 _).far (p:=⟨w2.heap.size,1,none⟩) hne5 _).far (p:=⟨w2.heap.size,2,none⟩) hne5 _).far (p:=⟨w2.heap.size,3,none⟩) hne5 _),(((((hI9.below (w':=w4) bch).far (p:=⟨w2.heap.size,0,none⟩) hne9 _).far (p:=⟨w2.heap.size,1,none⟩) hne9 _).far (p:=⟨w2.heap.size,2,none⟩) hne9 _).far (p:=⟨w2.heap.size,3,none⟩) hne9 _),lHd (fun ad h=>by rcases h with h | h;exact⟨by have:=hb5 ad h;omega,by have:=hb5 ad h;(first | omega | (simp <;> omega)),hne5 ad h⟩;exact⟨by have:=hb9 ad h;omega,by have:=hb9 ad h;(first | omega | (simp <;> omega)),hne9 ad h⟩),bch,(by simp[Cls,go_sem,F4,y4w2,y4w0,y4w20])⟩
 case rest=>
  obtain⟨ob,B1,b1,B2,b2,rfl,hob1,hob2,hI1,hI2,HBK,hBc,hCb⟩:=hcut;have HVS:=lHd (HREL.out.valid HV.out);have Dc:Below w.heap.size w wc:=D2.trans (hBc.mono D2.size);have hCa:Cls wc [(w.heap.size,0,.int .i64 t.facts),(w.heap.size,1,.slice Ai t.init.length ci),(w.heap.size,2,.slice Ag t.goal.length cg),(w.heap.size,3,.slice Ao t.ops.length co),(w.heap.size+1,0,.int .i64 0),(w.heap.size+1,1,.slice none 0 0),(w.heap.size+1,2,.slice none 0 0),(w.heap.size+1,3,.slice none 0 0),(w.heap.size+1+1,0,.int .i64 0),(w.heap.size+1+1,1,.int .i64 0)]:=Cls.below (w:=w2) hBc (by simp[Cls,go_sem,F2]);have hCc:Cls wc [(w.heap.size,0,.int .i64 t.facts),(w.heap.size,1,.slice Ai t.init.length ci),(w.heap.size,2,.slice Ag t.goal.length cg),(w.heap.size,3,.slice Ao t.ops.length co),(w.heap.size+1,0,.int .i64 0),(w.heap.size+1,1,.slice none 0 0),(w.heap.size+1,2,.slice none 0 0),(w.heap.size+1,3,.slice none 0 0),(w.heap.size+1+1,0,.int .i64 0),(w.heap.size+1+1,1,.int .i64 0),(ob,0,.int .i64 (F.length:Int)),(ob,1,.slice B1 (rsV F t.init).length b1),(ob,2,.slice B2 (rsV F t.goal).length b2),(ob,3,.slice none 0 0)]:=(by simp only[Cls,and_true] at hCa hCb ⊢;simp[hCa,hCb]);clear hCa hCb;have Fc:=hCc;simp only[Cls,and_true] at Fc;have ycw2:w.heap.size+1+1 < wc.heap.size:=hCc.blk (b:=w.heap.size+1+1) (k:=0) (v:=.int .i64 0) (by simp);have ycw1:w.heap.size+1 < wc.heap.size:=(by omega);have ycw0:w.heap.size < wc.heap.size:=(by omega);have hRl:R.length<=40:=by
   have h:=HVS.out.nops;unfold xJl at h;rw[List.length_map] at h;exact h
  go_wp2_with fail
  go_loopw [38] (fun i wr=>∃ (k:Nat) (vo:Value),k<=R.length/\i=.int .i64 (k:Int)/\OwnOps wc.heap.size wr vo ((R.take k).map fun i=>xYh F (opN t.ops i))/\Hid (Kept (fun z=>z=ob) wc wr)/\Below w.heap.size w wr/\Cls wr [(w.heap.size,0,.int .i64 t.facts),(w.heap.size,1,.slice Ai t.init.length ci),(w.heap.size,2,.slice Ag t.goal.length cg),(w.heap.size,3,.slice Ao t.ops.length co),(w.heap.size+1,0,.int .i64 0),(w.heap.size+1,1,.slice none 0 0),(w.heap.size+1,2,.slice none 0 0),(w.heap.size+1,3,.slice none 0 0),(w.heap.size+1+1,0,.int .i64 0),(w.heap.size+1+1,1,.int .i64 0),(ob,0,.int .i64 (F.length:Int)),(ob,1,.slice B1 (rsV F t.init).length b1),(ob,2,.slice B2 (rsV F t.goal).length b2),(ob,3,vo)]) (fun i _=>R.length - (intOf i).toNat)
  case atStart=>exact⟨0,.slice none 0 0,Nat.zero_le _,rfl,OwnEs.nil _ _,Kept.refl _ _,Dc,hCc⟩
  case round=>
   clear hCc;obtain⟨k,vo,hk,rfl,hown,hKr,hBr,hCr⟩:=hrel;obtain⟨wk,rfl⟩:∃ wo:World,wo=wr:=⟨_,rfl⟩;obtain⟨A7,c7,rfl⟩:=OwnEs.form hown;have HLK:Hid (((R.take k).map fun i=>xYh F (opN t.ops i)).length=k):=lHd (by rw[List.length_map,List.length_take];omega);rw[HLK.out] at hown hCr;have hIFk:Hid (Ints wk A F):=Ints.kept ((hIF.out).below hBc) hKr.out (fun hr ad e e2=>by (have h:=hIF.out);subst e;have:=xZz h hr;omega);have hks:=hKr.out.size;have Fr:=hCr;simp only[Cls,and_true] at Fr;have yrob0:ob < wk.heap.size:=hCr.blk (b:=ob) (k:=0) (v:=.int .i64 (F.length:Int)) (by simp);have yrw2:w.heap.size+1+1 < wk.heap.size:=hCr.blk (b:=w.heap.size+1+1) (k:=0) (v:=.int .i64 0) (by simp);have hoblt:ob < wc.heap.size:=hob2
   by_cases hlt:k < R.length
   ·obtain⟨xa,xq,rfl,hxq,hxc⟩:=(Ints.kept ((hIR.out).below hBc) hKr.out (fun hr ad e e2=>by (have h:=hIR.out);subst e;have:=xZz h hr;omega)).at_ (k:=k) (by rw[List.length_map];exact hlt);obtain⟨qn,hqn,hqe⟩:∃ qn,R[k]? = some qn/\xq=(qn:Int):=by
     have h:=hxq.out;rw[List.getElem?_map] at h;obtain⟨z,h1,h2⟩:=Option.map_eq_some_iff.1 h;exact⟨z,h1,h2.symm⟩
    subst hqe;have hql:=HREL.out.lt qn (lMg hqn);obtain⟨ad,o,A0,c0,A1,c1,A2,c2,rfl,ho,hc0,hc1,hc2,hc3,hm⟩:=HT.out.ops.at2 (w':=wk) bch hql;have hl0:o.pre.length<=1000000:=by have h:=(HV.out.ops o (lMg ho.out)).1.1.length HV.out.f0;have:=HV.out.f1;omega
    have hl1:o.add.length<=1000000:=by have h:=(HV.out.ops o (lMg ho.out)).1.2.1.length HV.out.f0;have:=HV.out.f1;omega
    have hl2:o.del.length<=1000000:=by have h:=(HV.out.ops o (lMg ho.out)).1.2.2.1.length HV.out.f0;have:=HV.out.f1;omega
    have HTK:=lHd (show ((R.take (k+1)).map fun i=>xYh F (opN t.ops i))=((R.take k).map fun i=>xYh F (opN t.ops i)) ++ [xYh F o] by rw[List.take_add_one,hqn,List.map_append];show _ ++ [xYh F (opN t.ops qn)]=_;rw[xV6 ho.out]);clear hqn hxq
    go_wp2_with fail
    have hSS0:(wk.alloc (.cells #[.slice A0 o.pre.length c0,.slice A1 o.add.length c1,.slice A2 o.del.length c2,.int .i64 o.cost] 68)).drew.cell? ⟨ob,3,none⟩=some (.slice A7 k c7)/\(wk.alloc (.cells #[.slice A0 o.pre.length c0,.slice A1 o.add.length c1,.slice A2 o.del.length c2,.int .i64 o.cost] 68)).drew.cell? ⟨wk.heap.size,0,none⟩=some (.slice A0 o.pre.length c0)/\(wk.alloc (.cells #[.slice A0 o.pre.length c0,.slice A1 o.add.length c1,.slice A2 o.del.length c2,.int .i64 o.cost] 68)).drew.cell? ⟨wk.heap.size,1,none⟩=some (.slice A1 o.add.length c1)/\(wk.alloc (.cells #[.slice A0 o.pre.length c0,.slice A1 o.add.length c1,.slice A2 o.del.length c2,.int .i64 o.cost] 68)).drew.cell? ⟨wk.heap.size,2,none⟩=some (.slice A2 o.del.length c2)/\(wk.alloc (.cells #[.slice A0 o.pre.length c0,.slice A1 o.add.length c1,.slice A2 o.del.length c2,.int .i64 o.cost] 68)).drew.cell? ⟨wk.heap.size,3,none⟩=some (.int .i64 o.cost):=by simp[go_sem,Fr,yrob0,yrw2]
    refine xJk (fun W=>W.cell? ⟨ob,3,none⟩=some (.slice A7 k c7)/\W.cell? ⟨wk.heap.size,0,none⟩=some (.slice A0 o.pre.length c0)/\W.cell? ⟨wk.heap.size,1,none⟩=some (.slice A1 o.add.length c1)/\W.cell? ⟨wk.heap.size,2,none⟩=some (.slice A2 o.del.length c2)/\W.cell? ⟨wk.heap.size,3,none⟩=some (.int .i64 o.cost)) [20] (by kernel_rfl) ?_;have hSS:=hSS0;refine xJ1 (i:=0) (v:=?vz10) rfl (by kernel_rfl) (by kernel_rfl) (by kernel_rfl) (by kernel_rfl) (by kernel_rfl) (fun _ _ _ h=>h) (Or.inl ⟨by rfl,?hz10⟩) (by assumption) ?rz10
    case hz10=>(intro w hSw;(try dsimp only at hSw);go_simp;(try with_reducible rfl))
    try simp only[ap]
    refine xJ1 (i:=1) (v:=?vz11) rfl (by kernel_rfl) (by kernel_rfl) (by kernel_rfl) (by kernel_rfl) (by kernel_rfl) (fun _ _ _ h=>h) (Or.inl ⟨by rfl,?hz11⟩) (by assumption) ?rz11
    case hz11=>(intro w hSw;(try dsimp only at hSw);go_simp;(try with_reducible rfl))
    try simp only[ap]
    refine xJ1 (i:=2) (v:=?vz12) rfl (by kernel_rfl) (by kernel_rfl) (by kernel_rfl) (by kernel_rfl) (by kernel_rfl) (fun _ _ _ h=>h) (Or.inl ⟨by rfl,?hz12⟩) (by assumption) ?rz12
    case hz12=>(intro w hSw;(try dsimp only at hSw);go_simp;(try with_reducible rfl))
    try simp only[ap]
    refine xJ1 (i:=3) (v:=?vz13) rfl (by kernel_rfl) (by kernel_rfl) (by kernel_rfl) (by kernel_rfl) (by kernel_rfl) (fun _ _ _ h=>h) (Or.inl ⟨by rfl,?hz13⟩) (by assumption) ?rz13
    case hz13=>(intro w hSw;(try dsimp only at hSw);go_simp;(try with_reducible rfl))
    try simp only[ap]
    refine xJ1 (i:=4) (v:=?vz14) rfl (by kernel_rfl) (by kernel_rfl) (by kernel_rfl) (by kernel_rfl) (by kernel_rfl) (fun _ _ _ h=>h) (Or.inl ⟨by rfl,?hz14⟩) (by assumption) ?rz14
    case hz14=>(intro w hSw;(try dsimp only at hSw);go_simp;(try with_reducible rfl))
    try simp only[ap]
    refine xJ1 (i:=6) (v:=?vz16) rfl (by kernel_rfl) (by kernel_rfl) (by kernel_rfl) (by kernel_rfl) (by kernel_rfl) (fun _ _ _ h=>h) (Or.inl ⟨by rfl,?hz16⟩) (by assumption) ?rz16
    case hz16=>(intro w hSw;(try dsimp only at hSw);go_simp;(try with_reducible rfl))
    try simp only[ap]
    refine xJ1 (i:=7) (v:=?vz17) rfl (by kernel_rfl) (by kernel_rfl) (by kernel_rfl) (by kernel_rfl) (by kernel_rfl) (fun _ _ _ h=>h) (Or.inl ⟨by rfl,?hz17⟩) (by assumption) ?rz17
    case hz17=>(intro w hSw;(try dsimp only at hSw);go_simp;(try with_reducible rfl))
    try simp only[ap]
    refine xJ1 (i:=8) (v:=?vz18) rfl (by kernel_rfl) (by kernel_rfl) (by kernel_rfl) (by kernel_rfl) (by kernel_rfl) (fun _ _ _ h=>h) (Or.inl ⟨by rfl,?hz18⟩) (by assumption) ?rz18
    case hz18=>(intro w hSw;(try dsimp only at hSw);go_simp;(try with_reducible rfl))
    try simp only[ap]
    refine xJ1 (i:=10) (v:=?vz110) rfl (by kernel_rfl) (by kernel_rfl) (by kernel_rfl) (by kernel_rfl) (by kernel_rfl) (fun _ _ _ h=>h) (Or.inl ⟨by rfl,?hz110⟩) (by assumption) ?rz110
    case hz110=>(intro w hSw;(try dsimp only at hSw);go_simp;(try with_reducible rfl))
    try simp only[ap]
    refine xJ1 (i:=11) (v:=?vz111) rfl (by kernel_rfl) (by kernel_rfl) (by kernel_rfl) (by kernel_rfl) (by kernel_rfl) (fun _ _ _ h=>h) (Or.inl ⟨by rfl,?hz111⟩) (by assumption) ?rz111
    case hz111=>(intro w hSw;(try dsimp only at hSw);go_simp;(try with_reducible rfl))
    try simp only[ap]
    refine xJ1 (i:=12) (v:=?vz112) rfl (by kernel_rfl) (by kernel_rfl) (by kernel_rfl) (by kernel_rfl) (by kernel_rfl) (fun _ _ _ h=>h) (Or.inl ⟨by rfl,?hz112⟩) (by assumption) ?rz112
    case hz112=>(intro w hSw;(try dsimp only at hSw);go_simp;(try with_reducible rfl))
    try simp only[ap]
    refine xJ1 (i:=14) (v:=?vz114) rfl (by kernel_rfl) (by kernel_rfl) (by kernel_rfl) (by kernel_rfl) (by kernel_rfl) (fun _ _ _ h=>h) (Or.inl ⟨by rfl,?hz114⟩) (by assumption) ?rz114
    case hz114=>(intro w hSw;(try dsimp only at hSw);go_simp;(try with_reducible rfl))
    try simp only[ap]
    refine xJ1 (i:=15) (v:=?vz115) rfl (by kernel_rfl) (by kernel_rfl) (by kernel_rfl) (by kernel_rfl) (by kernel_rfl) (fun _ _ _ h=>h) (Or.inl ⟨by rfl,?hz115⟩) (by assumption) ?rz115
    case hz115=>(intro w hSw;(try dsimp only at hSw);go_simp;(try with_reducible rfl))
    try simp only[ap]
    refine xJ4 (i:=5) (by kernel_rfl) rfl (fun K hK=>?_);go_simp;go_at_call 25;refine (xJs _ A c F (hIFk.out.below bch) hFl HFS _ _ _ (hm.pre.below bch) hl0).mono ?_;rintro e w3 ⟨v8,rfl,hO8,hB8⟩;have DK0:=xJ3 wk hB8 bch;have DW0:=xJ3 w hB8 bch;have hz8:=hB8.size
    (try simp at hz8)
    obtain⟨A8,c8,hv8,-,-⟩:=hO8.form;subst hv8;have CS0:w3.cell? ⟨ob,3,none⟩=some (.slice A7 k c7)/\w3.cell? ⟨wk.heap.size,0,none⟩=some (.slice A0 o.pre.length c0)/\w3.cell? ⟨wk.heap.size,1,none⟩=some (.slice A1 o.add.length c1)/\w3.cell? ⟨wk.heap.size,2,none⟩=some (.slice A2 o.del.length c2)/\w3.cell? ⟨wk.heap.size,3,none⟩=some (.int .i64 o.cost):=(by have q0:(wk.alloc (.cells #[.slice A0 o.pre.length c0,.slice A1 o.add.length c1,.slice A2 o.del.length c2,.int .i64 o.cost] 68)).drew.cell? ⟨ob,3,none⟩=some (.slice A7 k c7)/\(wk.alloc (.cells #[.slice A0 o.pre.length c0,.slice A1 o.add.length c1,.slice A2 o.del.length c2,.int .i64 o.cost] 68)).drew.cell? ⟨wk.heap.size,0,none⟩=some (.slice A0 o.pre.length c0)/\(wk.alloc (.cells #[.slice A0 o.pre.length c0,.slice A1 o.add.length c1,.slice A2 o.del.length c2,.int .i64 o.cost] 68)).drew.cell? ⟨wk.heap.size,1,none⟩=some (.slice A1 o.add.length c1)/\(wk.alloc (.cells #[.slice A0 o.pre.length c0,.slice A1 o.add.length c1,.slice A2 o.del.length c2,.int .i64 o.cost] 68)).drew.cell? ⟨wk.heap.size,2,none⟩=some (.slice A2 o.del.length c2)/\(wk.alloc (.cells #[.slice A0 o.pre.length c0,.slice A1 o.add.length c1,.slice A2 o.del.length c2,.int .i64 o.cost] 68)).drew.cell? ⟨wk.heap.size,3,none⟩=some (.int .i64 o.cost):=hSS;exact⟨(hB8.cell (World.block_lt_of_cell? _ _ q0.1)).trans q0.1,(hB8.cell (World.block_lt_of_cell? _ _ q0.2.1)).trans q0.2.1,(hB8.cell (World.block_lt_of_cell? _ _ q0.2.2.1)).trans q0.2.2.1,(hB8.cell (World.block_lt_of_cell? _ _ q0.2.2.2.1)).trans q0.2.2.2.1,(hB8.cell (World.block_lt_of_cell? _ _ q0.2.2.2.2)).trans q0.2.2.2.2⟩);have HP8:=lHd (xQo (B:=wc.heap.size) (row:=(.slice A7 k c7:Value).ownBlock) hO8 (by simp <;> omega) (fun b hb=>by have:=(OwnEs.lt hown b hb).2;simp <;> omega));have hSS:w3.cell? ⟨ob,3,none⟩=some (.slice A7 k c7)/\w3.cell? ⟨wk.heap.size,0,none⟩=some (.slice A0 o.pre.length c0)/\w3.cell? ⟨wk.heap.size,1,none⟩=some (.slice A1 o.add.length c1)/\w3.cell? ⟨wk.heap.size,2,none⟩=some (.slice A2 o.del.length c2)/\w3.cell? ⟨wk.heap.size,3,none⟩=some (.int .i64 o.cost):=CS0
    go_wp2_with fail
    refine hK.out _ _ hSS ?_;clear hK K
    try simp only[ap]
    refine xJ4 (i:=9) (by kernel_rfl) rfl (fun K hK=>?_);go_simp;go_at_call 25;refine (xJs _ A c F (hIFk.out.below bch) hFl HFS _ _ _ (hm.add.below bch) hl1).mono ?_;rintro e w4 ⟨v9,rfl,hO9,hB9⟩;have DK1:=xJ3 wk hB9 bch;have DW1:=xJ3 w hB9 bch;have hz9:=hB9.size
    (try simp at hz9)
    obtain⟨A9,c9,hv9,-,-⟩:=hO9.form;subst hv9;have CS1:w4.cell? ⟨ob,3,none⟩=some (.slice A7 k c7)/\w4.cell? ⟨wk.heap.size,0,none⟩=some (.slice A0 o.pre.length c0)/\w4.cell? ⟨wk.heap.size,1,none⟩=some (.slice A1 o.add.length c1)/\w4.cell? ⟨wk.heap.size,2,none⟩=some (.slice A2 o.del.length c2)/\w4.cell? ⟨wk.heap.size,3,none⟩=some (.int .i64 o.cost):=(by have q0:=hSS;exact⟨(hB9.cell (World.block_lt_of_cell? _ _ q0.1)).trans q0.1,(hB9.cell (World.block_lt_of_cell? _ _ q0.2.1)).trans q0.2.1,(hB9.cell (World.block_lt_of_cell? _ _ q0.2.2.1)).trans q0.2.2.1,(hB9.cell (World.block_lt_of_cell? _ _ q0.2.2.2.1)).trans q0.2.2.2.1,(hB9.cell (World.block_lt_of_cell? _ _ q0.2.2.2.2)).trans q0.2.2.2.2⟩);have HP9:=lHd (xQo (B:=wc.heap.size) (row:=(.slice A7 k c7:Value).ownBlock) hO9 (by omega) (fun b hb=>by have:=(OwnEs.lt hown b hb).2;omega));have HP8_1:=lHd ((xJ7 _).below HP8.out hB9);have hSS:w4.cell? ⟨ob,3,none⟩=some (.slice A7 k c7)/\w4.cell? ⟨wk.heap.size,0,none⟩=some (.slice A0 o.pre.length c0)/\w4.cell? ⟨wk.heap.size,1,none⟩=some (.slice A1 o.add.length c1)/\w4.cell? ⟨wk.heap.size,2,none⟩=some (.slice A2 o.del.length c2)/\w4.cell? ⟨wk.heap.size,3,none⟩=some (.int .i64 o.cost):=CS1
    go_wp2_with fail
    refine hK.out _ _ hSS ?_;clear hK K
    try simp only[ap]
    refine xJ4 (i:=13) (by kernel_rfl) rfl (fun K hK=>?_);go_simp;go_at_call 25;refine (xJs _ A c F (hIFk.out.below bch) hFl HFS _ _ _ (hm.del.below bch) hl2).mono ?_;rintro e w5 ⟨v10,rfl,hO10,hB10⟩;have DK2:=xJ3 wk hB10 bch;have DW2:=xJ3 w hB10 bch;have hz10:=hB10.size
    (try simp at hz10)
    obtain⟨A10,c10,hv10,-,-⟩:=hO10.form;subst hv10;have CS2:w5.cell? ⟨ob,3,none⟩=some (.slice A7 k c7)/\w5.cell? ⟨wk.heap.size,0,none⟩=some (.slice A0 o.pre.length c0)/\w5.cell? ⟨wk.heap.size,1,none⟩=some (.slice A1 o.add.length c1)/\w5.cell? ⟨wk.heap.size,2,none⟩=some (.slice A2 o.del.length c2)/\w5.cell? ⟨wk.heap.size,3,none⟩=some (.int .i64 o.cost):=(by have q0:=hSS;exact⟨(hB10.cell (World.block_lt_of_cell? _ _ q0.1)).trans q0.1,(hB10.cell (World.block_lt_of_cell? _ _ q0.2.1)).trans q0.2.1,(hB10.cell (World.block_lt_of_cell? _ _ q0.2.2.1)).trans q0.2.2.1,(hB10.cell (World.block_lt_of_cell? _ _ q0.2.2.2.1)).trans q0.2.2.2.1,(hB10.cell (World.block_lt_of_cell? _ _ q0.2.2.2.2)).trans q0.2.2.2.2⟩);have HP10:=lHd (xQo (B:=wc.heap.size) (row:=(.slice A7 k c7:Value).ownBlock) hO10 (by omega) (fun b hb=>by have:=(OwnEs.lt hown b hb).2;omega));have HP8_2:=lHd ((xJ7 _).below HP8_1.out hB10);have HP9_2:=lHd ((xJ7 _).below HP9.out hB10);have hSS:w5.cell? ⟨ob,3,none⟩=some (.slice A7 k c7)/\w5.cell? ⟨wk.heap.size,0,none⟩=some (.slice A0 o.pre.length c0)/\w5.cell? ⟨wk.heap.size,1,none⟩=some (.slice A1 o.add.length c1)/\w5.cell? ⟨wk.heap.size,2,none⟩=some (.slice A2 o.del.length c2)/\w5.cell? ⟨wk.heap.size,3,none⟩=some (.int .i64 o.cost):=CS2
    go_wp2_with fail
    refine hK.out _ _ hSS ?_;clear hK K
    try simp only[ap]
    refine xJ1 (i:=16) (v:=?vz116) rfl (by kernel_rfl) (by kernel_rfl) (by kernel_rfl) (by kernel_rfl) (by kernel_rfl) (fun _ _ _ h=>h) (Or.inl ⟨by rfl,?hz116⟩) (by assumption) ?rz116
    case hz116=>(intro w hSw;(try dsimp only at hSw);go_simp;(try with_reducible rfl))
    try simp only[ap]
    refine xJ4 (i:=17) (by kernel_rfl) rfl (fun K hK=>?_);go_simp
    go_wp2_with fail
    have hSS:(w5.alloc (.cells #[.slice A8 (rsV F o.pre).length c8,.slice A9 (rsV F o.add).length c9,.slice A10 (rsV F o.del).length c10,.int .i64 o.cost] 68)).cell? ⟨ob,3,none⟩=some (.slice A7 k c7)/\(w5.alloc (.cells #[.slice A8 (rsV F o.pre).length c8,.slice A9 (rsV F o.add).length c9,.slice A10 (rsV F o.del).length c10,.int .i64 o.cost] 68)).cell? ⟨wk.heap.size,0,none⟩=some (.slice A0 o.pre.length c0)/\(w5.alloc (.cells #[.slice A8 (rsV F o.pre).length c8,.slice A9 (rsV F o.add).length c9,.slice A10 (rsV F o.del).length c10,.int .i64 o.cost] 68)).cell? ⟨wk.heap.size,1,none⟩=some (.slice A1 o.add.length c1)/\(w5.alloc (.cells #[.slice A8 (rsV F o.pre).length c8,.slice A9 (rsV F o.add).length c9,.slice A10 (rsV F o.del).length c10,.int .i64 o.cost] 68)).cell? ⟨wk.heap.size,2,none⟩=some (.slice A2 o.del.length c2)/\(w5.alloc (.cells #[.slice A8 (rsV F o.pre).length c8,.slice A9 (rsV F o.add).length c9,.slice A10 (rsV F o.del).length c10,.int .i64 o.cost] 68)).cell? ⟨wk.heap.size,3,none⟩=some (.int .i64 o.cost):=⟨by rw[World.cell?_alloc_lt _ _ _ (World.block_lt_of_cell? _ _ CS2.1)];exact CS2.1,by rw[World.cell?_alloc_lt _ _ _ (World.block_lt_of_cell? _ _ CS2.2.1)];exact CS2.2.1,by rw[World.cell?_alloc_lt _ _ _ (World.block_lt_of_cell? _ _ CS2.2.2.1)];exact CS2.2.2.1,by rw[World.cell?_alloc_lt _ _ _ (World.block_lt_of_cell? _ _ CS2.2.2.2.1)];exact CS2.2.2.2.1,by rw[World.cell?_alloc_lt _ _ _ (World.block_lt_of_cell? _ _ CS2.2.2.2.2)];exact CS2.2.2.2.2⟩;have HOW:Hid (OwnEs (POp wc.heap.size) 68 4 wc.heap.size (w5.alloc (.cells #[.slice A8 (rsV F o.pre).length c8,.slice A9 (rsV F o.add).length c9,.slice A10 (rsV F o.del).length c10,.int .i64 o.cost] 68)) (.slice A7 k c7) ((R.take k).map fun i=>xYh F (opN t.ops i))):=OwnOps.below (w:=wk) hown bch;refine hK.out _ _ hSS ?_;clear hK K
    try simp only[ap]
    refine xJ4 (i:=18) (by kernel_rfl) rfl (fun K hK=>?_);refine zV1 (base:=wc.heap.size) (v:=.slice A7 k c7) (els:=((R.take k).map fun i=>xYh F (opN t.ops i))) (xWe wc.heap.size) 23 80 (.agg #[.slice none 0 0,.slice none 0 0,.slice none 0 0,.int .i64 0]) Tryz.underlying23 vVx rfl (by decide) (by decide) rfl (.tmp 48) (.tmp 64) rfl rfl HOW.out ⟨w5.heap.size,0,none⟩ 1 rfl [.slice A8 (rsV F o.pre).length c8,.slice A9 (rsV F o.add).length c9,.slice A10 (rsV F o.del).length c10,.int .i64 o.cost] (xYh F o) rfl ?n1 ?n2 ?n3 ?n4 ?n5 ?nn
    case n1=>(intro j u hu;rcases j with _ | _ | _ | _ | j <;> simp at hu <;> subst hu <;> simp[go_sem])
    case n2=>(intro u hu;simp at hu;rcases hu with rfl | rfl | rfl | rfl <;> rfl)
    case n3=>exact⟨A8,c8,A9,c9,A10,c10,rfl,(xJ7 _).below HP8_2.out bch,(xJ7 _).below HP9_2.out bch,(xJ7 _).below HP10.out bch⟩
    case n4=>(have:=HLK.out;omega)
    case n5=>(have:=DK2.size;simp;omega)
    intro g6 cg6 w6 hO6 hG6 hat6 hg6l;rw[HLK.out] at hO6 ⊢;have k6:∀ {p:Addr} {u:Value},(w5.alloc (.cells #[.slice A8 (rsV F o.pre).length c8,.slice A9 (rsV F o.add).length c9,.slice A10 (rsV F o.del).length c10,.int .i64 o.cost] 68)).cell? p=some u->(∀ b,(.slice A7 k c7:Value).ownBlock=some b->b≠p.block)->w6.cell? p=some u:=fun {p u} hq hne=>(hG6.cell_far p (World.block_lt_of_cell? _ _ hq) (fun e=>hne _ e.symm rfl)).trans hq
    have hSS:w6.cell? ⟨ob,3,none⟩=some (.slice A7 k c7)/\w6.cell? ⟨wk.heap.size,0,none⟩=some (.slice A0 o.pre.length c0)/\w6.cell? ⟨wk.heap.size,1,none⟩=some (.slice A1 o.add.length c1)/\w6.cell? ⟨wk.heap.size,2,none⟩=some (.slice A2 o.del.length c2)/\w6.cell? ⟨wk.heap.size,3,none⟩=some (.int .i64 o.cost):=⟨k6 hSS.1 (fun b hb=>by have:=(OwnEs.lt hown b hb).1;show b≠ob;omega),k6 hSS.2.1 (fun b hb=>by have:=(OwnEs.lt hown b hb).2;show b≠wk.heap.size;omega),k6 hSS.2.2.1 (fun b hb=>by have:=(OwnEs.lt hown b hb).2;show b≠wk.heap.size;omega),k6 hSS.2.2.2.1 (fun b hb=>by have:=(OwnEs.lt hown b hb).2;show b≠wk.heap.size;omega),k6 hSS.2.2.2.2 (fun b hb=>by have:=(OwnEs.lt hown b hb).2;show b≠wk.heap.size;omega)⟩;have C6:Cls w6 [(w.heap.size,0,.int .i64 t.facts),(w.heap.size,1,.slice Ai t.init.length ci),(w.heap.size,2,.slice Ag t.goal.length cg),(w.heap.size,3,.slice (some ad) t.ops.length co),(w.heap.size+1,0,.int .i64 0),(w.heap.size+1,1,.slice none 0 0),(w.heap.size+1,2,.slice none 0 0),(w.heap.size+1,3,.slice none 0 0),(w.heap.size+1+1,0,.int .i64 0),(w.heap.size+1+1,1,.int .i64 0),(ob,0,.int .i64 (F.length:Int)),(ob,1,.slice B1 (rsV F t.init).length b1),(ob,2,.slice B2 (rsV F t.goal).length b2),(ob,3,.slice A7 k c7)]:=Cls.grown (base:=wc.heap.size) (Cls.below (w:=wk) (w':=(w5.alloc (.cells #[.slice A8 (rsV F o.pre).length c8,.slice A9 (rsV F o.add).length c9,.slice A10 (rsV F o.del).length c10,.int .i64 o.cost] 68))) bch hCr) HOW.out.choose_spec.1 hG6 (fun x hx=>by simp at hx;rcases hx with rfl | rfl | rfl | rfl | rfl | rfl | rfl | rfl | rfl | rfl | rfl | rfl | rfl | rfl <;> (dsimp only;omega));have F6:=C6;simp only[Cls,and_true] at F6;refine hK.out _ _ hSS ?_;clear hK K
    try simp only[ap]
    refine xX0 (i:=19) (v:=?vz119) rfl (by kernel_rfl) (by kernel_rfl) (by kernel_rfl) (by kernel_rfl) (by kernel_rfl) (fun _ _ _ h=>h) (Or.inl ⟨by rfl,?hz119⟩) (by assumption) ?rz119
    case hz119=>(intro w hSw;(try dsimp only at hSw);go_simp;(try with_reducible rfl))
    try simp only[ap]
    refine xJd (i:=20) (by kernel_rfl) rfl (by kernel_rfl) (fun K hK=>?_);go_simp
    go_wp2_with fail
    refine hK.out _ _ ?_;clear hK K
    try simp only[ap]
    refine xJ8 (by kernel_rfl) ?_ _;go_wp2
    go_roundw
    case rel=>
     refine⟨k+1,.slice (some ⟨g6,0,none⟩) (k+1) cg6,by omega,by go_num,by rw[HTK.out];exact OwnOps.far hO6 (p:=⟨ob,3,none⟩) hoblt _,?_,?_,?_⟩
     ·exact ((hKr.out.below (w':=(w5.alloc (.cells #[.slice A8 (rsV F o.pre).length c8,.slice A9 (rsV F o.add).length c9,.slice A10 (rsV F o.del).length c10,.int .i64 o.cost] 68))) bch).grown hG6 (fun z hz=>.inr (OwnEs.lt hown z hz).1)).set (p:=⟨ob,3,none⟩) (.inl rfl) _
     ·exact ((show Below w.heap.size w (w5.alloc (.cells #[.slice A8 (rsV F o.pre).length c8,.slice A9 (rsV F o.add).length c9,.slice A10 (rsV F o.del).length c10,.int .i64 o.cost] 68)) from bch).grown hG6 (by have:=DW2.size;simp;omega) (fun z hz=>by have:=(OwnEs.lt hown z hz).1;omega)).setCell (p:=⟨ob,3,none⟩) (by show w.heap.size<=ob;omega) _
     ·simp[Cls,go_sem,F6,show ¬ ob=w.heap.size by omega,show ¬ ob=w.heap.size+1 by omega,show ¬ w.heap.size=ob by omega,show ¬ w.heap.size+1=ob by omega,show ¬ ob=w.heap.size+1+1 by omega,show ¬ w.heap.size+1+1=ob by omega]
    case measure=>simp[intOf];omega
   ·obtain rfl:k=R.length:=by omega
    have hte:R.take R.length=R:=List.take_of_length_le (Nat.le_refl _);rw[hte] at hown;have hI1k:Ints wk B1 (rsV F t.init):=Ints.kept hI1 hKr.out (fun hr ad e e2=>(HBK.out ad (.inl e)).2.2 e2);have hI2k:Ints wk B2 (rsV F t.goal):=Ints.kept hI2 hKr.out (fun hr ad e e2=>(HBK.out ad (.inr e)).2.2 e2);have hne1:∀ ad,B1=some ad->ad.block≠w.heap.size+1/\ad.block≠w.heap.size+1+1:=fun ad h=>(by have:=(HBK.out ad (.inl h)).1;omega)
    have hne2:∀ ad,B2=some ad->ad.block≠w.heap.size+1/\ad.block≠w.heap.size+1+1:=fun ad h=>(by have:=(HBK.out ad (.inr h)).1;omega)
    have hb1w:w.heap.size+1 < wc.heap.size:=by omega
    have hb2w:w.heap.size+1+1 < wc.heap.size:=by omega
    have HLO:Hid (∀ u∈R.map fun i=>xYh F (opN t.ops i),lenOk u.pre.length/\lenOk u.add.length/\lenOk u.del.length):=fun u hu=>by
     have h:=(HVS.out.ops u hu).1;have h0:=HVS.out.f0;have h1:=HVS.out.f1;have h2:=h.1.length h0;have h3:=h.2.1.length h0;have h4:=h.2.2.1.length h0;unfold lenOk;exact⟨by omega,by omega,by omega⟩
    have HLI:Hid (lenOk (rsV F t.init).length/\lenOk (rsV F t.goal).length/\lenOk (R.map fun i=>xYh F (opN t.ops i)).length):=by
     have h1:=vJ9 F t.init;have h2:=vJ9 F t.goal;unfold Hid lenOk;rw[List.length_map];exact⟨by omega,by omega,by omega⟩
    clear hte
    go_wp2_with fail
    refine bodyPost_ret (v:=.tuple #[.agg #[.int .i64 (F.length:Int),.slice B1 (rsV F t.init).length b1,.slice B2 (rsV F t.goal).length b2,.slice A7 R.length c7],.slice A F.length c,.slice A' R.length c',.agg #[.int .i64 0,.int .i64 0]]) ?_ rfl ⟨bch,B1,B2,A7,b1,b2,c7,F,R,_,_,rfl,⟨((((((hI1k.far (p:=⟨w.heap.size+1,0,none⟩) (fun ad e=>(hne1 ad e).1) _).far (p:=⟨w.heap.size+1,1,none⟩) (fun ad e=>(hne1 ad e).1) _).far (p:=⟨w.heap.size+1,2,none⟩) (fun ad e=>(hne1 ad e).1) _).far (p:=⟨w.heap.size+1,3,none⟩) (fun ad e=>(hne1 ad e).1) _).far (p:=⟨w.heap.size+1+1,0,none⟩) (fun ad e=>(hne1 ad e).2) _).far (p:=⟨w.heap.size+1+1,1,none⟩) (fun ad e=>(hne1 ad e).2) _),((((((hI2k.far (p:=⟨w.heap.size+1,0,none⟩) (fun ad e=>(hne2 ad e).1) _).far (p:=⟨w.heap.size+1,1,none⟩) (fun ad e=>(hne2 ad e).1) _).far (p:=⟨w.heap.size+1,2,none⟩) (fun ad e=>(hne2 ad e).1) _).far (p:=⟨w.heap.size+1,3,none⟩) (fun ad e=>(hne2 ad e).1) _).far (p:=⟨w.heap.size+1+1,0,none⟩) (fun ad e=>(hne2 ad e).2) _).far (p:=⟨w.heap.size+1+1,1,none⟩) (fun ad e=>(hne2 ad e).2) _),(OwnOps.at_ ((((((hown.far (p:=⟨w.heap.size+1,0,none⟩) hb1w _).far (p:=⟨w.heap.size+1,1,none⟩) hb1w _).far (p:=⟨w.heap.size+1,2,none⟩) hb1w _).far (p:=⟨w.heap.size+1,3,none⟩) hb1w _).far (p:=⟨w.heap.size+1+1,0,none⟩) hb2w _).far (p:=⟨w.heap.size+1+1,1,none⟩) hb2w _) HLO.out),HLI.out.1,HLI.out.2.1,HLI.out.2.2⟩,HREL.out⟩;simp[results,Tryz.results8,go_sem,Fr,yrob0,yrw2]
end Go.Proofs.YtpeipeljmapkmaaGreat
