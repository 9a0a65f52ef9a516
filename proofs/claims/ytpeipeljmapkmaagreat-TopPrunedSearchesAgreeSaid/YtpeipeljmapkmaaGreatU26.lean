/-
  Lemmas for the law: Vs.
-/
import Derived.Test.YtpeipeljmapkmaaGreatU12
import Derived.Test.YtpeipeljmapkmaaGreatU15
set_option linter.unusedVariables false
set_option linter.unusedSimpArgs false
set_option maxRecDepth 100000
set_option maxHeartbeats 4000000
namespace Go.Proofs.YtpeipeljmapkmaaGreat
open Go.RowKit
section
open Go.Shelf
theorem vJ3{α:Type}{P:Program}{gop:Operand}{ps:Array Tmp}{assign body:Code}{Q:Exit->Act->World->Prop}{a:Act}{w:World}{gf:Nat}{lb:Array Value}
  (hg:a.eval gop=.func (.func gf) #[] lb) (eg:∀ args w,(callFunc gf args).run P w=.ok (.enter gf args) w)
  (encs:α->Array Value) (hps:∀ x,(encs x).size=ps.size) (G:α->World->Prop) (I:List α->World->Prop) (Kp:World->World->Prop) (S:List α->Prop)
  (hI:OwnFrom w.heap.size I) (hG:∀ x,OwnFrom w.heap.size (fun (_:Unit) W=>G x W)) (hKt:∀ {A B C:World},Kp A B->Kp B C->Kp A C)
  (hKb:∀ (W:World) (l:Nat) (o o':Obj),w.heap.size<=l->W.heap[l]? = some o->o.isCells=false->Kp W (W.putObj l o')) (h0:I [] w)
  (hit:∀ (l:Nat) (J:List α->World->Prop) (W:World),Below w.heap.size w W->AbidesFrom W.heap.size J ->
   (∀ pre x W1,J pre W1->G x W1->YieldAt Fence.wide 3 P l (encs x) W1 fun e W'=>e=.returned (.bool true)/\J (pre ++ [x]) W'/\Kp W1 W')->J [] W ->
   CallsIn Fence.wide 4 P gf (#[.func (.yield l) #[] #[]] ++ lb) W fun e W'=>(∃ v,e=.returned v)/\∃ xs,S xs/\J xs W')
  (a1:α->Act) (hassign:∀ (l:Nat) (x:α) (W:World) (K:Act->World->Prop),K (a1 x) W->assign.wpIn (Fence.wide.inRound l) 3 P (Exit.then K (fun _ _ _=>False)) { tmps:=(ps.zip (encs x)).foldl (fun t (p,v)=>t.setIfInBounds p v) a.tmps,defers:=[] } W)
  (hbody:∀ (l:Nat) (pre:List α) (x:α) (W:World),I pre W->G x W->body.wpIn (Fence.wide.inRound l) 3 P (fun e _ W'=>e=.normal/\KeepsFrom w.heap.size W W'/\Kp W W'/\I (pre ++ [x]) W') (a1 x) W)
  (hdone:∀ (D:Nat) (xs:List α) (W:World),w.heap.size<=D->S xs->I xs W->W.heap[D]? = some (.deferred (some []))->Q .normal { a with defers:=xWu D :: a.defers } W) :
  (Code.rangeFunc gop ps assign body).wpIn Fence.wide 5 P Q a w:=by
 refine wpIn_rangeFunc fun fn hfn=>?_
 obtain⟨R,hR⟩:∃ R:LoopState->Loop,R=fun st=>{ state:=st,pending:=none,fn,tmps:=a.tmps,params:=ps,assign,body,defers:=w.heap.size }:=⟨_,rfl⟩
 have sR:∀ st,(R st).state=st:=fun st=>by rw[hR]
 have pR:∀ st,(R st).pending=none:=fun st=>by rw[hR]
 have kR:∀ st st',{ R st with state:=st' }=R st':=fun st st'=>by rw[hR]
 have qR:∀ st st',{ R st with state:=st',pending:=none }=R st':=fun st st'=>by rw[hR]
 obtain⟨W1,e1⟩:∃ W1,W1=(w.alloc (.deferred (some []))).alloc (.loop (R .ready)):=⟨_,rfl⟩;have s1:W1.heap.size=w.heap.size+1+1:=by rw[e1];simp
 have b1:Below w.heap.size w W1:=by rw[e1];exact ((Below.refl _ w).alloc (Nat.le_refl _) _).alloc (by simp) _
 have hl1:W1.heap[w.heap.size+1]? = some (.loop (R .ready)):=by
  have h:=World.alloc_heap_new (w.alloc (.deferred (some []))) (.loop (R .ready));rw[World.size_alloc] at h;rw[e1];exact h
 have hd1:W1.heap[w.heap.size]? = some (.deferred (some [])):=by rw[e1];exact (Below.heap_alloc _ _ _ (by simp)).trans (World.alloc_heap_new w _)
 refine⟨w.heap.size+1,[xWu w.heap.size],W1,{ target:=.fn (.func gf) lb,args:=#[.func (.yield (w.heap.size+1)) #[] #[]] },W1,gf,#[.func (.yield (w.heap.size+1)) #[] #[]] ++ lb,W1,by rw[e1,hR];exact run_enterLoop_outer _ _ _ _ _,by simp only[resolve,hg];simp[go_sem],fun _ _=>trivial,by simp[invoke,go_sem,eg],fun _=>by decide,?_⟩;have hab:AbidesFrom W1.heap.size (fun pre W=>I pre W/\W.heap[w.heap.size+1]? = some (.loop (R .ready))/\W.heap[w.heap.size]? = some (.deferred (some []))):=by
  intro s A B row hs hgr hr;refine⟨hI s A B row hs.1 hgr (fun r e=>?_),(grownBy_keeps hgr (fun r e=>(hr r e).2) hs.2.1 rfl).trans hs.2.1,(grownBy_keeps hgr (fun r e=>(hr r e).2) hs.2.2 rfl).trans hs.2.2⟩;obtain⟨h1,o,h2,h3⟩:=hr r e;exact⟨by omega,o,h2,Obj.not_cells_of_walk h3⟩
 have hi1:I [] W1:=by rw[e1];exact hI.alloc _ (hI.alloc _ h0)
 refine (hit (w.heap.size+1) _ W1 b1 hab ?_ ⟨hi1,hl1,hd1⟩).mono ?_
 ·rintro pre x W ⟨hi,hl,hd⟩ hx;have hlt:=(Array.getElem?_eq_some_iff.1 hl).1;have hy:=run_yield (P:=P) (args:=encs x) hl (by rw[hR];exact hps x);have fR:(R .ready).fn=fn/\(R .ready).tmps=a.tmps/\(R .ready).params=ps/\(R .ready).assign=assign/\(R .ready).body=body:=by rw[hR];exact⟨rfl,rfl,rfl,rfl,rfl⟩
  rw[fR.1,fR.2.1,fR.2.2.1,fR.2.2.2.1,fR.2.2.2.2] at hy;have hb:=run_beginRound (P:=P) hl (sR _);rw[kR] at hb;refine⟨fn,_,assign,body,hy,roundIn_of_wpIn hfn (hassign _ x W _ ⟨_,hb,?_⟩)⟩;obtain⟨V,hV⟩:∃ V,W.putObj (w.heap.size+1) (.loop (R .busy))=V:=⟨_,rfl⟩;have hlV:V.heap[w.heap.size+1]? = some (.loop (R .busy)):=by rw[<- hV];exact World.putObj_heap_same hlt
  have hdV:V.heap[w.heap.size]? = some (.deferred (some [])):=by rw[<- hV];exact (World.putObj_heap_other (by omega)).trans hd
  have hiV:I pre V:=by rw[<- hV];exact hI.putObj _ hi (by omega) hl rfl
  have hxV:G x V:=by rw[<- hV];exact (hG x).putObj (s:=()) _ hx (by omega) hl rfl
  have kV:Kp W V:=by rw[<- hV];exact hKb _ _ _ _ (by omega) hl rfl
  rw[hV];refine wpIn_mono (hbody _ pre x V hiV hxV) ?_;rintro e a3 U ⟨rfl,h1,h2,h3⟩;have hlU:=h1.same _ _ (by omega) hlV rfl;have hdU:=h1.same _ _ (Nat.le_refl _) hdV rfl;have hltU:=(Array.getElem?_eq_some_iff.1 hlU).1;have he:=run_endRound (P:=P) none hlU;simp only[Option.isNone_none,if_true] at he;rw[qR] at he;exact⟨_,_,he,rfl,⟨hI.putObj _ h3 (by omega) hlU rfl,World.putObj_heap_same hltU,(World.putObj_heap_other (by omega)).trans hdU⟩,hKt (hKt kV h2) (hKb _ _ _ _ (by omega) hlU rfl)⟩
 ·rintro e U ⟨⟨v,rfl⟩,xs,hS,hi,hl,hd⟩;have he:=run_endLoop (P:=P) hl (by rw[sR];simp);rw[pR] at he;exact⟨none,_,he,hdone _ xs _ (Nat.le_refl _) hS (hI.putObj _ hi (by omega) hl rfl) ((World.putObj_heap_other (by omega)).trans hd)⟩
end
end Go.Proofs.YtpeipeljmapkmaaGreat
