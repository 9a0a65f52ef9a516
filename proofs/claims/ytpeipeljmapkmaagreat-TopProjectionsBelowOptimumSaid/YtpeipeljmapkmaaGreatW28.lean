/-
  Lemmas for the law: Nd, Nea, Ne, Nf.
-/
import Derived.Test.YtpeipeljmapkmaaGreatW27
import Derived.Laws.EntriesVeiled
set_option linter.unusedVariables false
set_option linter.unusedSimpArgs false
set_option maxRecDepth 100000
set_option maxHeartbeats 4000000
namespace Go.Proofs.YtpeipeljmapkmaaGreat
open Go.RowKit
def AOk(m:MtV)(pats:List (List Int))(st:List Int):Prop:=(MValid m/\StM m.sizes st)/\pats.length<=6/\∀ p∈pats,POk m p st
def DVals(m:MtV)(pats:List (List Int))(st:List Int)(k:Nat)(vals:List Int):Prop:=vals.length=k/\∀ (i:Nat) (p:List Int),i < k->pats[i]? = some p->POk m p st/\∃ d,vals[i]? = some d/\DVal m p st d
theorem DVals.nil(m:MtV)(pats:List (List Int))(st:List Int):DVals m pats st 0 []:=⟨rfl,fun i p hi=>absurd hi (by omega)⟩
theorem DVals.snoc{m:MtV}{pats:List (List Int)}{st:List Int}{k:Nat}{vals:List Int}{p:List Int}{d:Int}(h:DVals m pats st k vals)(hp:pats[k]? = some p)(hk:POk m p st)(hd:DVal m p st d):DVals m pats st (k+1) (vals ++ [d]):=by
 refine⟨by rw[List.length_append,h.1];rfl,fun i q hi hq=>?_⟩
 by_cases hik:i < k
 ·obtain⟨h1,d',h2,h3⟩:=h.2 i q hik hq;exact⟨h1,d',by rw[List.getElem?_append_left (by rw[h.1];exact hik)];exact h2,h3⟩
 ·obtain rfl:i=k:=by omega
  rw[hp] at hq;obtain rfl:=Option.some.inj hq;exact⟨hk,d,by rw[List.getElem?_append_right (by rw[h.1];exact Nat.le_refl _),h.1];simp,hd⟩
theorem DVals.rng{m:MtV}{pats:List (List Int)}{st:List Int}{k:Nat}{vals:List Int}(h:DVals m pats st k vals)(hk:k<=pats.length):∀ v∈vals,0<=v/\v<=1000000000:=by
 intro v hv;obtain⟨i,hi,rfl⟩:=List.mem_iff_getElem.1 hv;rw[h.1] at hi;obtain⟨h1,d,h2,h3⟩:=h.2 i (pats[i]'(by omega)) hi (lGe (by omega));rw[lGe (by rw[h.1];exact hi)] at h2;rw[Option.some.inj h2];exact h3.rng h1.2.1 h1.1.2
theorem DVals.all{m:MtV}{pats:List (List Int)}{st:List Int}{vals:List Int}(h:DVals m pats st pats.length vals):∀ p∈pats,POk m p st:=by
 intro p hp;obtain⟨i,hi,rfl⟩:=List.mem_iff_getElem.1 hp;exact (h.2 i _ hi (lGe hi)).1
def AValP(m:MtV)(pats:List (List Int))(st:List Int)(w:World)(e:Ending)(w':World):Prop:=
 ((
   ∃ c j:Int,e=.returned (.tuple #[.int .i64 0,.agg #[.int .i64 c,.int .i64 j]])/\¬ c=0/\¬ AOk m pats st) \/
   (∃ vals,e=.returned (.tuple #[.int .i64 (xX1 vals (CmpV m.ops pats) vals.length []),.agg #[.int .i64 0,.int .i64 0]])/\AOk m pats st/\DVals m pats st pats.length vals))/\Below w.heap.size w w'
theorem xYh(w:World)(m:MtV)(As Ai Ag Ao:Option Addr)(cs ci cg co:Nat)(hM:MMem w As Ai Ag Ao m)(P:Option Addr)(cP:Nat)(pats:List (List Int))(hP:RowsRead w P pats)(hlp:pats.length<=9223372036854775807)(S:Option Addr)(c:Nat)(st:List Int)(hS:Ints w S st)(hls:st.length<=9223372036854775807) :
  Calls Tryz.prog 14 #[.agg #[.slice As m.sizes.length cs,.slice Ai m.init.length ci,.slice Ag m.goal.length cg,.slice Ao m.ops.length co],.slice P pats.length cP,.slice S st.length c] w (AValP m pats st w):=by
 have HM:=lHd hM;clear hM
 by_cases h1:MValid m/\StM m.sizes st
 ·have H1:=lHd h1;clear h1
  by_cases h6:pats.length<=6
  ·have hl6:¬ (6:Int) < (pats.length:Int):=by omega
   go_enter Tryz.func14,Tryz.ntmps14
   go_wp2_with fail
   refine (xJw _ _ _ _ _ _ _ _ _ _ (HM.out.below bch) _ _ _ (hS.below bch) hls).mono ?_;rintro e w1 ⟨he,hB1⟩;have D1:=xJ4 w hB1 bch;have C1:=Cls.below (l:=[(w.heap.size,0,.slice As m.sizes.length cs),(w.heap.size,1,.slice Ai m.init.length ci),(w.heap.size,2,.slice Ag m.goal.length cg),(w.heap.size,3,.slice Ao m.ops.length co),(w.heap.size+1,0,.slice P pats.length cP),(w.heap.size+1+1,0,.int .i64 0),(w.heap.size+1+1,1,.int .i64 0)]) hB1 (by simp[Cls,go_sem]);have F1:=C1;simp only[Cls,and_true] at F1;have y1w2:w.heap.size+1+1 < w1.heap.size:=C1.blk (b:=w.heap.size+1+1) (k:=0) (v:=.int .i64 0) (by simp);have y1w1:w.heap.size+1 < w1.heap.size:=(by omega);have y1w0:w.heap.size < w1.heap.size:=(by omega);have y1wp1:w.heap.size < w1.heap.size+1:=(by omega);have he:=he.yes H1.out;subst he
   go_wp2_with fail
   go_loopw [28] (fun i wr=>∃ k:Nat,k<=pats.length/\i=.int .i64 (k:Int)/\∃ (v:Value) (vals:List Int),OwnI (w1.heap.size+1+1) wr v vals/\DVals m pats st k vals/\Below w.heap.size w wr/\Cls wr [(w.heap.size,0,.slice As m.sizes.length cs),(w.heap.size,1,.slice Ai m.init.length ci),(w.heap.size,2,.slice Ag m.goal.length cg),(w.heap.size,3,.slice Ao m.ops.length co),(w.heap.size+1,0,.slice P pats.length cP),(w.heap.size+1+1,0,.int .i64 0),(w.heap.size+1+1,1,.int .i64 0),(w1.heap.size,0,.int .i64 0),(w1.heap.size,1,.int .i64 0),(w1.heap.size+1,0,v)]) (fun i _=>pats.length - (intOf i).toNat)
   case atStart=>exact⟨0,Nat.zero_le _,rfl,.slice none 0 0,[],OwnI.nil _ _,DVals.nil _ _ _,bch,(by simp[Cls,go_sem,F1,y1w2,y1w1,y1w0,y1wp1])⟩
   case round=>
    obtain⟨k,hk,rfl,v,vals,hown,hDV,hBr,hCr⟩:=hrel;obtain⟨wk,rfl⟩:∃ wo:World,wo=wr:=⟨_,rfl⟩;have Fr:=hCr;simp only[Cls,and_true] at Fr;have yrw2:w.heap.size+1+1 < wk.heap.size:=hCr.blk (b:=w.heap.size+1+1) (k:=0) (v:=.int .i64 0) (by simp);have yrw1:w.heap.size+1 < wk.heap.size:=(by omega);have yrw0:w.heap.size < wk.heap.size:=(by omega);have yrw11:w1.heap.size+1 < wk.heap.size:=hCr.blk (b:=w1.heap.size+1) (k:=0) (v:=v) (by simp);have yrw10:w1.heap.size < wk.heap.size:=(by omega)
    by_cases hlt:k < pats.length
    ·have hpk:pats[k]? = some pats[k]:=lGe hlt;obtain⟨p,hp⟩:∃ p,p=pats[k]:=⟨_,rfl⟩;rw[<- hp] at hpk;have HPK:=lHd hpk;obtain⟨ad,R,cr,rfl,hrc,hIR,hnR⟩:=(hP.below hBr) k p hpk;have hlr:p.length<=9223372036854775807:=Nat.le_trans hnR.2.1 hnR.2.2;have hvl:vals.length=k:=hDV.1;have HDV:=lHd hDV;clear hpk hp hDV hnR
     by_cases hpo:POk m p st
     ·have HPO:=lHd hpo;clear hpo
      go_wp2_with fail
      refine (xY3 _ _ _ _ _ _ _ _ _ _ (HM.out.below bch) _ _ _ (hIR.below bch) hlr _ _ _ (hS.below bch) hls HPO.out).mono ?_;rintro e w2 ⟨d,rfl,hd,hB2⟩;have D2:=xJ4 w hB2 bch;have Ewk_2:=xJ4 wk hB2 bch;have C2:=Cls.below (l:=[(w.heap.size,0,.slice As m.sizes.length cs),(w.heap.size,1,.slice Ai m.init.length ci),(w.heap.size,2,.slice Ag m.goal.length cg),(w.heap.size,3,.slice Ao m.ops.length co),(w.heap.size+1,0,.slice (some ad) pats.length cP),(w.heap.size+1+1,0,.int .i64 0),(w.heap.size+1+1,1,.int .i64 0),(w1.heap.size,0,.int .i64 0),(w1.heap.size,1,.int .i64 0),(w1.heap.size+1,0,v)]) hB2 (by simp[Cls,go_sem,Fr,yrw2,yrw1,yrw0,yrw11,yrw10]);have F2:=C2;simp only[Cls,and_true] at F2;have y2w2:w.heap.size+1+1 < w2.heap.size:=C2.blk (b:=w.heap.size+1+1) (k:=0) (v:=.int .i64 0) (by simp);have y2w11:w1.heap.size+1 < w2.heap.size:=C2.blk (b:=w1.heap.size+1) (k:=0) (v:=v) (by simp);have HD:=lHd hd;clear hd;have hown2:=hown.below bch
      go_wp2_with (at_builtin;go_must (refine xZk rfl (.tmp 47) (.tmp 49) rfl w [(w.heap.size,0,.slice As m.sizes.length cs),(w.heap.size,1,.slice Ai m.init.length ci),(w.heap.size,2,.slice Ag m.goal.length cg),(w.heap.size,3,.slice Ao m.ops.length co),(w.heap.size+1,0,.slice (some ad) pats.length cP),(w.heap.size+1+1,0,.int .i64 0),(w.heap.size+1+1,1,.int .i64 0),(w1.heap.size,0,.int .i64 0),(w1.heap.size,1,.int .i64 0),(w1.heap.size+1,0,v)] (w1.heap.size+1+1) v _ (d) rfl (OwnI.below hown2 ?p1) ⟨w2.heap.size+1,0,none⟩ 1 rfl ?p2 (by omega) ?p3 ?p4 ?p5 ?p6 ?p7 ?_;(case p1=>exact bch);(case p2=>(first | simp[Cls,go_sem,F2,y2w2,y2w11] | exact xZh _ _ _ _ rfl));(case p3=>(first | omega | (simp <;> omega)));(case p4=>(first | omega | (simp <;> omega)));(case p5=>exact bch);(case p6=>exact Cls.below (w:=w2) bch C2);(case p7=>(simp <;> omega));intro v3 w3 o3 D3 C3 sz3;have d3s:=D3.size;have F3:=C3;simp only[Cls,and_true] at F3;have y3w2:w.heap.size+1+1 < w3.heap.size:=C3.blk (b:=w.heap.size+1+1) (k:=0) (v:=.int .i64 0) (by simp);have y3w1:w.heap.size+1 < w3.heap.size:=(by omega);have y3w0:w.heap.size < w3.heap.size:=(by omega);have y3wp1:w.heap.size < w3.heap.size+1:=(by omega);have y3wp2:w.heap.size < w3.heap.size+1+1:=(by omega);have y3w11:w1.heap.size+1 < w3.heap.size:=C3.blk (b:=w1.heap.size+1) (k:=0) (v:=v) (by simp);have y3w10:w1.heap.size < w3.heap.size:=(by omega);have y3w1p1:w1.heap.size < w3.heap.size+1:=(by omega);have y3w1p2:w1.heap.size < w3.heap.size+1+1:=(by omega);obtain⟨A3,c3,hv3,-,-⟩:=o3.form;subst hv3))
      go_roundw
      case rel=>exact⟨k+1,by omega,by go_num,_,_,OwnI.far (p:=⟨w1.heap.size+1,0,none⟩) (by rw[show (vals ++ [d]).length=k+1 from by rw[List.length_append,hvl];rfl] at o3;exact o3) (by dsimp only;omega) _,HDV.out.snoc HPK.out HPO.out HD.out,bch,(by simp[Cls,go_sem,F3,y3w2,y3w1,y3w0,y3wp1,y3wp2,y3w11,y3w10,y3w1p1,y3w1p2])⟩
      case measure=>simp[intOf];omega
     ·have HPO:=lHd hpo;clear hpo
      go_wp2_with fail
      refine (zWy _ _ _ _ _ _ _ _ _ _ (HM.out.below bch) _ _ _ (hIR.below bch) hlr _ _ _ (hS.below bch) hls HPO.out).mono ?_;rintro e w2 ⟨cc,jj,rfl,hcc,hB2⟩;have D2:=xJ4 w hB2 bch;have Ewk_2:=xJ4 wk hB2 bch;have C2:=Cls.below (l:=[(w.heap.size,0,.slice As m.sizes.length cs),(w.heap.size,1,.slice Ai m.init.length ci),(w.heap.size,2,.slice Ag m.goal.length cg),(w.heap.size,3,.slice Ao m.ops.length co),(w.heap.size+1,0,.slice (some ad) pats.length cP),(w.heap.size+1+1,0,.int .i64 0),(w.heap.size+1+1,1,.int .i64 0),(w1.heap.size,0,.int .i64 0),(w1.heap.size,1,.int .i64 0),(w1.heap.size+1,0,v)]) hB2 (by simp[Cls,go_sem,Fr,yrw2,yrw1,yrw0,yrw11,yrw10]);have F2:=C2;simp only[Cls,and_true] at F2;have y2w2:w.heap.size+1+1 < w2.heap.size:=C2.blk (b:=w.heap.size+1+1) (k:=0) (v:=.int .i64 0) (by simp);have y2w11:w1.heap.size+1 < w2.heap.size:=C2.blk (b:=w1.heap.size+1) (k:=0) (v:=v) (by simp);have hcc0:=lHd hcc;have N:=zXo hcc;have N':=xYl hcc
      go_wp2_with fail
      refine xJa 5 (by kernel_rfl) (by kernel_rfl) ?_;simp only[List.take_succ_cons,List.take_zero,List.drop_succ_cons,List.drop_zero]
      repeat still_step
      try refine wpStill_nil ?_
      go_wp2;refine bodyPost_ret (v:=.tuple #[.int .i64 0,.agg #[.int .i64 cc,.int .i64 ((k:Int))]]) ?_ rfl ⟨Or.inl ⟨cc,(k:Int),rfl,hcc0.out,fun h=>HPO.out (h.2.2 _ (lMg HPK.out))⟩,bch⟩;simp[results,Tryz.results14,go_sem,F2,y2w2,y2w11]
    ·obtain rfl:k=pats.length:=by omega
     obtain⟨VA,cV,rfl,-,hIV⟩:=hown.form;have hvl:vals.length=pats.length:=hDV.1;have HDV:=lHd hDV;have HIV:=lHd hIV;have HR:=lHd (hDV.rng (Nat.le_refl _));have HPR:=lHd (hP.below hBr);have HMR:=lHd (HM.out.below hBr);clear hown hDV hIV
     go_wp2_with fail
     go_wp2_with fail
     refine (vZs (w.heap.size+1) wk.heap.size w.heap.size (w1.heap.size+1) P VA cP cV pats vals m As Ai Ag Ao cs ci cg co hvl h6 HR.out pats.length 0 (by omega) _ none 0 [] ⟨by simp[go_sem,Fr,yrw2,yrw1,yrw0,yrw11,yrw10],by simp[go_sem,Fr,yrw2,yrw1,yrw0,yrw11,yrw10],by simp[go_sem,Fr,yrw2,yrw1,yrw0,yrw11,yrw10],by simp[go_sem,Fr,yrw2,yrw1,yrw0,yrw11,yrw10],by simp[go_sem,Fr,yrw2,yrw1,yrw0,yrw11,yrw10],by simp[go_sem,Fr,yrw2,yrw1,yrw0,yrw11,yrw10],by simp[go_sem,Fr,yrw2,yrw1,yrw0,yrw11,yrw10],HMR.out.below bch,HPR.out.below bch,HIV.out.below bch⟩ (fun _ _ h=>by simp at h) (fun _=>rfl) (Nat.le_refl _) (by omega) (Nat.le_refl _) (fun _ h=>by cases h)).mono ?_;rintro e w2 ⟨rfl,hB2⟩;have D2:=xJ4 w hB2 bch;have C2:=Cls.below (l:=[(w.heap.size,0,.slice As m.sizes.length cs),(w.heap.size,1,.slice Ai m.init.length ci),(w.heap.size,2,.slice Ag m.goal.length cg),(w.heap.size,3,.slice Ao m.ops.length co),(w.heap.size+1,0,.slice P pats.length cP),(w.heap.size+1+1,0,.int .i64 0),(w.heap.size+1+1,1,.int .i64 0),(w1.heap.size,0,.int .i64 0),(w1.heap.size,1,.int .i64 0),(w1.heap.size+1,0,.slice VA vals.length cV)]) hB2 (by simp[Cls,go_sem,Fr,yrw2,yrw1,yrw0,yrw11,yrw10]);have F2:=C2;simp only[Cls,and_true] at F2;have y2w2:w.heap.size+1+1 < w2.heap.size:=C2.blk (b:=w.heap.size+1+1) (k:=0) (v:=.int .i64 0) (by simp);have y2w11:w1.heap.size+1 < w2.heap.size:=C2.blk (b:=w1.heap.size+1) (k:=0) (v:=.slice VA vals.length cV) (by simp);go_wp2;refine bodyPost_ret (v:=.tuple #[.int .i64 ((xX1 vals (CmpV m.ops pats) vals.length [])),.agg #[.int .i64 0,.int .i64 0]]) ?_ rfl ⟨Or.inr ⟨vals,rfl,⟨H1.out,h6,HDV.out.all⟩,HDV.out⟩,bch⟩;simp[results,Tryz.results14,go_sem,F2,y2w2,y2w11,hvl]
  ·have hl6:(6:Int) < (pats.length:Int):=by omega
   have H6:=lHd h6;clear h6;go_enter Tryz.func14,Tryz.ntmps14
   go_wp2_with fail
   refine (xJw _ _ _ _ _ _ _ _ _ _ (HM.out.below bch) _ _ _ (hS.below bch) hls).mono ?_;rintro e w1 ⟨he,hB1⟩;have D1:=xJ4 w hB1 bch;have C1:=Cls.below (l:=[(w.heap.size,0,.slice As m.sizes.length cs),(w.heap.size,1,.slice Ai m.init.length ci),(w.heap.size,2,.slice Ag m.goal.length cg),(w.heap.size,3,.slice Ao m.ops.length co),(w.heap.size+1,0,.slice P pats.length cP),(w.heap.size+1+1,0,.int .i64 0),(w.heap.size+1+1,1,.int .i64 0)]) hB1 (by simp[Cls,go_sem]);have F1:=C1;simp only[Cls,and_true] at F1;have y1w2:w.heap.size+1+1 < w1.heap.size:=C1.blk (b:=w.heap.size+1+1) (k:=0) (v:=.int .i64 0) (by simp);have y1w1:w.heap.size+1 < w1.heap.size:=(by omega);have y1w0:w.heap.size < w1.heap.size:=(by omega);have y1wp1:w.heap.size < w1.heap.size+1:=(by omega);have he:=he.yes H1.out;subst he;go_wp2;refine bodyPost_ret (v:=.tuple #[.int .i64 0,.agg #[.int .i64 2,.int .i64 (-9)]]) ?_ rfl ⟨Or.inl ⟨2,-9,rfl,by decide,fun h=>H6.out h.2.1⟩,bch⟩;simp[results,Tryz.results14,go_sem,F1,y1w2,y1w1,y1w0,y1wp1]
 ·have H1:=lHd h1;clear h1;go_enter Tryz.func14,Tryz.ntmps14
  go_wp2_with fail
  refine (xJw _ _ _ _ _ _ _ _ _ _ (HM.out.below bch) _ _ _ (hS.below bch) hls).mono ?_;rintro e w1 ⟨he,hB1⟩;have D1:=xJ4 w hB1 bch;have C1:=Cls.below (l:=[(w.heap.size,0,.slice As m.sizes.length cs),(w.heap.size,1,.slice Ai m.init.length ci),(w.heap.size,2,.slice Ag m.goal.length cg),(w.heap.size,3,.slice Ao m.ops.length co),(w.heap.size+1,0,.slice P pats.length cP),(w.heap.size+1+1,0,.int .i64 0),(w.heap.size+1+1,1,.int .i64 0)]) hB1 (by simp[Cls,go_sem]);have F1:=C1;simp only[Cls,and_true] at F1;have y1w2:w.heap.size+1+1 < w1.heap.size:=C1.blk (b:=w.heap.size+1+1) (k:=0) (v:=.int .i64 0) (by simp);have y1w1:w.heap.size+1 < w1.heap.size:=(by omega);have y1w0:w.heap.size < w1.heap.size:=(by omega);have y1wp1:w.heap.size < w1.heap.size+1:=(by omega);obtain⟨cc,jj,he,hc⟩:=he.no H1.out;subst he;have hc0:=lHd hc;have N:=zXo hc;have N':=xYl hc
  go_wp2_with fail
  refine xJa 2 (by kernel_rfl) (by kernel_rfl) ?_;simp only[List.take_succ_cons,List.take_zero,List.drop_succ_cons,List.drop_zero]
  repeat still_step
  try refine wpStill_nil ?_
  go_wp2;refine bodyPost_ret (v:=.tuple #[.int .i64 0,.agg #[.int .i64 cc,.int .i64 jj]]) ?_ rfl ⟨Or.inl ⟨cc,jj,rfl,hc0.out,fun h=>H1.out h.1⟩,bch⟩;simp[results,Tryz.results14,go_sem,F1,y1w2,y1w1,y1w0,y1wp1]
section
variable {α:Type}{P:World->Option Nat->List Value->α->Prop}{e:TypeId}{size base:Nat}{w:World}{v:Value}{els:List α}
theorem zKp(hP:Stable P)(T:TypeId)(bytes:Nat)(z:Value)(hT:Tryz.prog.underlying T=some (.slice e))(hinf:(Tryz.prog.info? e).map (fun i=>(i.zero,i.size,i.bytes))=some (some z,size,bytes))(hzs:z.cells.size=size)(hsz:0 < size)(hby:bytes<=128)
  {ops:Array Oper} {rest:List Oper} {o:Oper} {a:Act} {Q:Exit->Act->World->Prop} (hgd:o.guard=none) (s x:Operand)
  (ho:o.op=.call { callee:=.builtin .append,args:=#[s,x],argTypes:=#[T,T] })
  (w0:World) (l:List (Nat×Nat×Value)) (hs:a.eval s=v) (hown:OwnEs P e size base w v els) (ad:Addr) (m:Nat) (hx:a.eval x=.slice (some ad) 1 m) (news:List Value) (y:α) (hnl:news.length=size) (hnews:∀ j u,news[j]? = some u->w.cell? (ad.add j)=some u) (h1:∀ u∈news,u.oneCell'=true) (hy:P w v.ownBlock news y)
  (hlen:els.length < 1000000000000) (hbase:base<=w.heap.size) (h0:w0.heap.size<=base) (hB:Below w0.heap.size w0 w) (hC:Cls w l) (hl:∀ x∈l,x.1 < base)
  (h:∀ g cap w',OwnEs P e size base w' (.slice (some ⟨g,0,none⟩) (els.length+1) cap) (els ++ [y])->Below w0.heap.size w0 w'->Cls w' l->w.heap.size<=w'.heap.size->w.grownBy w' v.ownBlock->wpList Tryz.prog ops Q rest (a.put o.dst (.slice (some ⟨g,0,none⟩) (els.length+1) cap)) w') :
  wpList Tryz.prog ops Q (o :: rest) a w:=by
 obtain⟨i0,hi0,hz⟩:=Option.map_eq_some_iff.1 hinf;simp only[Prod.mk.injEq] at hz;obtain⟨cells,hr,hcs⟩:=hown;have hcl:=hr.1;refine wpList_append_lies w hgd s x T ho base e i0 z size bytes hT hi0 hz.1 hz.2.1 hz.2.2 hzs hsz v els.length cells hs hr ad 1 m news hx (by omega) hnews h1 (by decide) ?_ ?_ hbase _ rfl ?_
 ·simp only[maxLen];omega
 ·have:=Nat.mul_le_mul_left (els.length+1) hby;omega
 ·intro g cap w' h2 h3 h4 h5;refine h g cap w' ⟨cells ++ news,by rw[List.length_append];exact h2,fun i a ha=>?_⟩ ?_ ?_ h3.size h3
  ·have key:∀ {cs:List Value} {a:α},P w v.ownBlock cs a->P w' (some g) cs a:=fun hp=>by
    rcases h4 with h4 | h4
    ·rw[<- h4];exact (hP.grown hp h3).1
    ·rw[h4];exact (hP.grown hp h3).2
   rcases Nat.lt_or_ge i els.length with hi | hi
   ·rw[List.getElem?_append_left hi] at ha;have hle:i * size+size<=els.length * size:=by
     have:=Nat.mul_le_mul_right size (show i+1<=els.length from hi);rw[Nat.succ_mul] at this;exact this
    have e1:((cells ++ news).drop (i * size)).take size=(cells.drop (i * size)).take size:=by
     rw[List.drop_append_of_le_length (by omega),List.take_append_of_le_length (by rw[List.length_drop];omega)]
    rw[e1];exact key (hcs i a ha)
   ·have hie:i=els.length:=by
     have:=(List.getElem?_eq_some_iff.1 ha).1;rw[List.length_append] at this;simp at this;omega
    subst hie;rw[List.getElem?_append_right (Nat.le_refl _)] at ha;simp at ha;subst ha;have e1:((cells ++ news).drop (els.length * size)).take size=news:=by
     rw[<- hcl,List.drop_left,List.take_of_length_le (by omega)]
    rw[e1];exact key hy
  ·exact hB.grown h3 (Nat.le_trans h0 hbase) (fun k hk=>Nat.le_trans h0 (hr.lt k hk).1)
  ·exact hC.grown hr h3 hl
end
def Keep(B ob:Nat)(a w:World):Prop:=a.heap.size<=w.heap.size/\∀ k,k < B->k≠ob->w.heap[k]? = a.heap[k]?
theorem Keep.refl(B ob:Nat)(a:World):Keep B ob a a:=⟨Nat.le_refl _,fun _ _ _=>rfl⟩
theorem Keep.below{B ob:Nat}{a w w':World}(h:Keep B ob a w)(hB:B<=a.heap.size)(hb:Below w.heap.size w w'):Keep B ob a w':=
 ⟨Nat.le_trans h.1 hb.size,fun k hk hn=>(hb.block k (by have:=h.1;omega)).trans (h.2 k hk hn)⟩
theorem Keep.set{B ob:Nat}{a w:World}(h:Keep B ob a w){p:Addr}(hp:p.block=ob\/B<=p.block)(u:Value):Keep B ob a (w.setCell p u):=
 ⟨by simpa using h.1,fun k hk hn=>(Below.heap_setCell w p u k (by omega)).trans (h.2 k hk hn)⟩
theorem Keep.grown{B ob:Nat}{a w w':World}{row:Option Nat}(h:Keep B ob a w)(hB:B<=a.heap.size)(hg:w.grownBy w' row)(hr:∀ k,row=some k->B<=k):Keep B ob a w':=
 ⟨Nat.le_trans h.1 hg.size,fun k hk hn=>(hg.block k (by have:=h.1;omega) (fun e=>by have:=hr k e.symm;omega)).trans (h.2 k hk hn)⟩
theorem Keep.cell{B ob:Nat}{a w:World}(h:Keep B ob a w){p:Addr}(hp:p.block < B)(hn:p.block≠ob):w.cell? p=a.cell? p:=World.cell?_of_block (h.2 p.block hp hn)
theorem Ints.keep{B ob:Nat}{a w:World}{A:Option Addr}{xs:List Int}(hI:Ints a A xs)(h:Keep B ob a w)(hb:∀ ad,A=some ad->ad.block < B/\ad.block≠ob):Ints w A xs:=fun j x hx=>by
 obtain⟨ad,e,hc⟩:=hI j x hx;have:=hb ad e;exact⟨ad,e,(h.cell (p:=ad.add j) (by rw[xZ4];exact this.1) (by rw[xZ4];exact this.2)).trans hc⟩
theorem Cls.keep{B ob:Nat}{a w:World}{l:List (Nat×Nat×Value)}(hC:Cls a l)(h:Keep B ob a w)(hb:∀ x∈l,x.1 < B/\x.1≠ob):Cls w l:=by
 induction l with
 | nil=>trivial
 | cons x r ih=>
  have h1:=hb x (List.mem_cons_self ..);refine⟨⟨(h.cell (p:=⟨x.1,x.2.1,none⟩) h1.1 h1.2).trans hC.1.1,(World.frozen?_of_block (a:=⟨x.1,x.2.1,none⟩) (h.2 x.1 h1.1 h1.2)).trans hC.1.2⟩,ih hC.2 (fun y hy=>hb y (List.mem_cons_of_mem _ hy))⟩
theorem zKq{base init:List Int}{k:Nat}{x:Int}(h:init[k]? = some x):xX5 base (init.take (k+1))=xX5 base (init.take k) ++ [xJ2 base (k:Int)+x]:=by
 have hk:=(List.getElem?_eq_some_iff.1 h).1;unfold xX5;have e1:(init.take (k+1)).length=k+1:=by rw[List.length_take];omega
 have e2:(init.take k).length=k:=by rw[List.length_take];omega
 rw[e1,e2,List.range_succ,List.map_append];congr 1
 ·refine List.map_congr_left fun i hi=>?_
  have hi:=List.mem_range.1 hi;unfold xJ2;rw[Int.toNat_natCast,List.getElem?_take_of_lt (by omega),List.getElem?_take_of_lt (by omega)]
 ·show [xJ2 base (k:Int)+xJ2 (init.take (k+1)) (k:Int)]=_;rw[xJ5 (vs:=init.take (k+1)) (v:=x) (by rw[Int.toNat_natCast,List.getElem?_take_of_lt (by omega)];exact h)]
theorem zZ2(base init:List Int):(xX5 base init).length=init.length:=by unfold xX5;rw[List.length_map,List.length_range]
def zY7(base:List Int)(a:Int×Int)(k:Nat):List Int:=((List.range k).filter fun (x:Nat)=>decide ((x:Int)≠a.2)).map fun (x:Nat)=>xJ2 base a.1+(x:Int)
theorem vK5{base:List Int}{a:Int×Int}{k:Nat}(h:¬ (k:Int)=a.2):zY7 base a (k+1)=zY7 base a k ++ [xJ2 base a.1+(k:Int)]:=by
 unfold zY7;rw[List.range_succ,List.filter_append,List.map_append];simp[h]
theorem vWl{base:List Int}{a:Int×Int}{k:Nat}(h:(k:Int)=a.2):zY7 base a (k+1)=zY7 base a k:=by
 unfold zY7;rw[List.range_succ,List.filter_append,List.map_append];simp[h]
theorem vJu(base:List Int)(a:Int×Int)(k:Nat):(zY7 base a k).length<=k:=by
 unfold zY7;rw[List.length_map];exact Nat.le_trans (List.length_filter_le _ _) (by rw[List.length_range];exact Nat.le_refl _)
theorem vJv(sizes base:List Int)(a:Int×Int):xXu sizes base a=zY7 base a (xJ2 sizes a.1).toNat:=rfl
theorem zWq(w:World)(m:MtV)(As Ai Ag Ao:Option Addr)(cs ci cg co:Nat)(hM:MMem w As Ai Ag Ao m)(h:¬ MValid m) :
  Calls Tryz.prog 35 #[.agg #[.slice As m.sizes.length cs,.slice Ai m.init.length ci,.slice Ag m.goal.length cg,.slice Ao m.ops.length co]] w fun e w'=>∃ c j:Int,e=.returned (.tuple #[.agg #[.int .i64 0,.slice none 0 0,.slice none 0 0,.slice none 0 0],.agg #[.int .i64 c,.int .i64 j]])/\¬ c=0/\Below w.heap.size w w':=by
 have HM:=lHd hM;clear hM;go_enter Tryz.func35,Tryz.ntmps35
 go_wp2_with fail
 refine (xXf _ _ _ _ _ _ _ _ _ _ (HM.out.below bch)).mono ?_;rintro e w1 ⟨he,hB1⟩;have D1:=xJ4 w hB1 bch;have C1:=Cls.below (l:=[(w.heap.size,0,.slice As m.sizes.length cs),(w.heap.size,1,.slice Ai m.init.length ci),(w.heap.size,2,.slice Ag m.goal.length cg),(w.heap.size,3,.slice Ao m.ops.length co),(w.heap.size+1,0,.int .i64 0),(w.heap.size+1,1,.slice none 0 0),(w.heap.size+1,2,.slice none 0 0),(w.heap.size+1,3,.slice none 0 0),(w.heap.size+1+1,0,.int .i64 0),(w.heap.size+1+1,1,.int .i64 0)]) hB1 (by simp[Cls,go_sem]);have F1:=C1;simp only[Cls,and_true] at F1;have y1w2:w.heap.size+1+1 < w1.heap.size:=C1.blk (b:=w.heap.size+1+1) (k:=0) (v:=.int .i64 0) (by simp);have y1w1:w.heap.size+1 < w1.heap.size:=(by omega);obtain⟨cc,jj,he,hc⟩:=he.no h;subst he;have hc0:=lHd hc;have N:=zXo hc;have N':=xYl hc
 go_wp2_with fail
 have hSS0:(w1.alloc (.cells #[.int .i64 cc,.int .i64 jj] 27)).drew.cell? ⟨w1.heap.size,0,none⟩=some (.int .i64 cc)/\(w1.alloc (.cells #[.int .i64 cc,.int .i64 jj] 27)).drew.cell? ⟨w1.heap.size,1,none⟩=some (.int .i64 jj):=by simp[go_sem,F1,y1w2,y1w1]
 refine xJg (fun W=>W.cell? ⟨w1.heap.size,0,none⟩=some (.int .i64 cc)/\W.cell? ⟨w1.heap.size,1,none⟩=some (.int .i64 jj)) [3] (by kernel_rfl) ?_;have hSS:=hSS0;refine xJ0 (i:=0) (v:=?vz10) rfl (by kernel_rfl) (by kernel_rfl) (by kernel_rfl) (by kernel_rfl) (by kernel_rfl) (fun _ _ _ h=>h) (Or.inl ⟨by rfl,?hz10⟩) (by assumption) ?rz10
 case hz10=>(intro w hSw;(try dsimp only at hSw);go_simp;(try with_reducible rfl))
 try simp only[ap]
 refine xJ0 (i:=1) (v:=?vz11) rfl (by kernel_rfl) (by kernel_rfl) (by kernel_rfl) (by kernel_rfl) (by kernel_rfl) (fun _ _ _ h=>h) (Or.inl ⟨by rfl,?hz11⟩) (by assumption) ?rz11
 case hz11=>(intro w hSw;(try dsimp only at hSw);go_simp;(try with_reducible rfl))
 try simp only[ap]
 refine xJ3 (i:=2) (by kernel_rfl) rfl (fun K hK=>?_);go_simp
 go_wp2_with fail
 have hSS:(((((w1.setCell ⟨w.heap.size+1,0,none⟩ (.int .i64 0)).setCell ⟨w.heap.size+1,1,none⟩ (.slice none 0 0)).setCell ⟨w.heap.size+1,2,none⟩ (.slice none 0 0)).setCell ⟨w.heap.size+1,3,none⟩ (.slice none 0 0)).alloc (.cells #[.int .i64 cc,.int .i64 jj] 27)).drew.cell? ⟨w1.heap.size,0,none⟩=some (.int .i64 cc)/\(((((w1.setCell ⟨w.heap.size+1,0,none⟩ (.int .i64 0)).setCell ⟨w.heap.size+1,1,none⟩ (.slice none 0 0)).setCell ⟨w.heap.size+1,2,none⟩ (.slice none 0 0)).setCell ⟨w.heap.size+1,3,none⟩ (.slice none 0 0)).alloc (.cells #[.int .i64 cc,.int .i64 jj] 27)).drew.cell? ⟨w1.heap.size,1,none⟩=some (.int .i64 jj):=(by simp[go_sem,F1,y1w2,y1w1]);refine hK.out _ _ hSS ?_;clear hK K
 try simp only[ap]
 refine xJc (i:=3) (by kernel_rfl) rfl (by kernel_rfl) (fun K hK=>?_);go_simp
 go_wp2_with fail
 refine hK.out _ _ ?_;clear hK K
 try simp only[ap]
 refine xJ7 (by kernel_rfl) ?_ _;go_wp2;refine bodyPost_ret (v:=.tuple #[.agg #[.int .i64 0,.slice none 0 0,.slice none 0 0,.slice none 0 0],.agg #[.int .i64 cc,.int .i64 jj]]) ?_ rfl ⟨cc,jj,rfl,hc0.out,bch⟩;simp[results,Tryz.results35,go_sem,F1,y1w2,y1w1]
theorem zWr(w:World)(m:MtV)(As Ai Ag Ao:Option Addr)(cs ci cg co:Nat)(hM:MMem w As Ai Ag Ao m)(h:MValid m)(hn:24 < m.sizes.sum) :
  Calls Tryz.prog 35 #[.agg #[.slice As m.sizes.length cs,.slice Ai m.init.length ci,.slice Ag m.goal.length cg,.slice Ao m.ops.length co]] w fun e w'=>∃ c j:Int,e=.returned (.tuple #[.agg #[.int .i64 0,.slice none 0 0,.slice none 0 0,.slice none 0 0],.agg #[.int .i64 c,.int .i64 j]])/\¬ c=0/\Below w.heap.size w w':=by
 have HM:=lHd hM;have hv:=lHd h;have hl8:=h.v1;clear hM h;go_enter Tryz.func35,Tryz.ntmps35
 go_wp2_with fail
 refine (xXf _ _ _ _ _ _ _ _ _ _ (HM.out.below bch)).mono ?_;rintro e w1 ⟨he,hB1⟩;have D1:=xJ4 w hB1 bch;have C1:=Cls.below (l:=[(w.heap.size,0,.slice As m.sizes.length cs),(w.heap.size,1,.slice Ai m.init.length ci),(w.heap.size,2,.slice Ag m.goal.length cg),(w.heap.size,3,.slice Ao m.ops.length co),(w.heap.size+1,0,.int .i64 0),(w.heap.size+1,1,.slice none 0 0),(w.heap.size+1,2,.slice none 0 0),(w.heap.size+1,3,.slice none 0 0),(w.heap.size+1+1,0,.int .i64 0),(w.heap.size+1+1,1,.int .i64 0)]) hB1 (by simp[Cls,go_sem]);have F1:=C1;simp only[Cls,and_true] at F1;have y1w2:w.heap.size+1+1 < w1.heap.size:=C1.blk (b:=w.heap.size+1+1) (k:=0) (v:=.int .i64 0) (by simp);have y1w1:w.heap.size+1 < w1.heap.size:=(by omega);have y1w0:w.heap.size < w1.heap.size:=(by omega);have he:=he.yes hv.out;subst he
 go_wp2_with fail
 refine (zXs _ _ _ _ (HM.out.sizes.below bch) hl8 hv.out.sz).mono ?_;rintro e w2 ⟨v,rfl,hO,hB2⟩;have D2:=xJ4 w hB2 bch;have C2:=Cls.below (l:=[(w.heap.size,0,.slice As m.sizes.length cs),(w.heap.size,1,.slice Ai m.init.length ci),(w.heap.size,2,.slice Ag m.goal.length cg),(w.heap.size,3,.slice Ao m.ops.length co),(w.heap.size+1,0,.int .i64 0),(w.heap.size+1,1,.slice none 0 0),(w.heap.size+1,2,.slice none 0 0),(w.heap.size+1,3,.slice none 0 0),(w.heap.size+1+1,0,.int .i64 0),(w.heap.size+1+1,1,.int .i64 0),(w1.heap.size,0,.int .i64 0),(w1.heap.size,1,.int .i64 0)]) hB2 (by simp[Cls,go_sem,F1,y1w2,y1w1,y1w0]);have F2:=C2;simp only[Cls,and_true] at F2;have y2w2:w.heap.size+1+1 < w2.heap.size:=C2.blk (b:=w.heap.size+1+1) (k:=0) (v:=.int .i64 0) (by simp);have y2w10:w1.heap.size < w2.heap.size:=C2.blk (b:=w1.heap.size) (k:=0) (v:=.int .i64 0) (by simp);go_wp2;refine bodyPost_ret (v:=.tuple #[.agg #[.int .i64 0,.slice none 0 0,.slice none 0 0,.slice none 0 0],.agg #[.int .i64 10,.int .i64 (-8)]]) ?_ rfl ⟨10,-8,rfl,by decide,bch⟩;simp[results,Tryz.results35,go_sem,F2,y2w2,y2w10]
theorem zX9{m:MtV}(hm:MValid m)(hn:m.sizes.sum<=24){l:List (Int×Int)}(h:AsOk m.sizes l):∀ v x,(v,x)∈l->(0<=v/\v < ((xJ6 0 m.sizes).length:Int))/\(0<=x/\x<=6)/\0<=xJ2 (xJ6 0 m.sizes) v/\xJ2 (xJ6 0 m.sizes) v<=100:=by
 intro v x hvx;obtain⟨⟨h1,h2⟩,h3,h4⟩:=h.rng (v,x) hvx;dsimp only at h1 h2 h3 h4;obtain⟨i,rfl⟩:=Int.eq_ofNat_of_zero_le h1;have hi:i < m.sizes.length:=by omega
 have h5:=zJy (fun x hx=>(hm.sz x hx).1) hi;have h6:xJ2 m.sizes (i:Int)=m.sizes[i]:=xJ5 (by rw[Int.toNat_natCast];exact lGe hi);have h7:=hm.sz _ (List.getElem_mem hi);rw[<- h6] at h7;rw[zJx];exact⟨⟨h1,h2⟩,⟨h3,by omega⟩,h5.1,by omega⟩
theorem vKr{m:MtV}(hm:MValid m)(hn:m.sizes.sum<=24){k:Nat}{y x:Int}(hy:(xJ6 0 m.sizes)[k]? = some y)(hx:m.init[k]? = some x):0<=y/\y<=100/\0<=x/\x<=100:=by
 have hk:k < m.sizes.length:=by have:=(List.getElem?_eq_some_iff.1 hx).1;rw[hm.init.len] at this;exact this
 have h5:=zJy (fun x hx=>(hm.sz x hx).1) hk;have h6:xJ2 (xJ6 0 m.sizes) (k:Int)=y:=xJ5 (by rw[Int.toNat_natCast];exact hy);have h7:xJ2 m.init (k:Int)=x:=xJ5 (by rw[Int.toNat_natCast];exact hx);have h8:=hm.init.rng k hk;rw[h6] at h5;rw[h7] at h8;omega
theorem vXz{B:Nat}{w:World}{row:Option Nat}{A:Option Addr}{n c:Nat}{r:List Int}(h:xZ8 B w row [.slice A n c] r):xZ8 B w row [.slice A r.length c] r:=by
 obtain⟨A',c',e,h⟩:=h;injection e with e
 injection e with e1 e2 e3
 subst e1;subst e3;exact⟨_,_,rfl,h⟩
theorem xZy{B base ob:Nat}{w:World}{v:Value}{r:List Int}(h:OwnI base w v r)(hB:B<=base)(hr:ob < base\/w.heap.size<=ob):xZ8 B w (some ob) [v] r:=by
 obtain⟨A,c,rfl,hn,hI⟩:=h.form;refine⟨A,c,rfl,hI,hn,h.cap_le,h.cap_max,fun ad e=>?_⟩;subst e;have:=h.blk_ _ rfl;exact⟨fun e=>by injection e with e;omega,this.2,by omega⟩
theorem xJt{B ob:Nat}{w:World}{cs:List Value}{r:List Int}(h:xZ8 B w (some ob) cs r)(k:Nat)(u:Value):xZ8 B (w.setCell ⟨ob,k,none⟩ u) (some ob) cs r:=by
 obtain⟨A,c,e,hI,hn,h1,h2,ha⟩:=h;refine⟨A,c,e,hI.far (p:=⟨ob,k,none⟩) (fun ad h e=>(ha ad h).1 (by rw[e])) u,hn,h1,h2,fun ad h=>⟨(ha ad h).1,?_,(ha ad h).2.2⟩⟩;have:=(ha ad h).2.1;simpa using this
theorem xKu{B B':Nat}{w:World}{row row':Option Nat}{cs:List Value}{r:List Int}(h:xZ8 B w row cs r)(hB:B'<=B)(hr:∀ k,row'=some k->k < B):xZ8 B' w row' cs r:=by
 obtain⟨A,c,e,hI,hn,h1,h2,ha⟩:=h;exact⟨A,c,e,hI,hn,h1,h2,fun ad h=>⟨fun e=>by have:=hr _ e.symm;have:=(ha ad h).2.2;omega,(ha ad h).2.1,by have:=(ha ad h).2.2;omega⟩⟩
theorem zJ2{B K ob:Nat}{a w:World}{cs:List Value}{r:List Int}(h:xZ8 B a (some ob) cs r)(hk:Keep K ob a w)(hK:a.heap.size<=K):xZ8 B w (some ob) cs r:=by
 obtain⟨A,c,e,hI,hn,h1,h2,ha⟩:=h;exact⟨A,c,e,hI.keep hk (fun ad h=>⟨by have:=(ha ad h).2.1;omega,fun e=>(ha ad h).1 (by rw[e])⟩),hn,h1,h2,fun ad h=>⟨(ha ad h).1,by have:=(ha ad h).2.1;have:=hk.1;omega,(ha ad h).2.2⟩⟩
theorem vZ0{α β:Type}{f:α->List β}{l:List α}{k:Nat}{x:α}(h:l[k]? = some x):(l.take (k+1)).flatMap f=(l.take k).flatMap f ++ f x:=by
 rw[List.take_add_one,h,List.flatMap_append];simp
theorem zYh{m:MtV}(hm:MValid m){l:List (Int×Int)}(h:∀ a∈l,a.1 < (m.sizes.length:Int)/\0<=a.1):(l.flatMap (xXu m.sizes (xJ6 0 m.sizes))).length<=6 * l.length:=by
 induction l with
 | nil=>simp
 | cons a r ih=>
  have h1:=ih (fun b hb=>h b (List.mem_cons_of_mem _ hb));obtain⟨h2,h3⟩:=h a (List.mem_cons_self ..);obtain⟨i,hi⟩:=Int.eq_ofNat_of_zero_le h3;have h4:xJ2 m.sizes a.1<=6:=by
   rw[hi,xJ5 (v:=m.sizes[i]'(by omega)) (by rw[Int.toNat_natCast];exact lGe (by omega))];exact (hm.sz _ (List.getElem_mem _)).2
  have h5:=vJu (xJ6 0 m.sizes) a (xJ2 m.sizes a.1).toNat;rw[List.flatMap_cons,List.length_append,List.length_cons,vJv];omega
theorem xYc(w:World)(m:MtV)(As Ai Ag Ao:Option Addr)(cs ci cg co:Nat)(hM:MMem w As Ai Ag Ao m)(h:MValid m)(hn:m.sizes.sum<=24) :
  Calls Tryz.prog 35 #[.agg #[.slice As m.sizes.length cs,.slice Ai m.init.length ci,.slice Ag m.goal.length cg,.slice Ao m.ops.length co]] w fun e w'=>∃ Ai' Ag' Ao' ci' cg' co',e=.returned (.tuple #[.agg #[.int .i64 (stV m).facts,.slice Ai' (stV m).init.length ci',.slice Ag' (stV m).goal.length cg',.slice Ao' (stV m).ops.length co'],.agg #[.int .i64 0,.int .i64 0]])/\TaskMem w' Ai' Ag' Ao' (stV m)/\Below w.heap.size w w':=by
 have HM:=lHd hM;have hv:=lHd h;have hns:m.sizes.sum<=24:=hn;have hl8:=h.v1;have ho40:=h.nops;have hil:m.init.length=m.sizes.length:=h.init.len;have HIL:=lHd hil;have hi8:m.init.length<=8:=by omega
 have hbl:(xJ6 0 m.sizes).length=m.sizes.length:=zJx _ _;have HBL:=lHd hbl;have hlb:(xJ6 0 m.sizes).length<=100:=by omega
 have hlg:m.goal.length<=100:=by have:=h.goal.len8;omega
 have HFG:=lHd (lHd (zX9 h hn h.goal));clear hM h hil hbl;go_enter Tryz.func35,Tryz.ntmps35
 go_wp2_with fail
 refine (xXf _ _ _ _ _ _ _ _ _ _ (HM.out.below bch)).mono ?_;rintro e w1 ⟨he,hB1⟩;have D1:=xJ4 w hB1 bch;have C1:=Cls.below (l:=[(w.heap.size,0,.slice As m.sizes.length cs),(w.heap.size,1,.slice Ai m.init.length ci),(w.heap.size,2,.slice Ag m.goal.length cg),(w.heap.size,3,.slice Ao m.ops.length co),(w.heap.size+1,0,.int .i64 0),(w.heap.size+1,1,.slice none 0 0),(w.heap.size+1,2,.slice none 0 0),(w.heap.size+1,3,.slice none 0 0),(w.heap.size+1+1,0,.int .i64 0),(w.heap.size+1+1,1,.int .i64 0)]) hB1 (by simp[Cls,go_sem]);have F1:=C1;simp only[Cls,and_true] at F1;have y1w2:w.heap.size+1+1 < w1.heap.size:=C1.blk (b:=w.heap.size+1+1) (k:=0) (v:=.int .i64 0) (by simp);have y1w1:w.heap.size+1 < w1.heap.size:=(by omega);have y1w0:w.heap.size < w1.heap.size:=(by omega);have he:=he.yes hv.out;subst he
 go_wp2_with fail
 refine (zXs _ _ _ _ (HM.out.sizes.below bch) hl8 hv.out.sz).mono ?_;rintro e w2 ⟨vB,rfl,hOB,hB2⟩;have D2:=xJ4 w hB2 bch;have C2:=Cls.below (l:=[(w.heap.size,0,.slice As m.sizes.length cs),(w.heap.size,1,.slice Ai m.init.length ci),(w.heap.size,2,.slice Ag m.goal.length cg),(w.heap.size,3,.slice Ao m.ops.length co),(w.heap.size+1,0,.int .i64 0),(w.heap.size+1,1,.slice none 0 0),(w.heap.size+1,2,.slice none 0 0),(w.heap.size+1,3,.slice none 0 0),(w.heap.size+1+1,0,.int .i64 0),(w.heap.size+1+1,1,.int .i64 0),(w1.heap.size,0,.int .i64 0),(w1.heap.size,1,.int .i64 0)]) hB2 (by simp[Cls,go_sem,F1,y1w2,y1w1,y1w0]);have F2:=C2;simp only[Cls,and_true] at F2;have y2w2:w.heap.size+1+1 < w2.heap.size:=C2.blk (b:=w.heap.size+1+1) (k:=0) (v:=.int .i64 0) (by simp);have y2w10:w1.heap.size < w2.heap.size:=C2.blk (b:=w1.heap.size) (k:=0) (v:=.int .i64 0) (by simp);obtain⟨AB,cB,hvB,-,hIB⟩:=hOB.form;subst hvB;have HIB:=lHd hIB;clear hIB hOB
 go_wp2_with fail
 refine (xZa _ _ _ _ (HIB.out.below bch) hlb _ _ _ (HM.out.goal.below bch) hlg HFG.out).mono ?_;rintro e w3 ⟨vG,rfl,hOG,hB3⟩;have D3:=xJ4 w hB3 bch;have d3s:=D3.size;have Ew2_3:=xJ4 w2 hB3 bch;have C3:=Cls.below (l:=[(w.heap.size,0,.slice As m.sizes.length cs),(w.heap.size,1,.slice Ai m.init.length ci),(w.heap.size,2,.slice Ag m.goal.length cg),(w.heap.size,3,.slice Ao m.ops.length co),(w.heap.size+1,0,.int .i64 0),(w.heap.size+1,1,.slice none 0 0),(w.heap.size+1,2,.slice none 0 0),(w.heap.size+1,3,.slice none 0 0),(w.heap.size+1+1,0,.int .i64 0),(w.heap.size+1+1,1,.int .i64 0)]) hB3 (by simp[Cls,go_sem,F2,y2w2,y2w10]);have F3:=C3;simp only[Cls,and_true] at F3;have y3w2:w.heap.size+1+1 < w3.heap.size:=C3.blk (b:=w.heap.size+1+1) (k:=0) (v:=.int .i64 0) (by simp);have y3w1:w.heap.size+1 < w3.heap.size:=(by omega);have y3w0:w.heap.size < w3.heap.size:=(by omega);obtain⟨AG,cG,hvG,-,hIG⟩:=hOG.form;subst hvG;have HIG:=lHd hIG;have HGb:=lHd hOG.blk_;have HIB3:=lHd (HIB.out.below Ew2_3);clear hIG hOG HIB
 go_wp2_with fail
 go_loopw [42] (fun i wr=>∃ (k:Nat) (vI:Value),k<=m.init.length/\i=.int .i64 (k:Int)/\OwnI (w3.heap.size+1) wr vI (xX5 (xJ6 0 m.sizes) (m.init.take k))/\Below w3.heap.size w3 wr/\Cls wr [(w.heap.size,0,.slice As m.sizes.length cs),(w.heap.size,1,.slice Ai m.init.length ci),(w.heap.size,2,.slice Ag m.goal.length cg),(w.heap.size,3,.slice Ao m.ops.length co),(w.heap.size+1,0,.int .i64 0),(w.heap.size+1,1,.slice none 0 0),(w.heap.size+1,2,.slice none 0 0),(w.heap.size+1,3,.slice none 0 0),(w.heap.size+1+1,0,.int .i64 0),(w.heap.size+1+1,1,.int .i64 0),(w3.heap.size,0,.int .i64 m.sizes.sum),(w3.heap.size,1,vI),(w3.heap.size,2,.slice AG (xJb (xJ6 0 m.sizes) m.goal).length cG),(w3.heap.size,3,.slice none 0 0)]) (fun i _=>m.init.length - (intOf i).toNat)
 case atStart=>exact⟨0,.slice none 0 0,Nat.zero_le _,rfl,OwnI.nil _ _,bch,(by simp[Cls,go_sem,F3,y3w2,y3w1,y3w0])⟩
 case round=>
  obtain⟨k,vI,hk,rfl,hown,hEr,hCr⟩:=hrel;obtain⟨wk,rfl⟩:∃ wo:World,wo=wr:=⟨_,rfl⟩;have hsE:=hEr.size;have DK:=D3.trans (hEr.mono d3s);have dks:=DK.size;have Fr:=hCr;simp only[Cls,and_true] at Fr;have yrw2:w.heap.size+1+1 < wk.heap.size:=hCr.blk (b:=w.heap.size+1+1) (k:=0) (v:=.int .i64 0) (by simp);have yrw1:w.heap.size+1 < wk.heap.size:=(by omega);have yrw0:w.heap.size < wk.heap.size:=(by omega);have yrwp1:w.heap.size < wk.heap.size+1:=(by omega);have yrwp2:w.heap.size < wk.heap.size+1+1:=(by omega);have yrw30:w3.heap.size < wk.heap.size:=hCr.blk (b:=w3.heap.size) (k:=0) (v:=.int .i64 m.sizes.sum) (by simp);have yrw3p1:w3.heap.size < wk.heap.size+1:=(by omega);have yrw3p2:w3.heap.size < wk.heap.size+1+1:=(by omega)
  by_cases hlt:k < m.init.length
  ·obtain⟨ad,x,hAi,hx,hxc⟩:=(HM.out.init.below DK).at_ (k:=k) hlt;subst hAi;obtain⟨bd,y,rfl,hy,hyw⟩:=HIB3.out.at_ (k:=k) (by have:=HBL.out;have:=HIL.out;omega);have hbw:=World.block_lt_of_cell? w3 _ hyw;have hyc:=(hEr.cell hbw).trans hyw;have hbd:=World.block_lt_of_cell? wk _ hyc;have hol:=fun b hb=>(World.ownsRow.lt hown b hb).1
   have hrk:=vKr hv.out hns hy.out hx.out;have hkb:(k:Int) < ((xJ6 0 m.sizes).length:Int):=by have:=HBL.out;have:=HIL.out;omega
   have HSU:=lHd (zKq (base:=(xJ6 0 m.sizes)) hx.out);have HVY:=lHd (show xJ2 (xJ6 0 m.sizes) (k:Int)=y from xJ5 (by rw[Int.toNat_natCast];exact hy.out));have hlen:(xX5 (xJ6 0 m.sizes) (m.init.take k)).length < 1000000000000:=by rw[zZ2,List.length_take];omega
   have hwr:IntKind.i64.wrap (y+x)=y+x:=zJl (by omega)
   go_wp2_with fail
   have hSS0:wk.drew.cell? ⟨w3.heap.size,1,none⟩=some (vI)/\wk.drew.cell? (bd.add k)=some (.int .i64 y):=by simp[go_sem,hbd,hyc,Fr,yrw2,yrw1,yrw0,yrwp1,yrwp2,yrw30,yrw3p1,yrw3p2]
   refine xJg (fun W=>W.cell? ⟨w3.heap.size,1,none⟩=some (vI)/\W.cell? (bd.add k)=some (.int .i64 y)) [11] (by kernel_rfl) ?_;have hSS:=hSS0;refine xJ0 (i:=0) (v:=?vz10) rfl (by kernel_rfl) (by kernel_rfl) (by kernel_rfl) (by kernel_rfl) (by kernel_rfl) (fun _ _ _ h=>h) (Or.inl ⟨by rfl,?hz10⟩) (by assumption) ?rz10
   case hz10=>(intro w hSw;(try dsimp only at hSw);go_simp;(try with_reducible rfl))
   try simp only[ap]
   refine xJ0 (i:=1) (v:=?vz11) rfl (by kernel_rfl) (by kernel_rfl) (by kernel_rfl) (by kernel_rfl) (by kernel_rfl) (fun _ _ _ h=>h) (Or.inl ⟨by rfl,?hz11⟩) (by assumption) ?rz11
   case hz11=>(intro w hSw;(try dsimp only at hSw);go_simp;(try with_reducible rfl))
   try simp only[ap]
   refine xJ0 (i:=2) (v:=?vz12) rfl (by kernel_rfl) (by kernel_rfl) (by kernel_rfl) (by kernel_rfl) (by kernel_rfl) (fun _ _ _ h=>h) (Or.inl ⟨by rfl,?hz12⟩) (by assumption) ?rz12
   case hz12=>(intro w hSw;(try dsimp only at hSw);go_simp;(try with_reducible rfl))
   try simp only[ap]
   refine xJ0 (i:=3) (v:=?vz13) rfl (by kernel_rfl) (by kernel_rfl) (by kernel_rfl) (by kernel_rfl) (by kernel_rfl) (fun _ _ _ h=>h) (Or.inl ⟨by rfl,?hz13⟩) (by assumption) ?rz13
   case hz13=>(intro w hSw;(try dsimp only at hSw);go_simp;(try with_reducible rfl))
   try simp only[ap]
   refine xJ0 (i:=4) (v:=?vz14) rfl (by kernel_rfl) (by kernel_rfl) (by kernel_rfl) (by kernel_rfl) (by kernel_rfl) (fun _ _ _ h=>h) (Or.inl ⟨by rfl,?hz14⟩) (by assumption) ?rz14
   case hz14=>(intro w hSw;(try dsimp only at hSw);go_simp;(try with_reducible rfl))
   try simp only[ap]
   refine xJ0 (i:=5) (v:=?vz15) rfl (by kernel_rfl) (by kernel_rfl) (by kernel_rfl) (by kernel_rfl) (by kernel_rfl) (fun _ _ _ h=>h) (Or.inl ⟨by rfl,?hz15⟩) (by assumption) ?rz15
   case hz15=>(intro w hSw;(try dsimp only at hSw);go_simp;(try with_reducible rfl))
   try simp only[ap]
   refine xJ0 (i:=6) (v:=?vz16) rfl (by kernel_rfl) (by kernel_rfl) (by kernel_rfl) (by kernel_rfl) (by kernel_rfl) (fun _ _ _ h=>h) (Or.inl ⟨by rfl,?hz16⟩) (by assumption) ?rz16
   case hz16=>(intro w hSw;(try dsimp only at hSw);go_simp;(try with_reducible rfl))
   try simp only[ap]
   refine xJ0 (i:=7) (v:=?vz17) rfl (by kernel_rfl) (by kernel_rfl) (by kernel_rfl) (by kernel_rfl) (by kernel_rfl) (fun _ _ _ h=>h) (Or.inl ⟨by rfl,?hz17⟩) (by assumption) ?rz17
   case hz17=>(intro w hSw;(try dsimp only at hSw);go_simp;(try with_reducible rfl))
   try simp only[ap]
   refine xJ3 (i:=8) (by kernel_rfl) rfl (fun K hK=>?_);go_simp
   go_wp2_with fail
   have hSS:(wk.drew.alloc (.cells #[.int .i64 (y+x)] 3)).cell? ⟨w3.heap.size,1,none⟩=some (vI)/\(wk.drew.alloc (.cells #[.int .i64 (y+x)] 3)).cell? (bd.add k)=some (.int .i64 y):=(by simp[go_sem,hbd,hyc,Fr,yrw2,yrw1,yrw0,yrwp1,yrwp2,yrw30,yrw3p1,yrw3p2]);refine hK.out _ _ hSS ?_;clear hK K
   try simp only[ap]
   refine xJ3 (i:=9) (by kernel_rfl) rfl (fun K hK=>?_);refine xYf rfl (.tmp 48) (.tmp 55) rfl (w3.heap.size+1) vI _ (y+x) rfl (hown.below bch) ⟨wk.heap.size,0,none⟩ 1 rfl (by simp[go_sem]) hlen (by simp;omega) ?_;intro g6 c6 w6 o6 G6 g6or g6lt;have E6:Below w3.heap.size w3 w6:=xQ0 (w:=(wk.drew.alloc (.cells #[.int .i64 (y+x)] 3))) bch (OwnI.mono (hown.below (w':=(wk.drew.alloc (.cells #[.int .i64 (y+x)] 3))) bch) (Nat.le_succ _)) G6 (by simp;omega);have C6:=Cls.grown1 (Cls.below (l:=[(w.heap.size,0,.slice As m.sizes.length cs),(w.heap.size,1,.slice (some ad) m.init.length ci),(w.heap.size,2,.slice Ag m.goal.length cg),(w.heap.size,3,.slice Ao m.ops.length co),(w.heap.size+1,0,.int .i64 0),(w.heap.size+1,1,.slice none 0 0),(w.heap.size+1,2,.slice none 0 0),(w.heap.size+1,3,.slice none 0 0),(w.heap.size+1+1,0,.int .i64 0),(w.heap.size+1+1,1,.int .i64 0),(w3.heap.size,0,.int .i64 m.sizes.sum),(w3.heap.size,1,vI),(w3.heap.size,2,.slice AG (xJb (xJ6 0 m.sizes) m.goal).length cG),(w3.heap.size,3,.slice none 0 0)]) (w:=wk) (w':=(wk.drew.alloc (.cells #[.int .i64 (y+x)] 3))) bch hCr) G6 (fun z hz e=>by have:=hol _ e;simp at hz;rcases hz with rfl | rfl | rfl | rfl | rfl | rfl | rfl | rfl | rfl | rfl | rfl | rfl | rfl | rfl <;> dsimp only at this <;> omega);have F6:=C6;simp only[Cls,and_true] at F6;have hSS:w6.cell? ⟨w3.heap.size,1,none⟩=some (vI)/\w6.cell? (bd.add k)=some (.int .i64 y):=⟨by simp[F6],(E6.cell hbw).trans hyw⟩;refine hK.out _ _ hSS ?_;clear hK K
   try simp only[ap]
   refine xJl (i:=10) (v:=?vz110) rfl (by kernel_rfl) (by kernel_rfl) (by kernel_rfl) (by kernel_rfl) (by kernel_rfl) (fun _ _ _ h=>h) (Or.inl ⟨by rfl,?hz110⟩) (by assumption) ?rz110
   case hz110=>(intro w hSw;(try dsimp only at hSw);go_simp;(try with_reducible rfl))
   try simp only[ap]
   refine xJc (i:=11) (by kernel_rfl) rfl (by kernel_rfl) (fun K hK=>?_);go_simp
   go_wp2_with fail
   refine hK.out _ _ ?_;clear hK K
   try simp only[ap]
   refine xJ7 (by kernel_rfl) ?_ _;go_wp2
   go_roundw
   case rel=>exact⟨k+1,_,by omega,by go_num,by rw[HSU.out,HVY.out];exact OwnI.far o6 (p:=⟨w3.heap.size,1,none⟩) (by dsimp only;omega) _,bch,by simp[Cls,go_sem,F6]⟩
   case measure=>simp[intOf];omega
  ·have hke:m.init.take k=m.init:=List.take_of_length_le (by omega);rw[hke] at hown;obtain⟨AI,cI,rfl,hnI,hII⟩:=hown.form;obtain⟨w4,rfl⟩:∃ wo:World,wo=wk:=⟨_,rfl⟩;have HII:=lHd hII;have HIb:=lHd hown.blk_;have hw34:w3.heap.size < w4.heap.size:=(by omega);clear hII hown hnI;have HTO:=lHd (show (stV m).ops=m.ops.map (vYh m.sizes (xJ6 0 m.sizes)) from rfl);have HTL:=lHd (show (stV m).ops.length=m.ops.length by rw[HTO.out,List.length_map])
   go_wp2_with fail
   go_loopw [62] (fun i wr=>∃ (k:Nat) (vo:Value),k<=m.ops.length/\i=.int .i64 (k:Int)/\OwnOps w4.heap.size wr vo ((stV m).ops.take k)/\Keep w4.heap.size w3.heap.size w4 wr/\Below w3.heap.size w3 wr/\Cls wr [(w.heap.size,0,.slice As m.sizes.length cs),(w.heap.size,1,.slice Ai m.init.length ci),(w.heap.size,2,.slice Ag m.goal.length cg),(w.heap.size,3,.slice Ao m.ops.length co),(w.heap.size+1,0,.int .i64 0),(w.heap.size+1,1,.slice none 0 0),(w.heap.size+1,2,.slice none 0 0),(w.heap.size+1,3,.slice none 0 0),(w.heap.size+1+1,0,.int .i64 0),(w.heap.size+1+1,1,.int .i64 0),(w3.heap.size,0,.int .i64 m.sizes.sum),(w3.heap.size,1,.slice AI (xX5 (xJ6 0 m.sizes) m.init).length cI),(w3.heap.size,2,.slice AG (xJb (xJ6 0 m.sizes) m.goal).length cG),(w3.heap.size,3,vo)]) (fun i _=>m.ops.length - (intOf i).toNat)
   case atStart=>exact⟨0,.slice none 0 0,Nat.zero_le _,rfl,OwnEs.nil _ _,Keep.refl _ _ _,hEr,hCr⟩
   case round=>
    clear hEr hCr Fr;obtain⟨k,vo,hk,rfl,hownO,hKr,hEo,hCo⟩:=hrel;obtain⟨wo,rfl⟩:∃ wo:World,wo=wr:=⟨_,rfl⟩;obtain⟨A7,c7,rfl⟩:=OwnEs.form hownO;have HLK:Hid (((stV m).ops.take k).length=k):=lHd (by rw[List.length_take,HTL.out];omega);rw[HLK.out] at hownO hCo;have hKs:=hKr.1;have DO:=D3.trans (hEo.mono d3s);have dos:=DO.size;have Fo:=hCo;simp only[Cls,and_true] at Fo;have yow2:w.heap.size+1+1 < wo.heap.size:=hCo.blk (b:=w.heap.size+1+1) (k:=0) (v:=.int .i64 0) (by simp);have yow1:w.heap.size+1 < wo.heap.size:=(by omega);have yow0:w.heap.size < wo.heap.size:=(by omega);have yowp1:w.heap.size < wo.heap.size+1:=(by omega);have yow30:w3.heap.size < wo.heap.size:=hCo.blk (b:=w3.heap.size) (k:=0) (v:=.int .i64 m.sizes.sum) (by simp);have yow3p1:w3.heap.size < wo.heap.size+1:=(by omega)
    by_cases hlt:k < m.ops.length
    ·obtain⟨ad,o,A5,c5,A6,c6,hAo,ho,hc0,hc1,hc2,hoa0,hoL⟩:=(HM.out.ops.below DO).at_ (k:=k) hlt;subst hAo;have hoa:=lHd hoa0;have HOK:=lHd (hv.out.ops o (lMg ho.out));have hl0:o.pre.length<=100:=by have:=HOK.out.1.1.len8;omega
     have hl1:o.post.length<=100:=by have:=HOK.out.1.2.len8;omega
     have HF0:=lHd (lHd (zX9 hv.out hns HOK.out.1.1));have HF1:=lHd (lHd (zX9 hv.out hns HOK.out.1.2));have HIBo:=lHd (HIB3.out.below hEo);clear hoa0 hoL
     go_upto_region 16 with fail
     go_cut [12] (fun s12 wx=>∃ ob2 A1 c1 A2 c2,s12=.pointer (some ⟨ob2,0,none⟩)/\wo.heap.size+1<=ob2/\ob2 < wx.heap.size/\xZ8 (wo.heap.size+1) wx (some ob2) [.slice A1 (xJb (xJ6 0 m.sizes) o.pre).length c1] (xJb (xJ6 0 m.sizes) o.pre)/\xZ8 (wo.heap.size+1) wx (some ob2) [.slice A2 (xJb (xJ6 0 m.sizes) o.post).length c2] (xJb (xJ6 0 m.sizes) o.post)/\Below wo.heap.size wo wx/\Cls wx [(wo.heap.size,0,.slice A5 o.pre.length c5),(wo.heap.size,1,.slice A6 o.post.length c6),(wo.heap.size,2,.int .i64 o.cost)]/\Cls wx [(ob2,0,.slice A1 (xJb (xJ6 0 m.sizes) o.pre).length c1),(ob2,1,.slice A2 (xJb (xJ6 0 m.sizes) o.post).length c2),(ob2,2,.slice none 0 0),(ob2,3,.int .i64 o.cost)])
     case first=>
      refine xJg (fun W=>W.cell? ⟨wo.heap.size,0,none⟩=some (.slice A5 o.pre.length c5)/\W.cell? ⟨wo.heap.size,1,none⟩=some (.slice A6 o.post.length c6)/\W.cell? ⟨wo.heap.size,2,none⟩=some (.int .i64 o.cost)) [12] (by kernel_rfl) ?_;have hSS:(wo.alloc (.cells #[.slice A5 o.pre.length c5,.slice A6 o.post.length c6,.int .i64 o.cost] 156)).drew.cell? ⟨wo.heap.size,0,none⟩=some (.slice A5 o.pre.length c5)/\(wo.alloc (.cells #[.slice A5 o.pre.length c5,.slice A6 o.post.length c6,.int .i64 o.cost] 156)).drew.cell? ⟨wo.heap.size,1,none⟩=some (.slice A6 o.post.length c6)/\(wo.alloc (.cells #[.slice A5 o.pre.length c5,.slice A6 o.post.length c6,.int .i64 o.cost] 156)).drew.cell? ⟨wo.heap.size,2,none⟩=some (.int .i64 o.cost):=(by simp[go_sem,Fo,yow2,yow1,yow0,yowp1,yow30,yow3p1]);refine xJ0 (i:=0) (v:=?vt1x0) rfl (by kernel_rfl) (by kernel_rfl) (by kernel_rfl) (by kernel_rfl) (by kernel_rfl) (fun _ _ _ h=>h) (Or.inl ⟨by rfl,?ht1x0⟩) (by assumption) ?rt1x0
      case ht1x0=>(intro w hSw;(try dsimp only at hSw);go_simp;(try with_reducible rfl))
      try simp only[ap]
      refine xJ0 (i:=1) (v:=?vt2x1) rfl (by kernel_rfl) (by kernel_rfl) (by kernel_rfl) (by kernel_rfl) (by kernel_rfl) (fun _ _ _ h=>h) (Or.inl ⟨by rfl,?ht2x1⟩) (by assumption) ?rt2x1
      case ht2x1=>(intro w hSw;(try dsimp only at hSw);go_simp;(try with_reducible rfl))
      try simp only[ap]
      refine xJ0 (i:=2) (v:=?vt3x2) rfl (by kernel_rfl) (by kernel_rfl) (by kernel_rfl) (by kernel_rfl) (by kernel_rfl) (fun _ _ _ h=>h) (Or.inl ⟨by rfl,?ht3x2⟩) (by assumption) ?rt3x2
      case ht3x2=>(intro w hSw;(try dsimp only at hSw);go_simp;(try with_reducible rfl))
      try simp only[ap]
      refine xJ0 (i:=4) (v:=?vt4x4) rfl (by kernel_rfl) (by kernel_rfl) (by kernel_rfl) (by kernel_rfl) (by kernel_rfl) (fun _ _ _ h=>h) (Or.inl ⟨by rfl,?ht4x4⟩) (by assumption) ?rt4x4
      case ht4x4=>(intro w hSw;(try dsimp only at hSw);go_simp;(try with_reducible rfl))
      try simp only[ap]
      refine xJ0 (i:=5) (v:=?vt5x5) rfl (by kernel_rfl) (by kernel_rfl) (by kernel_rfl) (by kernel_rfl) (by kernel_rfl) (fun _ _ _ h=>h) (Or.inl ⟨by rfl,?ht5x5⟩) (by assumption) ?rt5x5
      case ht5x5=>(intro w hSw;(try dsimp only at hSw);go_simp;(try with_reducible rfl))
      try simp only[ap]
      refine xJ0 (i:=6) (v:=?vt6x6) rfl (by kernel_rfl) (by kernel_rfl) (by kernel_rfl) (by kernel_rfl) (by kernel_rfl) (fun _ _ _ h=>h) (Or.inl ⟨by rfl,?ht6x6⟩) (by assumption) ?rt6x6
      case ht6x6=>(intro w hSw;(try dsimp only at hSw);go_simp;(try with_reducible rfl))
      try simp only[ap]
      refine xJ0 (i:=8) (v:=?vt7x8) rfl (by kernel_rfl) (by kernel_rfl) (by kernel_rfl) (by kernel_rfl) (by kernel_rfl) (fun _ _ _ h=>h) (Or.inl ⟨by rfl,?ht7x8⟩) (by assumption) ?rt7x8
      case ht7x8=>(intro w hSw;(try dsimp only at hSw);go_simp;(try with_reducible rfl))
      try simp only[ap]
      refine xJ0 (i:=9) (v:=?vt8x9) rfl (by kernel_rfl) (by kernel_rfl) (by kernel_rfl) (by kernel_rfl) (by kernel_rfl) (fun _ _ _ h=>h) (Or.inl ⟨by rfl,?ht8x9⟩) (by assumption) ?rt8x9
      case ht8x9=>(intro w hSw;(try dsimp only at hSw);go_simp;(try with_reducible rfl))
      try simp only[ap]
      refine xXs (i:=3) (j:=11) (by kernel_rfl) rfl rfl (fun K hK=>?b9c) (fun K hK=>?b9a)
      case b9c=>
       go_simp;go_at_call 86;refine (xZa _ _ _ _ (HIBo.out.below bch) hlb _ _ _ (hoa.out.1.below bch) hl0 HF0.out).mono ?_;rintro e w11 ⟨v3,rfl,hO3,hB11⟩;have D11:=xJ4 w hB11 bch;have Ewo_11:=xJ4 wo hB11 bch;have C11:=Cls.below (l:=[(w.heap.size,0,.slice As m.sizes.length cs),(w.heap.size,1,.slice Ai m.init.length ci),(w.heap.size,2,.slice Ag m.goal.length cg),(w.heap.size,3,.slice (some ad) m.ops.length co),(w.heap.size+1,0,.int .i64 0),(w.heap.size+1,1,.slice none 0 0),(w.heap.size+1,2,.slice none 0 0),(w.heap.size+1,3,.slice none 0 0),(w.heap.size+1+1,0,.int .i64 0),(w.heap.size+1+1,1,.int .i64 0),(w3.heap.size,0,.int .i64 m.sizes.sum),(w3.heap.size,1,.slice AI (xX5 (xJ6 0 m.sizes) m.init).length cI),(w3.heap.size,2,.slice AG (xJb (xJ6 0 m.sizes) m.goal).length cG),(w3.heap.size,3,.slice A7 k c7),(wo.heap.size,0,.slice A5 o.pre.length c5),(wo.heap.size,1,.slice A6 o.post.length c6),(wo.heap.size,2,.int .i64 o.cost)]) hB11 (by simp[Cls,go_sem,Fo,yow2,yow1,yow0,yowp1,yow30,yow3p1]);have F11:=C11;simp only[Cls,and_true] at F11;have y11w2:w.heap.size+1+1 < w11.heap.size:=C11.blk (b:=w.heap.size+1+1) (k:=0) (v:=.int .i64 0) (by simp);have y11w1:w.heap.size+1 < w11.heap.size:=(by omega);have y11w0:w.heap.size < w11.heap.size:=(by omega);have y11w30:w3.heap.size < w11.heap.size:=C11.blk (b:=w3.heap.size) (k:=0) (v:=.int .i64 m.sizes.sum) (by simp);have y11wo0:wo.heap.size < w11.heap.size:=C11.blk (b:=wo.heap.size) (k:=0) (v:=.slice A5 o.pre.length c5) (by simp);have hz11:=hB11.size
       (try simp at hz11)
       obtain⟨A1,c1,hv3,-,-⟩:=hO3.form;subst hv3;have hSS:w11.cell? ⟨wo.heap.size,0,none⟩=some (.slice A5 o.pre.length c5)/\w11.cell? ⟨wo.heap.size,1,none⟩=some (.slice A6 o.post.length c6)/\w11.cell? ⟨wo.heap.size,2,none⟩=some (.int .i64 o.cost):=(by have q:=C11;simp only[Cls,and_true] at q;simp[q])
       go_wp2_with fail
       refine hK.out _ _ hSS ?_;clear hK K
       try simp only[ap]
       refine xXs (i:=7) (j:=11) (by kernel_rfl) rfl rfl (fun K hK=>?b10c) (fun K hK=>?b10a)
       case b10c=>
        go_simp;go_at_call 86;refine (xZa _ _ _ _ (HIBo.out.below bch) hlb _ _ _ (hoa.out.2.below bch) hl1 HF1.out).mono ?_;rintro e w12 ⟨v7,rfl,hO7,hB12⟩;have D12:=xJ4 w hB12 bch;have Ewo_12:=xJ4 wo hB12 bch;have Ew11_12:=xJ4 w11 hB12 bch;have C12:=Cls.below (l:=[(w.heap.size,0,.slice As m.sizes.length cs),(w.heap.size,1,.slice Ai m.init.length ci),(w.heap.size,2,.slice Ag m.goal.length cg),(w.heap.size,3,.slice (some ad) m.ops.length co),(w.heap.size+1,0,.int .i64 0),(w.heap.size+1,1,.slice none 0 0),(w.heap.size+1,2,.slice none 0 0),(w.heap.size+1,3,.slice none 0 0),(w.heap.size+1+1,0,.int .i64 0),(w.heap.size+1+1,1,.int .i64 0),(w3.heap.size,0,.int .i64 m.sizes.sum),(w3.heap.size,1,.slice AI (xX5 (xJ6 0 m.sizes) m.init).length cI),(w3.heap.size,2,.slice AG (xJb (xJ6 0 m.sizes) m.goal).length cG),(w3.heap.size,3,.slice A7 k c7),(wo.heap.size,0,.slice A5 o.pre.length c5),(wo.heap.size,1,.slice A6 o.post.length c6),(wo.heap.size,2,.int .i64 o.cost)]) hB12 (by simp[Cls,go_sem,F11,y11w2,y11w1,y11w0,y11w30,y11wo0]);have F12:=C12;simp only[Cls,and_true] at F12;have y12w2:w.heap.size+1+1 < w12.heap.size:=C12.blk (b:=w.heap.size+1+1) (k:=0) (v:=.int .i64 0) (by simp);have y12w30:w3.heap.size < w12.heap.size:=C12.blk (b:=w3.heap.size) (k:=0) (v:=.int .i64 m.sizes.sum) (by simp);have y12wo0:wo.heap.size < w12.heap.size:=C12.blk (b:=wo.heap.size) (k:=0) (v:=.slice A5 o.pre.length c5) (by simp);have hz12:=hB12.size
        (try simp at hz12)
        obtain⟨A2,c2,hv7,-,-⟩:=hO7.form;subst hv7;have hSS:w12.cell? ⟨wo.heap.size,0,none⟩=some (.slice A5 o.pre.length c5)/\w12.cell? ⟨wo.heap.size,1,none⟩=some (.slice A6 o.post.length c6)/\w12.cell? ⟨wo.heap.size,2,none⟩=some (.int .i64 o.cost):=(by have q:=C12;simp only[Cls,and_true] at q;simp[q])
        go_wp2_with fail
        refine hK.out _ _ hSS ?_;clear hK K
        try simp only[ap]
        refine xJ0 (i:=10) (v:=?vt11x10) rfl (by kernel_rfl) (by kernel_rfl) (by kernel_rfl) (by kernel_rfl) (by kernel_rfl) (fun _ _ _ h=>h) (Or.inl ⟨by rfl,?ht11x10⟩) (by assumption) ?rt11x10
        case ht11x10=>(intro w hSw;(try dsimp only at hSw);go_simp;(try with_reducible rfl))
        try simp only[ap]
        refine xJ3 (i:=11) (by kernel_rfl) rfl (fun K hK=>?_);go_simp;have hSS:(w12.alloc (.cells #[.slice none 0 0,.slice none 0 0,.slice none 0 0,.int .i64 0] 68)).cell? ⟨wo.heap.size,0,none⟩=some (.slice A5 o.pre.length c5)/\(w12.alloc (.cells #[.slice none 0 0,.slice none 0 0,.slice none 0 0,.int .i64 0] 68)).cell? ⟨wo.heap.size,1,none⟩=some (.slice A6 o.post.length c6)/\(w12.alloc (.cells #[.slice none 0 0,.slice none 0 0,.slice none 0 0,.int .i64 0] 68)).cell? ⟨wo.heap.size,2,none⟩=some (.int .i64 o.cost):=(by simp[go_sem,F12,y12w2,y12w30,y12wo0])
        go_wp2_with fail
        refine hK.out _ _ hSS ?_;clear hK K
        try simp only[ap]
        refine xJc (i:=12) (by kernel_rfl) rfl (by kernel_rfl) (fun K hK=>?_);go_simp;have hn1:¬ w12.heap.size=wo.heap.size:=(by omega);have hn2:¬ wo.heap.size=w12.heap.size:=(by omega)
        go_wp2_with fail
        refine hK.out _ _ ?_;clear hK K
        try simp only[ap]
        refine xJ7 (by kernel_rfl) ?_ _
        go_wp2_with fail
        go_meet
        exact⟨w12.heap.size,A1,c1,A2,c2,rfl,(by omega),(by (first | omega | (simp <;> omega))),((xJ8 _).below (w':=(w12.alloc (.cells #[.slice A1 (xJb (xJ6 0 m.sizes) o.pre).length c1,.slice A2 (xJb (xJ6 0 m.sizes) o.post).length c2,.slice none 0 0,.int .i64 o.cost] 68))) (xZy (ob:=w12.heap.size) hO3 (by first | omega | (simp <;> omega)) (by first | omega | (simp <;> omega))) bch),((xJ8 _).below (w':=(w12.alloc (.cells #[.slice A1 (xJb (xJ6 0 m.sizes) o.pre).length c1,.slice A2 (xJb (xJ6 0 m.sizes) o.post).length c2,.slice none 0 0,.int .i64 o.cost] 68))) (xZy (ob:=w12.heap.size) hO7 (by first | omega | (simp <;> omega)) (by first | omega | (simp <;> omega))) bch),bch,(by simp[Cls,go_sem,F12,y12w2,y12w30,y12wo0,hn1,hn2]),(by simp[Cls,go_sem,F12,y12w2,y12w30,y12wo0,hn1,hn2])⟩
       case b10a=>
        go_simp;have hSS:(w11.alloc (.cells #[.slice none 0 0,.slice none 0 0,.slice none 0 0,.int .i64 0] 68)).cell? ⟨wo.heap.size,0,none⟩=some (.slice A5 o.pre.length c5)/\(w11.alloc (.cells #[.slice none 0 0,.slice none 0 0,.slice none 0 0,.int .i64 0] 68)).cell? ⟨wo.heap.size,1,none⟩=some (.slice A6 o.post.length c6)/\(w11.alloc (.cells #[.slice none 0 0,.slice none 0 0,.slice none 0 0,.int .i64 0] 68)).cell? ⟨wo.heap.size,2,none⟩=some (.int .i64 o.cost):=(by simp[go_sem,F11,y11w2,y11w1,y11w0,y11w30,y11wo0])
        go_wp2_with fail
        refine hK.out _ _ hSS ?_;clear hK K
        try simp only[ap]
        refine xJ3 (i:=7) (by kernel_rfl) rfl (fun K hK=>?_);go_simp;go_at_call 86;refine (xZa _ _ _ _ (HIBo.out.below bch) hlb _ _ _ (hoa.out.2.below bch) hl1 HF1.out).mono ?_;rintro e w12 ⟨v7,rfl,hO7,hB12⟩;have D12:=xJ4 w hB12 bch;have Ewo_12:=xJ4 wo hB12 bch;have Ew11_12:=xJ4 w11 hB12 bch;have C12:=Cls.below (l:=[(w.heap.size,0,.slice As m.sizes.length cs),(w.heap.size,1,.slice Ai m.init.length ci),(w.heap.size,2,.slice Ag m.goal.length cg),(w.heap.size,3,.slice (some ad) m.ops.length co),(w.heap.size+1,0,.int .i64 0),(w.heap.size+1,1,.slice none 0 0),(w.heap.size+1,2,.slice none 0 0),(w.heap.size+1,3,.slice none 0 0),(w.heap.size+1+1,0,.int .i64 0),(w.heap.size+1+1,1,.int .i64 0),(w3.heap.size,0,.int .i64 m.sizes.sum),(w3.heap.size,1,.slice AI (xX5 (xJ6 0 m.sizes) m.init).length cI),(w3.heap.size,2,.slice AG (xJb (xJ6 0 m.sizes) m.goal).length cG),(w3.heap.size,3,.slice A7 k c7),(wo.heap.size,0,.slice A5 o.pre.length c5),(wo.heap.size,1,.slice A6 o.post.length c6),(wo.heap.size,2,.int .i64 o.cost),(w11.heap.size,0,.slice none 0 0),(w11.heap.size,1,.slice none 0 0),(w11.heap.size,2,.slice none 0 0),(w11.heap.size,3,.int .i64 0)]) hB12 (by simp[Cls,go_sem,F11,y11w2,y11w1,y11w0,y11w30,y11wo0]);have F12:=C12;simp only[Cls,and_true] at F12;have y12w2:w.heap.size+1+1 < w12.heap.size:=C12.blk (b:=w.heap.size+1+1) (k:=0) (v:=.int .i64 0) (by simp);have y12w110:w11.heap.size < w12.heap.size:=C12.blk (b:=w11.heap.size) (k:=0) (v:=.slice none 0 0) (by simp);have y12w30:w3.heap.size < w12.heap.size:=C12.blk (b:=w3.heap.size) (k:=0) (v:=.int .i64 m.sizes.sum) (by simp);have y12wo0:wo.heap.size < w12.heap.size:=C12.blk (b:=wo.heap.size) (k:=0) (v:=.slice A5 o.pre.length c5) (by simp);have hz12:=hB12.size
        (try simp at hz12)
        obtain⟨A2,c2,hv7,-,-⟩:=hO7.form;subst hv7;have hSS:w12.cell? ⟨wo.heap.size,0,none⟩=some (.slice A5 o.pre.length c5)/\w12.cell? ⟨wo.heap.size,1,none⟩=some (.slice A6 o.post.length c6)/\w12.cell? ⟨wo.heap.size,2,none⟩=some (.int .i64 o.cost):=(by have q:=C12;simp only[Cls,and_true] at q;simp[q])
        go_wp2_with fail
        refine hK.out _ _ hSS ?_;clear hK K
        try simp only[ap]
        refine xJ0 (i:=10) (v:=?vt12x10) rfl (by kernel_rfl) (by kernel_rfl) (by kernel_rfl) (by kernel_rfl) (by kernel_rfl) (fun _ _ _ h=>h) (Or.inl ⟨by rfl,?ht12x10⟩) (by assumption) ?rt12x10
        case ht12x10=>(intro w hSw;(try dsimp only at hSw);go_simp;(try with_reducible rfl))
        try simp only[ap]
        refine xJc (i:=12) (by kernel_rfl) rfl (by kernel_rfl) (fun K hK=>?_);go_simp;have hn1:¬ w11.heap.size=wo.heap.size:=(by omega);have hn2:¬ wo.heap.size=w11.heap.size:=(by omega)
        go_wp2_with fail
        refine hK.out _ _ ?_;clear hK K
        try simp only[ap]
        refine xJ7 (by kernel_rfl) ?_ _
        go_wp2_with fail
        go_meet
        exact⟨w11.heap.size,A1,c1,A2,c2,rfl,(by omega),(by (first | omega | (simp <;> omega))),(xJt (xJt (xJt (xJt ((xJ8 _).below (w':=w12) (xZy (ob:=w11.heap.size) hO3 (by first | omega | (simp <;> omega)) (by first | omega | (simp <;> omega))) bch) 0 _) 1 _) 2 _) 3 _),(xJt (xJt (xJt (xJt ((xJ8 _).below (w':=w12) (xZy (ob:=w11.heap.size) hO7 (by first | omega | (simp <;> omega)) (by first | omega | (simp <;> omega))) bch) 0 _) 1 _) 2 _) 3 _),bch,(by simp[Cls,go_sem,F12,y12w2,y12w110,y12w30,y12wo0,hn1,hn2]),(by simp[Cls,go_sem,F12,y12w2,y12w110,y12w30,y12wo0,hn1,hn2])⟩
      case b9a=>
       go_simp;have hSS:((wo.alloc (.cells #[.slice A5 o.pre.length c5,.slice A6 o.post.length c6,.int .i64 o.cost] 156)).drew.alloc (.cells #[.slice none 0 0,.slice none 0 0,.slice none 0 0,.int .i64 0] 68)).cell? ⟨wo.heap.size,0,none⟩=some (.slice A5 o.pre.length c5)/\((wo.alloc (.cells #[.slice A5 o.pre.length c5,.slice A6 o.post.length c6,.int .i64 o.cost] 156)).drew.alloc (.cells #[.slice none 0 0,.slice none 0 0,.slice none 0 0,.int .i64 0] 68)).cell? ⟨wo.heap.size,1,none⟩=some (.slice A6 o.post.length c6)/\((wo.alloc (.cells #[.slice A5 o.pre.length c5,.slice A6 o.post.length c6,.int .i64 o.cost] 156)).drew.alloc (.cells #[.slice none 0 0,.slice none 0 0,.slice none 0 0,.int .i64 0] 68)).cell? ⟨wo.heap.size,2,none⟩=some (.int .i64 o.cost):=(by simp[go_sem,Fo,yow2,yow1,yow0,yowp1,yow30,yow3p1])
       go_wp2_with fail
       refine hK.out _ _ hSS ?_;clear hK K
       try simp only[ap]
       refine xJ3 (i:=3) (by kernel_rfl) rfl (fun K hK=>?_);go_simp;go_at_call 86;refine (xZa _ _ _ _ (HIBo.out.below bch) hlb _ _ _ (hoa.out.1.below bch) hl0 HF0.out).mono ?_;rintro e w11 ⟨v3,rfl,hO3,hB11⟩;have D11:=xJ4 w hB11 bch;have Ewo_11:=xJ4 wo hB11 bch;have C11:=Cls.below (l:=[(w.heap.size,0,.slice As m.sizes.length cs),(w.heap.size,1,.slice Ai m.init.length ci),(w.heap.size,2,.slice Ag m.goal.length cg),(w.heap.size,3,.slice (some ad) m.ops.length co),(w.heap.size+1,0,.int .i64 0),(w.heap.size+1,1,.slice none 0 0),(w.heap.size+1,2,.slice none 0 0),(w.heap.size+1,3,.slice none 0 0),(w.heap.size+1+1,0,.int .i64 0),(w.heap.size+1+1,1,.int .i64 0),(w3.heap.size,0,.int .i64 m.sizes.sum),(w3.heap.size,1,.slice AI (xX5 (xJ6 0 m.sizes) m.init).length cI),(w3.heap.size,2,.slice AG (xJb (xJ6 0 m.sizes) m.goal).length cG),(w3.heap.size,3,.slice A7 k c7),(wo.heap.size,0,.slice A5 o.pre.length c5),(wo.heap.size,1,.slice A6 o.post.length c6),(wo.heap.size,2,.int .i64 o.cost),(wo.heap.size+1,0,.slice none 0 0),(wo.heap.size+1,1,.slice none 0 0),(wo.heap.size+1,2,.slice none 0 0),(wo.heap.size+1,3,.int .i64 0)]) hB11 (by simp[Cls,go_sem,Fo,yow2,yow1,yow0,yowp1,yow30,yow3p1]);have F11:=C11;simp only[Cls,and_true] at F11;have y11w2:w.heap.size+1+1 < w11.heap.size:=C11.blk (b:=w.heap.size+1+1) (k:=0) (v:=.int .i64 0) (by simp);have y11w1:w.heap.size+1 < w11.heap.size:=(by omega);have y11w0:w.heap.size < w11.heap.size:=(by omega);have y11w30:w3.heap.size < w11.heap.size:=C11.blk (b:=w3.heap.size) (k:=0) (v:=.int .i64 m.sizes.sum) (by simp);have y11wo1:wo.heap.size+1 < w11.heap.size:=C11.blk (b:=wo.heap.size+1) (k:=0) (v:=.slice none 0 0) (by simp);have y11wo0:wo.heap.size < w11.heap.size:=(by omega);have hz11:=hB11.size
       (try simp at hz11)
       obtain⟨A1,c1,hv3,-,-⟩:=hO3.form;subst hv3;have hSS:w11.cell? ⟨wo.heap.size,0,none⟩=some (.slice A5 o.pre.length c5)/\w11.cell? ⟨wo.heap.size,1,none⟩=some (.slice A6 o.post.length c6)/\w11.cell? ⟨wo.heap.size,2,none⟩=some (.int .i64 o.cost):=(by have q:=C11;simp only[Cls,and_true] at q;simp[q])
       go_wp2_with fail
       refine hK.out _ _ hSS ?_;clear hK K
       try simp only[ap]
       refine xJ3 (i:=7) (by kernel_rfl) rfl (fun K hK=>?_);go_simp;go_at_call 86;refine (xZa _ _ _ _ (HIBo.out.below bch) hlb _ _ _ (hoa.out.2.below bch) hl1 HF1.out).mono ?_;rintro e w12 ⟨v7,rfl,hO7,hB12⟩;have D12:=xJ4 w hB12 bch;have Ewo_12:=xJ4 wo hB12 bch;have Ew11_12:=xJ4 w11 hB12 bch;have C12:=Cls.below (l:=[(w.heap.size,0,.slice As m.sizes.length cs),(w.heap.size,1,.slice Ai m.init.length ci),(w.heap.size,2,.slice Ag m.goal.length cg),(w.heap.size,3,.slice (some ad) m.ops.length co),(w.heap.size+1,0,.int .i64 0),(w.heap.size+1,1,.slice none 0 0),(w.heap.size+1,2,.slice none 0 0),(w.heap.size+1,3,.slice none 0 0),(w.heap.size+1+1,0,.int .i64 0),(w.heap.size+1+1,1,.int .i64 0),(w3.heap.size,0,.int .i64 m.sizes.sum),(w3.heap.size,1,.slice AI (xX5 (xJ6 0 m.sizes) m.init).length cI),(w3.heap.size,2,.slice AG (xJb (xJ6 0 m.sizes) m.goal).length cG),(w3.heap.size,3,.slice A7 k c7),(wo.heap.size,0,.slice A5 o.pre.length c5),(wo.heap.size,1,.slice A6 o.post.length c6),(wo.heap.size,2,.int .i64 o.cost),(wo.heap.size+1,0,.slice none 0 0),(wo.heap.size+1,1,.slice none 0 0),(wo.heap.size+1,2,.slice none 0 0),(wo.heap.size+1,3,.int .i64 0)]) hB12 (by simp[Cls,go_sem,F11,y11w2,y11w1,y11w0,y11w30,y11wo1,y11wo0]);have F12:=C12;simp only[Cls,and_true] at F12;have y12w2:w.heap.size+1+1 < w12.heap.size:=C12.blk (b:=w.heap.size+1+1) (k:=0) (v:=.int .i64 0) (by simp);have y12w30:w3.heap.size < w12.heap.size:=C12.blk (b:=w3.heap.size) (k:=0) (v:=.int .i64 m.sizes.sum) (by simp);have y12wo1:wo.heap.size+1 < w12.heap.size:=C12.blk (b:=wo.heap.size+1) (k:=0) (v:=.slice none 0 0) (by simp);have y12wo0:wo.heap.size < w12.heap.size:=(by omega);have hz12:=hB12.size
       (try simp at hz12)
       obtain⟨A2,c2,hv7,-,-⟩:=hO7.form;subst hv7;have hSS:w12.cell? ⟨wo.heap.size,0,none⟩=some (.slice A5 o.pre.length c5)/\w12.cell? ⟨wo.heap.size,1,none⟩=some (.slice A6 o.post.length c6)/\w12.cell? ⟨wo.heap.size,2,none⟩=some (.int .i64 o.cost):=(by have q:=C12;simp only[Cls,and_true] at q;simp[q])
       go_wp2_with fail
       refine hK.out _ _ hSS ?_;clear hK K
       try simp only[ap]
       refine xJ0 (i:=10) (v:=?vt13x10) rfl (by kernel_rfl) (by kernel_rfl) (by kernel_rfl) (by kernel_rfl) (by kernel_rfl) (fun _ _ _ h=>h) (Or.inl ⟨by rfl,?ht13x10⟩) (by assumption) ?rt13x10
       case ht13x10=>(intro w hSw;(try dsimp only at hSw);go_simp;(try with_reducible rfl))
       try simp only[ap]
       refine xJc (i:=12) (by kernel_rfl) rfl (by kernel_rfl) (fun K hK=>?_);go_simp;have hn1:¬ wo.heap.size+1=wo.heap.size:=(by omega);have hn2:¬ wo.heap.size=wo.heap.size+1:=(by omega)
       go_wp2_with fail
       refine hK.out _ _ ?_;clear hK K
       try simp only[ap]
       refine xJ7 (by kernel_rfl) ?_ _
       go_wp2_with fail
       go_meet
       exact⟨wo.heap.size+1,A1,c1,A2,c2,rfl,(by omega),(by (first | omega | (simp <;> omega))),(xJt (xJt (xJt (xJt ((xJ8 _).below (w':=w12) (xZy (ob:=wo.heap.size+1) hO3 (by first | omega | (simp <;> omega)) (by first | omega | (simp <;> omega))) bch) 0 _) 1 _) 2 _) 3 _),(xJt (xJt (xJt (xJt ((xJ8 _).below (w':=w12) (xZy (ob:=wo.heap.size+1) hO7 (by first | omega | (simp <;> omega)) (by first | omega | (simp <;> omega))) bch) 0 _) 1 _) 2 _) 3 _),bch,(by simp[Cls,go_sem,F12,y12w2,y12w30,y12wo1,y12wo0,hn1,hn2]),(by simp[Cls,go_sem,F12,y12w2,y12w30,y12wo1,y12wo0,hn1,hn2])⟩
     case rest=>
      obtain⟨ob2,A1,c1,A2,c2,rfl,hob1,hob2,hP1,hP2,hBc,hCa,hCb⟩:=hcut;have hCc:Cls wc [(w.heap.size,0,.slice As m.sizes.length cs),(w.heap.size,1,.slice Ai m.init.length ci),(w.heap.size,2,.slice Ag m.goal.length cg),(w.heap.size,3,.slice (some ad) m.ops.length co),(w.heap.size+1,0,.int .i64 0),(w.heap.size+1,1,.slice none 0 0),(w.heap.size+1,2,.slice none 0 0),(w.heap.size+1,3,.slice none 0 0),(w.heap.size+1+1,0,.int .i64 0),(w.heap.size+1+1,1,.int .i64 0),(w3.heap.size,0,.int .i64 m.sizes.sum),(w3.heap.size,1,.slice AI (xX5 (xJ6 0 m.sizes) m.init).length cI),(w3.heap.size,2,.slice AG (xJb (xJ6 0 m.sizes) m.goal).length cG),(w3.heap.size,3,.slice A7 k c7),(wo.heap.size,0,.slice A5 o.pre.length c5),(wo.heap.size,1,.slice A6 o.post.length c6),(wo.heap.size,2,.int .i64 o.cost),(ob2,0,.slice A1 (xJb (xJ6 0 m.sizes) o.pre).length c1),(ob2,1,.slice A2 (xJb (xJ6 0 m.sizes) o.post).length c2),(ob2,2,.slice none 0 0),(ob2,3,.int .i64 o.cost)]:=(by have h1:=Cls.below (l:=[(w.heap.size,0,.slice As m.sizes.length cs),(w.heap.size,1,.slice Ai m.init.length ci),(w.heap.size,2,.slice Ag m.goal.length cg),(w.heap.size,3,.slice (some ad) m.ops.length co),(w.heap.size+1,0,.int .i64 0),(w.heap.size+1,1,.slice none 0 0),(w.heap.size+1,2,.slice none 0 0),(w.heap.size+1,3,.slice none 0 0),(w.heap.size+1+1,0,.int .i64 0),(w.heap.size+1+1,1,.int .i64 0),(w3.heap.size,0,.int .i64 m.sizes.sum),(w3.heap.size,1,.slice AI (xX5 (xJ6 0 m.sizes) m.init).length cI),(w3.heap.size,2,.slice AG (xJb (xJ6 0 m.sizes) m.goal).length cG),(w3.heap.size,3,.slice A7 k c7)]) hBc hCo;simp only[Cls,and_true] at h1 hCa hCb ⊢;simp[h1,hCa,hCb]);have hbc:=hBc.size;have HRG:=lHd (fun a ha=>(HOK.out.1.2).rng a ha);have HL5:=lHd (show o.post.length<=8 from by have:=HOK.out.1.2.len8;omega);have Fc:=hCc;simp only[Cls,and_true] at Fc;have ycob20:ob2 < wc.heap.size:=hCc.blk (b:=ob2) (k:=0) (v:=.slice A1 (xJb (xJ6 0 m.sizes) o.pre).length c1) (by simp);have ycw2:w.heap.size+1+1 < wc.heap.size:=hCc.blk (b:=w.heap.size+1+1) (k:=0) (v:=.int .i64 0) (by simp);have ycw30:w3.heap.size < wc.heap.size:=hCc.blk (b:=w3.heap.size) (k:=0) (v:=.int .i64 m.sizes.sum) (by simp);have ycwo0:wo.heap.size < wc.heap.size:=hCc.blk (b:=wo.heap.size) (k:=0) (v:=.slice A5 o.pre.length c5) (by simp)
      go_wp2_with fail
      go_loopw [80] (fun i wr=>∃ (j:Nat) (vD:Value),j<=o.post.length/\i=.int .i64 (j:Int)/\OwnI wc.heap.size wr vD ((o.post.take j).flatMap (xXu m.sizes (xJ6 0 m.sizes)))/\Keep wc.heap.size ob2 wc wr/\Below wo.heap.size wo wr/\Cls wr [(ob2,0,.slice A1 (xJb (xJ6 0 m.sizes) o.pre).length c1),(ob2,1,.slice A2 (xJb (xJ6 0 m.sizes) o.post).length c2),(ob2,2,vD),(ob2,3,.int .i64 o.cost)]) (fun i _=>o.post.length - (intOf i).toNat)
      case atStart=>exact⟨0,.slice none 0 0,Nat.zero_le _,rfl,OwnI.nil _ _,Keep.refl _ _ _,hBc,hCb⟩
      case round=>
       clear hCc Fc;obtain⟨j,vD,hj,rfl,hownD,hKj,hBj,hCj⟩:=hrel;obtain⟨wj,rfl⟩:∃ wo:World,wo=wr:=⟨_,rfl⟩;have DJ:=DO.trans (hBj.mono dos);have hCJ:Cls wj [(w.heap.size,0,.slice As m.sizes.length cs),(w.heap.size,1,.slice Ai m.init.length ci),(w.heap.size,2,.slice Ag m.goal.length cg),(w.heap.size,3,.slice (some ad) m.ops.length co),(w.heap.size+1,0,.int .i64 0),(w.heap.size+1,1,.slice none 0 0),(w.heap.size+1,2,.slice none 0 0),(w.heap.size+1,3,.slice none 0 0),(w.heap.size+1+1,0,.int .i64 0),(w.heap.size+1+1,1,.int .i64 0),(w3.heap.size,0,.int .i64 m.sizes.sum),(w3.heap.size,1,.slice AI (xX5 (xJ6 0 m.sizes) m.init).length cI),(w3.heap.size,2,.slice AG (xJb (xJ6 0 m.sizes) m.goal).length cG),(w3.heap.size,3,.slice A7 k c7),(wo.heap.size,0,.slice A5 o.pre.length c5),(wo.heap.size,1,.slice A6 o.post.length c6),(wo.heap.size,2,.int .i64 o.cost),(ob2,0,.slice A1 (xJb (xJ6 0 m.sizes) o.pre).length c1),(ob2,1,.slice A2 (xJb (xJ6 0 m.sizes) o.post).length c2),(ob2,2,vD),(ob2,3,.int .i64 o.cost)]:=(by have h1:=Cls.below (l:=[(w.heap.size,0,.slice As m.sizes.length cs),(w.heap.size,1,.slice Ai m.init.length ci),(w.heap.size,2,.slice Ag m.goal.length cg),(w.heap.size,3,.slice (some ad) m.ops.length co),(w.heap.size+1,0,.int .i64 0),(w.heap.size+1,1,.slice none 0 0),(w.heap.size+1,2,.slice none 0 0),(w.heap.size+1,3,.slice none 0 0),(w.heap.size+1+1,0,.int .i64 0),(w.heap.size+1+1,1,.int .i64 0),(w3.heap.size,0,.int .i64 m.sizes.sum),(w3.heap.size,1,.slice AI (xX5 (xJ6 0 m.sizes) m.init).length cI),(w3.heap.size,2,.slice AG (xJb (xJ6 0 m.sizes) m.goal).length cG),(w3.heap.size,3,.slice A7 k c7)]) hBj hCo;have h2:=Cls.keep hCa hKj (fun x hx=>by simp at hx;rcases hx with rfl | rfl | rfl <;> exact⟨by dsimp only;omega,by dsimp only;omega⟩);simp only[Cls,and_true] at h1 h2 hCj ⊢;simp[h1,h2,hCj]);have Fj:=hCJ;simp only[Cls,and_true] at Fj;have yjob20:ob2 < wj.heap.size:=hCJ.blk (b:=ob2) (k:=0) (v:=.slice A1 (xJb (xJ6 0 m.sizes) o.pre).length c1) (by simp);have yjw2:w.heap.size+1+1 < wj.heap.size:=hCJ.blk (b:=w.heap.size+1+1) (k:=0) (v:=.int .i64 0) (by simp);have yjw1:w.heap.size+1 < wj.heap.size:=(by omega);have yjw0:w.heap.size < wj.heap.size:=(by omega);have yjw30:w3.heap.size < wj.heap.size:=hCJ.blk (b:=w3.heap.size) (k:=0) (v:=.int .i64 m.sizes.sum) (by simp);have yjwo0:wo.heap.size < wj.heap.size:=hCJ.blk (b:=wo.heap.size) (k:=0) (v:=.slice A5 o.pre.length c5) (by simp)
       by_cases hjl:j < o.post.length
       ·obtain⟨pd,v,x,hA6,hx,hxc0,hxc1⟩:=(hoa.out.2.below hBj).at_ (k:=j) hjl;subst hA6;have hvr:=HRG.out _ (lMg hx.out);dsimp only at hvr;obtain⟨vn,hvn⟩:=Int.eq_ofNat_of_zero_le hvr.1.1;subst hvn;have hvl:vn < m.sizes.length:=by omega
        have hvl2:(vn:Int) < (m.sizes.length:Int):=by omega
        obtain⟨zd,sz,hAs,hsz,hzc⟩:=(HM.out.sizes.below DJ).at_ (k:=vn) hvl;subst hAs;obtain⟨bd,yb,hAB,hyb,hbc0⟩:=HIB3.out.at_ (k:=vn) (by have:=HBL.out;omega);subst hAB;have hvb2:(vn:Int) < ((xJ6 0 m.sizes).length:Int):=by have:=HBL.out;omega
        have HSZ:=lHd (show xJ2 m.sizes (vn:Int)=sz from xJ5 (by rw[Int.toNat_natCast];exact hsz.out));have HYB:=lHd (show xJ2 (xJ6 0 m.sizes) (vn:Int)=yb from xJ5 (by rw[Int.toNat_natCast];exact hyb.out));have hszr:=hv.out.sz sz (lMg hsz.out);have hybr:=(HF1.out).out _ _ (lMg hx.out);rw[HYB.out] at hybr;have hyb1:0<=yb/\yb<=100:=hybr.2.2;obtain⟨zn,hzn⟩:=Int.eq_ofNat_of_zero_le (show 0<=sz by omega);subst hzn;have hbo3:=World.block_lt_of_cell? w3 _ hbc0;have HFS:=lHd (vZ0 (f:=xXu m.sizes (xJ6 0 m.sizes)) hx.out);have HOA:=lHd (show xXu m.sizes (xJ6 0 m.sizes) ((vn:Int),x)=zY7 (xJ6 0 m.sizes) ((vn:Int),x) zn from by rw[vJv];show zY7 _ _ (xJ2 m.sizes (vn:Int)).toNat=_;rw[HSZ.out,Int.toNat_natCast]);have hDl:((o.post.take j).flatMap (xXu m.sizes (xJ6 0 m.sizes))).length<=48:=by
         have h1:=zYh hv.out (l:=o.post.take j) (fun a ha=>⟨(HRG.out a (List.mem_of_mem_take ha)).1.2,(HRG.out a (List.mem_of_mem_take ha)).1.1⟩);rw[List.length_take] at h1;have:=HL5.out;omega
        have hOb:=lHd (fun b hb=>World.ownsRow.lt hownD b hb);clear hvr hybr;have hzlt:=World.block_lt_of_cell? wj _ hzc
        go_wp2_with fail
        go_loopw [90] (fun i wr=>∃ (y:Nat) (vE:Value),y<=zn/\i=.int .i64 (y:Int)/\OwnI wc.heap.size wr vE (((o.post.take j).flatMap (xXu m.sizes (xJ6 0 m.sizes))) ++ zY7 (xJ6 0 m.sizes) ((vn:Int),x) y)/\Keep wc.heap.size ob2 wc wr/\Below wo.heap.size wo wr/\wj.heap.size < wr.heap.size/\Hid (vE.ownBlock≠some wj.heap.size)/\Cls wr [(ob2,0,.slice A1 (xJb (xJ6 0 m.sizes) o.pre).length c1),(ob2,1,.slice A2 (xJb (xJ6 0 m.sizes) o.post).length c2),(ob2,2,vE),(ob2,3,.int .i64 o.cost)]/\Cls wr [(wj.heap.size,0,.int .i64 (vn:Int)),(wj.heap.size,1,.int .i64 x)]) (fun i _=>zn - (intOf i).toNat)
        case atStart=>exact⟨0,vD,Nat.zero_le _,rfl,by have h1:=OwnI.below hownD (w':=wj.alloc (.cells #[.int .i64 (vn:Int),.int .i64 x] 154)) bch;simpa[zY7] using h1,(hKj.below (Nat.le_refl _) bch),bch,(by simp),lHd (fun e=>by have:=(hOb.out _ e).2;omega),(Cls.below bch hCj),(by simp[Cls,go_sem])⟩
        case round=>
         obtain⟨y,vE,hy,rfl,hownE,hKy,hBy,hwy,HNB,hCy,hCz⟩:=hrel;obtain⟨wy,rfl⟩:∃ wo:World,wo=wr:=⟨_,rfl⟩;have hsy:=hBy.size;have hky:=hKy.1;have DY:=DO.trans (hBy.mono dos);have hCY:Cls wy [(w.heap.size,0,.slice (some zd) m.sizes.length cs),(w.heap.size,1,.slice Ai m.init.length ci),(w.heap.size,2,.slice Ag m.goal.length cg),(w.heap.size,3,.slice (some ad) m.ops.length co),(w.heap.size+1,0,.int .i64 0),(w.heap.size+1,1,.slice none 0 0),(w.heap.size+1,2,.slice none 0 0),(w.heap.size+1,3,.slice none 0 0),(w.heap.size+1+1,0,.int .i64 0),(w.heap.size+1+1,1,.int .i64 0),(w3.heap.size,0,.int .i64 m.sizes.sum),(w3.heap.size,1,.slice AI (xX5 (xJ6 0 m.sizes) m.init).length cI),(w3.heap.size,2,.slice AG (xJb (xJ6 0 m.sizes) m.goal).length cG),(w3.heap.size,3,.slice A7 k c7),(ob2,0,.slice A1 (xJb (xJ6 0 m.sizes) o.pre).length c1),(ob2,1,.slice A2 (xJb (xJ6 0 m.sizes) o.post).length c2),(ob2,2,vE),(ob2,3,.int .i64 o.cost),(wj.heap.size,0,.int .i64 (vn:Int)),(wj.heap.size,1,.int .i64 x)]:=(by have h1:=Cls.below (l:=[(w.heap.size,0,.slice (some zd) m.sizes.length cs),(w.heap.size,1,.slice Ai m.init.length ci),(w.heap.size,2,.slice Ag m.goal.length cg),(w.heap.size,3,.slice (some ad) m.ops.length co),(w.heap.size+1,0,.int .i64 0),(w.heap.size+1,1,.slice none 0 0),(w.heap.size+1,2,.slice none 0 0),(w.heap.size+1,3,.slice none 0 0),(w.heap.size+1+1,0,.int .i64 0),(w.heap.size+1+1,1,.int .i64 0),(w3.heap.size,0,.int .i64 m.sizes.sum),(w3.heap.size,1,.slice AI (xX5 (xJ6 0 m.sizes) m.init).length cI),(w3.heap.size,2,.slice AG (xJb (xJ6 0 m.sizes) m.goal).length cG),(w3.heap.size,3,.slice A7 k c7)]) hBy hCo;simp only[Cls,and_true] at h1 hCy hCz ⊢;simp[h1,hCy,hCz]);have Fy:=hCY;simp only[Cls,and_true] at Fy;have yyob20:ob2 < wy.heap.size:=hCY.blk (b:=ob2) (k:=0) (v:=.slice A1 (xJb (xJ6 0 m.sizes) o.pre).length c1) (by simp);have yyw2:w.heap.size+1+1 < wy.heap.size:=hCY.blk (b:=w.heap.size+1+1) (k:=0) (v:=.int .i64 0) (by simp);have yyw30:w3.heap.size < wy.heap.size:=hCY.blk (b:=w3.heap.size) (k:=0) (v:=.int .i64 m.sizes.sum) (by simp);have yywj0:wj.heap.size < wy.heap.size:=hCY.blk (b:=wj.heap.size) (k:=0) (v:=.int .i64 (vn:Int)) (by simp)
         by_cases hyl:y < zn
         ·by_cases hyx:(y:Int)=x
          ·have HYN:=lHd (vWl (base:=(xJ6 0 m.sizes)) (a:=((vn:Int),x)) (k:=y) hyx);have hyx':((y:Int) == x)=true:=by simp[hyx]
           go_wp2
           go_roundw
           case rel=>exact⟨y+1,vE,by omega,by go_num,by rw[HYN.out];exact hownE,hKy,hBy,hwy,HNB,hCy,hCz⟩
           case measure=>simp[intOf];omega
          ·have HYN:=lHd (vK5 (base:=(xJ6 0 m.sizes)) (a:=((vn:Int),x)) (k:=y) hyx);have hyx':((y:Int) == x)=false:=by simp[hyx]
           have hybo:wo.cell? (bd.add vn)=some (.int .i64 yb):=(hEo.cell hbo3).trans hbc0;have hblo:=World.block_lt_of_cell? wo _ hybo;have hyby:=(hBy.cell hblo).trans hybo;have hbdy:=World.block_lt_of_cell? wy _ hyby;have hwr:IntKind.i64.wrap (yb+(y:Int))=yb+(y:Int):=zJl (by omega);have hlen:(((o.post.take j).flatMap (xXu m.sizes (xJ6 0 m.sizes))) ++ zY7 (xJ6 0 m.sizes) ((vn:Int),x) y).length < 1000000000000:=by rw[List.length_append];have:=vJu (xJ6 0 m.sizes) ((vn:Int),x) y;omega
           go_wp2_with fail
           have hSS0:wy.drew.cell? ⟨ob2,2,none⟩=some (vE)/\wy.drew.cell? ⟨wj.heap.size,0,none⟩=some (.int .i64 (vn:Int))/\wy.drew.cell? (bd.add vn)=some (.int .i64 yb):=by simp[go_sem,hbdy,hyby,Fy,yyob20,yyw2,yyw30,yywj0]
           refine xJg (fun W=>W.cell? ⟨ob2,2,none⟩=some (vE)/\W.cell? ⟨wj.heap.size,0,none⟩=some (.int .i64 (vn:Int))/\W.cell? (bd.add vn)=some (.int .i64 yb)) [12] (by kernel_rfl) ?_;have hSS:=hSS0;refine xJ0 (i:=0) (v:=?vz20) rfl (by kernel_rfl) (by kernel_rfl) (by kernel_rfl) (by kernel_rfl) (by kernel_rfl) (fun _ _ _ h=>h) (Or.inl ⟨by rfl,?hz20⟩) (by assumption) ?rz20
           case hz20=>(intro w hSw;(try dsimp only at hSw);go_simp;(try with_reducible rfl))
           try simp only[ap]
           refine xJ0 (i:=1) (v:=?vz21) rfl (by kernel_rfl) (by kernel_rfl) (by kernel_rfl) (by kernel_rfl) (by kernel_rfl) (fun _ _ _ h=>h) (Or.inl ⟨by rfl,?hz21⟩) (by assumption) ?rz21
           case hz21=>(intro w hSw;(try dsimp only at hSw);go_simp;(try with_reducible rfl))
           try simp only[ap]
           refine xJ0 (i:=2) (v:=?vz22) rfl (by kernel_rfl) (by kernel_rfl) (by kernel_rfl) (by kernel_rfl) (by kernel_rfl) (fun _ _ _ h=>h) (Or.inl ⟨by rfl,?hz22⟩) (by assumption) ?rz22
           case hz22=>(intro w hSw;(try dsimp only at hSw);go_simp;(try with_reducible rfl))
           try simp only[ap]
           refine xJ0 (i:=3) (v:=?vz23) rfl (by kernel_rfl) (by kernel_rfl) (by kernel_rfl) (by kernel_rfl) (by kernel_rfl) (fun _ _ _ h=>h) (Or.inl ⟨by rfl,?hz23⟩) (by assumption) ?rz23
           case hz23=>(intro w hSw;(try dsimp only at hSw);go_simp;(try with_reducible rfl))
           try simp only[ap]
           refine xJ0 (i:=4) (v:=?vz24) rfl (by kernel_rfl) (by kernel_rfl) (by kernel_rfl) (by kernel_rfl) (by kernel_rfl) (fun _ _ _ h=>h) (Or.inl ⟨by rfl,?hz24⟩) (by assumption) ?rz24
           case hz24=>(intro w hSw;(try dsimp only at hSw);go_simp;(try with_reducible rfl))
           try simp only[ap]
           refine xJ0 (i:=5) (v:=?vz25) rfl (by kernel_rfl) (by kernel_rfl) (by kernel_rfl) (by kernel_rfl) (by kernel_rfl) (fun _ _ _ h=>h) (Or.inl ⟨by rfl,?hz25⟩) (by assumption) ?rz25
           case hz25=>(intro w hSw;(try dsimp only at hSw);go_simp;(try with_reducible rfl))
           try simp only[ap]
           refine xJ0 (i:=6) (v:=?vz26) rfl (by kernel_rfl) (by kernel_rfl) (by kernel_rfl) (by kernel_rfl) (by kernel_rfl) (fun _ _ _ h=>h) (Or.inl ⟨by rfl,?hz26⟩) (by assumption) ?rz26
           case hz26=>(intro w hSw;(try dsimp only at hSw);go_simp;(try with_reducible rfl))
           try simp only[ap]
           refine xJ0 (i:=7) (v:=?vz27) rfl (by kernel_rfl) (by kernel_rfl) (by kernel_rfl) (by kernel_rfl) (by kernel_rfl) (fun _ _ _ h=>h) (Or.inl ⟨by rfl,?hz27⟩) (by assumption) ?rz27
           case hz27=>(intro w hSw;(try dsimp only at hSw);go_simp;(try with_reducible rfl))
           try simp only[ap]
           refine xJ0 (i:=8) (v:=?vz28) rfl (by kernel_rfl) (by kernel_rfl) (by kernel_rfl) (by kernel_rfl) (by kernel_rfl) (fun _ _ _ h=>h) (Or.inl ⟨by rfl,?hz28⟩) (by assumption) ?rz28
           case hz28=>(intro w hSw;(try dsimp only at hSw);go_simp;(try with_reducible rfl))
           try simp only[ap]
           refine xJ3 (i:=9) (by kernel_rfl) rfl (fun K hK=>?_);go_simp
           go_wp2_with fail
           have hSS:(wy.drew.alloc (.cells #[.int .i64 (yb+(y:Int))] 3)).cell? ⟨ob2,2,none⟩=some (vE)/\(wy.drew.alloc (.cells #[.int .i64 (yb+(y:Int))] 3)).cell? ⟨wj.heap.size,0,none⟩=some (.int .i64 (vn:Int))/\(wy.drew.alloc (.cells #[.int .i64 (yb+(y:Int))] 3)).cell? (bd.add vn)=some (.int .i64 yb):=(by simp[go_sem,hbdy,hyby,Fy,yyob20,yyw2,yyw30,yywj0]);refine hK.out _ _ hSS ?_;clear hK K
           try simp only[ap]
           refine xJ3 (i:=10) (by kernel_rfl) rfl (fun K hK=>?_);refine xYf rfl (.tmp 98) (.tmp 106) rfl wc.heap.size vE _ (yb+(y:Int)) rfl (hownE.below bch) ⟨wy.heap.size,0,none⟩ 1 rfl (by simp[go_sem]) hlen (by simp;omega) ?_;intro g6 c6 w6 o6 G6 g6or g6lt;have hK6:=(hKy.below (w':=(wy.drew.alloc (.cells #[.int .i64 (yb+(y:Int))] 3))) (Nat.le_refl _) bch).grown (Nat.le_refl _) G6 (fun b hb=>(World.ownsRow.lt hownE b hb).1);have B6:Below wo.heap.size wo w6:=xQ0 (w:=(wy.drew.alloc (.cells #[.int .i64 (yb+(y:Int))] 3))) bch (OwnI.mono (hownE.below (w':=(wy.drew.alloc (.cells #[.int .i64 (yb+(y:Int))] 3))) bch) hbc) G6 (by simp;omega);have C6:=Cls.grown1 (Cls.below (l:=[(ob2,0,.slice A1 (xJb (xJ6 0 m.sizes) o.pre).length c1),(ob2,1,.slice A2 (xJb (xJ6 0 m.sizes) o.post).length c2),(ob2,2,vE),(ob2,3,.int .i64 o.cost),(wj.heap.size,0,.int .i64 (vn:Int)),(wj.heap.size,1,.int .i64 x)]) (w:=wy) (w':=(wy.drew.alloc (.cells #[.int .i64 (yb+(y:Int))] 3))) bch (by simp only[Cls,and_true] at hCy hCz ⊢;simp[hCy,hCz])) G6 (fun z hz e=>by simp at hz;rcases hz with rfl | rfl | rfl | rfl | rfl | rfl;all_goals (first | exact HNB.out e | (have:=(World.ownsRow.lt hownE _ e).1;dsimp only at this;omega)));have F6:=C6;simp only[Cls,and_true] at F6;have hs6:=G6.size;simp at hs6;have HN6:Hid (g6≠wj.heap.size):=lHd (fun e=>by rcases g6or with h | h;exact HNB.out (by rw[h,e]);simp at h;omega);have hSS:w6.cell? ⟨ob2,2,none⟩=some (vE)/\w6.cell? ⟨wj.heap.size,0,none⟩=some (.int .i64 (vn:Int))/\w6.cell? (bd.add vn)=some (.int .i64 yb):=⟨by simp[F6],by simp[F6],(B6.cell (by omega)).trans hybo⟩;refine hK.out _ _ hSS ?_;clear hK K
           try simp only[ap]
           refine xJl (i:=11) (v:=?vz211) rfl (by kernel_rfl) (by kernel_rfl) (by kernel_rfl) (by kernel_rfl) (by kernel_rfl) (fun _ _ _ h=>h) (Or.inl ⟨by rfl,?hz211⟩) (by assumption) ?rz211
           case hz211=>(intro w hSw;(try dsimp only at hSw);go_simp;(try with_reducible rfl))
           try simp only[ap]
           refine xJc (i:=12) (by kernel_rfl) rfl (by kernel_rfl) (fun K hK=>?_);go_simp
           go_wp2_with fail
           refine hK.out _ _ ?_;clear hK K
           try simp only[ap]
           refine xJ7 (by kernel_rfl) ?_ _;go_wp2
           go_roundw
           case rel=>exact⟨y+1,_,by omega,by go_num,by rw[HYN.out,HYB.out,<- List.append_assoc];exact OwnI.far o6 (p:=⟨ob2,2,none⟩) (by dsimp only;omega) _,hK6.set (p:=⟨ob2,2,none⟩) (Or.inl rfl) _,bch,(by simp;omega),lHd (fun e=>by have e2:some g6=some wj.heap.size:=e;exact HN6.out (Option.some.inj e2)),by simp[Cls,go_sem,F6],by simp[Cls,go_sem,F6]⟩
           case measure=>simp[intOf];omega
         ·obtain rfl:y=zn:=by omega
          rw[<- HOA.out,<- HFS.out] at hownE;go_wp2
          go_roundw
          case rel=>exact⟨j+1,vE,by omega,by go_num,hownE,hKy,hBy,hCy⟩
          case measure=>simp[intOf];omega
       ·have hje:o.post.take j=o.post:=List.take_of_length_le (by omega);rw[hje] at hownD;obtain⟨AD,cD,hvD,-,-⟩:=hownD.form;obtain⟨dl,hdl⟩:∃ dl,Hid ((o.post.flatMap (xXu m.sizes (xJ6 0 m.sizes))).length=dl):=⟨_,lHd rfl⟩;rw[hdl.out] at hvD;subst hvD;have hownOj:OwnOps w4.heap.size wj (.slice A7 k c7) ((stV m).ops.take k):=OwnOps.below hownO hBj;have HVB:=lHd (fun (b:Nat) (hb:(.slice A7 k c7:Value).ownBlock=some b)=>(OwnEs.lt hownO b hb).2);have HP0:=lHd (xKu (B':=w4.heap.size) (row':=(.slice A7 k c7:Value).ownBlock) (zJ2 hP1 hKj (Nat.le_refl _)) (by omega) (fun b hb=>by have:=HVB.out b hb;omega));have HP1:=lHd (xKu (B':=w4.heap.size) (row':=(.slice A7 k c7:Value).ownBlock) (zJ2 hP2 hKj (Nat.le_refl _)) (by omega) (fun b hb=>by have:=HVB.out b hb;omega));have HP2:=lHd (zXc (B:=w4.heap.size) (row:=(.slice A7 k c7:Value).ownBlock) hownD (by omega) (fun b hb=>by have:=HVB.out b hb;omega));have HTK:=lHd (show (stV m).ops.take (k+1)=(stV m).ops.take k ++ [vYh m.sizes (xJ6 0 m.sizes) o] by rw[List.take_add_one,HTO.out,List.getElem?_map,ho.out];rfl);have hE3:=hEo.trans (hBj.mono hEo.size);clear hownD
        go_wp2_with (at_builtin;go_must (refine zKp (zJ0 w4.heap.size) 23 80 (.agg #[.slice none 0 0,.slice none 0 0,.slice none 0 0,.int .i64 0]) Tryz.underlying23 vKo rfl (by decide) (by decide) rfl (.tmp 112) (.tmp 114) rfl w [(w.heap.size,0,.slice As m.sizes.length cs),(w.heap.size,1,.slice Ai m.init.length ci),(w.heap.size,2,.slice Ag m.goal.length cg),(w.heap.size,3,.slice (some ad) m.ops.length co),(w.heap.size+1,0,.int .i64 0),(w.heap.size+1,1,.slice none 0 0),(w.heap.size+1,2,.slice none 0 0),(w.heap.size+1,3,.slice none 0 0),(w.heap.size+1+1,0,.int .i64 0),(w.heap.size+1+1,1,.int .i64 0),(w3.heap.size,0,.int .i64 m.sizes.sum),(w3.heap.size,1,.slice AI (xX5 (xJ6 0 m.sizes) m.init).length cI),(w3.heap.size,2,.slice AG (xJb (xJ6 0 m.sizes) m.goal).length cG),(w3.heap.size,3,.slice A7 k c7)] rfl (OwnOps.below hownOj bch) ⟨wj.heap.size,0,none⟩ 1 rfl [.slice A1 (xJb (xJ6 0 m.sizes) o.pre).length c1,.slice A2 (xJb (xJ6 0 m.sizes) o.post).length c2,.slice AD dl cD,.int .i64 o.cost] (vYh m.sizes (xJ6 0 m.sizes) o) rfl ?n1 ?n2 ?n3 ?n4 ?n5 (by omega) ?n6 ?n7 ?n8 ?nn;(case n1=>(intro j u hu;rcases j with _ | _ | _ | _ | j <;> simp at hu <;> subst hu <;> simp[go_sem]));(case n2=>(intro u hu;simp at hu;rcases hu with rfl | rfl | rfl | rfl <;> rfl));(case n3=>exact⟨A1,c1,A2,c2,AD,cD,by rw[<- hdl.out];rfl,(xJ8 _).below HP0.out bch,(xJ8 _).below HP1.out bch,vXz ((xJ8 _).below (w':=(wj.alloc (.cells #[.slice A1 (xJb (xJ6 0 m.sizes) o.pre).length c1,.slice A2 (xJb (xJ6 0 m.sizes) o.post).length c2,.slice AD dl cD,.int .i64 o.cost] 68))) HP2.out bch)⟩);(case n4=>(have:=HLK.out;have:=hv.out.nops;omega));(case n5=>(simp;omega));(case n6=>exact bch);(case n7=>simp[Cls,go_sem,Fj,yjob20,yjw2,yjw1,yjw0,yjw30,yjwo0]);(case n8=>(simp;omega));intro g6 cg6 w6 hO6 hB6 hC6 hsz6 hG6;simp at hsz6;rw[HLK.out] at hO6 ⊢;have F6:=hC6;simp only[Cls,and_true] at F6))
        have E6:Below w3.heap.size w3 w6:=Below.grown (w:=(wj.alloc (.cells #[.slice A1 (xJb (xJ6 0 m.sizes) o.pre).length c1,.slice A2 (xJb (xJ6 0 m.sizes) o.post).length c2,.slice AD dl cD,.int .i64 o.cost] 68))) bch hG6 (by simp;omega) (fun b hb=>by have:=(OwnEs.lt hownOj b hb).1;omega);have hK6:Keep w4.heap.size w3.heap.size w4 w6:=(hKr.below (w':=(wj.alloc (.cells #[.slice A1 (xJb (xJ6 0 m.sizes) o.pre).length c1,.slice A2 (xJb (xJ6 0 m.sizes) o.post).length c2,.slice AD dl cD,.int .i64 o.cost] 68))) (Nat.le_refl _) bch).grown (Nat.le_refl _) hG6 (fun b hb=>(OwnEs.lt hownOj b hb).1)
        go_roundw
        case rel=>exact⟨k+1,.slice (some ⟨g6,0,none⟩) (k+1) cg6,by omega,by go_num,by rw[HTK.out];exact OwnOps.far hO6 (p:=⟨w3.heap.size,3,none⟩) hw34 _,hK6.set (p:=⟨w3.heap.size,3,none⟩) (Or.inl rfl) _,bch,by simp[Cls,go_sem,F6]⟩
        case measure=>simp[intOf];omega
    ·have hke:(stV m).ops.take k=(stV m).ops:=List.take_of_length_le (by rw[HTL.out];omega);have HKL:Hid (k=(stV m).ops.length):=lHd (by rw[HTL.out];omega);rw[hke] at hownO;have hIo:Ints wo AI (xX5 (xJ6 0 m.sizes) m.init):=HII.out.keep hKr (fun ad e=>⟨(HIb.out ad e).2,by have:=(HIb.out ad e).1;omega⟩);have hGo:Ints wo AG (xJb (xJ6 0 m.sizes) m.goal):=HIG.out.below hEo;have hi1:∀ ad,AI=some ad->ad.block≠w.heap.size+1:=fun ad e=>(by have:=(HIb.out ad e).1;omega)
     have hi2:∀ ad,AI=some ad->ad.block≠w.heap.size+1+1:=fun ad e=>(by have:=(HIb.out ad e).1;omega)
     have hg1:∀ ad,AG=some ad->ad.block≠w.heap.size+1:=fun ad e=>(by have:=(HGb.out ad e).1;(first | omega | (simp at this;omega)))
     have hg2:∀ ad,AG=some ad->ad.block≠w.heap.size+1+1:=fun ad e=>(by have:=(HGb.out ad e).1;(first | omega | (simp at this;omega)))
     have hn1:w.heap.size+1 < w4.heap.size:=by omega
     have hn2:w.heap.size+1+1 < w4.heap.size:=by omega
     have HLN:=lHd (show lenOk (xX5 (xJ6 0 m.sizes) m.init).length/\lenOk (xJb (xJ6 0 m.sizes) m.goal).length/\lenOk (stV m).ops.length by
      unfold lenOk;have:=hv.out.nops;rw[zZ2,HTL.out];unfold xJb;rw[List.length_map];omega)
     have HOL:=lHd (show ∀ o∈(stV m).ops,lenOk o.pre.length/\lenOk o.add.length/\lenOk o.del.length from fun o ho=>by
      rw[HTO.out] at ho;obtain⟨o',ho',rfl⟩:=List.mem_map.1 ho;have h1:=(hv.out.ops o' ho').1;have h2:=h1.1.len8;have h3:=h1.2.len8;have h4:=zYh hv.out (l:=o'.post) (fun a ha=>⟨(h1.2.rng a ha).1.2,(h1.2.rng a ha).1.1⟩);unfold lenOk;refine⟨?_,?_,?_⟩
      ·show (xJb (xJ6 0 m.sizes) o'.pre).length<=_;unfold xJb;rw[List.length_map];omega
      ·show (xJb (xJ6 0 m.sizes) o'.post).length<=_;unfold xJb;rw[List.length_map];omega
      ·show (o'.post.flatMap (xXu m.sizes (xJ6 0 m.sizes))).length<=_;omega)
     go_wp2_with fail
     refine bodyPost_ret (v:=.tuple #[.agg #[.int .i64 m.sizes.sum,.slice AI (xX5 (xJ6 0 m.sizes) m.init).length cI,.slice AG (xJb (xJ6 0 m.sizes) m.goal).length cG,.slice A7 k c7],.agg #[.int .i64 0,.int .i64 0]]) ?_ rfl ⟨AI,AG,A7,cI,cG,c7,by rw[<- HKL.out];rfl,⟨((((((hIo.far (p:=⟨w.heap.size+1,0,none⟩) hi1 _).far (p:=⟨w.heap.size+1,1,none⟩) hi1 _).far (p:=⟨w.heap.size+1,2,none⟩) hi1 _).far (p:=⟨w.heap.size+1,3,none⟩) hi1 _).far (p:=⟨w.heap.size+1+1,0,none⟩) hi2 _).far (p:=⟨w.heap.size+1+1,1,none⟩) hi2 _),((((((hGo.far (p:=⟨w.heap.size+1,0,none⟩) hg1 _).far (p:=⟨w.heap.size+1,1,none⟩) hg1 _).far (p:=⟨w.heap.size+1,2,none⟩) hg1 _).far (p:=⟨w.heap.size+1,3,none⟩) hg1 _).far (p:=⟨w.heap.size+1+1,0,none⟩) hg2 _).far (p:=⟨w.heap.size+1+1,1,none⟩) hg2 _),((((((hownO.far (p:=⟨w.heap.size+1,0,none⟩) hn1 _).far (p:=⟨w.heap.size+1,1,none⟩) hn1 _).far (p:=⟨w.heap.size+1,2,none⟩) hn1 _).far (p:=⟨w.heap.size+1,3,none⟩) hn1 _).far (p:=⟨w.heap.size+1+1,0,none⟩) hn2 _).far (p:=⟨w.heap.size+1+1,1,none⟩) hn2 _).at_ HOL.out,HLN.out.1,HLN.out.2.1,HLN.out.2.2⟩,bch⟩;simp[results,Tryz.results35,go_sem,Fo,yow2,yow1,yow0,yowp1,yow30,yow3p1]
end Go.Proofs.YtpeipeljmapkmaaGreat
