/-
  Lemmas.
-/
import Derived.Test.YtjjjeohejhmpoaaGreatX31
import Derived.Test.YtjjjeohejhmpoaaGreatX8
set_option linter.unusedVariables false
set_option linter.unusedSimpArgs false
set_option maxRecDepth 100000
set_option maxHeartbeats 4000000
namespace Go.Proofs.YtjjjeohejhmpoaaGreat
open Go.RowKit Go.Proofs.Tryz
theorem vQz{base n c:Nat}{w:World}{A:Option Addr}{rows:List (List Int)}(h:OwnLL base w (.slice A n c) rows):LLR w A rows:=fun i r hr=>by
 obtain⟨g,cs,a,rfl,_,_,ha,hcl,hc,A0,c0,e,hI,_⟩:=OwnEs.at_ h (i:=i) (zQ1.1 hr).1;have hra:a=r:=by have:=ha.out;rw[hr] at this;injection this with this;exact this.symm
 subst hra;subst e;have hadd:(⟨g,0,none⟩:Addr).add i=⟨g,i*1,none⟩:=by
  rw[Nat.mul_one];unfold Addr.add
  split
  ·rename_i hj;rw[hj]
  ·simp
 exact⟨_,A0,c0,rfl,by rw[hadd];exact hc 0 _ rfl,hI⟩
theorem vKu{l:List Int}{k:Nat}{x:Int}(h:l[k]? = some x):∃hk:k<l.length,l[k]=x:=zQ1.1 h
def xZc(xs:List (List Int×Int))(k:Nat):List Int:=(xs.take k).flatMap (·.1)
theorem vJ5(xs:List (List Int×Int)):xZc xs 0=[]:=by simp[xZc]
theorem zX5{xs:List (List Int×Int)}{k:Nat}{x:List Int×Int}(h:xs[k]? = some x):xZc xs (k+1)=xZc xs k++x.1:=by
 unfold xZc;rw[vXd,h,List.flatMap_append];simp
theorem vV0{xs:List (List Int×Int)}{m:Nat}(h:∀c∈xs,c.1.length<=m)(k:Nat):(xZc xs k).length<=k*m:=by
 induction k with
 |zero=>simp[xZc]
 |succ k ih=>
  rcases vVq k xs.length with hk|hk
  ·have e:=lGe hk;rw[zX5 e,List.length_append,Nat.succ_mul];have:=h _ (List.getElem_mem hk);omega
  ·have e:xZc xs (k+1)=xZc xs k:=by unfold xZc;rw[zQd (by omega),zQd hk]
   rw[e,Nat.succ_mul];omega
theorem vV1{xs:List (List Int×Int)}{x:Int}:x∈xZc xs xs.length↔∃c∈xs,x∈c.1:=by
 unfold xZc;rw[yQ7,List.mem_flatMap]
def xJo(xs:List (List Int×Int)):List Int:=Lib.compact (xWt (xZc xs xs.length))
theorem xQt{xs:List (List Int×Int)}{x:Int}:x∈xJo xs↔∃c∈xs,x∈c.1:=by
 unfold xJo;rw[(xWu (zY2 _)).2,zWi,vV1]
theorem xKh(xs:List (List Int×Int)):(xJo xs).Pairwise (· < ·):=(xWu (zY2 _)).1
theorem vKv(xs:List (List Int×Int)):(xJo xs).length<=(xZc xs xs.length).length:=by
 have h:=zZ3 (xWt (xZc xs xs.length));rw[xKz] at h;exact h
def ixV(U:List Int)(x:Int):Nat:=U.idxOf x
theorem vKw{U:List Int}{x:Int}(h:x∈U):U[ixV U x]? = some x:=by
 have h1:=List.idxOf_lt_length_of_mem h;unfold ixV;rw[lGe h1,List.getElem_idxOf h1]
theorem vV2{U:List Int}(hs:U.Pairwise (· < ·)){i j:Nat}{x:Int}(hi:U[i]? = some x)(hj:U[j]? = some x):i=j:=by
 obtain⟨a1,rfl⟩:=vKu hi;obtain⟨a2,b2⟩:=vKu hj;rcases Nat.lt_trichotomy i j with h|h|h
 ·have:=List.pairwise_iff_getElem.1 hs i j a1 a2 h;omega
 ·exact h
 ·have:=List.pairwise_iff_getElem.1 hs j i a2 a1 h;omega
theorem uJ9{U:List Int}{x:Int}{k:Nat}(hs:U.Pairwise (· < ·))(hx:x∈U)(h1:∀j:Nat,∀y:Int,j<k->U[j]? = some y->y<x)(h2:∀j:Nat,∀y:Int,k<=j->U[j]? = some y->x<=y):k=ixV U x:=by
 have h3:=vKw hx;have h4:k<=ixV U x:=by
  rcases vVq (ixV U x) k with h|h
  ·have:=h1 _ _ h h3;omega
  ·exact h
 rcases vVq k (ixV U x) with h|h
 ·obtain⟨a1,b1⟩:=vKu h3;have h5:=h2 k _ (Nat.le_refl _) (lGe (by omega));have h6:=List.pairwise_iff_getElem.1 hs k (ixV U x) (by omega) a1 h;omega
 ·omega
def vXo(U C:List Int):List Int:=C.map fun x=>((ixV U x:Nat):Int)
theorem vXp(U C:List Int):(vXo U C).length=C.length:=by unfold vXo;rw[zQl]
theorem vKx{U C:List Int}{k:Nat}{x:Int}(h:C[k]? = some x):vXo U (C.take (k+1))=vXo U (C.take k) ++ [((ixV U x:Nat):Int)]:=by
 unfold vXo;rw[vXd,h,vQu];rfl
theorem vXq{U C:List Int}(hs:U.Pairwise (· < ·))(hC:∀x∈C,x∈U){e:Nat}:(e:Int)∈vXo U C↔∃x∈C,U[e]? = some x:=by
 unfold vXo;rw[vWz];constructor
 ·rintro⟨x,hx,he⟩;have:ixV U x=e:=by omega
  exact⟨x,hx,by rw[<- this];exact vKw (hC x hx)⟩
 ·rintro⟨x,hx,he⟩;exact⟨x,hx,by rw[vV2 hs (vKw (hC x hx)) he]⟩
def xKi(U:List Int)(xs:List (List Int×Int)):List (List Int):=xs.map fun c=>vXo U c.1
theorem vV3{U:List Int}{xs:List (List Int×Int)}{k:Nat}{x:List Int×Int}(h:xs[k]? = some x):xKi U (xs.take (k+1))=xKi U (xs.take k) ++ [vXo U x.1]:=by
 unfold xKi;rw[vXd,h,vQu];rfl
theorem zYq(U:List Int)(xs:List (List Int×Int)):(xKi U xs).length=xs.length:=by unfold xKi;rw[zQl]
def xXm(ops:List OpV)(U:List Int):List Int:=U.map (xJ2 (ops.map (·.cost)))
theorem xQ8(ops:List OpV)(U:List Int):(xXm ops U).length=U.length:=by unfold xXm;rw[zQl]
theorem vJ6{ops:List OpV}{U:List Int}{k:Nat}{x:Int}(h:U[k]? = some x):xXm ops (U.take (k+1))=xXm ops (U.take k) ++ [xJ2 (ops.map (·.cost)) x]:=by
 unfold xXm;rw[vXd,h,vQu];rfl
theorem vKy{ops:List OpV}{x:Int}{o:OpV}(h:ops[x.toNat]? = some o):xJ2 (ops.map (·.cost)) x=o.cost:=xJl (by rw[vQ4,h];rfl)
theorem zYr{t:TaskV}{U:List Int}(hv:Valid t)(hU:∀x∈U,0<=x/\x<(t.ops.length:Int)):vJe (xXm t.ops U):=fun c hc=>by
 unfold xXm at hc;obtain⟨x,hx,rfl⟩:=vWz.1 hc;have h1:=hU x hx;have e:=lGe (show x.toNat<t.ops.length by omega);rw[vKy e];have:=(hv.ops _ (lMg e)).2;omega
structure CutsIn(t:TaskV)(xs:List (List Int×Int)):Prop where
 set:∀c∈xs,SetP c.1 (t.ops.length:Int)
 ne:∀c∈xs,c.1≠[]
 len:∀c∈xs,c.1.length<=40
 num:xs.length<=4000
 tot:0<=xJm xs/\xJm xs<=4000
theorem zQr{n:Nat}{t:TaskV}{st:List Int}{xs:List (List Int×Int)}(hv:Valid t)(h:CutsOk n st t.goal t.ops (t.ops.map (·.cost)) xs):CutsIn t xs:=by
 have hs:∀c∈xs,SetP c.1 (t.ops.length:Int):=fun c hc=>by
  obtain⟨k,hk⟩:=List.getElem?_of_mem hc;exact(h k c hk).set
 have h40:=hv.nops;have h1:=h.total (by rw[zQl]) xs.length (Nat.le_refl _);rw[yQ7] at h1;have h2:=vJ0 (V:=t.ops.map (·.cost)) (fun c hc=>by obtain⟨o,ho,rfl⟩:=vWz.1 hc;exact(hv.ops o ho).2);rw[zQl] at h2;refine⟨hs,fun c hc=>?_,fun c hc=>?_,?_,?_⟩
 ·obtain⟨k,hk⟩:=List.getElem?_of_mem hc;exact(h k c hk).ne
 ·have:=(hs c hc).length (by omega);omega
 ·omega
 ·omega
theorem zYo(w:World)(t:TaskV)(Ai Ag Ao:Option Addr)(ci cg co:Nat)(hT:TaskMem w Ai Ag Ao t)(S:Option Addr)(cs:Nat)(st:List Int)(hS:Ints w S st)(hls:lenOk st.length)(n:Nat)(hn:t.facts=n)(hv:Valid t)(h2:SetP st t.facts)(hre:xKv t st) :
  Calls prog 13 #[.agg #[.int .i64 t.facts,.slice Ai t.init.length ci,.slice Ag t.goal.length cg,.slice Ao t.ops.length co],.slice S st.length cs] w fun e w'=>∃xs,CutsOk n st t.goal t.ops (t.ops.map (·.cost)) xs/\Best false n st t.ops (xJi (t.ops.map (·.cost)) xs) (xJ8 false n st t.ops (xJi (t.ops.map (·.cost)) xs))/\xJf false (xJ8 false n st t.ops (xJi (t.ops.map (·.cost)) xs)) t.goal=0/\(((16<xs.length\/16<(xJo xs).length)/\e=.returned (.tuple #[.int .i64 0,.agg #[.int .i64 10,.int .i64 (-8)]]))\/(¬(16<xs.length\/16<(xJo xs).length)/\∃(c:Int) (v:Nat),e=.returned (.tuple #[.int .i64 c,.agg #[.int .i64 0,.int .i64 0]])/\Cho (xXb (xXm t.ops (xJo xs))) (zJe (xKi (xJo xs) xs) (2^(xXm t.ops (xJo xs)).length)) c v))/\Below w.heap.size w w':=by
 have HN:=lHd hn;have HV:=lHd hv;have H2:=lHd h2;have HRE:=lHd hre;clear hv h2 hn hre;go_enter func13,ntmps13
 go_wp2_with fail
 refine(zY1 _ t Ai Ag Ao ci cg co (hT.below bch) S cs st (hS.below bch) hls n HN.out HV.out H2.out HRE.out).mono ?_;rintro e w1 ⟨v1,xs,bs,rfl,hbs,hcs,hok,hbest,hz,hB1⟩;have D1:=xJ3 w hB1 bch;have C1:=Cls.below (l:=[(w.heap.size,0,.int .i64 t.facts),(w.heap.size,1,.slice Ai t.init.length ci),(w.heap.size,2,.slice Ag t.goal.length cg),(w.heap.size,3,.slice Ao t.ops.length co),(w.heap.size+1,0,.int .i64 0),(w.heap.size+1,1,.int .i64 0)]) hB1 (by simp[Cls,go_sem]);have F1:=C1.f;have y1w1:=C1.blk (b:=w.heap.size+1) (k:=0) (v:=.int .i64 0) (by simp);have Hok:=lHd hok;have Hbest:=lHd hbest;have Hz:=lHd hz;obtain⟨i1,i2,i3,i4,i5⟩:=zQr HV.out hok;have I3:=lHd i3;have htot:(xJm xs==1000000000)=false:=by simp;omega
 have hU:∀x∈xJo xs,0<=x/\x<(t.ops.length:Int):=fun x hx=>by
  obtain⟨c,hc,hx2⟩:=xQt.1 hx;exact(i1 c hc).1 x hx2
 have HU:=lHd hU;have hAL:=vV0 i3;have HAL:=lHd hAL;have hUl:(xJo xs).length<=160000:=by have h1:=vKv xs;have h2:=hAL xs.length;omega
 obtain⟨A3,c3,rfl⟩:=OwnEs.form hcs;have Dw1:=D1;clear hok hbest hz i1 i2 i3 hU hAL
 go_wp2_with fail
 go_loopw [9,41] (fun sv x wr=>∃(k:Nat) (vj:Value),k<=xs.length/\x=.int .i64 k/\vj=sv/\OwnI (w1.heap.size+1) wr vj (xZc xs k)/\Below w1.heap.size w1 wr) (fun _ x _=>xs.length-(intOf x).toNat)
 case atStart=>exact⟨0,_,zKk _,rfl,rfl,(by rw[vJ5];exact OwnI.nil _ _),bch⟩
 case round=>
  obtain⟨k,vj,hk,rfl,rfl,hown,hBr⟩:=hrel;obtain⟨w2,rfl⟩:∃wo:World,wo=wr:=⟨_,rfl⟩;have d2s:=hBr.size;have C2:=C1.below hBr;have F2:=C2.f;have y2w1:=C2.blk (b:=w.heap.size+1) (k:=0) (v:=.int .i64 0) (by simp);have y2w0:w.heap.size<w2.heap.size:=(by omega);have y2wp1:w.heap.size<w2.heap.size+1:=(by omega);have y2wp2:w.heap.size<w2.heap.size+1+1:=(by omega)
  by_cases hlt:k<xs.length
  ·obtain⟨g,cs',x,e3,hgb,hgl,hx,hcl,hcell,hpc⟩:=OwnEs.at_ (OwnCs.below hcs hBr) (i:=k) hlt;subst e3;obtain⟨A',c',rfl,hJ,hJn⟩:=hpc.form;have hcr0:w2.cell? ⟨g,k*2,none⟩=some (.slice A' x.1.length c'):=by have:=hcell 0 _ rfl;simpa using this
   have hcr1:=hcell 1 _ rfl;have HNX:=lHd (zX5 hx.out);have hl1:(xZc xs k).length+x.1.length<=1000000000000:=by
    have h1:=HAL.out k;have h2:=I3.out x (lMg hx.out);have:k*40<=4000*40:=Nat.mul_le_mul_right _ (by omega);omega
   have HJN:=lHd (fun e:A'=none=>(hJn e).2);clear hcell hcl hJn
   go_wp2_with (at_builtin;go_must (refine zZx rfl (.tmp 45) (.tmp 47) rfl w1 [] (w1.heap.size+1) vj _ rfl (hown.below ?p0) A' c' _ x.1 rfl rfl HJN.out ?p1 hl1 ?p3 ?p4 ?p5 trivial ?p6 ?_;(case p0=>exact bch);(case p1=>exact hJ.below bch);(case p3=>(simp<;>omega));(case p4=>omega);(case p5=>exact bch);(case p6=>simp);intro v3 w3 o3 D3 C3 sz3))
   go_roundw
   case rel=>exact⟨k+1,v3,by omega,by go_num,rfl,by rw[HNX.out];exact o3,D3⟩
   case measure=>simp[intOf];omega
  ·obtain rfl:k=xs.length:=by omega
   have hl4:(xZc xs xs.length).length<=1000000000000:=by have h1:=HAL.out xs.length;omega
   go_wp2_with fail
   refine(vQ1 zWk (w0:=w1) (base:=w1.heap.size+1) (hown.below bch) (by omega) bch hl4).mono ?_;rintro e w4 ⟨rfl,o4,D4⟩;have hl5:(xWt (xZc xs xs.length)).length<=1000000000000:=by rw[xKz];exact hl4
   go_wp2_with fail
   refine(zZ4 zJd (w0:=w1) (base:=w1.heap.size+1) (o4.below bch) (by omega) bch hl5).mono ?_;rintro e w5 ⟨v5,rfl,o5,D5⟩;have o5:OwnI (w1.heap.size+1) w5 v5 (xJo xs):=o5;obtain⟨A5,c5,rfl,-,hI5⟩:=o5.form;have C5:=C1.below D5;have F5:=C5.f;have y5w1:=C5.blk (b:=w.heap.size+1) (k:=0) (v:=.int .i64 0) (by simp);have DW:=Dw1.trans (D5.mono Dw1.size)
   by_cases h16:16<xs.length
   ·have hd1:decide ((xs.length:Int)>16)=true:=zWo (by omega)
    go_wp2_with fail
    refine bodyPost_ret (v:=.tuple #[.int .i64 0,.agg #[.int .i64 10,.int .i64 (-8)]]) ?_ rfl ⟨xs,Hok.out,Hbest.out,Hz.out,.inl ⟨by omega,rfl⟩,bch⟩;simp[results,results13,go_sem,F5]
   ·have hd1:decide ((xs.length:Int)>16)=false:=zVa (by omega)
    by_cases hu16:16<(xJo xs).length
    ·have hd2:decide (((xJo xs).length:Int)>16)=true:=zWo (by omega)
     go_wp2_with fail
     refine bodyPost_ret (v:=.tuple #[.int .i64 0,.agg #[.int .i64 10,.int .i64 (-8)]]) ?_ rfl ⟨xs,Hok.out,Hbest.out,Hz.out,.inl ⟨by omega,rfl⟩,bch⟩;simp[results,results13,go_sem,F5]
    ·have hd2:decide (((xJo xs).length:Int)>16)=false:=zVa (by omega);have HS5:=lHd (xKh xs)
     go_wp2_with fail
     go_loopw [10,65] (fun sv x wr=>∃(k:Nat) (vj:Value),k<=(xJo xs).length/\x=.int .i64 k/\vj=sv/\OwnI w5.heap.size wr vj (xXm t.ops ((xJo xs).take k))/\Below w5.heap.size w5 wr/\Cls wr [(w.heap.size,0,.int .i64 t.facts),(w.heap.size,1,.slice Ai t.init.length ci),(w.heap.size,2,.slice Ag t.goal.length cg),(w.heap.size,3,.slice Ao t.ops.length co),(w.heap.size+1,0,.int .i64 0),(w.heap.size+1,1,.int .i64 0)]) (fun _ x _=>(xJo xs).length-(intOf x).toNat)
     case atStart=>exact⟨0,_,zKk _,rfl,rfl,OwnI.nil _ _,bch,(by simp[Cls,go_sem,F5])⟩
     case round=>
      obtain⟨k,vj,hk,rfl,rfl,hown6,hBs,hCs⟩:=hrel;obtain⟨w6,rfl⟩:∃wo:World,wo=wr:=⟨_,rfl⟩;have dss:=hBs.size;have Fs:=hCs.f;have ysw1:=hCs.blk (b:=w.heap.size+1) (k:=0) (v:=.int .i64 0) (by simp);have DS:=DW.trans (hBs.mono DW.size)
      by_cases hlt:k<(xJo xs).length
      ·obtain⟨ad,x,rfl,hx,hxc⟩:=(hI5.below hBs).at_ hlt;have hxr:=HU.out x (lMg hx.out);obtain⟨j,rfl⟩:∃j:Nat,x=(j:Int):=⟨x.toNat,by omega⟩;have hj:j<t.ops.length:=by omega
       obtain⟨ad',o,A6,c6,A7,c7,A8,c8,rfl,ho,hc0,hc1,hc2,hc3,hm⟩:=hT.ops.at2 DS hj;have hlen:(xXm t.ops ((xJo xs).take k)).length<1000000000000:=by rw[xQ8,List.length_take];omega
       have HNX:=lHd (show xXm t.ops ((xJo xs).take (k+1))=xXm t.ops ((xJo xs).take k) ++ [o.cost] by rw[vJ6 hx.out,vKy (x:=(j:Int)) (o:=o) ho.out])
       go_wp2_with (at_builtin;go_must (refine xXr rfl (.tmp 69) (.tmp 76) rfl w5 [(w.heap.size,0,.int .i64 t.facts),(w.heap.size,1,.slice Ai t.init.length ci),(w.heap.size,2,.slice Ag t.goal.length cg),(w.heap.size,3,.slice (some ad') t.ops.length co),(w.heap.size+1,0,.int .i64 0),(w.heap.size+1,1,.int .i64 0)] (w5.heap.size) vj _ (o.cost) rfl (OwnI.below hown6 ?p1) ⟨w6.heap.size,0,none⟩ 1 rfl ?p2 hlen ?p3 ?p4 ?p5 ?p6 ?p7 ?_;(case p1=>exact bch);(case p2=>(first|simp[go_sem]|exact xQe _ _ _ _ rfl));(case p3=>(first|omega|(simp<;>omega)));(case p4=>(first|omega|(simp<;>omega)));(case p5=>exact bch);(case p6=>exact Cls.below (w:=w6) bch hCs);(case p7=>(simp<;>omega));intro v2 w2 o2 D2 C2 sz2;have d2s:=D2.size;have F2:=C2;simp only[Cls,and_true] at F2;have y2w1:w.heap.size+1<w2.heap.size:=C2.blk (b:=w.heap.size+1) (k:=0) (v:=.int .i64 0) (by simp);have y2w0:w.heap.size<w2.heap.size:=(by omega);have y2wp1:w.heap.size<w2.heap.size+1:=(by omega);have y2wp2:w.heap.size<w2.heap.size+1+1:=(by omega)))
       go_roundw
       case rel=>exact⟨k+1,v2,by omega,by go_num,rfl,by rw[HNX.out];exact o2,bch,(by simp[Cls,go_sem,F2])⟩
       case measure=>simp[intOf];omega
      ·obtain rfl:k=(xJo xs).length:=by omega
       rw[yQ7] at hown6;obtain⟨A6,c6,rfl,-,hI6⟩:=hown6.form
       go_wp2_with fail
       go_loopw [15,81] (fun sv x wr=>∃(k:Nat) (vj:Value),k<=xs.length/\x=.int .i64 k/\vj=sv/\OwnLL w6.heap.size wr vj (xKi (xJo xs) (xs.take k))/\Below w6.heap.size w6 wr/\Cls wr [(w.heap.size,0,.int .i64 t.facts),(w.heap.size,1,.slice Ai t.init.length ci),(w.heap.size,2,.slice Ag t.goal.length cg),(w.heap.size,3,.slice Ao t.ops.length co),(w.heap.size+1,0,.int .i64 0),(w.heap.size+1,1,.int .i64 0)]) (fun _ x _=>xs.length-(intOf x).toNat)
       case atStart=>exact⟨0,_,zKk _,rfl,rfl,OwnEs.nil _ _,bch,(by simp[Cls,go_sem,Fs])⟩
       case round=>
        obtain⟨k,vj,hk,rfl,rfl,hown7,hBu,hCu⟩:=hrel;obtain⟨w7,rfl⟩:∃wo:World,wo=wr:=⟨_,rfl⟩;have dus:=hBu.size;have Fu:=hCu.f;have yuw1:=hCu.blk (b:=w.heap.size+1) (k:=0) (v:=.int .i64 0) (by simp);have yuw0:w.heap.size<w7.heap.size:=(by omega);have DU5:=hBs.trans (hBu.mono hBs.size);have DU1:=D5.trans (DU5.mono D5.size);have DU:=DW.trans (DU5.mono DW.size)
        by_cases hlt:k<xs.length
        ·obtain⟨g,cs',x,e3,hgb,hgl,hx,hcl,hcell,hpc⟩:=OwnEs.at_ (OwnCs.below hcs DU1) (i:=k) hlt;subst e3;obtain⟨A',c',rfl,hJ,hJn⟩:=hpc.form;have hcr0:w7.cell? ⟨g,k*2,none⟩=some (.slice A' x.1.length c'):=by have:=hcell 0 _ rfl;simpa using this
         have hcr1:=hcell 1 _ rfl;have HX:=lHd hx.out;have hxm:=lMg hx.out;have hx40:=I3.out x hxm;have HXU:=lHd (show ∀y∈x.1,y∈xJo xs from fun y hy=>xQt.2 ⟨x,hxm,hy⟩);obtain⟨C,cm⟩:=x;have hcr0:w7.cell? ⟨g,k*2,none⟩=some (.slice A' C.length c'):=hcr0;have hcr1:w7.cell? ⟨g,k*2+1,none⟩=some (.int .i64 cm):=hcr1;have hJ:Ints w7 A' C:=hJ;have hx40:C.length<=40:=hx40;have HXU:Hid (∀y∈C,y∈xJo xs):=HXU;clear hcell hcl hJn hx hxm
         go_wp2_with fail
         go_loopw [18,88] (fun sv x wr=>∃(j:Nat) (vs:Value),j<=C.length/\x=.int .i64 j/\vs=sv/\OwnI (w7.heap.size+1) wr vs (vXo (xJo xs) (C.take j))/\Below w7.heap.size w7 wr/\Cls wr [(w.heap.size,0,.int .i64 t.facts),(w.heap.size,1,.slice Ai t.init.length ci),(w.heap.size,2,.slice Ag t.goal.length cg),(w.heap.size,3,.slice Ao t.ops.length co),(w.heap.size+1,0,.int .i64 0),(w.heap.size+1,1,.int .i64 0)]) (fun _ x _=>C.length-(intOf x).toNat)
         case atStart=>exact⟨0,_,zKk _,rfl,rfl,OwnI.nil _ _,bch,(by simp[Cls,go_sem,Fu,yuw1,yuw0])⟩
         case round=>
          obtain⟨j,vs,hj,rfl,rfl,hown8,hBv,hCv⟩:=hrel;obtain⟨w8,rfl⟩:∃wo:World,wo=wr:=⟨_,rfl⟩;have Fv:=hCv.f;have yvw1:=hCv.blk (b:=w.heap.size+1) (k:=0) (v:=.int .i64 0) (by simp);have yvw0:w.heap.size<w8.heap.size:=(by omega)
          by_cases hlt2:j<C.length
          ·obtain⟨ad8,y,rfl,hy,hyc⟩:=(hJ.below hBv).at_ hlt2;have HYU:=lHd (HXU.out y (lMg hy.out));have HNX:=lHd (vKx (U:=xJo xs) hy.out);have hlen:(vXo (xJo xs) (C.take j)).length<1000000000000:=by rw[vXp,List.length_take];omega
           go_wp2_with fail
           refine(vJr _ _ (xJo xs) y _ ((hI5.below DU5).below bch) (by omega) HS5.out).mono ?_;rintro e w9 ⟨kk,rfl,hk1,hk2,hk3,hB9⟩;obtain rfl:=uJ9 HS5.out HYU.out hk2 hk3;have D9:=xJ3 w7 hB9 bch;have d9s:=D9.size;have Ew8_9:=xJ3 w8 hB9 bch;have C9:=Cls.below (l:=[(w.heap.size,0,.int .i64 t.facts),(w.heap.size,1,.slice Ai t.init.length ci),(w.heap.size,2,.slice Ag t.goal.length cg),(w.heap.size,3,.slice Ao t.ops.length co),(w.heap.size+1,0,.int .i64 0),(w.heap.size+1,1,.int .i64 0)]) hB9 (by simp[Cls,go_sem,Fv]);have y9w1:=C9.blk (b:=w.heap.size+1) (k:=0) (v:=.int .i64 0) (by simp);have hown9:=hown8.below bch
           go_wp2_with (at_builtin;go_must (refine xXr rfl (.tmp 98) (.tmp 100) rfl w7 [(w.heap.size,0,.int .i64 t.facts),(w.heap.size,1,.slice Ai t.init.length ci),(w.heap.size,2,.slice Ag t.goal.length cg),(w.heap.size,3,.slice Ao t.ops.length co),(w.heap.size+1,0,.int .i64 0),(w.heap.size+1,1,.int .i64 0)] (w7.heap.size+1) vs _ (((ixV (xJo xs) y:Nat):Int)) rfl (OwnI.below hown9 ?p1) ⟨w9.heap.size,0,none⟩ 1 rfl ?p2 hlen ?p3 ?p4 ?p5 ?p6 ?p7 ?_;(case p1=>exact bch);(case p2=>(first|simp[go_sem]|exact xQe _ _ _ _ rfl));(case p3=>(first|omega|(simp<;>omega)));(case p4=>(first|omega|(simp<;>omega)));(case p5=>exact bch);(case p6=>exact Cls.below (w:=w9) bch C9);(case p7=>(simp<;>omega));intro v10 w10 o10 D10 C10 sz10;have d10s:=D10.size;have F10:=C10;simp only[Cls,and_true] at F10;have y10w1:w.heap.size+1<w10.heap.size:=C10.blk (b:=w.heap.size+1) (k:=0) (v:=.int .i64 0) (by simp);have y10w0:w.heap.size<w10.heap.size:=(by omega);have y10wp1:w.heap.size<w10.heap.size+1:=(by omega);have y10wp2:w.heap.size<w10.heap.size+1+1:=(by omega)))
           go_roundw
           case rel=>exact⟨j+1,v10,by omega,by go_num,rfl,by rw[HNX.out];exact o10,bch,(by simp[Cls,go_sem,F10])⟩
           case measure=>simp[intOf];omega
          ·obtain rfl:j=C.length:=by omega
           rw[yQ7] at hown8;obtain⟨A9,c9,rfl,-,-⟩:=hown8.form;have hown7':=hown7.below hBv;have hrow:∀b,vj.ownBlock=some b->b<w7.heap.size+1:=fun b hb=>by
            have h1:=(OwnEs.lt hown7 b hb).2;omega
           have HY:=lHd (zJj (B:=w6.heap.size) (row:=vj.ownBlock) hown8 (by omega) hrow);have hlen:(xKi (xJo xs) (xs.take k)).length<1000000000000:=by rw[zYq,List.length_take];omega
           have HT1:=lHd (vV3 (U:=xJo xs) HX.out);have hB68:=hBu.trans (hBv.mono hBu.size);have hs68:=hB68.size
           go_wp2_with (at_builtin;go_must (refine xVv (xXc _) 42 24 (.slice none 0 0) underlying42 xZy rfl (by decide) (by decide) rfl (.tmp 103) (.tmp 105) rfl w6 [(w.heap.size,0,.int .i64 t.facts),(w.heap.size,1,.slice Ai t.init.length ci),(w.heap.size,2,.slice Ag t.goal.length cg),(w.heap.size,3,.slice Ao t.ops.length co),(w.heap.size+1,0,.int .i64 0),(w.heap.size+1,1,.int .i64 0)] rfl (OwnLL.below hown7' ?p1) ⟨w8.heap.size,0,none⟩ 1 rfl [.slice A9 (vXo (xJo xs) C).length c9] (vXo (xJo xs) C) rfl (xJa ?p2) ?p8 ((xXc _).below HY.out ?p9) hlen ?p3 (Nat.le_refl _) ?p5 ?p6 ?p7 ?_;(case p1=>exact bch);(case p2=>simp[go_sem]);(case p3=>(simp<;>omega));(case p5=>exact bch);(case p6=>simp[Cls,go_sem,Fv,yvw1,yvw0]);(case p7=>(simp<;>omega));(case p8=>intro u hu;simp at hu;subst hu;rfl);(case p9=>exact bch);intro v10 w10 o10 D10 C10 sz10 G10 at10;clear G10 at10;have d10s:=D10.size))
           go_roundw
           case rel=>exact⟨k+1,v10,by omega,by go_num,rfl,by rw[HT1.out];exact o10,D10,C10⟩
           case measure=>simp[intOf];omega
        ·obtain rfl:k=xs.length:=by omega
         rw[yQ7] at hown7;obtain⟨A9,c9,rfl⟩:=OwnEs.form hown7;have HCI:=lHd (zYr HV.out HU.out);have hfd:∀(w:World) (c v:Int),(Instr.field 99 (.agg #[.int .i64 c,.int .i64 v]) 0).run prog w=.ok (.int .i64 c) w:=fun _ _ _=>by kernel_rfl
         have HSL:=lHd (show ∀s∈xKi (xJo xs) xs,s.length<=9223372036854775807 from fun s hs=>by
          unfold xKi at hs;obtain⟨c,hc,rfl⟩:=vWz.1 hs;rw[vXp];have:=I3.out c hc;omega)
         have DU5:=hBs.trans (hBu.mono hBs.size);have DU:=DW.trans (DU5.mono DW.size)
         go_wp2_with fail
         refine(vK9 _ A9 c9 _ (vQz hown7) A6 c6 _ (hI6.below hBu) (by rw[zYq];omega) (by rw[xQ8];omega) HCI.out HSL.out).mono ?_;rintro e w11 ⟨c,v,rfl,hch,hB11⟩;have D11:=xJ3 w hB11 bch;have C11:=Cls.below (l:=[(w.heap.size,0,.int .i64 t.facts),(w.heap.size,1,.slice Ai t.init.length ci),(w.heap.size,2,.slice Ag t.goal.length cg),(w.heap.size,3,.slice Ao t.ops.length co),(w.heap.size+1,0,.int .i64 0),(w.heap.size+1,1,.int .i64 0)]) hB11 (by simp[Cls,go_sem,Fu]);have F11:=C11.f;have y11w1:=C11.blk (b:=w.heap.size+1) (k:=0) (v:=.int .i64 0) (by simp);have HCH:=lHd hch;clear hch
         go_wp2_with fail
         refine bodyPost_ret (v:=.tuple #[.int .i64 c,.agg #[.int .i64 0,.int .i64 0]]) ?_ rfl ⟨xs,Hok.out,Hbest.out,Hz.out,.inr ⟨by omega,c,v,rfl,HCH.out⟩,bch⟩;simp[results,results13,go_sem,F11]
theorem xW5{α:Type}(p:α->Bool)(f:α->Int):∀l:List α,((l.filter p).map f).sum=(l.map fun e=>if p e=true then f e else 0).sum
 | []=>rfl
 |x::l=>by
  by_cases h:p x=true
  ·rw[List.filter_cons_of_pos h];simp[h,xW5 p f l]
  ·rw[List.filter_cons_of_neg h];simp[h,xW5 p f l]
def uJ2(U:List Int)(v:Nat):List Nat:=((List.range U.length).filter fun e=>v.testBit e).map fun e:Nat=>((U[e]?).getD 0).toNat
theorem zQi{U:List Int}{v p:Nat}(hU:∀x∈U,0<=x):p∈uJ2 U v↔∃e:Nat,U[e]? = some (p:Int)/\v.testBit e=true:=by
 unfold uJ2;rw[vWz];constructor
 ·rintro⟨e,he,rfl⟩;rw[List.mem_filter,yYq] at he;have h1:=lGe he.1;have h2:=hU _ (List.getElem_mem he.1);refine⟨e,?_,he.2⟩;rw[h1,Option.getD_some,yZx h2]
 ·rintro⟨e,h1,h2⟩;refine⟨e,?_,by rw[h1];rfl⟩;rw[List.mem_filter,yYq];exact⟨(zQ1.1 h1).1,h2⟩
theorem vQk{U:List Int}(v:Nat)(hs:U.Pairwise (· < ·))(hU:∀x∈U,0<=x):(uJ2 U v).Nodup:=by
 unfold uJ2;refine List.pairwise_map.2 (List.Pairwise.imp_of_mem (fun {a b} ha hb hab=>?_) (List.Pairwise.filter _ List.pairwise_lt_range));rw[List.mem_filter,yYq] at ha hb;have h1:=List.pairwise_iff_getElem.1 hs a b ha.1 hb.1 hab;have h2:=hU _ (List.getElem_mem ha.1);have h3:=hU _ (List.getElem_mem hb.1);rw[lGe ha.1,lGe hb.1,Option.getD_some,Option.getD_some];omega
theorem zYg(ops:List OpV){U:List Int}(v:Nat)(hU:∀x∈U,0<=x):xXb (xXm ops U) v=xJ6 (ops.map (·.cost)) (uJ2 U v):=by
 unfold xXb xJ6 uJ2;rw[List.map_map,xW5,xQ8];congr 1;refine List.map_congr_left fun e he=>?_
 rw[yYq] at he;have h2:=hU _ (List.getElem_mem he)
 by_cases h:v.testBit e=true
 ·rw[if_pos h,if_pos h];unfold xXm;rw[vQ4,lGe he];simp only[Option.map_some,Option.getD_some,Function.comp];rw[lGe he,Option.getD_some,yZx h2]
 ·rw[if_neg h,if_neg h]
theorem vK7(P:Nat->Prop):∀n,∃v,v<2^n/\∀e,v.testBit e=true↔e<n/\P e
 |0=>⟨0,by omega,fun e=>by simp⟩
 |n+1=>by
  obtain⟨v,h1,h2⟩:=vK7 P n
  by_cases h:P n
  ·refine⟨v ||| 2^n,xWa h1,fun e=>?_⟩;rw[xZi,Bool.or_eq_true,h2 e,decide_eq_true_iff];constructor
   ·rintro(⟨h3,h4⟩|rfl)
    ·exact⟨by omega,h4⟩
    ·exact⟨by omega,h⟩
   ·rintro⟨h3,h4⟩
    by_cases h5:e<n
    ·exact .inl ⟨h5,h4⟩
    ·exact .inr (by omega)
  ·refine⟨v,Nat.lt_of_lt_of_le h1 (Nat.pow_le_pow_right (by decide) (by omega)),fun e=>?_⟩;rw[h2 e];constructor
   ·rintro⟨h3,h4⟩;exact⟨by omega,h4⟩
   ·rintro⟨h3,h4⟩;refine⟨?_,h4⟩;rcases vVq e n with h5|h5
    ·exact h5
    ·exact absurd h4 (by rw[show e=n by omega];exact h)
theorem zYh(cs:List Int){ps:List Nat}{p:Nat}(h:p∈ps):xJ6 cs ps=xJ2 cs (p:Int)+xJ6 cs (ps.erase p):=by
 have h1:=(List.perm_cons_erase h).map (fun(p:Nat)=>xJ2 cs (p:Int));unfold xJ6;have h2:∀ {l k:List Int},l.Perm k->l.sum=k.sum:=fun hp=>by
  induction hp with
  |nil=>rfl
  |cons x _ ih=>simp[ih]
  |swap x y l=>simp;omega
  |trans _ _ i1 i2=>omega
 rw[h2 h1];simp
theorem zZp{cs:List Int}(h0:∀c∈cs,0<=c):∀(l ps:List Nat),l.Nodup->(∀p∈l,p∈ps)->(∀p∈ps,p<cs.length)->xJ6 cs l<=xJ6 cs ps
 | [],ps,_,_,hp=>zQq h0 ps hp
 |p::l,ps,hn,hs,hp=>by
  have h1:=hs p (vVp ..);rw[List.nodup_cons] at hn;have h2:=zZp h0 l (ps.erase p) hn.2 (fun q hq=>by
   have hne:q≠p:=fun e=>hn.1 (e ▸ hq)
   exact(List.mem_erase_of_ne hne).2 (hs q (List.mem_cons_of_mem _ hq))) (fun q hq=>hp q (List.mem_of_mem_erase hq))
  rw[zYh cs h1];have h3:xJ6 cs (p::l)=xJ2 cs (p:Int)+xJ6 cs l:=by unfold xJ6;rw[List.map_cons,List.sum_cons]
  omega
section
variable {n:Nat}{t:TaskV}{st:List Int}{xs:List (List Int×Int)}
theorem yZk{goal:List Int}{ops:List OpV}{c0:List Int}(h:CutsOk n st goal ops c0 xs)(hl:c0.length=ops.length)(hv:∀c∈c0,0<=c/\c<=100){ps:List Nat}(hr:∀p∈ps,p<ops.length)(hh:∀x∈xs,∃p∈ps,(p:Int)∈x.1):xJm xs<=xJ6 c0 ps:=by
 have key:∀k,k<=xs.length->xJm (xs.take k)+xJ6 (xJi c0 (xs.take k)) ps<=xJ6 c0 ps:=by
  intro k
  induction k with
  |zero=>intro _;simp[xJm,xJi]
  |succ k ih=>
   intro hk;have hx:=lGe (show k<xs.length by omega);have hc:=h k _ hx;have h1:=ih (by omega);rw[xZh hx,xQl hx];have h2:=(xW7 (left:=xJi c0 (xs.take k)) (C:=xs[k].1) (c:=xs[k].2) (by rw[xXh,hl];exact hc.set) (by have:=hc.pos;omega) ps (fun p hpp=>by rw[xXh,hl];exact hr p hpp)).2 (hh _ (List.getElem_mem _));omega
 have h1:=key xs.length (Nat.le_refl _);rw[yQ7] at h1;have h2:=zQq (cs:=xJi c0 xs) (fun c hc=>by
  have:=h.left_in hl hv xs.length c (by rw[yQ7];exact hc);exact this.1) ps (fun p hpp=>by rw[xXh,hl];exact hr p hpp)
 omega
theorem xKb(hv:Valid t)(hok:CutsOk n st t.goal t.ops (t.ops.map (·.cost)) xs):∀x∈xJo xs,0<=x/\x<(t.ops.length:Int):=fun x hx=>by
 obtain⟨c,hc,h⟩:=xQt.1 hx;exact((zQr hv hok).set c hc).1 x h
theorem yZl(hv:Valid t)(hok:CutsOk n st t.goal t.ops (t.ops.map (·.cost)) xs):SetP (xJo xs) (t.ops.length:Int):=SetP.of_pairwise (xKb hv hok) (xKh xs)
theorem zJy(hv:Valid t):∀c∈t.ops.map (·.cost),0<=c/\c<=100:=fun c h=>by obtain⟨o,h1,rfl⟩:=vWz.1 h;exact(hv.ops o h1).2
theorem vK8(hv:Valid t)(hok:CutsOk n st t.goal t.ops (t.ops.map (·.cost)) xs){c:Int}{v:Nat}(h:Cho (xXb (xXm t.ops (xJo xs))) (zJe (xKi (xJo xs) xs) (2^(xXm t.ops (xJo xs)).length)) c v):xJm xs<=c:=by
 have hi:=zQr hv hok;have hU:=fun x hx=>(xKb hv hok x hx).1
 rcases h with h|⟨rfl,_,_⟩
 ·rw[h.eq,zYg _ _ hU];refine yZk hok (zQl _) (zJy hv) (fun p hp=>?_) (fun x hx=>?_)
  ·obtain⟨e,he,_⟩:=(zQi hU).1 hp;have:=(xKb hv hok _ (lMg he)).2;omega
  ·obtain⟨e,h1,h2⟩:=h.is.2 (vXo (xJo xs) x.1) (vWz.2 ⟨x,hx,rfl⟩);obtain⟨y,hy,hye⟩:=(vXq (xKh xs) (fun y hy=>xQt.2 ⟨x,hx,hy⟩)).1 h1;have h0:=hU y (lMg hye);refine⟨y.toNat,(zQi hU).2 ⟨e,by rw[yZx h0];exact hye,h2⟩,by rw[yZx h0];exact hy⟩
 ·have:=hi.tot;omega
theorem zZq(hv:Valid t)(hok:CutsOk n st t.goal t.ops (t.ops.map (·.cost)) xs)(h16:(xJo xs).length<=16){c:Int}{v:Nat}(h:Cho (xXb (xXm t.ops (xJo xs))) (zJe (xKi (xJo xs) xs) (2^(xXm t.ops (xJo xs)).length)) c v){d:Int}(hd:RBest n (t.ops.map rxO) t.goal st d):c<=d:=by
 have hU:=fun x hx=>(xKb hv hok x hx).1
 have hci:=zYr hv (xKb hv hok);rcases hd.1 with e|⟨l,h3,h4⟩
 ·have:=(yJc h (e:=(xXm t.ops (xJo xs)).length) (fun v hv=>hv.1) hci (by rw[xQ8];exact h16) (by rw[xQ8];exact h16)).2.1;omega
 ·obtain⟨ps,h5,h6⟩:=h3.pth;have hr:=fun p hq=>by have:=h5.rng p hq;rwa [zQl] at this
  obtain⟨u,hu1,hu2⟩:=vK7 (fun e=>∃p∈ps,(xJo xs)[e]? = some (p:Int)) (xJo xs).length;have hall:zJe (xKi (xJo xs) xs) (2^(xXm t.ops (xJo xs)).length) u:=by
   refine⟨by rw[xQ8];exact hu1,fun s hs=>?_⟩;obtain⟨x,hx,rfl⟩:=vWz.1 hs;obtain⟨k,hk⟩:=List.getElem?_of_mem hx;have hc:=hok k x hk;have hex:∃p∈ps,(p:Int)∈x.1:=vXe fun hno=>
    hc.cut fun q hq=>h5.reach (fun p hpp hpc=>hno ⟨p,hpp,hpc⟩) q (h4 q hq)
   obtain⟨p,hp,hpx⟩:=hex;have hpU:=xQt.2 ⟨x,hx,hpx⟩;obtain⟨e,he⟩:=List.getElem?_of_mem hpU;exact⟨e,(vXq (xKh xs) (fun y hy=>xQt.2 ⟨x,hx,hy⟩)).2 ⟨_,hpx,he⟩,(hu2 e).2 ⟨(zQ1.1 he).1,p,hp,he⟩⟩
  rcases h with h|⟨_,_,h⟩
  ·have h7:=h.least u hall;have h8:=h.eq;have h9:xXb (xXm t.ops (xJo xs)) u<=xJ6 (t.ops.map (·.cost)) ps:=by
    rw[zYg _ _ hU];refine zZp (fun c hc=>(zJy hv c hc).1) _ _ (vQk _ (xKh xs) hU) (fun p hp=>?_) (fun p hp=>by rw[zQl];exact hr p hp);obtain⟨e,he,hb⟩:=(zQi hU).1 hp;obtain⟨_,q,hq,hqe⟩:=(hu2 e).1 hb;rw[he] at hqe;injection hqe with hqe
    have:p=q:=by omega
    rw[this];exact hq
   omega
  ·exact absurd hall (h u)
end
