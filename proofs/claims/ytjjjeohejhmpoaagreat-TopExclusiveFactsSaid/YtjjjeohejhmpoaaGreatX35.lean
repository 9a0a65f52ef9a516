/-
  Lemmas.
-/
import Derived.Test.YtjjjeohejhmpoaaGreatX34
import Derived.Test.YtjjjeohejhmpoaaGreatX38
set_option linter.unusedVariables false
set_option linter.unusedSimpArgs false
set_option maxRecDepth 100000
set_option maxHeartbeats 4000000
namespace Go.Proofs.YtjjjeohejhmpoaaGreat
open Go.RowKit Go.Proofs.Tryz
section
open Go.Shelf
theorem yKr(o:OpV)(q:Int) : -1<=chg o q/\chg o q<=1:=by unfold chg;split<;>(try split)<;>omega
theorem uJi{n:Nat}{t:TaskV}(h6:t.ops.length<=6)(hc:∀o∈t.ops,0<=o.cost/\o.cost<=20):LpOk (lpC n t):=by
 have hlen:(xJw n t).length=(xJn n t).length:=by unfold xJn xJw;simp
 refine⟨?_,?_,?_,?_,?_⟩
 ·show((xJn n t).take 6).length<=6;rw[List.length_take];omega
 ·show(xYm t.ops).length<=6;rw[xVi];exact h6
 ·show((xJw n t).take 6).length=((xJn n t).take 6).length;rw[List.length_take,List.length_take,hlen]
 ·intro c hm;obtain⟨o,h1,rfl⟩:=vWz.1 (show c∈t.ops.map fun o=>-o.cost from hm);have:=hc o h1;omega
 ·intro i hi;have hi6:i<((xJn n t).take 6).length:=hi;rw[List.length_take] at hi6;have hr:∀r∈xJn n t,r.length=t.ops.length/\∀a∈r,-4<=a/\a<=4:=fun r hm=>by
   unfold xJn at hm;rcases vJn.1 hm with hm|hm
   ·obtain⟨q,_,rfl⟩:=vWz.1 hm;refine⟨zQl _,fun a ha=>?_⟩;obtain⟨o,_,rfl⟩:=vWz.1 (show a∈t.ops.map fun o=>-chg o q from ha);have:=yKr o q;omega
   ·obtain⟨q,_,rfl⟩:=vWz.1 hm;refine⟨zZ8 t q,fun a ha=>?_⟩;unfold xQr at ha;obtain⟨j,_,rfl⟩:=vWz.1 ha
    split<;>omega
  have hb:∀b∈xJw n t,-20<=b/\b<=20:=fun b hm=>by
   unfold xJw at hm;rcases vJn.1 hm with hm|hm
   ·obtain⟨q,_,rfl⟩:=vWz.1 hm;unfold xXx;split<;>omega
   ·obtain⟨q,_,rfl⟩:=vWz.1 hm;omega
  have e1:(lpC n t).rows[i]? = some (xJn n t)[i]:=by
   show((xJn n t).take 6)[i]? = _;rw[List.getElem?_take,if_pos (by omega),lGe (by omega)]
  have e2:(lpC n t).bounds[i]? = some (xJw n t)[i]:=by
   show((xJw n t).take 6)[i]? = _;rw[List.getElem?_take,if_pos (by omega),lGe (by omega)]
  unfold LpV.rowC;rw[e1,e2,Option.getD_some,Option.getD_some];have h1:=hr _ (List.getElem_mem (l:=xJn n t) (n:=i) (by omega));have h2:=hb _ (List.getElem_mem (l:=xJw n t) (n:=i) (by omega));have h3:(lpC n t).obj.length=t.ops.length:=xVi t.ops;unfold yQe;rw[if_neg (by rw[h3];exact fun e=>e h1.1),if_neg (fun e=>e h2),if_pos h1.2]
def yKs(n:Nat)(t:TaskV)(w:World)(e:Ending)(w':World):Prop:=Below w.heap.size w w' /\
 (
   (e=.returned (.tuple #[.agg #[.int .i64 1000000000,.int .i64 1],.agg #[.int .i64 0,.int .i64 0]])/\∃st num den x dx y dy r dr,SolOut (lpC n t).lp st num den x dx y dy r dr/\¬st=1) \/
   (∃num den x dx y dy,e=.returned (.tuple #[.agg #[.int .i64 (-num),.int .i64 den],.agg #[.int .i64 0,.int .i64 0]])/\SolOpt (lpC n t).lp num den x dx y dy))
theorem zKd(w:World)(t:TaskV)(Ai Ag Ao:Option Addr)(ci cg co:Nat)(hT:TaskMem w Ai Ag Ao t)(n:Nat)(hn:t.facts=n)(hv:Valid t)(h6:t.ops.length<=6)(hcc:∀o∈t.ops,o.cost<=20) :
  Calls prog 14 #[.agg #[.int .i64 t.facts,.slice Ai t.init.length ci,.slice Ag t.goal.length cg,.slice Ao t.ops.length co]] w ((yKs n t w)):=by
 have HPT:=fun w0 h0=>vYu w0 t Ai Ag Ao ci cg co h0 n hn hv h6 hcc
 have HOK:Hid (LpOk (lpC n t)):=uJi h6 (fun o ho=>⟨(hv.ops o ho).2.1,hcc o ho⟩);clear hn hv h6 hcc;go_enter func14,ntmps14
 go_wp2_with fail
 refine(HPT _ (hT.below bch)).mono ?_;rintro e w1 ⟨hB1,ar,ab,ao,nr,nb,no,cr,cb,co2,rfl,hM,hnr,hnb,hno⟩;have D1:=xJ3 w hB1 bch;have C1:=Cls.below (l:=[(w.heap.size,0,.int .i64 t.facts),(w.heap.size,1,.slice Ai t.init.length ci),(w.heap.size,2,.slice Ag t.goal.length cg),(w.heap.size,3,.slice Ao t.ops.length co),(w.heap.size+1,0,.int .i64 0),(w.heap.size+1,1,.int .i64 0),(w.heap.size+1+1,0,.int .i64 0),(w.heap.size+1+1,1,.int .i64 0)]) hB1 (by simp[Cls,go_sem]);have F1:=C1.f;have y1w2:=C1.blk (b:=w.heap.size+1+1) (k:=0) (v:=.int .i64 0) (by simp);have y1w1:w.heap.size+1<w1.heap.size:=(by omega);have y1w0:w.heap.size<w1.heap.size:=(by omega);have y1wp1:w.heap.size<w1.heap.size+1:=(by omega);obtain⟨p,hp⟩:∃p,Hid (p=lpC n t):=⟨_,rfl⟩;rw[<- hp.out] at hM hnr hnb hno HOK;have HNR:Hid (p.rows.length=nr):=hnr.symm;have HNB:Hid (p.bounds.length=nb):=hnb.symm;have HNO:Hid (p.obj.length=no):=hno.symm;clear hnr hnb hno;have HSV:=fun W hb=>vWp W ar ab ao cr cb co2 p (hM.below hb) nr nb no HNR HNB HNO
 go_wp2_with fail
 refine(HSV _ bch).mono ?_;rintro e w2 ⟨c,c2,st,num,den,dx,dy,dr,Ax,Ay,Ar,lx,ly,lr,x,y,r,rfl,HF,HL,HZ,HS,HI,hB2⟩;have D2:=xJ3 w hB2 bch;have d2s:=D2.size;have C2:=C1.sn hB2 [(w1.heap.size,0,.slice ar nr cr),(w1.heap.size,1,.slice ab nb cb),(w1.heap.size,2,.slice ao no co2),(w1.heap.size+1,0,.int .i64 0),(w1.heap.size+1,1,.int .i64 0)];have F2:=C2.f;have y2w2:=C2.blk (b:=w.heap.size+1+1) (k:=0) (v:=.int .i64 0) (by simp);have y2w1:w.heap.size+1<w2.heap.size:=(by omega);have y2w0:w.heap.size<w2.heap.size:=(by omega);have y2w11:=C2.blk (b:=w1.heap.size+1) (k:=0) (v:=.int .i64 0) (by simp);have y2w10:w1.heap.size<w2.heap.size:=(by omega);have hcz:c=0/\c2=0:=by have h:=HF.out;rw[vXx HOK.out] at h;injection h with h1 h2;exact⟨h1.symm,h2.symm⟩
 obtain⟨rfl,rfl⟩:=hcz;have HSO:=lHd (HS.out rfl);rw[hp.out] at HSO;clear HSV hp HOK;clear HF HZ HS HL HI hM HNR HNB HNO;have h3:st=1\/st=2\/st=3:=by rcases HSO.out with⟨h,_⟩|⟨h,_⟩|⟨h,_⟩<;>omega
 rcases h3 with rfl|rfl|rfl
 ·have HO:Hid (SolOpt (lpC n t).lp num den x dx y dy):=by rcases HSO.out with⟨_,h,_⟩|⟨h,_⟩|⟨h,_⟩;exact h;cases h;cases h
  have hnb:=HO.out.nle;obtain⟨wb,hwb⟩:∃x,Hid (x=((w2.setCell ⟨w1.heap.size+1,0,none⟩ (.int .i64 0)).setCell ⟨w1.heap.size+1,1,none⟩ (.int .i64 0)).alloc (.cells #[.int .i64 1,.int .i64 num,.int .i64 den,.slice Ax lx lx,.int .i64 dx,.slice Ay ly ly,.int .i64 dy,.slice Ar lr lr,.int .i64 dr] 102)):=⟨_,rfl⟩;have Db:Below w.heap.size w wb:=by rw[hwb.out];exact((D2.setCell (by simp;omega) _).setCell (by simp;omega) _).alloc (by simp;omega) _
  have Cb:Cls wb [(w.heap.size,0,.int .i64 t.facts),(w.heap.size,1,.slice Ai t.init.length ci),(w.heap.size,2,.slice Ag t.goal.length cg),(w.heap.size,3,.slice Ao t.ops.length co),(w.heap.size+1,0,.int .i64 0),(w.heap.size+1,1,.int .i64 0),(w.heap.size+1+1,0,.int .i64 0),(w.heap.size+1+1,1,.int .i64 0),(w1.heap.size,0,.slice ar nr cr),(w1.heap.size,1,.slice ab nb cb),(w1.heap.size,2,.slice ao no co2),(w1.heap.size+1,0,.int .i64 0),(w1.heap.size+1,1,.int .i64 0),(w2.heap.size,0,.int .i64 1),(w2.heap.size,1,.int .i64 num),(w2.heap.size,2,.int .i64 den),(w2.heap.size,3,.slice Ax lx lx),(w2.heap.size,4,.int .i64 dx),(w2.heap.size,5,.slice Ay ly ly),(w2.heap.size,6,.int .i64 dy),(w2.heap.size,7,.slice Ar lr lr),(w2.heap.size,8,.int .i64 dr)]:=by rw[hwb.out];simp[Cls,go_sem,F2,y2w2,y2w1,y2w0,y2w11,y2w10]
  have Fb:=Cb.f;have ybw2:=Cb.blk (b:=w.heap.size+1+1) (k:=0) (v:=.int .i64 0) (by simp);have ybw11:=Cb.blk (b:=w1.heap.size+1) (k:=0) (v:=.int .i64 0) (by simp);have ybw20:=Cb.blk (b:=w2.heap.size) (k:=0) (v:=.int .i64 1) (by simp);go_wp2;rw[<- hwb.out];have hSS0:wb.drew.cell? ⟨w1.heap.size+1,0,none⟩=some (.int .i64 0)/\wb.drew.cell? ⟨w1.heap.size+1,1,none⟩=some (.int .i64 0)/\wb.drew.cell? ⟨w2.heap.size,1,none⟩=some (.int .i64 num)/\wb.drew.cell? ⟨w2.heap.size,2,none⟩=some (.int .i64 den):=(by simp[go_sem,Fb]);refine xZ4 (fun W=>W.cell? ⟨w1.heap.size+1,0,none⟩=some (.int .i64 0)/\W.cell? ⟨w1.heap.size+1,1,none⟩=some (.int .i64 0)/\W.cell? ⟨w2.heap.size,1,none⟩=some (.int .i64 num)/\W.cell? ⟨w2.heap.size,2,none⟩=some (.int .i64 den)) [] (by kernel_rfl) ?_;have hSS:=hSS0;refine tkK 0 ?_;refine tkK 1 ?_;refine tkK 2 ?_;refine tkK 3 ?_;refine tkK 4 ?_;refine tkK 5 ?_;refine tkK 6 ?_;refine tkK 7 ?_;refine tkK 8 ?_;refine kdo 9 (fun K hK=>?_);go_simp;rw[zJx _ (by omega) (by omega)]
  go_wp2_with fail
  have hSS:((wb.setCell ⟨w.heap.size+1,0,none⟩ (.int .i64 (-num))).setCell ⟨w.heap.size+1,1,none⟩ (.int .i64 den)).drew.cell? ⟨w1.heap.size+1,0,none⟩=some (.int .i64 0)/\((wb.setCell ⟨w.heap.size+1,0,none⟩ (.int .i64 (-num))).setCell ⟨w.heap.size+1,1,none⟩ (.int .i64 den)).drew.cell? ⟨w1.heap.size+1,1,none⟩=some (.int .i64 0)/\((wb.setCell ⟨w.heap.size+1,0,none⟩ (.int .i64 (-num))).setCell ⟨w.heap.size+1,1,none⟩ (.int .i64 den)).drew.cell? ⟨w2.heap.size,1,none⟩=some (.int .i64 num)/\((wb.setCell ⟨w.heap.size+1,0,none⟩ (.int .i64 (-num))).setCell ⟨w.heap.size+1,1,none⟩ (.int .i64 den)).drew.cell? ⟨w2.heap.size,2,none⟩=some (.int .i64 den):=(by simp[go_sem,Fb]);refine hK.out _ _ hSS ?_;clear hK K
  try simp only[ap]
  refine kdo 10 (fun K hK=>?_);go_simp
  go_wp2_with fail
  have hSS:((((wb.setCell ⟨w.heap.size+1,0,none⟩ (.int .i64 (-num))).setCell ⟨w.heap.size+1,1,none⟩ (.int .i64 den)).setCell ⟨w.heap.size+1+1,0,none⟩ (.int .i64 0)).setCell ⟨w.heap.size+1+1,1,none⟩ (.int .i64 0)).drew.cell? ⟨w1.heap.size+1,0,none⟩=some (.int .i64 0)/\((((wb.setCell ⟨w.heap.size+1,0,none⟩ (.int .i64 (-num))).setCell ⟨w.heap.size+1,1,none⟩ (.int .i64 den)).setCell ⟨w.heap.size+1+1,0,none⟩ (.int .i64 0)).setCell ⟨w.heap.size+1+1,1,none⟩ (.int .i64 0)).drew.cell? ⟨w1.heap.size+1,1,none⟩=some (.int .i64 0)/\((((wb.setCell ⟨w.heap.size+1,0,none⟩ (.int .i64 (-num))).setCell ⟨w.heap.size+1,1,none⟩ (.int .i64 den)).setCell ⟨w.heap.size+1+1,0,none⟩ (.int .i64 0)).setCell ⟨w.heap.size+1+1,1,none⟩ (.int .i64 0)).drew.cell? ⟨w2.heap.size,1,none⟩=some (.int .i64 num)/\((((wb.setCell ⟨w.heap.size+1,0,none⟩ (.int .i64 (-num))).setCell ⟨w.heap.size+1,1,none⟩ (.int .i64 den)).setCell ⟨w.heap.size+1+1,0,none⟩ (.int .i64 0)).setCell ⟨w.heap.size+1+1,1,none⟩ (.int .i64 0)).drew.cell? ⟨w2.heap.size,2,none⟩=some (.int .i64 den):=(by simp[go_sem,Fb]);refine hK.out _ _ hSS ?_;clear hK K
  try simp only[ap]
  refine kdn ?_ _;dsimp only[zVt];go_wp2;refine bodyPost_ret (v:=.tuple #[.agg #[.int .i64 (-num),.int .i64 den],.agg #[.int .i64 0,.int .i64 0]]) ?_ rfl ⟨?_,.inr ⟨num,den,x,dx,y,dy,rfl,HO.out⟩⟩
  ·simp[results,results14,go_sem,Fb]
  ·exact mvh
 ·have hz:num=0/\den=0:=by rcases HSO.out with⟨h,_⟩|⟨h,h1,h2,_⟩|⟨h,h1,h2,_⟩<;>first|exact⟨h1,h2⟩|cases h
  obtain⟨rfl,rfl⟩:=hz;obtain⟨wb,hwb⟩:∃x,Hid (x=((w2.setCell ⟨w1.heap.size+1,0,none⟩ (.int .i64 0)).setCell ⟨w1.heap.size+1,1,none⟩ (.int .i64 0)).alloc (.cells #[.int .i64 2,.int .i64 0,.int .i64 0,.slice Ax lx lx,.int .i64 dx,.slice Ay ly ly,.int .i64 dy,.slice Ar lr lr,.int .i64 dr] 102)):=⟨_,rfl⟩;have Db:Below w.heap.size w wb:=by rw[hwb.out];exact((D2.setCell (by simp;omega) _).setCell (by simp;omega) _).alloc (by simp;omega) _
  have Cb:Cls wb [(w.heap.size,0,.int .i64 t.facts),(w.heap.size,1,.slice Ai t.init.length ci),(w.heap.size,2,.slice Ag t.goal.length cg),(w.heap.size,3,.slice Ao t.ops.length co),(w.heap.size+1,0,.int .i64 0),(w.heap.size+1,1,.int .i64 0),(w.heap.size+1+1,0,.int .i64 0),(w.heap.size+1+1,1,.int .i64 0),(w1.heap.size,0,.slice ar nr cr),(w1.heap.size,1,.slice ab nb cb),(w1.heap.size,2,.slice ao no co2),(w1.heap.size+1,0,.int .i64 0),(w1.heap.size+1,1,.int .i64 0),(w2.heap.size,0,.int .i64 2),(w2.heap.size,1,.int .i64 0),(w2.heap.size,2,.int .i64 0),(w2.heap.size,3,.slice Ax lx lx),(w2.heap.size,4,.int .i64 dx),(w2.heap.size,5,.slice Ay ly ly),(w2.heap.size,6,.int .i64 dy),(w2.heap.size,7,.slice Ar lr lr),(w2.heap.size,8,.int .i64 dr)]:=by rw[hwb.out];simp[Cls,go_sem,F2,y2w2,y2w1,y2w0,y2w11,y2w10]
  have Fb:=Cb.f;have ybw2:=Cb.blk (b:=w.heap.size+1+1) (k:=0) (v:=.int .i64 0) (by simp);have ybw11:=Cb.blk (b:=w1.heap.size+1) (k:=0) (v:=.int .i64 0) (by simp);have ybw20:=Cb.blk (b:=w2.heap.size) (k:=0) (v:=.int .i64 2) (by simp);go_wp2;rw[<- hwb.out];have hSS0:wb.drew.cell? ⟨w1.heap.size+1,0,none⟩=some (.int .i64 0)/\wb.drew.cell? ⟨w1.heap.size+1,1,none⟩=some (.int .i64 0):=(by simp[go_sem,Fb]);refine xZ4 (fun W=>W.cell? ⟨w1.heap.size+1,0,none⟩=some (.int .i64 0)/\W.cell? ⟨w1.heap.size+1,1,none⟩=some (.int .i64 0)) [] (by kernel_rfl) ?_;have hSS:=hSS0;refine tkK 0 ?_;refine tkK 1 ?_;refine kdo 2 (fun K hK=>?_);go_simp
  go_wp2_with fail
  have hSS:((wb.setCell ⟨w.heap.size+1,0,none⟩ (.int .i64 1000000000)).setCell ⟨w.heap.size+1,1,none⟩ (.int .i64 1)).drew.cell? ⟨w1.heap.size+1,0,none⟩=some (.int .i64 0)/\((wb.setCell ⟨w.heap.size+1,0,none⟩ (.int .i64 1000000000)).setCell ⟨w.heap.size+1,1,none⟩ (.int .i64 1)).drew.cell? ⟨w1.heap.size+1,1,none⟩=some (.int .i64 0):=(by simp[go_sem,Fb]);refine hK.out _ _ hSS ?_;clear hK K
  try simp only[ap]
  refine kdo 3 (fun K hK=>?_);go_simp
  go_wp2_with fail
  have hSS:((((wb.setCell ⟨w.heap.size+1,0,none⟩ (.int .i64 1000000000)).setCell ⟨w.heap.size+1,1,none⟩ (.int .i64 1)).setCell ⟨w.heap.size+1+1,0,none⟩ (.int .i64 0)).setCell ⟨w.heap.size+1+1,1,none⟩ (.int .i64 0)).drew.cell? ⟨w1.heap.size+1,0,none⟩=some (.int .i64 0)/\((((wb.setCell ⟨w.heap.size+1,0,none⟩ (.int .i64 1000000000)).setCell ⟨w.heap.size+1,1,none⟩ (.int .i64 1)).setCell ⟨w.heap.size+1+1,0,none⟩ (.int .i64 0)).setCell ⟨w.heap.size+1+1,1,none⟩ (.int .i64 0)).drew.cell? ⟨w1.heap.size+1,1,none⟩=some (.int .i64 0):=(by simp[go_sem,Fb]);refine hK.out _ _ hSS ?_;clear hK K
  try simp only[ap]
  refine kdn ?_ _;dsimp only[zVt];go_wp2;refine bodyPost_ret (v:=.tuple #[.agg #[.int .i64 1000000000,.int .i64 1],.agg #[.int .i64 0,.int .i64 0]]) ?_ rfl ⟨?_,.inl ⟨rfl,2,_,_,_,_,_,_,_,_,HSO.out,by decide⟩⟩
  ·simp[results,results14,go_sem,Fb]
  ·exact mvh
 ·have hz:num=0/\den=0:=by rcases HSO.out with⟨h,_⟩|⟨h,h1,h2,_⟩|⟨h,h1,h2,_⟩<;>first|exact⟨h1,h2⟩|cases h
  obtain⟨rfl,rfl⟩:=hz;obtain⟨wb,hwb⟩:∃x,Hid (x=((w2.setCell ⟨w1.heap.size+1,0,none⟩ (.int .i64 0)).setCell ⟨w1.heap.size+1,1,none⟩ (.int .i64 0)).alloc (.cells #[.int .i64 3,.int .i64 0,.int .i64 0,.slice Ax lx lx,.int .i64 dx,.slice Ay ly ly,.int .i64 dy,.slice Ar lr lr,.int .i64 dr] 102)):=⟨_,rfl⟩;have Db:Below w.heap.size w wb:=by rw[hwb.out];exact((D2.setCell (by simp;omega) _).setCell (by simp;omega) _).alloc (by simp;omega) _
  have Cb:Cls wb [(w.heap.size,0,.int .i64 t.facts),(w.heap.size,1,.slice Ai t.init.length ci),(w.heap.size,2,.slice Ag t.goal.length cg),(w.heap.size,3,.slice Ao t.ops.length co),(w.heap.size+1,0,.int .i64 0),(w.heap.size+1,1,.int .i64 0),(w.heap.size+1+1,0,.int .i64 0),(w.heap.size+1+1,1,.int .i64 0),(w1.heap.size,0,.slice ar nr cr),(w1.heap.size,1,.slice ab nb cb),(w1.heap.size,2,.slice ao no co2),(w1.heap.size+1,0,.int .i64 0),(w1.heap.size+1,1,.int .i64 0),(w2.heap.size,0,.int .i64 3),(w2.heap.size,1,.int .i64 0),(w2.heap.size,2,.int .i64 0),(w2.heap.size,3,.slice Ax lx lx),(w2.heap.size,4,.int .i64 dx),(w2.heap.size,5,.slice Ay ly ly),(w2.heap.size,6,.int .i64 dy),(w2.heap.size,7,.slice Ar lr lr),(w2.heap.size,8,.int .i64 dr)]:=by rw[hwb.out];simp[Cls,go_sem,F2,y2w2,y2w1,y2w0,y2w11,y2w10]
  have Fb:=Cb.f;have ybw2:=Cb.blk (b:=w.heap.size+1+1) (k:=0) (v:=.int .i64 0) (by simp);have ybw11:=Cb.blk (b:=w1.heap.size+1) (k:=0) (v:=.int .i64 0) (by simp);have ybw20:=Cb.blk (b:=w2.heap.size) (k:=0) (v:=.int .i64 3) (by simp);go_wp2;rw[<- hwb.out];have hSS0:wb.drew.cell? ⟨w1.heap.size+1,0,none⟩=some (.int .i64 0)/\wb.drew.cell? ⟨w1.heap.size+1,1,none⟩=some (.int .i64 0):=(by simp[go_sem,Fb]);refine xZ4 (fun W=>W.cell? ⟨w1.heap.size+1,0,none⟩=some (.int .i64 0)/\W.cell? ⟨w1.heap.size+1,1,none⟩=some (.int .i64 0)) [] (by kernel_rfl) ?_;have hSS:=hSS0;refine tkK 0 ?_;refine tkK 1 ?_;refine kdo 2 (fun K hK=>?_);go_simp
  go_wp2_with fail
  have hSS:((wb.setCell ⟨w.heap.size+1,0,none⟩ (.int .i64 1000000000)).setCell ⟨w.heap.size+1,1,none⟩ (.int .i64 1)).drew.cell? ⟨w1.heap.size+1,0,none⟩=some (.int .i64 0)/\((wb.setCell ⟨w.heap.size+1,0,none⟩ (.int .i64 1000000000)).setCell ⟨w.heap.size+1,1,none⟩ (.int .i64 1)).drew.cell? ⟨w1.heap.size+1,1,none⟩=some (.int .i64 0):=(by simp[go_sem,Fb]);refine hK.out _ _ hSS ?_;clear hK K
  try simp only[ap]
  refine kdo 3 (fun K hK=>?_);go_simp
  go_wp2_with fail
  have hSS:((((wb.setCell ⟨w.heap.size+1,0,none⟩ (.int .i64 1000000000)).setCell ⟨w.heap.size+1,1,none⟩ (.int .i64 1)).setCell ⟨w.heap.size+1+1,0,none⟩ (.int .i64 0)).setCell ⟨w.heap.size+1+1,1,none⟩ (.int .i64 0)).drew.cell? ⟨w1.heap.size+1,0,none⟩=some (.int .i64 0)/\((((wb.setCell ⟨w.heap.size+1,0,none⟩ (.int .i64 1000000000)).setCell ⟨w.heap.size+1,1,none⟩ (.int .i64 1)).setCell ⟨w.heap.size+1+1,0,none⟩ (.int .i64 0)).setCell ⟨w.heap.size+1+1,1,none⟩ (.int .i64 0)).drew.cell? ⟨w1.heap.size+1,1,none⟩=some (.int .i64 0):=(by simp[go_sem,Fb]);refine hK.out _ _ hSS ?_;clear hK K
  try simp only[ap]
  refine kdn ?_ _;dsimp only[zVt];go_wp2;refine bodyPost_ret (v:=.tuple #[.agg #[.int .i64 1000000000,.int .i64 1],.agg #[.int .i64 0,.int .i64 0]]) ?_ rfl ⟨?_,.inl ⟨rfl,3,_,_,_,_,_,_,_,_,HSO.out,by decide⟩⟩
  ·simp[results,results14,go_sem,Fb]
  ·exact mvh
end
section
open Go.Shelf
theorem vKo{ops:List OpV}(ps:List Nat):xYo ops (ps.map Int.ofNat)=xJ6 (ops.map (·.cost)) ps:=by
 unfold xYo xJ6;rw[List.map_map];rfl
theorem xW9{B:Nat}{w:World}{v:Value}{xs:List Int}(h:OwnI B w v xs){p:Addr}(hp:p.block<B)(u:Value):OwnI B (w.setCell p u) v xs:=ownsRow_setCell_below h hp u
theorem Pth.rng2{n:Nat}{ops:List OpV}{st l:List Int}{ps:List Nat}(h:Pth n ops st l ps):∀x∈ps.map Int.ofNat,0<=x/\x<(ops.length:Int):=fun x hx=>by
 obtain⟨p,hp,rfl⟩:=vWz.1 hx;have:=h.rng p hp;exact⟨Int.natCast_nonneg _,by show(p:Int)<_;omega⟩
def PlanP(n:Nat)(t:TaskV)(w:World)(e:Ending)(w':World):Prop:=Below w.heap.size w w' /\
 (
   (e=.returned (.tuple #[.agg #[.bool false,.slice none 0 0,.int .i64 0,.int .i64 0],.agg #[.int .i64 10,.int .i64 (-7)]])/\∃ls:List (List Int),ls.Nodup/\ls.length=2001/\∀l∈ls,∃c,Cst n t.ops t.init l c) \/
   (∃ne:Nat,e=.returned (.tuple #[.agg #[.bool false,.slice none 0 0,.int .i64 0,.int .i64 ne],.agg #[.int .i64 0,.int .i64 0]])/\zYf n t) \/
   (∃(l:List Int) (ps:List Nat),Pth n t.ops t.init l ps/\(∀q∈t.goal,q∈l)/\yZh n t ps /\
    ((60<ps.length/\e=.returned (.tuple #[.agg #[.bool false,.slice none 0 0,.int .i64 0,.int .i64 0],.agg #[.int .i64 10,.int .i64 (-9)]]))\/(ps.length<=60/\∃(v:Value) (ne:Nat),e=.returned (.tuple #[.agg #[.bool true,v,.int .i64 (xJ6 (t.ops.map (·.cost)) ps),.int .i64 ne],.agg #[.int .i64 0,.int .i64 0]])/\∃B,w.heap.size<=B/\OwnI B w' v (ps.map Int.ofNat)))))
def CkR(n:Nat)(t:TaskV)(B:Nat)(W:World)(v:Value)(c1 c2:Int):Prop:=(c1=10/\c2 = -7/\∃ls:List (List Int),ls.Nodup/\ls.length=2001/\∀l∈ls,∃c,Cst n t.ops t.init l c) \/
 (c1=0/\c2=0/\∃(g:Nat) (ls:List (List Int)),v=.pointer (some ⟨g,0,none⟩)/\WMem B W g t/\Clos n t.ops t.init ls/\ls.length<=2000)
theorem Cls.lowT{B:Nat}{W W':World}:∀ {l:List (Nat×Nat×Value)},Cls W l->Below B W W'->(∀x∈l,x.1<B)->Cls W' l
 | [],_,_,_=>trivial
 |(b,k,v)::r,h,hb,hl=>by
  obtain⟨⟨h1,h2⟩,h3⟩:=h;have hl1:b<B:=hl (b,k,v) (vVp ..);exact⟨⟨(hb.cell (p:=⟨b,k,none⟩) hl1).trans h1,(hb.frozen (p:=⟨b,k,none⟩) hl1).trans h2⟩,Cls.lowT h3 hb (fun x hx=>hl x (List.mem_cons_of_mem _ hx))⟩
theorem CheckedP.form{n:Nat}{t:TaskV}{w w':World}{e:Ending}(h:CheckedP n t w e w'):Below w.heap.size w w'/\∃(v6 v7:Value) (c1 c2:Int),e=.returned (.tuple #[v6,v7,.agg #[.int .i64 c1,.int .i64 c2]])/\CkR n t w.heap.size w' v6 c1 c2:=by
 obtain⟨hB,h|⟨g,v,ls,rfl,hW,hO,hC,hl⟩⟩:=h
 ·exact⟨hB,_,_,10,-7,h.1,.inl ⟨rfl,rfl,h.2⟩⟩
 ·exact⟨hB,_,_,0,0,rfl,.inr ⟨rfl,rfl,g,ls,rfl,hW,hC,hl⟩⟩
theorem CkR.mono{n:Nat}{t:TaskV}{B B':Nat}{W:World}{v:Value}{c1 c2:Int}(h:CkR n t B W v c1 c2)(hb:B'<=B):CkR n t B' W v c1 c2:=by
 rcases h with h|⟨h1,h2,g,ls,h3,h4,h5⟩
 ·exact .inl h
 ·exact .inr ⟨h1,h2,g,ls,h3,h4.mono hb,h5⟩
theorem CkR.below{n:Nat}{t:TaskV}{B:Nat}{W W':World}{v:Value}{c1 c2:Int}(h:CkR n t B W v c1 c2)(hb:Below W.heap.size W W'):CkR n t B W' v c1 c2:=by
 rcases h with h|⟨h1,h2,g,ls,h3,h4,h5⟩
 ·exact .inl h
 ·exact .inr ⟨h1,h2,g,ls,h3,h4.below hb,h5⟩
theorem CkR.low{n:Nat}{t:TaskV}{B:Nat}{W:World}{v:Value}{c1 c2:Int}(h:CkR n t B W v c1 c2){p:Addr}(hp:p.block<B)(u:Value):CkR n t B (W.setCell p u) v c1 c2:=by
 rcases h with h|⟨h1,h2,g,ls,h3,h4,h5⟩
 ·exact .inl h
 ·exact .inr ⟨h1,h2,g,ls,h3,h4.set_low hp u,h5⟩
def CkI(n:Nat)(t:TaskV)(B:Nat)(W:World)(v:Value)(c1 c2:Int):Prop:=c1=(xXn t).1/\c2=(xXn t).2
theorem CkI.below{n:Nat}{t:TaskV}{B:Nat}{W W':World}{v:Value}{c1 c2:Int}(h:CkI n t B W v c1 c2)(hb:Below W.heap.size W W'):CkI n t B W' v c1 c2:=h
theorem CkI.low{n:Nat}{t:TaskV}{B:Nat}{W:World}{v:Value}{c1 c2:Int}(h:CkI n t B W v c1 c2){p:Addr}(hp:p.block<B)(u:Value):CkI n t B (W.setCell p u) v c1 c2:=h
theorem yKc(w:World)(t:TaskV)(Ai Ag Ao:Option Addr)(ci cg co:Nat)(hT:TaskMem w Ai Ag Ao t)(n:Nat)(hn:t.facts=n)(hv:Valid t) :
  Calls prog 19 #[.agg #[.int .i64 t.facts,.slice Ai t.init.length ci,.slice Ag t.goal.length cg,.slice Ao t.ops.length co],.int .i64 4] w ((PlanP n t w)):=by
 have HCK:=fun w0 h=>vY1 w0 t Ai Ag Ao ci cg co h n hn hv
 have HV:=lHd hv;have HN:=lHd hn;clear hv hn;go_enter func19,ntmps19
 go_wp2_with fail
 go_upto_region 1 with fail
 go_cut [6,7,8] (fun s6 s7 s8 wx=>∃(bx:Nat) (c1 c2:Int),s8=.pointer (some ⟨bx,0,none⟩)/\w.heap.size+1+1<bx/\Arr wx bx 28 [.int .i64 c1,.int .i64 c2]/\CkR n t w.heap.size wx s6 c1 c2/\Below w.heap.size w wx/\Cls wx [(w.heap.size,0,.int .i64 t.facts),(w.heap.size,1,.slice Ai t.init.length ci),(w.heap.size,2,.slice Ag t.goal.length cg),(w.heap.size,3,.slice Ao t.ops.length co),(w.heap.size+1,0,.bool false),(w.heap.size+1,1,.slice none 0 0),(w.heap.size+1,2,.int .i64 0),(w.heap.size+1,3,.int .i64 0),(w.heap.size+1+1,0,.int .i64 0),(w.heap.size+1+1,1,.int .i64 0)])
 case first=>
  obtain⟨wz,hwz⟩:∃x,Hid (x=(((w.alloc (.cells #[.int .i64 t.facts,.slice Ai t.init.length ci,.slice Ag t.goal.length cg,.slice Ao t.ops.length co] 25)).alloc (.cells #[.bool false,.slice none 0 0,.int .i64 0,.int .i64 0] 51)).alloc (.cells #[.int .i64 0,.int .i64 0] 28)).drew):=⟨_,rfl⟩;have Cz:Cls wz [(w.heap.size,0,.int .i64 t.facts),(w.heap.size,1,.slice Ai t.init.length ci),(w.heap.size,2,.slice Ag t.goal.length cg),(w.heap.size,3,.slice Ao t.ops.length co),(w.heap.size+1,0,.bool false),(w.heap.size+1,1,.slice none 0 0),(w.heap.size+1,2,.int .i64 0),(w.heap.size+1,3,.int .i64 0),(w.heap.size+1+1,0,.int .i64 0),(w.heap.size+1+1,1,.int .i64 0)]:=by rw[hwz.out];simp[Cls,go_sem]
  have Dz:Below w.heap.size w wz:=by rw[hwz.out];exact mvh
  have zz0:Hid (wz.heap.size=w.heap.size+1+1+1):=by show _=_;rw[hwz.out];simp
  have zz1:w.heap.size+1+1<wz.heap.size:=by have:=zz0.out;omega
  refine wp_region_held_drew (S:=fun W=>W.cell? ⟨w.heap.size,0,none⟩=some (.int .i64 t.facts)/\W.cell? ⟨w.heap.size,1,none⟩=some (.slice Ai t.init.length ci)/\W.cell? ⟨w.heap.size,2,none⟩=some (.slice Ag t.goal.length cg)/\W.cell? ⟨w.heap.size,3,none⟩=some (.slice Ao t.ops.length co)) (by kernel_rfl) (by rw[<- hwz.out];have q:=Cz;simp only[Cls,and_true] at q;simp[q]) (fun hHeld=>?_);rw[<- hwz.out] at hHeld ⊢;refine tkH 0 ?_;refine tkH 1 ?_;refine wpAnyH_ready (rs:=[2,8]) (by kernel_rfl) (by simp) ?_;refine(AllReadyH.cons rfl (fun K hK=>?bo21x2) (AllReadyH.cons rfl (fun K hK=>?bo21x8) AllReadyH.nil))
  case bo21x2=>
   go_simp;go_at_call 57;refine(zYi _).mono ?_;rintro e w' ⟨rfl,rfl⟩
   go_wp2_with fail
   refine hK.out _ _ (by have q:=Cz;simp only[Cls,and_true] at q;simp[q]) (fun hHeld=>?_);clear hK K
   try simp only[ap]
   refine wpAnyH_ready (rs:=[3,8]) (by kernel_rfl) (by simp) ?_;refine(AllReadyH.cons rfl (fun K hK=>?bo22x3) (AllReadyH.cons rfl (fun K hK=>?bo22x8) AllReadyH.nil))
   case bo22x3=>
    go_simp;go_at_call 56;refine(HCK _ (hT.below Dz)).mono ?_;rintro e w1 hCK;obtain⟨hB1,v6,v7,c1,c2,rfl,hR0⟩:=hCK.form;have hs1:=hB1.size;have C1:=Cls.below hB1 Cz;have D1:=Dz.trans (hB1.mono (by omega));have hR1:=hR0.mono (B':=w.heap.size) (by omega)
    go_wp2_with fail
    refine hK.out _ _ (by have q:=C1;simp only[Cls,and_true] at q;simp[q]) (fun hHeld=>?_);clear hK K
    try simp only[ap]
    refine tkH 4 ?_;refine tkH 5 ?_;refine tkH 6 ?_;refine tkH 7 ?_;refine hrd 8 (fun K hK=>?bo27x8)
    case bo27x8=>
     go_simp
     go_wp2_with fail
     obtain⟨wa,hwa⟩:∃x,Hid (x=w1.alloc (.cells #[.int .i64 0,.int .i64 0] 28)):=⟨_,rfl⟩;rw[<- hwa.out];have Ca:=hcl hwa (Cls.below ((Below.refl _ _).alloc (Nat.le_refl _) _) C1);have Da:=hbe hwa (D1.alloc (by omega) _);have Aa:=har hwa (Arr.new w1 _ _);have za:w1.heap.size<wa.heap.size:=by rw[hwa.out];simp
     refine hK.out _ _ (by have q:=Ca;simp only[Cls,and_true] at q;simp[q]) (fun hHeld=>?_);clear hK K
     try simp only[ap]
     refine tkH 9 ?_;refine tkH 10 ?_;refine hrd 11 (fun K hK=>?_);have hcb0:wa.cell? ⟨w1.heap.size,0,none⟩=some (.int .i64 0):=Aa.cell 0;have hcb1:wa.cell? ⟨w1.heap.size,1,none⟩=some (.int .i64 0):=Aa.cell 1;have hfb0:=Aa.free 0;have hfb1:=Aa.free 1;go_simp
     go_wp2_with fail
     obtain⟨wf,hwf⟩:∃x,Hid (x=((wa.setCell ⟨w1.heap.size,0,none⟩ (.int .i64 c1)).setCell ⟨w1.heap.size,1,none⟩ (.int .i64 c2))):=⟨_,rfl⟩;rw[<- hwf.out];have Af:=har hwf ((Aa.set_ 0 _).set_ 1 _);have Bf:Below (w1.heap.size) wa wf:=by rw[hwf.out];exact((Below.refl _ _).setCell (by simp) _).setCell (by simp) _
     have Cf:=Cls.lowT Ca Bf (by simp;omega);have Df:=Da.trans (Bf.mono (by omega));have Rf:=hR1.below (((Below.refl w1.heap.size w1).alloc (Nat.le_refl _) (.cells #[.int .i64 0,.int .i64 0] 28)).trans (by rw[<- hwa.out];exact Bf));refine hK.out _ _ (by have q:=Cf;simp only[Cls,and_true] at q;simp[q]) (fun hHeld=>?_);clear hK K
     try simp only[ap]
     refine hdn ?_ _
     go_wp2_with fail
     go_meet
     exact⟨_,c1,c2,rfl,by omega,Af,Rf,Df,Cf⟩
   case bo22x8=>
    go_simp
    go_wp2_with fail
    obtain⟨wa,hwa⟩:∃x,Hid (x=wz.alloc (.cells #[.int .i64 0,.int .i64 0] 28)):=⟨_,rfl⟩;rw[<- hwa.out];have Ca:=hcl hwa (Cls.below ((Below.refl _ _).alloc (Nat.le_refl _) _) Cz);have Da:=hbe hwa (Dz.alloc (by omega) _);have Aa:=har hwa (Arr.new wz _ _);have za:wz.heap.size<wa.heap.size:=by rw[hwa.out];simp
    refine hK.out _ _ (by have q:=Ca;simp only[Cls,and_true] at q;simp[q]) (fun hHeld=>?_);clear hK K
    try simp only[ap]
    refine hrd 3 (fun K hK=>?bo211x3)
    case bo211x3=>
     go_simp;go_at_call 56;refine(HCK _ (hT.below Da)).mono ?_;rintro e w1 hCK;obtain⟨hB1,v6,v7,c1,c2,rfl,hR0⟩:=hCK.form;have hs1:=hB1.size;have C1:=Cls.below hB1 Ca;have D1:=Da.trans (hB1.mono (by omega));have A1:=Aa.below hB1;have hR1:=hR0
     go_wp2_with fail
     refine hK.out _ _ (by have q:=C1;simp only[Cls,and_true] at q;simp[q]) (fun hHeld=>?_);clear hK K
     try simp only[ap]
     refine tkH 4 ?_;refine tkH 5 ?_;refine tkH 6 ?_;refine tkH 7 ?_;refine tkH 9 ?_;refine tkH 10 ?_;refine hrd 11 (fun K hK=>?_);have hcb0:w1.cell? ⟨wz.heap.size,0,none⟩=some (.int .i64 0):=A1.cell 0;have hcb1:w1.cell? ⟨wz.heap.size,1,none⟩=some (.int .i64 0):=A1.cell 1;have hfb0:=A1.free 0;have hfb1:=A1.free 1;go_simp
     go_wp2_with fail
     obtain⟨wf,hwf⟩:∃x,Hid (x=((w1.setCell ⟨wz.heap.size,0,none⟩ (.int .i64 c1)).setCell ⟨wz.heap.size,1,none⟩ (.int .i64 c2))):=⟨_,rfl⟩;rw[<- hwf.out];have Af:=har hwf ((A1.set_ 0 _).set_ 1 _);have Bf:Below (wz.heap.size) w1 wf:=by rw[hwf.out];exact((Below.refl _ _).setCell (by simp) _).setCell (by simp) _
     have Cf:=Cls.lowT C1 Bf (by simp;omega);have Df:=D1.trans (Bf.mono (by omega));have Rf:CkR n t w.heap.size wf v6 c1 c2:=by rw[hwf.out];exact((hR1.low (p:=⟨wz.heap.size,0,none⟩) (by simp;omega) _).low (p:=⟨wz.heap.size,1,none⟩) (by simp;omega) _).mono (by omega)
     refine hK.out _ _ (by have q:=Cf;simp only[Cls,and_true] at q;simp[q]) (fun hHeld=>?_);clear hK K
     try simp only[ap]
     refine hdn ?_ _
     go_wp2_with fail
     go_meet
     exact⟨_,c1,c2,rfl,by omega,Af,Rf,Df,Cf⟩
  case bo21x8=>
   go_simp
   go_wp2_with fail
   obtain⟨wa,hwa⟩:∃x,Hid (x=wz.alloc (.cells #[.int .i64 0,.int .i64 0] 28)):=⟨_,rfl⟩;rw[<- hwa.out];have Ca:=hcl hwa (Cls.below ((Below.refl _ _).alloc (Nat.le_refl _) _) Cz);have Da:=hbe hwa (Dz.alloc (by omega) _);have Aa:=har hwa (Arr.new wz _ _);have za:wz.heap.size<wa.heap.size:=by rw[hwa.out];simp
   refine hK.out _ _ (by have q:=Ca;simp only[Cls,and_true] at q;simp[q]) (fun hHeld=>?_);clear hK K
   try simp only[ap]
   refine hrd 2 (fun K hK=>?bo219x2)
   case bo219x2=>
    go_simp;go_at_call 57;refine(zYi _).mono ?_;rintro e w' ⟨rfl,rfl⟩
    go_wp2_with fail
    refine hK.out _ _ (by have q:=Ca;simp only[Cls,and_true] at q;simp[q]) (fun hHeld=>?_);clear hK K
    try simp only[ap]
    refine hrd 3 (fun K hK=>?bo220x3)
    case bo220x3=>
     go_simp;go_at_call 56;refine(HCK _ (hT.below Da)).mono ?_;rintro e w1 hCK;obtain⟨hB1,v6,v7,c1,c2,rfl,hR0⟩:=hCK.form;have hs1:=hB1.size;have C1:=Cls.below hB1 Ca;have D1:=Da.trans (hB1.mono (by omega));have A1:=Aa.below hB1;have hR1:=hR0
     go_wp2_with fail
     refine hK.out _ _ (by have q:=C1;simp only[Cls,and_true] at q;simp[q]) (fun hHeld=>?_);clear hK K
     try simp only[ap]
     refine tkH 4 ?_;refine tkH 5 ?_;refine tkH 6 ?_;refine tkH 7 ?_;refine tkH 9 ?_;refine tkH 10 ?_;refine hrd 11 (fun K hK=>?_);have hcb0:w1.cell? ⟨wz.heap.size,0,none⟩=some (.int .i64 0):=A1.cell 0;have hcb1:w1.cell? ⟨wz.heap.size,1,none⟩=some (.int .i64 0):=A1.cell 1;have hfb0:=A1.free 0;have hfb1:=A1.free 1;go_simp
     go_wp2_with fail
     obtain⟨wf,hwf⟩:∃x,Hid (x=((w1.setCell ⟨wz.heap.size,0,none⟩ (.int .i64 c1)).setCell ⟨wz.heap.size,1,none⟩ (.int .i64 c2))):=⟨_,rfl⟩;rw[<- hwf.out];have Af:=har hwf ((A1.set_ 0 _).set_ 1 _);have Bf:Below (wz.heap.size) w1 wf:=by rw[hwf.out];exact((Below.refl _ _).setCell (by simp) _).setCell (by simp) _
     have Cf:=Cls.lowT C1 Bf (by simp;omega);have Df:=D1.trans (Bf.mono (by omega));have Rf:CkR n t w.heap.size wf v6 c1 c2:=by rw[hwf.out];exact((hR1.low (p:=⟨wz.heap.size,0,none⟩) (by simp;omega) _).low (p:=⟨wz.heap.size,1,none⟩) (by simp;omega) _).mono (by omega)
     refine hK.out _ _ (by have q:=Cf;simp only[Cls,and_true] at q;simp[q]) (fun hHeld=>?_);clear hK K
     try simp only[ap]
     refine hdn ?_ _
     go_wp2_with fail
     go_meet
     exact⟨_,c1,c2,rfl,by omega,Af,Rf,Df,Cf⟩
 case rest=>
  obtain⟨bx,c1,c2,rfl,hbx,Ab,hR,Dc,Cc⟩:=hcut;have zc:=Dc.size;have hcb0:wc.cell? ⟨bx,0,none⟩=some (.int .i64 c1):=Ab.cell 0;have hcb1:wc.cell? ⟨bx,1,none⟩=some (.int .i64 c2):=Ab.cell 1;have hbl:=Ab.lt;have Fc:=Cc.f;have ycw2:=Cc.blk (b:=w.heap.size+1+1) (k:=0) (v:=.int .i64 0) (by simp);rcases hR with⟨rfl,rfl,HTOO⟩|⟨rfl,rfl,g,ls,rfl,hW,hC,hl⟩
  ·have HT1:=lHd HTOO;clear HTOO
   go_wp2_with fail
   have hSS0:wc.drew.cell? ⟨bx,0,none⟩=some (.int .i64 10)/\wc.drew.cell? ⟨bx,1,none⟩=some (.int .i64 (-7)):=⟨hcb0,hcb1⟩;refine xZ4 (fun W=>W.cell? ⟨bx,0,none⟩=some (.int .i64 10)/\W.cell? ⟨bx,1,none⟩=some (.int .i64 (-7))) [] (by kernel_rfl) ?_;have hSS:=hSS0;refine tkK 0 ?_;refine tkK 1 ?_;refine kdo 2 (fun K hK=>?_);go_simp
   go_wp2_with fail
   have hn1:¬bx=w.heap.size+1:=(by omega);have hn2:¬bx=w.heap.size+1+1:=(by omega);have hSS:((((wc.setCell ⟨w.heap.size+1,0,none⟩ (.bool false)).setCell ⟨w.heap.size+1,1,none⟩ (.slice none 0 0)).setCell ⟨w.heap.size+1,2,none⟩ (.int .i64 0)).setCell ⟨w.heap.size+1,3,none⟩ (.int .i64 0)).drew.cell? ⟨bx,0,none⟩=some (.int .i64 10)/\((((wc.setCell ⟨w.heap.size+1,0,none⟩ (.bool false)).setCell ⟨w.heap.size+1,1,none⟩ (.slice none 0 0)).setCell ⟨w.heap.size+1,2,none⟩ (.int .i64 0)).setCell ⟨w.heap.size+1,3,none⟩ (.int .i64 0)).drew.cell? ⟨bx,1,none⟩=some (.int .i64 (-7)):=(by simp[go_sem,hcb0,hcb1]);refine hK.out _ _ hSS ?_;clear hK K
   try simp only[ap]
   refine kdo 3 (fun K hK=>?_);go_simp
   go_wp2_with fail
   have hn1:¬bx=w.heap.size+1:=(by omega);have hn2:¬bx=w.heap.size+1+1:=(by omega);have hSS:((((((wc.setCell ⟨w.heap.size+1,0,none⟩ (.bool false)).setCell ⟨w.heap.size+1,1,none⟩ (.slice none 0 0)).setCell ⟨w.heap.size+1,2,none⟩ (.int .i64 0)).setCell ⟨w.heap.size+1,3,none⟩ (.int .i64 0)).setCell ⟨w.heap.size+1+1,0,none⟩ (.int .i64 10)).setCell ⟨w.heap.size+1+1,1,none⟩ (.int .i64 (-7))).drew.cell? ⟨bx,0,none⟩=some (.int .i64 10)/\((((((wc.setCell ⟨w.heap.size+1,0,none⟩ (.bool false)).setCell ⟨w.heap.size+1,1,none⟩ (.slice none 0 0)).setCell ⟨w.heap.size+1,2,none⟩ (.int .i64 0)).setCell ⟨w.heap.size+1,3,none⟩ (.int .i64 0)).setCell ⟨w.heap.size+1+1,0,none⟩ (.int .i64 10)).setCell ⟨w.heap.size+1+1,1,none⟩ (.int .i64 (-7))).drew.cell? ⟨bx,1,none⟩=some (.int .i64 (-7)):=(by simp[go_sem,hcb0,hcb1]);refine hK.out _ _ hSS ?_;clear hK K
   try simp only[ap]
   refine kdn ?_ _;dsimp only[zVt];go_wp2;refine bodyPost_ret (v:=.tuple #[.agg #[.bool false,.slice none 0 0,.int .i64 0,.int .i64 0],.agg #[.int .i64 10,.int .i64 (-7)]]) ?_ rfl ⟨?_,.inl ⟨rfl,HT1.out⟩⟩
   ·simp[results,results19,go_sem,Fc]
   ·exact mvh
  ·have HC:=lHd hC;have hTc:=hT.below Dc;clear hC
   go_wp2_with fail
   refine(yQ5 _ t Ai Ag Ao ci cg co).mono ?_;rintro e w2 ⟨hb,hhb,rfl,hX,hM,hB2⟩;have hhb1:wc.heap.size<=hb:=by omega
   clear hhb
   go_wp2_with fail
   refine(vK5 (w0:=wc) hW hTc hB2 hX hM hhb1 HN.out HV.out HC.out hl).mono ?_;rintro e w3 ⟨hB3,hR3⟩;have D3:=Dc.trans (hB3.mono (by omega));have C3:=Cls.below hB3 Cc;have hT3:=hT.below D3;have HCO:=lHd (fun o ho=>(HV.out.ops o ho).2);have F3:=C3.f;have y3w2:=C3.blk (b:=w.heap.size+1+1) (k:=0) (v:=.int .i64 0) (by simp);clear hX hM hB2 hW hTc hB3 Cc Ab hcb0 hcb1;rcases hR3 with⟨ne,rfl,hNP⟩|⟨v,ne,l,ps,rfl,⟨B,hBB,hO⟩,hP,hG,hlen,hCh⟩
   ·have HNP:=lHd hNP;clear hNP
    go_wp2_with fail
    refine(zK3 _ t Ai Ag Ao ci cg co (hT3.below bl) none 0 [] (Ints.nil _ none) false ne (by simp) (by simp) (by simp) HCO.out).mono ?_;rintro e w4 ⟨rfl,hB4⟩;have D4:=xJ3 w hB4 bch;have C4:=Cls.below (l:=[(w.heap.size,0,.int .i64 t.facts),(w.heap.size,1,.slice Ai t.init.length ci),(w.heap.size,2,.slice Ag t.goal.length cg),(w.heap.size,3,.slice Ao t.ops.length co),(w.heap.size+1,0,.bool false),(w.heap.size+1,1,.slice none 0 0),(w.heap.size+1,2,.int .i64 0),(w.heap.size+1,3,.int .i64 0),(w.heap.size+1+1,0,.int .i64 0),(w.heap.size+1+1,1,.int .i64 0)]) hB4 (by simp[Cls,go_sem,F3]);have F4:=C4.f;have y4w2:=C4.blk (b:=w.heap.size+1+1) (k:=0) (v:=.int .i64 0) (by simp);rw[show xYo t.ops []=0 from rfl];go_wp2;refine bodyPost_ret (v:=.tuple #[.agg #[.bool false,.slice none 0 0,.int .i64 0,.int .i64 ne],.agg #[.int .i64 0,.int .i64 0]]) ?_ rfl ⟨?_,.inr (.inl ⟨ne,rfl,HNP.out⟩)⟩
    ·simp[results,results19,go_sem,F4]
    ·exact mvh
   ·obtain⟨xs,hxs⟩:∃xs,Hid (xs=ps.map Int.ofNat):=⟨_,rfl⟩;rw[<- hxs.out] at hO;obtain⟨A3,c3,rfl,hnl3,hI3⟩:=hO.form;have HP:=lHd hP;have HG:=lHd hG;have HCH:=lHd hCh;have HRG:Hid (∀x∈xs,0<=x/\x<(t.ops.length:Int)):=by rw[hxs.out];exact hP.rng2
    have hll:Hid (xs.length=ps.length):=by rw[hxs.out];exact zQl _
    have hll1:xs.length<=ps.length/\ps.length<=xs.length:=by have:=hll.out;omega
    clear hP hG hCh
    by_cases h60:60<ps.length
    ·have H60:=lHd h60
     go_wp2_with fail
     refine(vWa _ t Ai Ag Ao ci cg co (hT3.below bl) A3 c3 xs (hI3.below bl) true ne (by omega) (by omega)).mono ?_;rintro e w4 ⟨rfl,hB4⟩;have D4:=xJ3 w hB4 bch;have C4:=Cls.below (l:=[(w.heap.size,0,.int .i64 t.facts),(w.heap.size,1,.slice Ai t.init.length ci),(w.heap.size,2,.slice Ag t.goal.length cg),(w.heap.size,3,.slice Ao t.ops.length co),(w.heap.size+1,0,.bool false),(w.heap.size+1,1,.slice none 0 0),(w.heap.size+1,2,.int .i64 0),(w.heap.size+1,3,.int .i64 0),(w.heap.size+1+1,0,.int .i64 0),(w.heap.size+1+1,1,.int .i64 0)]) hB4 (by simp[Cls,go_sem,F3]);have F4:=C4.f;have y4w2:=C4.blk (b:=w.heap.size+1+1) (k:=0) (v:=.int .i64 0) (by simp);go_wp2;refine bodyPost_ret (v:=.tuple #[.agg #[.bool false,.slice none 0 0,.int .i64 0,.int .i64 0],.agg #[.int .i64 10,.int .i64 (-9)]]) ?_ rfl ⟨?_,.inr (.inr ⟨l,ps,HP.out,HG.out,HCH.out,.inl ⟨H60.out,rfl⟩⟩)⟩
     ·simp[results,results19,go_sem,F4]
     ·exact mvh
    ·go_wp2_with fail
     refine(zK3 _ t Ai Ag Ao ci cg co (hT3.below bl) A3 c3 xs (hI3.below bl) true ne (by omega) (by omega) HRG.out HCO.out).mono ?_;rintro e w4 ⟨rfl,hB4⟩;have D4:=xJ3 w hB4 bch;have C4:=Cls.below (l:=[(w.heap.size,0,.int .i64 t.facts),(w.heap.size,1,.slice Ai t.init.length ci),(w.heap.size,2,.slice Ag t.goal.length cg),(w.heap.size,3,.slice Ao t.ops.length co),(w.heap.size+1,0,.bool false),(w.heap.size+1,1,.slice none 0 0),(w.heap.size+1,2,.int .i64 0),(w.heap.size+1,3,.int .i64 0),(w.heap.size+1+1,0,.int .i64 0),(w.heap.size+1+1,1,.int .i64 0)]) hB4 (by simp[Cls,go_sem,F3]);have hO4:OwnI B w4 (.slice A3 xs.length c3) xs:=by exact OwnI.below hO (Below.trans (b:=w3) (Below.refl _ _) (by exact hB4))
     have F4:=C4.f;have y4w2:=C4.blk (b:=w.heap.size+1+1) (k:=0) (v:=.int .i64 0) (by simp);rw[show xYo t.ops xs=xJ6 (t.ops.map (·.cost)) ps from by rw[hxs.out];exact vKo ps];go_wp2;refine bodyPost_ret (v:=.tuple #[.agg #[.bool true,.slice A3 xs.length c3,.int .i64 (xJ6 (t.ops.map (·.cost)) ps),.int .i64 ne],.agg #[.int .i64 0,.int .i64 0]]) ?_ rfl ⟨?_,.inr (.inr ⟨l,ps,HP.out,HG.out,HCH.out,.inr ⟨by omega,_,ne,rfl,B,by omega,?_⟩⟩)⟩
     ·simp[results,results19,go_sem,F4]
     ·exact mvh
     ·rw[<- hxs.out];refine xW9 (xW9 (xW9 (xW9 (xW9 (xW9 hO4 ?_ _) ?_ _) ?_ _) ?_ _) ?_ _) ?_ _<;>(simp;omega)
end
section
open Go.Shelf
theorem zQf:∀ {m:Nat} {l:List Int},l.Nodup->(∀x∈l,0<=x/\x<(m:Int))->l.length<=m
 |0,l,_,hr=>by
  cases l with
  |nil=>exact Nat.le_refl _
  |cons x l=>have:=hr x (vVp ..);omega
 |m+1,l,hn,hr=>by
  have h1:∀x∈l.erase (m:Int),0<=x/\x<(m:Int):=fun x hx=>by
   obtain⟨h2,h3⟩:=(List.Nodup.mem_erase_iff hn).1 hx;have:=hr x h3;omega
  have h2:=zQf (hn.erase _) h1;have h3:=List.length_erase (a:=(m:Int)) (l:=l)
  split at h3<;>omega
theorem yK3{n:Nat}{ops:List OpV}{st:List Int}{ls:List (List Int)}(hst:SetP st (n:Int))(hn:ls.Nodup)(hr:∀l∈ls,Rch n ops st l):ls.length<=2^n:=by
 have hset:∀l∈ls,SetP l (n:Int):=fun l hl=>by
  have h:=hr l hl
  cases h with
  |init=>exact hst
  |step _ _ _=>exact xJz n _ _
 have h1:(ls.map xJ0).Nodup:=by
  refine List.pairwise_map.2 (List.Pairwise.imp_of_mem (fun {a b} ha hb hab=>?_) hn);exact fun e=>hab (xJp (hset a ha) (hset b hb) e)
 have h2:=zQf (m:=2^n) h1 (fun x hx=>by
  obtain⟨l,hl,rfl⟩:=vWz.1 hx;have h3:=xYd n (hset l hl).nodup (hset l hl).1;have h4:=xYc l;have h5:((2^n:Nat):Int)=2^n:=by simp
  omega)
 simpa using h2
theorem Pth.cst{n:Nat}{ops:List OpV}{st l:List Int}{ps:List Nat}(h:Pth n ops st l ps):Cst n ops st l (xJ6 (ops.map (·.cost)) ps):=by
 induction h with
 |init=>exact .init
 | @step l ps p o _ h2 h3 ih=>rw[xV5,xQ1 h2];exact .step ih h2 h3
theorem zWt{ls:List (List Int)}(h1:ls.Nodup)(h2:ls.length=2001)(h3:∀l∈ls,∃c,Cst 2 xJ1.ops xJ1.init l c):False:=by
 have h:=yK3 (n:=2) (ops:=xJ1.ops) (st:=xJ1.init) (SetP.nil _) h1 (fun l hl=>by obtain⟨c,hc⟩:=h3 l hl;exact hc.rch);omega
theorem yK4:Fp 2 xJ1.ops xJ1.goal xJ1.init [0,1]:=by
 have hs0:xJb 2 [] (⟨[],[0],[],2⟩:OpV)=[0]:=by decide
 have hs1:xJb 2 [0] (⟨[0],[1],[],3⟩:OpV)=[0,1]:=by decide
 refine .cons (o:=⟨[],[0],[],2⟩) rfl (by simp) ?_;show Fp 2 xJ1.ops xJ1.goal (xJb 2 [] _) [1];rw[hs0];refine .cons (o:=⟨[0],[1],[],3⟩) rfl (by simp) ?_;rw[hs1];exact .nil (by simp[xJ1])
theorem zJw:xJ6 (xJ1.ops.map (·.cost)) [0,1]=5:=by decide
theorem vK0(h:zYf 2 xJ1):False:=by
 have:=h _ yK4;rw[zJw] at this;omega
theorem yYh{l:List Int}{ps:List Nat}(h:Pth 2 xJ1.ops xJ1.init l ps)(hg:∀q∈xJ1.goal,q∈l)(hc:yZh 2 xJ1 ps):ps=[0,1]:=by
 have h1:=hc _ yK4 (by rw[zJw];omega);rw[zJw] at h1;obtain⟨d,hd⟩:=zQp (n:=2) (ops:=xJ1.ops) (by decide) xJ1.goal xJ1.init;have hd5:=xWn hd;have h2:=hd.2.2 _ _ h.cst hg;have hF:=h.front (.nil hg);rw[List.append_nil] at hF;have hr:=h.rng;have e0:xJ2 (xJ1.ops.map (·.cost)) (0:Nat)=2:=by decide
 have e1:xJ2 (xJ1.ops.map (·.cost)) (1:Nat)=3:=by decide
 have e9:xJ6 (xJ1.ops.map (·.cost)) []=0:=rfl;simp only[List.length_cons,List.length_nil] at h1;have hr2:∀p∈ps,p=0\/p=1:=fun p hp=>by have h:=hr p hp;have h':p<2:=h;omega
 clear hr
 match ps with
 | []=>rw[e9] at h2;omega
 | [p]=>
  rw[xZ2,e9] at h2;rcases hr2 p (by simp) with rfl|rfl
  ·rw[e0] at h2;omega
  ·rw[e1] at h2;omega
 | [p,q]=>
  rw[xZ2,xZ2,e9] at h2;rcases hr2 p (by simp) with rfl|rfl
  ·rcases hr2 q (by simp) with rfl|rfl
   ·rw[e0] at h2;omega
   ·rfl
  ·cases hF with
   |cons f1 f2 f3=>
    cases f1
    have:=f2 0 (by simp);simp[xJ1] at this
 |p::q::r::ps=>
  simp only[List.length_cons] at h1;omega
theorem xYy(w:World)  :
  Calls prog 6 #[] w fun e w'=>e=.returned (.bool true)/\Below w.heap.size w w':=by
 go_enter func6,ntmps6
 go_wp2_with fail
 refine(xY2 _).mono ?_;rintro e w1 ⟨g,h,rfl,hT1,hB1⟩;have D1:=xJ3 w hB1 bch
 go_wp2_with fail
 refine(zZr _ xJ1 none (some ⟨g,0,none⟩) (some ⟨h,0,none⟩) 0 1 2 (hT1.below bl) 2 rfl xX7).mono ?_;rintro e w2 ⟨hB2,hR2⟩;have D2:=xJ3 w hB2 bch;have hR3:∃d,e=.returned (.tuple #[.int .i64 d,.agg #[.int .i64 0,.int .i64 0]])/\d=5:=by
  rcases hR2 with⟨_,ls,h1,h2,h3⟩|⟨d,h1,h2,_⟩
  ·exact(zWt h1 h2 h3).elim
  ·exact⟨d,h1,xWn h2⟩
 obtain⟨d,rfl,rfl⟩:=hR3;clear hR2
 go_wp2_with fail
 refine(xY2 _).mono ?_;rintro e w3 ⟨g3,h3,rfl,hT3,hB3⟩;have D3:=xJ3 w hB3 bch;have C3:=Cls.below (l:=[(w2.heap.size,0,.int .i64 0),(w2.heap.size,1,.int .i64 0)]) hB3 (by simp[Cls,go_sem]);have F3:=C3.f;have y3w20:=C3.blk (b:=w2.heap.size) (k:=0) (v:=.int .i64 0) (by simp)
 go_wp2_with fail
 refine(yKc _ xJ1 none (some ⟨g3,0,none⟩) (some ⟨h3,0,none⟩) 0 1 2 (hT3.below bl) 2 rfl xX7).mono ?_;rintro e w4 ⟨hB4,hR4⟩;have D4:=xJ3 w hB4 bch;have C4:=Cls.below (l:=[(w2.heap.size,0,.int .i64 0),(w2.heap.size,1,.int .i64 0)]) hB4 (by simp[Cls,go_sem,F3]);have F4:=C4.f;have y4w20:=C4.blk (b:=w2.heap.size) (k:=0) (v:=.int .i64 0) (by simp);have y4w2p1:w2.heap.size<w4.heap.size+1:=(by omega);have hR5:∃(v:Value) (ne:Nat),e=.returned (.tuple #[.agg #[.bool true,v,.int .i64 5,.int .i64 ne],.agg #[.int .i64 0,.int .i64 0]])/\∃B,w3.heap.size<=B/\OwnI B w4 v [0,1]:=by
  rcases hR4 with⟨_,ls,h1,h2,h3⟩|⟨_,_,h1⟩|⟨l,ps,h1,h2,h3,h4⟩
  ·exact(zWt h1 h2 h3).elim
  ·exact(vK0 h1).elim
  ·have h5:=yYh h1 h2 h3;subst h5;rcases h4 with⟨h4,_⟩|⟨_,v,ne,h4,h6⟩
   ·simp at h4
   ·rw[zJw] at h4;exact⟨v,ne,h4,h6⟩
 obtain⟨v,ne,rfl,B,hBB,hO⟩:=hR5;obtain⟨A4,c4,rfl,hnl4,hI4⟩:=hO.form;clear hR4
 go_wp2_with fail
 refine(ints_at A4 _ c4 2 2 [0,1] [0,1] _ (hI4.below bl) ?_ rfl rfl (by omega) true (by decide)).mono ?_
 ·exact yVm (by simp[go_sem]) (by simp[go_sem])
 rintro e w5 ⟨rfl,hB5⟩;have D5:=xJ3 w hB5 bch;go_wp2;refine bodyPost_ret ?_ rfl ⟨rfl,bch⟩;simp[results,results6,go_sem]
end
section
open Go.Shelf
theorem Cst.pth2{n:Nat}{ops:List OpV}{st l:List Int}{c:Int}(h:Cst n ops st l c):∃ps,Pth n ops st l ps/\c=xJ6 (ops.map (·.cost)) ps:=by
 induction h with
 |init=>exact⟨[],.init,rfl⟩
 | @step l c p o _ hp hq ih=>
  obtain⟨ps,h1,h2⟩:=ih;exact⟨ps ++ [p],.step h1 hp hq,by rw[xV5,h2,xQ1 hp]⟩
end
section
open Go.Shelf
theorem uQq{n:Nat}{ops:List OpV}{goal l:List Int}{ps:List Nat}(h:Fp n ops goal l ps):(uZb n ops l (ps.map Int.ofNat)).length=ps.length+1/\∃r,(uZb n ops l (ps.map Int.ofNat))[ps.length]? = some r/\∀q∈goal,q∈r:=by
 induction h with
 |nil hg=>rw[List.map_nil,uZ2];exact⟨rfl,_,rfl,hg⟩
 | @cons l p o ps h1 h2 _ ih=>
  have ho:ops[(Int.ofNat p).toNat]? = some o:=by simpa using h1
  rw[List.map_cons,uZ3 ⟨o,ho,h2⟩,vX7 ho];obtain⟨h3,r,h4,h5⟩:=ih;exact⟨by rw[List.length_cons,h3,List.length_cons],r,by rw[List.length_cons,List.getElem?_cons_succ];exact h4,h5⟩
theorem uQr{n:Nat}{ops:List OpV}{goal st l:List Int}{ps:List Nat}(h:Pth n ops st l ps)(hg:∀q∈goal,q∈l):Fp n ops goal st ps:=by
 have:=h.front (.nil hg)
 rwa [List.append_nil] at this
theorem uZl{n:Nat}{ops:List OpV}{st l:List Int}{c:Int}{V:Int->Int->Int}(hb:PBest n st ops V)(hops:zZ5 n ops)(hst:∀q∈st,Rng n q)(h:Cst n ops st l c){p q:Int}(hp:p∈l)(hq:q∈l):V p q<1000000000:=by
 obtain⟨ps,h1,_⟩:=h.pth2;obtain⟨_,r,h2,h3⟩:=uQq (uQr h1 (fun q hq=>hq:∀q∈l,q∈l));exact hb.together hops hst ps.length r h2 p (h3 p hp) q (h3 q hq)
theorem uZm{n:Nat}{ops:List OpV}{st l:List Int}{c:Int}{V:Int->Int->Int}(hb:PBest n st ops V)(hops:zZ5 n ops)(hst:∀q∈st,Rng n q)(h:Cst n ops st l c){x y:Int}(hx:(x,y)∈uZa n V n):¬(x∈l/\y∈l):=fun hm=>by
 obtain⟨p,q,h1,h2,h3,h4⟩:=uQ7.1 hx;injection h4 with e1 e2
 subst e1;subst e2;have:=uZl hb hops hst h hm.1 hm.2;omega
theorem uQe{s g:List Int}(h:AM s g)(k:Nat):AM s (g.take k):=fun x hx y hy=>h x (List.mem_of_mem_take hx) y (List.mem_of_mem_take hy)
def uZn(s g:List Int)(k:Nat):Nat:=((g.take k).filter fun x=>decide (x∈s)).length
theorem uQf{s g:List Int}(hn:g.Nodup)(h:AM s g)(k:Nat):uZn s g k<=1:=uZc (hn.sublist (List.take_sublist k g)) (uQe h k)
theorem uQ3{s g:List Int}{k:Nat}{x:Int}(hx:g[k]? = some x)(h:x∈s):uZn s g (k+1)=uZn s g k+1:=by
 unfold uZn;rw[vXd,hx,List.filter_append];simp[h]
theorem uQg{s g:List Int}{k:Nat}{x:Int}(hx:g[k]? = some x)(h:¬x∈s):uZn s g (k+1)=uZn s g k:=by
 unfold uZn;rw[vXd,hx,List.filter_append];simp[h]
end
section
open Go.Shelf
theorem vQi{ls:List (List Int)}(h1:ls.Nodup)(h2:ls.length=2001)(h3:∀l∈ls,Rch 2 (xJ1.ops.map rxO) xJ1.init l):False:=by
 have h:=yK3 (n:=2) (SetP.nil _) h1 h3;omega
theorem xWy(w:World)  :
  Calls prog 7 #[] w fun e w'=>e=.returned (.bool true)/\Below w.heap.size w w':=by
 go_enter func7,ntmps7
 go_wp2_with fail
 refine(xY2 _).mono ?_;rintro e w1 ⟨g,h,rfl,hT1,hB1⟩;have D1:=xJ3 w hB1 bch
 go_wp2_with fail
 refine(yJr _ xJ1 none (some ⟨g,0,none⟩) (some ⟨h,0,none⟩) 0 1 2 (hT1.below bl) none 0 [] (Ints.nil _ _) (by simp[lenOk]) 2 rfl xX7 (SetP.nil _)).mono ?_;rintro e w2 ⟨d,c,j,rfl,hR,hB2⟩;have D2:=xJ3 w hB2 bch;have hR2:(c=0/\j=0)/\d=5:=by
  rcases hR with⟨h1,h2,_⟩|⟨_,ls,h1,h2,h3⟩
  ·exact⟨h1,zXn h2⟩
  ·exact(vQi h1 h2 h3).elim
 obtain⟨⟨rfl,rfl⟩,rfl⟩:=hR2;clear hR
 go_wp2_with fail
 refine(xY2 _).mono ?_;rintro e w3 ⟨g3,h3,rfl,hT3,hB3⟩;have D3:=xJ3 w hB3 bch;have C3:=Cls.below (l:=[(w2.heap.size,0,.int .i64 0),(w2.heap.size,1,.int .i64 0)]) hB3 (by simp[Cls,go_sem]);have F3:=C3.f;have y3w20:=C3.blk (b:=w2.heap.size) (k:=0) (v:=.int .i64 0) (by simp)
 go_wp2_with fail
 refine(zYo _ xJ1 none (some ⟨g3,0,none⟩) (some ⟨h3,0,none⟩) 0 1 2 (hT3.below bl) none 0 [] (Ints.nil _ _) (by simp[lenOk]) 2 rfl xX7 (SetP.nil _) vJs).mono ?_;rintro e w4 ⟨xs,hok,hbest,hz,hcase,hB4⟩;have D4:=xJ3 w hB4 bch;have C4:=Cls.below (l:=[(w2.heap.size,0,.int .i64 0),(w2.heap.size,1,.int .i64 0)]) hB4 (by simp[Cls,go_sem,F3]);have F4:=C4.f;have y4w20:=C4.blk (b:=w2.heap.size) (k:=0) (v:=.int .i64 0) (by simp);have hR4:e=.returned (.tuple #[.int .i64 5,.agg #[.int .i64 0,.int .i64 0]]):=by
  rcases hcase with⟨h1,_⟩|⟨h1,c,v,h2,h3⟩
  ·exact absurd h1 (yJk hok)
  ·rw[h2,yJj hok hz (by omega) h3]
 subst hR4;clear hok hbest hz hcase
 go_wp2_with fail
 refine(xY2 _).mono ?_;rintro e w5 ⟨g5,h5,rfl,hT5,hB5⟩;have D5:=xJ3 w hB5 bch;have C5:=Cls.below (l:=[(w2.heap.size,0,.int .i64 0),(w2.heap.size,1,.int .i64 0),(w4.heap.size,0,.int .i64 0),(w4.heap.size,1,.int .i64 0)]) hB5 (by simp[Cls,go_sem,F4,y4w20]);have F5:=C5.f;have y5w20:=C5.blk (b:=w2.heap.size) (k:=0) (v:=.int .i64 0) (by simp);have y5w40:=C5.blk (b:=w4.heap.size) (k:=0) (v:=.int .i64 0) (by simp)
 go_wp2_with fail
 refine(zKd _ xJ1 none (some ⟨g5,0,none⟩) (some ⟨h5,0,none⟩) 0 1 2 (hT5.below bl) 2 rfl xX7 (by decide) (by decide)).mono ?_;rintro e w6 ⟨hB6,hR6⟩;have D6:=xJ3 w hB6 bch;have C6:=Cls.below (l:=[(w2.heap.size,0,.int .i64 0),(w2.heap.size,1,.int .i64 0),(w4.heap.size,0,.int .i64 0),(w4.heap.size,1,.int .i64 0)]) hB6 (by simp[Cls,go_sem,F5]);have F6:=C6.f;have y6w20:=C6.blk (b:=w2.heap.size) (k:=0) (v:=.int .i64 0) (by simp);have y6w2p1:w2.heap.size<w6.heap.size+1:=(by omega);have y6w40:=C6.blk (b:=w4.heap.size) (k:=0) (v:=.int .i64 0) (by simp);have y6w4p1:w4.heap.size<w6.heap.size+1:=(by omega);have hR7:e=.returned (.tuple #[.agg #[.int .i64 5,.int .i64 1],.agg #[.int .i64 0,.int .i64 0]]):=by
  rcases hR6 with⟨_,st,num,den,x,dx,y,dy,r,dr,h1,h2⟩|⟨num,den,x,dx,y,dy,h1,h2⟩
  ·exact absurd (yZ3 h1) h2
  ·obtain⟨rfl,rfl⟩:=vXf h2;exact h1
 subst hR7;clear hR6;go_wp2;refine bodyPost_ret ?_ rfl ⟨rfl,bch⟩;simp[results,results7,go_sem]
end
