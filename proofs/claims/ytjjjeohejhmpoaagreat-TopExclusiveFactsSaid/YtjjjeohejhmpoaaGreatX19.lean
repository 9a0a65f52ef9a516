/-
  Lemmas.
-/
import Derived.Test.YtjjjeohejhmpoaaGreatX17
set_option linter.unusedVariables false
set_option linter.unusedSimpArgs false
set_option maxRecDepth 100000
set_option maxHeartbeats 4000000
namespace Go.Proofs.YtjjjeohejhmpoaaGreat
open Go.RowKit Go.Proofs.Tryz
section
open Go.Shelf
theorem vQ7{t:TaskV}{p x:Int}:x∈xW8 t p↔∃i:Nat,x=(i:Int)/\i<t.ops.length/\yYm t p i:=by
 unfold xW8 xK2;rw[vWz];constructor
 ·rintro⟨i,hi,rfl⟩;rw[List.mem_filter,yYq] at hi;exact⟨i,rfl,hi.1,(@decide_eq_true_iff _ (Classical.propDecidable _)).1 hi.2⟩
 ·rintro⟨i,rfl,h1,h2⟩;refine⟨i,?_,rfl⟩;rw[List.mem_filter,yYq];exact⟨h1,(@decide_eq_true_iff _ (Classical.propDecidable _)).2 h2⟩
theorem yWx{t:TaskV}{p:Int}:∀x∈xW8 t p,0<=x/\x<(t.ops.length:Int):=fun x hx=>by
 obtain⟨i,rfl,h,_⟩:=vQ7.1 hx;omega
def xX2(ops:List OpV)(q:Int):List Int:=ops.map fun o=>-chg o q
def xXx(init:List Int)(q:Int):Int:=if q∈init then 0 else -1
noncomputable def xQr(t:TaskV)(q:Int):List Int:=(List.range t.ops.length).map fun(i:Nat)=>if(i:Int)∈xW8 t q then -1 else 0
noncomputable def xW4(n:Nat)(t:TaskV)(k:Nat):List Int:=((xXd n t).take k).filter fun q=>decide (¬q∈t.init)
def xYm(ops:List OpV):List Int:=ops.map fun o=>-o.cost
noncomputable def xJn(n:Nat)(t:TaskV):List (List Int):=t.goal.map (xX2 t.ops)++(xW4 n t (xXd n t).length).map (xQr t)
noncomputable def xJw(n:Nat)(t:TaskV):List Int:=t.goal.map (xXx t.init)++(xW4 n t (xXd n t).length).map fun _=>-1
noncomputable def lpC(n:Nat)(t:TaskV):LpV:=⟨(xJn n t).take 6,(xJw n t).take 6,xYm t.ops⟩
theorem yXz{ops:List OpV}{k:Nat}{o:OpV}(h:ops[k]? = some o):(xYm ops).take (k+1)=(xYm ops).take k ++ [-o.cost]:=by
 unfold xYm;rw[vXd,vQ4,h];rfl
theorem xVi(ops:List OpV):(xYm ops).length=ops.length:=zQl _
theorem yYe{n:Nat}{t:TaskV}{k:Nat}{q:Int}(h:(xXd n t)[k]? = some q)(hq:q∈t.init):xW4 n t (k+1)=xW4 n t k:=by
 unfold xW4;rw[vXd,h];simp[hq]
theorem yWy{n:Nat}{t:TaskV}{k:Nat}{q:Int}(h:(xXd n t)[k]? = some q)(hq:¬q∈t.init):xW4 n t (k+1)=xW4 n t k ++ [q]:=by
 unfold xW4;rw[vXd,h];simp[hq]
theorem vQ8(n:Nat)(t:TaskV)(k:Nat):(xW4 n t k).length<=k:=by
 unfold xW4;exact yJ1 (List.length_filter_le _ _) (by rw[List.length_take];omega)
theorem zZ8(t:TaskV)(q:Int):(xQr t q).length=t.ops.length:=by unfold xQr;simp
theorem zY9{t:TaskV}{q:Int}{i:Nat}(h:i<t.ops.length):(xQr t q)[i]? = some (if(i:Int)∈xW8 t q then -1 else 0):=by
 unfold xQr;rw[vQ4,List.getElem?_range h];rfl
theorem xJh{α β:Type}{f:α->β}{xs:List α}{k:Nat}{x:α}(h:xs[k]? = some x):(xs.take (k+1)).map f=(xs.take k).map f ++ [f x]:=by
 rw[vXd,h];simp
def ProgP(n:Nat)(t:TaskV)(w:World)(e:Ending)(w':World):Prop:=Below w.heap.size w w'/\∃(ar ab ao:Option Addr) (nr nb no cr cb co:Nat),e=.returned (.tuple #[.agg #[.slice ar nr cr,.slice ab nb cb,.slice ao no co],.agg #[.int .i64 0,.int .i64 0]])/\LpMem w' ar ab ao (lpC n t)/\nr=(lpC n t).rows.length/\nb=(lpC n t).bounds.length/\no=(lpC n t).obj.length
structure PSt(w0:World)(b:Nat)(live:List (Nat×Nat×Value))(y:World)(c0 c1 vo vr vb:Value)(R:List (List Int))(Bd Ob:List Int):Prop where
 A:Arr y b 61 [c0,c1,vo]
 L:LPR (b+1) y vr vb vo R Bd Ob
 D:Below w0.heap.size w0 y
 C:Cls y live
 lv:∀x∈live,x.1<b
 hw:w0.heap.size<=b
theorem Arr.put0{w:World}{g:Nat}{e:TypeId}{a:Value}{l:List Value}(h:Arr w g e (a::l))(u:Value):Arr (w.setCell ⟨g,0,none⟩ u) g e (u::l):=h.set_ 0 u
theorem Arr.c1{w:World}{g:Nat}{e:TypeId}{a b:Value}{l:List Value}(h:Arr w g e (a::b::l)):w.cell? ⟨g,1,none⟩=some b:=h.cell 1
theorem xZg{w x:World}{o:Obj}{g:Nat}{e:TypeId}{xs:List Value}(h:Hid (w=x.alloc o))(p:Arr x g e xs):Arr w g e xs:=by rw[h.out];exact p.alloc _
theorem xJs{w x:World}{e:TypeId}{v:Value}(h:Hid (w=x.alloc (.cells #[v] e))):Arr w x.heap.size e [v]:=by rw[h.out];exact Arr.new x _ _
theorem xZ6{w x:World}{o:Obj}(h:Hid (w=x.alloc o)):x.heap.size<w.heap.size:=by rw[h.out];simp
section
variable {w0 y y':World}{b:Nat}{live:List (Nat×Nat×Value)}{c0 c1 vo vr vb:Value}{R:List (List Int)}{Bd Ob:List Int}
theorem PSt.ss(h:PSt w0 b live y c0 c1 vo vr vb R Bd Ob):y.cell? ⟨b,0,none⟩=some c0/\y.cell? ⟨b,1,none⟩=some c1:=⟨h.A.cell 0,h.A.cell 1⟩
theorem PSt.al(h:PSt w0 b live y c0 c1 vo vr vb R Bd Ob){o:Obj}(e:Hid (y'=y.alloc o)):PSt w0 b live y' c0 c1 vo vr vb R Bd Ob:=by
 rw[e.out];exact⟨h.A.alloc _,h.L.alloc _,h.D.alloc h.D.size _,Cls.below ((Below.refl _ _).alloc (Nat.le_refl _) _) h.C,h.lv,h.hw⟩
theorem PSt.up(h:PSt w0 b live y c0 c1 vo vr vb R Bd Ob){e:TypeId}{n:Nat}{v vr' vb':Value}{xs:List Value}{R':List (List Int)}{Bd':List Int}(hr:y.ownsRow (b+1) e 1 v n xs)(hg:y.grownBy y' v.ownBlock)(ht:61≠e)(L':LPR (b+1) y' vr' vb' vo R' Bd' Ob):PSt w0 b live y' c0 c1 vo vr' vb' R' Bd' Ob:=
 ⟨Arr.by_row hr hg h.A ht,L',Below.by_row hg hr h.D.size (Nat.le_succ_of_le h.hw) h.D,h.C.grown hr hg (fun x hx=>Nat.lt_succ_of_lt (h.lv x hx)),h.lv,h.hw⟩
theorem PSt.fin(h:PSt w0 b live y c0 c1 vo vr vb R Bd Ob):Arr ((y.setCell ⟨b,0,none⟩ vr).setCell ⟨b,1,none⟩ vb) b 61 [vr,vb,vo]/\LPR (b+1) ((y.setCell ⟨b,0,none⟩ vr).setCell ⟨b,1,none⟩ vb) vr vb vo R Bd Ob/\Below w0.heap.size w0 ((y.setCell ⟨b,0,none⟩ vr).setCell ⟨b,1,none⟩ vb)/\Cls ((y.setCell ⟨b,0,none⟩ vr).setCell ⟨b,1,none⟩ vb) live:=by
 have A8:=h.A.put0 vr;have BF:Below b y ((y.setCell ⟨b,0,none⟩ vr).setCell ⟨b,1,none⟩ vb):=((Below.refl _ _).setCell (by simp) _).setCell (by simp) _;exact⟨A8.set_ 1 _,(h.L.set_ _ h.A rfl (by decide) (by decide)).set_ _ A8 rfl (by decide) (by decide),h.D.trans (BF.mono h.hw),Cls.low2 h.C BF h.lv⟩
end
theorem vYu(w:World)(t:TaskV)(Ai Ag Ao:Option Addr)(ci cg co:Nat)(hT:TaskMem w Ai Ag Ao t)(n:Nat)(hn:t.facts=n)(hv:Valid t)(h6:t.ops.length<=6)(hcc:∀o∈t.ops,o.cost<=20) :
  Calls prog 23 #[.agg #[.int .i64 t.facts,.slice Ai t.init.length ci,.slice Ag t.goal.length cg,.slice Ao t.ops.length co]] w ((ProgP n t w)):=by
 have HNC:=lHd hcc;clear hcc;have HT0:=lHd (xZ9 hv);have HN:=lHd hn;have HV:=lHd hv;have hlo:=hT.lops;have HGL:Hid (t.goal.length<=24):=by have h:=hv.goal.length (by have:=hv.f0;omega);have h2:=hv.f1;show t.goal.length<=24;omega
 clear hv hn;go_enter func23,ntmps23
 go_wp2_with fail
 refine(xXq _ _ _ _ _ _ _ _ (hT.below bch)).mono ?_;rintro e w1 ⟨he,hB1⟩;rw[HT0.out] at he;subst he;have D1:=xJ3 w hB1 bch;have C1:=Cls.below (l:=[(w.heap.size,0,.int .i64 t.facts),(w.heap.size,1,.slice Ai t.init.length ci),(w.heap.size,2,.slice Ag t.goal.length cg),(w.heap.size,3,.slice Ao t.ops.length co),(w.heap.size+1,0,.slice none 0 0),(w.heap.size+1,1,.slice none 0 0),(w.heap.size+1,2,.slice none 0 0),(w.heap.size+1+1,0,.int .i64 0),(w.heap.size+1+1,1,.int .i64 0)]) hB1 (by simp[Cls,go_sem]);have F1:=C1.f;have y1w2:=C1.b 7;have y1w1:w.heap.size+1<w1.heap.size:=(by omega);have y1w0:w.heap.size<w1.heap.size:=(by omega)
 go_wp2_with fail
 refine(xV1 _ _ t.ops 65 #[] _ _ (hT.ops.below bch) hlo xKg (zJ2 _ _) false ⟨(fun h=>by cases h),(fun h=>by obtain⟨o,h1,h2⟩:=h;have:=HNC.out o h1;simp at h2;omega)⟩).mono ?_;rintro e w2 ⟨rfl,hB2⟩;have D2:=xJ3 w hB2 bch;have d2s:=D2.size;have C2:=Cls.below (l:=[(w.heap.size,0,.int .i64 t.facts),(w.heap.size,1,.slice Ai t.init.length ci),(w.heap.size,2,.slice Ag t.goal.length cg),(w.heap.size,3,.slice Ao t.ops.length co),(w.heap.size+1,0,.slice none 0 0),(w.heap.size+1,1,.slice none 0 0),(w.heap.size+1,2,.slice none 0 0),(w.heap.size+1+1,0,.int .i64 0),(w.heap.size+1+1,1,.int .i64 0),(w1.heap.size,0,.int .i64 0),(w1.heap.size,1,.int .i64 0)]) hB2 (by simp[Cls,go_sem,F1,y1w2,y1w1,y1w0]);have F2:=C2.f;have y2w2:=C2.b 7;have y2w1:w.heap.size+1<w2.heap.size:=(by omega);have y2w0:w.heap.size<w2.heap.size:=(by omega);have y2w10:=C2.b 9;have hbp0:Arr (w2.alloc (.cells #[.slice none 0 0,.slice none 0 0,.slice none 0 0] 61)) w2.heap.size 61 [.slice none 0 0,.slice none 0 0,.slice none 0 0]:=Arr.new w2 _ _;go_wp2
 go_loopw [44] (fun i wr=>∃(k:Nat) (vo:Value),k<=t.ops.length/\i=.int .i64 k/\Arr wr w2.heap.size 61 [.slice none 0 0,.slice none 0 0,vo]/\LPR (w2.heap.size+1) wr (.slice none 0 0) (.slice none 0 0) vo [] [] ((xYm t.ops).take k)/\Below w.heap.size w wr/\Cls wr [(w.heap.size,0,.int .i64 t.facts),(w.heap.size,1,.slice Ai t.init.length ci),(w.heap.size,2,.slice Ag t.goal.length cg),(w.heap.size,3,.slice Ao t.ops.length co),(w.heap.size+1,0,.slice none 0 0),(w.heap.size+1,1,.slice none 0 0),(w.heap.size+1,2,.slice none 0 0),(w.heap.size+1+1,0,.int .i64 0),(w.heap.size+1+1,1,.int .i64 0),(w1.heap.size,0,.int .i64 0),(w1.heap.size,1,.int .i64 0)]) (fun i _=>t.ops.length-(intOf i).toNat)
 case atStart=>exact⟨0,.slice none 0 0,zKk _,rfl,hbp0,LPR.nil _ _,bch,(by simp[Cls,go_sem,F2,y2w2,y2w1,y2w0,y2w10])⟩
 case round=>
  obtain⟨k,vo,hk,rfl,hA,hL,hBr,hCr⟩:=hrel;have hcA0:=hA.cell 0;have hcA2:wr.cell? ⟨w2.heap.size,2,none⟩=some vo:=hA.cell 2;have hlA:=hA.lt;have Fr:=hCr.f;have yrw2:=hCr.blk (b:=w.heap.size+1+1) (k:=0) (v:=.int .i64 0) (by simp);have yrw0:w.heap.size<wr.heap.size:=(by omega);have yrw10:=hCr.blk (b:=w1.heap.size) (k:=0) (v:=.int .i64 0) (by simp)
  by_cases hlt:k<t.ops.length
  ·obtain⟨ad,o,A0,c0,A3,c3,A4,c4,rfl,ho,hc0,hc1,hc2,hc3,hm⟩:=hT.ops.at2 hBr hlt;have HTK:=lHd (yXz ho.out);have hoc:=(HV.out.ops o (lMg ho.out)).2;have hob:=zQ2 wr _ hc0;have hln:Hid (((xYm t.ops).take k).length=k):=by show _=_;rw[List.length_take,xVi];omega
   have hrow:((wr.alloc (.cells #[.slice A0 o.pre.length c0,.slice A3 o.add.length c3,.slice A4 o.del.length c4,.int .i64 o.cost] 89)).alloc (.cells #[.int .i64 (-o.cost)] 3)).ownsRow (w2.heap.size+1) 3 1 vo ((xYm t.ops).take k).length (IV ((xYm t.ops).take k)):=(hL.os.alloc _).alloc _;have hA5:Arr ((wr.alloc (.cells #[.slice A0 o.pre.length c0,.slice A3 o.add.length c3,.slice A4 o.del.length c4,.int .i64 o.cost] 89)).alloc (.cells #[.int .i64 (-o.cost)] 3)) w2.heap.size 61 [.slice none 0 0,.slice none 0 0,vo]:=(hA.alloc _).alloc _;have hC5:Cls ((wr.alloc (.cells #[.slice A0 o.pre.length c0,.slice A3 o.add.length c3,.slice A4 o.del.length c4,.int .i64 o.cost] 89)).alloc (.cells #[.int .i64 (-o.cost)] 3)) [(w.heap.size,0,.int .i64 t.facts),(w.heap.size,1,.slice Ai t.init.length ci),(w.heap.size,2,.slice Ag t.goal.length cg),(w.heap.size,3,.slice (some ad) t.ops.length co),(w.heap.size+1,0,.slice none 0 0),(w.heap.size+1,1,.slice none 0 0),(w.heap.size+1,2,.slice none 0 0),(w.heap.size+1+1,0,.int .i64 0),(w.heap.size+1+1,1,.int .i64 0),(w1.heap.size,0,.int .i64 0),(w1.heap.size,1,.int .i64 0)]:=Cls.below ((((Below.refl _ _).alloc (Nat.le_refl _) _)).alloc (by simp) _) hCr;have hD5:Below w.heap.size w ((wr.alloc (.cells #[.slice A0 o.pre.length c0,.slice A3 o.add.length c3,.slice A4 o.del.length c4,.int .i64 o.cost] 89)).alloc (.cells #[.int .i64 (-o.cost)] 3)):=mvk;rw[hln.out] at hrow
   go_wp2_with (at_builtin;refine zJ8 rfl (.tmp 49) (.tmp 53) 22 3 (.int .i64 0) 8 underlying22 xZd rfl (by decide) rfl (w2.heap.size+1) vo k (IV ((xYm t.ops).take k)) (.int .i64 (-o.cost)) rfl rfl hrow _ 1 rfl ?p1 ?p2 ?p3 ?_;(case p1=>simp[go_sem]);(case p2=>omega);(case p3=>(simp;omega));intro g6 c6 w6 hO6 hg6 hat6;have hA6:Arr w6 w2.heap.size 61 [.slice none 0 0,.slice none 0 0,vo]:=mvk;have hcA6:w6.cell? ⟨w2.heap.size,2,none⟩=some vo:=hA6.cell 2;have hfA6:=hA6.free 2;have hC6:Cls w6 [(w.heap.size,0,.int .i64 t.facts),(w.heap.size,1,.slice Ai t.init.length ci),(w.heap.size,2,.slice Ag t.goal.length cg),(w.heap.size,3,.slice (some ad) t.ops.length co),(w.heap.size+1,0,.slice none 0 0),(w.heap.size+1,1,.slice none 0 0),(w.heap.size+1,2,.slice none 0 0),(w.heap.size+1+1,0,.int .i64 0),(w.heap.size+1+1,1,.int .i64 0),(w1.heap.size,0,.int .i64 0),(w1.heap.size,1,.int .i64 0)]:=hC5.grown hrow hg6 (by simp;omega);have hD6:Below w.heap.size w w6:=Below.by_row hg6 hrow (by simp;omega) (by omega) hD5)
   have hB6:Below w2.heap.size w6 (w6.setCell ⟨w2.heap.size,2,none⟩ (.slice (some ⟨g6,0,none⟩) (k+1) c6)):=(Below.refl _ _).setCell (by simp) _;have hO6':w6.ownsRow (w2.heap.size+1) 3 1 (.slice (some ⟨g6,0,none⟩) (k+1) c6) (((xYm t.ops).take k).length+1) (IV ((xYm t.ops).take k) ++ [.int .i64 (-o.cost)]):=by rw[hln.out];exact hO6
   go_roundw
   case rel=>exact⟨k+1,_,by omega,by go_num,hA6.set_ 2 _,by rw[HTK.out];exact hL.pushO (xY0 hO6' _ hA6 rfl (by decide)),hD6.trans (hB6.mono (by omega)),Cls.low2 hC6 hB6 (by simp;omega)⟩
   case measure=>simp[intOf];omega
  ·have HTK:Hid ((xYm t.ops).take k=xYm t.ops):=lHd (zQd (by rw[xVi];omega));rw[HTK.out] at hL;have hmk:=xQu t.ops.length (by omega);go_wp2
   go_loopw [60] (fun i wr=>∃(k:Nat) (vr vb:Value),k<=t.goal.length/\i=.int .i64 k/\Arr wr w2.heap.size 61 [vr,vb,vo]/\LPR (w2.heap.size+1) wr vr vb vo ((t.goal.take k).map (xX2 t.ops)) ((t.goal.take k).map (xXx t.init)) (xYm t.ops)/\Below w.heap.size w wr/\Cls wr [(w.heap.size,0,.int .i64 t.facts),(w.heap.size,1,.slice Ai t.init.length ci),(w.heap.size,2,.slice Ag t.goal.length cg),(w.heap.size,3,.slice Ao t.ops.length co),(w.heap.size+1,0,.slice none 0 0),(w.heap.size+1,1,.slice none 0 0),(w.heap.size+1,2,.slice none 0 0),(w.heap.size+1+1,0,.int .i64 0),(w.heap.size+1+1,1,.int .i64 0),(w1.heap.size,0,.int .i64 0),(w1.heap.size,1,.int .i64 0)]) (fun i _=>t.goal.length-(intOf i).toNat)
   case atStart=>exact⟨0,.slice none 0 0,.slice none 0 0,zKk _,rfl,hA,hL,hBr,hCr⟩
   case round=>
    clear hA hL hcA0 hcA2 hlA HTK hk hlt hBr hCr Fr;clear yrw2 yrw0 yrw10;obtain⟨k,vr,vb,hk,rfl,hA,hL,hBr,hCr⟩:=hrel;obtain⟨wo,rfl⟩:∃wo:World,wo=wr:=⟨_,rfl⟩;have hlA:=hA.lt;have Fr:=hCr.f;have yrw2:=hCr.blk (b:=w.heap.size+1+1) (k:=0) (v:=.int .i64 0) (by simp);have yrw0:w.heap.size<wo.heap.size:=(by omega);have yrw10:=hCr.blk (b:=w1.heap.size) (k:=0) (v:=.int .i64 0) (by simp)
    by_cases hlt:k<t.goal.length
    ·obtain⟨gd,q,rfl,hx,hxc⟩:=(hT.goal.below hBr).at_ hlt;have hnl:=hL.blk;go_wp2
     go_loopw [71] (fun i w3=>∃(j:Nat) (xs:List Int),j<=t.ops.length/\i=.int .i64 j/\Arr w3 wo.heap.size 3 (IV xs)/\xs.length=t.ops.length/\Hid (∀i,i<j->xs[i]? = (xX2 t.ops q)[i]?)/\Below wo.heap.size wo w3) (fun i _=>t.ops.length-(intOf i).toNat)
     case atStart=>exact⟨0,List.replicate t.ops.length 0,zKk _,rfl,by unfold IV;rw[List.map_replicate];exact Arr.new wo _ _,by simp,lHd (fun i h=>by omega),(Below.refl _ _).alloc (Nat.le_refl _) _⟩
     case round=>
      obtain⟨j,xs,hj,rfl,hG,hxl,hup,hB3⟩:=hrel;obtain⟨w3,rfl⟩:∃wo:World,wo=wr:=⟨_,rfl⟩;have z3:=hB3.size;have zr:=hBr.size;have D3:=hBr.trans (hB3.mono (by omega));have C3:=Cls.below hB3 hCr;have hGl:=hG.lt;have F3:=C3.f;have y3w2:=C3.blk (b:=w.heap.size+1+1) (k:=0) (v:=.int .i64 0) (by simp);have y3w10:=C3.blk (b:=w1.heap.size) (k:=0) (v:=.int .i64 0) (by simp)
      by_cases hjl:j<t.ops.length
      ·obtain⟨ad,o,A0,c0,A3,c3,A4,c4,rfl,ho,hc0,hc1,hc2,hc3,hm⟩:=hT.ops.at2 D3 hjl;have hob:=zQ2 w3 _ hc0;have hxj:xs[j]? = some xs[j]:=lGe (by omega);obtain⟨x0,hx0⟩:∃x,xs[j]? = some x:=⟨_,hxj⟩;have hcb : -1<=chg o q/\chg o q<=1:=by unfold chg;split<;>(try split)<;>omega
       go_wp2_with (go_at_call 66;refine(vQx _ o A0 A3 A4 c0 c3 c4 (hm.below mvk) q).mono ?_;rintro e w5 ⟨rfl,hB5⟩;have hG5:Arr w5 wo.heap.size 3 (IV xs):=Arr.below mvk hB5;have hc5:w5.cell? ⟨wo.heap.size,j,none⟩=some (.int .i64 x0):=(hG5.cell j).trans (by unfold IV;rw[vQ4,hx0];rfl);have hf5:=hG5.free j;have hl5:=hG5.lt;have z5:=hB5.size)
       go_roundw
       case rel=>
        refine⟨j+1,xs.set j (-(chg o q)),by omega,by go_num,?_,by simp[hxl],lHd (fun i hi=>?_),?_⟩
        ·have h:=hG5.set_ j (.int .i64 (-(chg o q)));have e:IV (xs.set j (-(chg o q)))=(IV xs).set j (.int .i64 (-(chg o q))):=by unfold IV;rw[List.map_set]
         rw[e];exact h
        ·by_cases hij:i=j
         ·subst hij;rw[List.getElem?_set_self (by omega)];unfold xX2;rw[vQ4,ho.out];rfl
         ·rw[List.getElem?_set_ne (fun e=>hij e.symm)];exact hup.out i (by omega)
        ·have h1:Below wo.heap.size wo w5:=hB3.trans (Below.trans (b:=w3.alloc (.cells #[.slice A0 o.pre.length c0,.slice A3 o.add.length c3,.slice A4 o.del.length c4,.int .i64 o.cost] 89)) mvk (hB5.mono (by simp;omega)));exact h1.setCell (by simp) _
       case measure=>simp[intOf];omega
      ·have hrowE:Hid (xs=xX2 t.ops q):=by
        refine List.ext_getElem? (fun i=>?_);rcases vVq i t.ops.length with h|h
        ·exact hup.out i (by omega)
        ·rw[vXn (by omega),vXn (by unfold xX2;rw[zQl];omega)]
       clear hup;have hrl0:Hid ((xX2 t.ops q).length=t.ops.length):=by show _=_;unfold xX2;exact zQl _
       have hgl0:Hid (((t.goal.take k).map (xX2 t.ops)).length=k/\((t.goal.take k).map (xXx t.init)).length=k):=by refine⟨?_,?_⟩<;>(rw[zQl,List.length_take];omega)
       rw[hrowE.out] at hG;have hA3:=hA.below hB3;have hL3:=hL.below hB3;have hgn24:=HGL.out;obtain⟨il0,hil0,hql⟩:=vYt.1 xZy;simp only[Prod.mk.injEq] at hql;obtain⟨ii0,hii0,hqi⟩:=vYt.1 xZd;simp only[Prod.mk.injEq] at hqi;have hgne:vb.ownBlock≠some wo.heap.size:=fun e=>by have:=hnl _ e;omega
       by_cases hqi2:q∈t.init
       ·have hv:decide (q∈t.init)=true:=by simp[hqi2]
        have hgb:Hid (xXx t.init q=0):=by show _=_;unfold xXx;simp[hqi2]
        clear hqi2
        go_wp2_with (go_at_call 67;refine(xJ9 _ _ _ _ _ _ (hT.init.below D3) hT.linit.le hv).mono ?_;rintro e w9 ⟨rfl,hW⟩;rw[hW];clear hW w9)
        obtain⟨ys,hys⟩:∃x,Hid (x=w3.drew):=⟨_,rfl⟩;have A0:Arr ys w2.heap.size 61 [vr,vb,vo]:=by rw[hys.out];exact hA3.drew
        have L0:LPR (w2.heap.size+1) ys vr vb vo ((t.goal.take k).map (xX2 t.ops)) ((t.goal.take k).map (xXx t.init)) (xYm t.ops):=by rw[hys.out];exact hL3.drew
        have G0:Arr ys wo.heap.size 3 (IV (xX2 t.ops q)):=by rw[hys.out];exact hG.drew
        have D0:Below w.heap.size w ys:=by rw[hys.out];exact mvk
        have C0:Cls ys [(w.heap.size,0,.int .i64 t.facts),(w.heap.size,1,.slice Ai t.init.length ci),(w.heap.size,2,.slice (some gd) t.goal.length cg),(w.heap.size,3,.slice Ao t.ops.length co),(w.heap.size+1,0,.slice none 0 0),(w.heap.size+1,1,.slice none 0 0),(w.heap.size+1,2,.slice none 0 0),(w.heap.size+1+1,0,.int .i64 0),(w.heap.size+1+1,1,.int .i64 0),(w1.heap.size,0,.int .i64 0),(w1.heap.size,1,.int .i64 0)]:=by rw[hys.out];exact C3
        have z0:w3.heap.size<=ys.heap.size:=by rw[hys.out];exact Nat.le_refl _
        have hrl:=hrl0;have hlr:=hgl0.out.1;have hlb:=hgl0.out.2;have S0:=PSt.mk A0 L0 D0 C0 (by simp;omega) (by omega);have hSS:=S0.ss;refine xZ3 (fun W=>W.cell? ⟨w2.heap.size,0,none⟩=some vr/\W.cell? ⟨w2.heap.size,1,none⟩=some vb) [11,13] (by kernel_rfl) ?_;rw[<- hys.out];refine tk0 0 ?_;refine tkK 1 ?_;refine tk0 2 ?_;refine tk0 5 ?_;refine tkK 6 ?_;refine tk0 7 ?_;refine xQ7 (i:=3) (j:=8) (by kernel_rfl) rfl rfl (fun K hK=>?ap1c7) (fun K hK=>?bp1c7)
        case ap1c7=>
         go_simp
         go_wp2_with fail
         obtain⟨yp18,hyp18⟩:∃x,Hid (x=ys.alloc (.cells #[.slice (some ⟨wo.heap.size,0,none⟩) t.ops.length t.ops.length] 22)):=⟨_,rfl⟩;rw[<- hyp18.out];have Syp18:=S0.al hyp18;have Gyp18:=xZg hyp18 G0;have nryp18:=xJs hyp18;have zyp18:=xZ6 hyp18;have hSS:=Syp18.ss;refine hK.out _ _ hSS ?_;clear hK K
         try simp only[ap]
         refine xQ7 (i:=4) (j:=8) (by kernel_rfl) rfl rfl (fun K hK=>?ap1c9) (fun K hK=>?bp1c9)
         case ap1c9=>
          obtain⟨⟨cells,r1,r2⟩,r3,r4,r5⟩:=Syp18.L;have r1k:yp18.ownsRow (w2.heap.size+1) 22 1 vr k cells:=by have h:=r1;rw[hlr] at h;exact h
          refine xJ7 (w:=yp18) rfl (.tmp 89) (.tmp 91) 42 rfl (w2.heap.size+1) 22 il0 (.slice none 0 0) 1 24 underlying42 hil0 hql.1 hql.2.1 hql.2.2 rfl (by decide) vr k cells rfl r1k ⟨ys.heap.size,0,none⟩ 1 1 [.slice (some ⟨wo.heap.size,0,none⟩) t.ops.length t.ops.length] rfl rfl (xJa (nryp18.cell 0)) (by simp[Value.oneCell']) (by simp only[maxLen];omega) (by omega) (by omega) ?_;intro vyp110 yp110 hryp110 hgyp110 _ hatyp110;have zyp110:=hgyp110.size;have Syp110:=Syp18.up r1 hgyp110 (by decide) (LPR.pushR (r:=xX2 t.ops q) r1 r2 r3 r4 r5 (by rw[hlr,hrl.out];exact hryp110) hgyp110 Gyp18 (by omega) hgne (by rw[hrl.out];omega));have hSS:=Syp110.ss;refine hK.out _ _ hSS ?_;clear hK K
          try simp only[ap]
          refine tk0 10 ?_;refine kdo 8 (fun K hK=>?_);go_simp
          go_wp2_with fail
          obtain⟨yp112,hyp112⟩:∃x,Hid (x=yp110.alloc (.cells #[.int .i64 0] 3)):=⟨_,rfl⟩;rw[<- hyp112.out];have Syp112:=Syp110.al hyp112;have nbyp112:=xJs hyp112;have zyp112:=xZ6 hyp112;have hSS:=Syp112.ss;refine hK.out _ _ hSS ?_;clear hK K
          try simp only[ap]
          refine kdo 9 (fun K hK=>?_);have hbsyp113:=Syp112.L.bs;have hbkyp113:yp112.ownsRow (w2.heap.size+1) 3 1 vb k (IV ((t.goal.take k).map (xXx t.init))):=by have h:=hbsyp113;rw[hlb] at h;exact h
          refine xJ7 (w:=yp112) rfl (.tmp 94) (.tmp 96) 22 rfl (w2.heap.size+1) 3 ii0 (.int .i64 0) 1 8 underlying22 hii0 hqi.1 hqi.2.1 hqi.2.2 rfl (by decide) vb k (IV ((t.goal.take k).map (xXx t.init))) rfl hbkyp113 ⟨yp110.heap.size,0,none⟩ 1 1 [.int .i64 0] rfl rfl (xJa (nbyp112.cell 0)) (by simp[Value.oneCell']) (by simp only[maxLen];omega) (by omega) (by omega) ?_;intro vyp113 yp113 hryp113 hgyp113 _ hatyp113;have Syp113:=Syp112.up hbsyp113 hgyp113 (by decide) (Syp112.L.pushB (by rw[hlb];exact hryp113) hgyp113 hatyp113);have hSS:=Syp113.ss;refine hK.out _ _ hSS ?_;clear hK K
          try simp only[ap]
          obtain⟨gR,cR,hvR⟩:=ownsRow_succ hryp110;obtain⟨gB,cB,hvB⟩:=ownsRow_succ hryp113;subst hvR;subst hvB;refine kla 11 (fun K hK=>?_);have hc0:=Syp113.ss.1;have hf0:=Syp113.A.free 0;go_simp
          go_wp2_with fail
          refine hK.out _ _ ?_;clear hK K
          try simp only[ap]
          have A8:=Syp113.A.put0 (.slice (some ⟨gR,0,none⟩) (k+1) cR);have hc1:=A8.c1;have hf1:=A8.free 1;refine xJt (i:=12) (v:=?vp1x14) rfl (by kernel_rfl) (by kernel_rfl) (by kernel_rfl) (by kernel_rfl) (by kernel_rfl) (fun _ _ _ h=>h) (Or.inl ⟨by rfl,?hp1x14⟩) (by kernel_rfl) ?rp1x14
          case hp1x14=>(intro w hSw;(try dsimp only at hSw);go_simp;(try with_reducible rfl))
          try simp only[ap]
          refine kla 13 (fun K hK=>?_);go_simp
          go_wp2_with fail
          refine hK.out _ _ ?_;clear hK K
          try simp only[ap]
          refine kdn ?_ _;obtain⟨AF,LF,DF,CF⟩:=Syp113.fin;go_wp2
          go_roundw
          case rel=>exact⟨k+1,_,_,by omega,by go_num,AF,by rw[xJh hx.out,xJh hx.out,hgb.out];exact LF,DF,CF⟩
          case measure=>simp[intOf];omega
         case bp1c9=>
          go_simp
          go_wp2_with fail
          obtain⟨yp115,hyp115⟩:∃x,Hid (x=yp18.alloc (.cells #[.int .i64 0] 3)):=⟨_,rfl⟩;rw[<- hyp115.out];have Syp115:=Syp18.al hyp115;have Gyp115:=xZg hyp115 Gyp18;have nryp115:=xZg hyp115 nryp18;have nbyp115:=xJs hyp115;have zyp115:=xZ6 hyp115;have hSS:=Syp115.ss;refine hK.out _ _ hSS ?_;clear hK K
          try simp only[ap]
          refine kdo 4 (fun K hK=>?_);obtain⟨⟨cells,r1,r2⟩,r3,r4,r5⟩:=Syp115.L;have r1k:yp115.ownsRow (w2.heap.size+1) 22 1 vr k cells:=by have h:=r1;rw[hlr] at h;exact h
          refine xJ7 (w:=yp115) rfl (.tmp 89) (.tmp 91) 42 rfl (w2.heap.size+1) 22 il0 (.slice none 0 0) 1 24 underlying42 hil0 hql.1 hql.2.1 hql.2.2 rfl (by decide) vr k cells rfl r1k ⟨ys.heap.size,0,none⟩ 1 1 [.slice (some ⟨wo.heap.size,0,none⟩) t.ops.length t.ops.length] rfl rfl (xJa (nryp115.cell 0)) (by simp[Value.oneCell']) (by simp only[maxLen];omega) (by omega) (by omega) ?_;intro vyp116 yp116 hryp116 hgyp116 _ hatyp116;have zyp116:=hgyp116.size;have Syp116:=Syp115.up r1 hgyp116 (by decide) (LPR.pushR (r:=xX2 t.ops q) r1 r2 r3 r4 r5 (by rw[hlr,hrl.out];exact hryp116) hgyp116 Gyp115 (by omega) hgne (by rw[hrl.out];omega));have nbyp116:=Arr.by_row r1 hgyp116 nbyp115 (by decide);have hSS:=Syp116.ss;refine hK.out _ _ hSS ?_;clear hK K
          try simp only[ap]
          refine tk0 10 ?_;refine kdo 9 (fun K hK=>?_);have hbsyp118:=Syp116.L.bs;have hbkyp118:yp116.ownsRow (w2.heap.size+1) 3 1 vb k (IV ((t.goal.take k).map (xXx t.init))):=by have h:=hbsyp118;rw[hlb] at h;exact h
          refine xJ7 (w:=yp116) rfl (.tmp 94) (.tmp 96) 22 rfl (w2.heap.size+1) 3 ii0 (.int .i64 0) 1 8 underlying22 hii0 hqi.1 hqi.2.1 hqi.2.2 rfl (by decide) vb k (IV ((t.goal.take k).map (xXx t.init))) rfl hbkyp118 ⟨yp18.heap.size,0,none⟩ 1 1 [.int .i64 0] rfl rfl (xJa (nbyp116.cell 0)) (by simp[Value.oneCell']) (by simp only[maxLen];omega) (by omega) (by omega) ?_;intro vyp118 yp118 hryp118 hgyp118 _ hatyp118;have Syp118:=Syp116.up hbsyp118 hgyp118 (by decide) (Syp116.L.pushB (by rw[hlb];exact hryp118) hgyp118 hatyp118);have hSS:=Syp118.ss;refine hK.out _ _ hSS ?_;clear hK K
          try simp only[ap]
          obtain⟨gR,cR,hvR⟩:=ownsRow_succ hryp116;obtain⟨gB,cB,hvB⟩:=ownsRow_succ hryp118;subst hvR;subst hvB;refine kla 11 (fun K hK=>?_);have hc0:=Syp118.ss.1;have hf0:=Syp118.A.free 0;go_simp
          go_wp2_with fail
          refine hK.out _ _ ?_;clear hK K
          try simp only[ap]
          have A8:=Syp118.A.put0 (.slice (some ⟨gR,0,none⟩) (k+1) cR);have hc1:=A8.c1;have hf1:=A8.free 1;refine xJt (i:=12) (v:=?vp1x19) rfl (by kernel_rfl) (by kernel_rfl) (by kernel_rfl) (by kernel_rfl) (by kernel_rfl) (fun _ _ _ h=>h) (Or.inl ⟨by rfl,?hp1x19⟩) (by kernel_rfl) ?rp1x19
          case hp1x19=>(intro w hSw;(try dsimp only at hSw);go_simp;(try with_reducible rfl))
          try simp only[ap]
          refine kla 13 (fun K hK=>?_);go_simp
          go_wp2_with fail
          refine hK.out _ _ ?_;clear hK K
          try simp only[ap]
          refine kdn ?_ _;obtain⟨AF,LF,DF,CF⟩:=Syp118.fin;go_wp2
          go_roundw
          case rel=>exact⟨k+1,_,_,by omega,by go_num,AF,by rw[xJh hx.out,xJh hx.out,hgb.out];exact LF,DF,CF⟩
          case measure=>simp[intOf];omega
        case bp1c7=>
         go_simp
         go_wp2_with fail
         obtain⟨yp120,hyp120⟩:∃x,Hid (x=ys.alloc (.cells #[.int .i64 0] 3)):=⟨_,rfl⟩;rw[<- hyp120.out];have Syp120:=S0.al hyp120;have Gyp120:=xZg hyp120 G0;have nbyp120:=xJs hyp120;have zyp120:=xZ6 hyp120;have hSS:=Syp120.ss;refine hK.out _ _ hSS ?_;clear hK K
         try simp only[ap]
         refine kdo 3 (fun K hK=>?_);go_simp
         go_wp2_with fail
         obtain⟨yp121,hyp121⟩:∃x,Hid (x=yp120.alloc (.cells #[.slice (some ⟨wo.heap.size,0,none⟩) t.ops.length t.ops.length] 22)):=⟨_,rfl⟩;rw[<- hyp121.out];have Syp121:=Syp120.al hyp121;have Gyp121:=xZg hyp121 Gyp120;have nbyp121:=xZg hyp121 nbyp120;have nryp121:=xJs hyp121;have zyp121:=xZ6 hyp121;have hSS:=Syp121.ss;refine hK.out _ _ hSS ?_;clear hK K
         try simp only[ap]
         refine kdo 4 (fun K hK=>?_);obtain⟨⟨cells,r1,r2⟩,r3,r4,r5⟩:=Syp121.L;have r1k:yp121.ownsRow (w2.heap.size+1) 22 1 vr k cells:=by have h:=r1;rw[hlr] at h;exact h
         refine xJ7 (w:=yp121) rfl (.tmp 89) (.tmp 91) 42 rfl (w2.heap.size+1) 22 il0 (.slice none 0 0) 1 24 underlying42 hil0 hql.1 hql.2.1 hql.2.2 rfl (by decide) vr k cells rfl r1k ⟨yp120.heap.size,0,none⟩ 1 1 [.slice (some ⟨wo.heap.size,0,none⟩) t.ops.length t.ops.length] rfl rfl (xJa (nryp121.cell 0)) (by simp[Value.oneCell']) (by simp only[maxLen];omega) (by omega) (by omega) ?_;intro vyp122 yp122 hryp122 hgyp122 _ hatyp122;have zyp122:=hgyp122.size;have Syp122:=Syp121.up r1 hgyp122 (by decide) (LPR.pushR (r:=xX2 t.ops q) r1 r2 r3 r4 r5 (by rw[hlr,hrl.out];exact hryp122) hgyp122 Gyp121 (by omega) hgne (by rw[hrl.out];omega));have nbyp122:=Arr.by_row r1 hgyp122 nbyp121 (by decide);have hSS:=Syp122.ss;refine hK.out _ _ hSS ?_;clear hK K
         try simp only[ap]
         refine tk0 10 ?_;refine kdo 9 (fun K hK=>?_);have hbsyp124:=Syp122.L.bs;have hbkyp124:yp122.ownsRow (w2.heap.size+1) 3 1 vb k (IV ((t.goal.take k).map (xXx t.init))):=by have h:=hbsyp124;rw[hlb] at h;exact h
         refine xJ7 (w:=yp122) rfl (.tmp 94) (.tmp 96) 22 rfl (w2.heap.size+1) 3 ii0 (.int .i64 0) 1 8 underlying22 hii0 hqi.1 hqi.2.1 hqi.2.2 rfl (by decide) vb k (IV ((t.goal.take k).map (xXx t.init))) rfl hbkyp124 ⟨ys.heap.size,0,none⟩ 1 1 [.int .i64 0] rfl rfl (xJa (nbyp122.cell 0)) (by simp[Value.oneCell']) (by simp only[maxLen];omega) (by omega) (by omega) ?_;intro vyp124 yp124 hryp124 hgyp124 _ hatyp124;have Syp124:=Syp122.up hbsyp124 hgyp124 (by decide) (Syp122.L.pushB (by rw[hlb];exact hryp124) hgyp124 hatyp124);have hSS:=Syp124.ss;refine hK.out _ _ hSS ?_;clear hK K
         try simp only[ap]
         obtain⟨gR,cR,hvR⟩:=ownsRow_succ hryp122;obtain⟨gB,cB,hvB⟩:=ownsRow_succ hryp124;subst hvR;subst hvB;refine kla 11 (fun K hK=>?_);have hc0:=Syp124.ss.1;have hf0:=Syp124.A.free 0;go_simp
         go_wp2_with fail
         refine hK.out _ _ ?_;clear hK K
         try simp only[ap]
         have A8:=Syp124.A.put0 (.slice (some ⟨gR,0,none⟩) (k+1) cR);have hc1:=A8.c1;have hf1:=A8.free 1;refine xJt (i:=12) (v:=?vp1x25) rfl (by kernel_rfl) (by kernel_rfl) (by kernel_rfl) (by kernel_rfl) (by kernel_rfl) (fun _ _ _ h=>h) (Or.inl ⟨by rfl,?hp1x25⟩) (by kernel_rfl) ?rp1x25
         case hp1x25=>(intro w hSw;(try dsimp only at hSw);go_simp;(try with_reducible rfl))
         try simp only[ap]
         refine kla 13 (fun K hK=>?_);go_simp
         go_wp2_with fail
         refine hK.out _ _ ?_;clear hK K
         try simp only[ap]
         refine kdn ?_ _;obtain⟨AF,LF,DF,CF⟩:=Syp124.fin;go_wp2
         go_roundw
         case rel=>exact⟨k+1,_,_,by omega,by go_num,AF,by rw[xJh hx.out,xJh hx.out,hgb.out];exact LF,DF,CF⟩
         case measure=>simp[intOf];omega
       ·have hv:decide (q∈t.init)=false:=by simp[hqi2]
        have hgb:Hid (xXx t.init q=(-1)):=by show _=_;unfold xXx;simp[hqi2]
        clear hqi2
        go_wp2_with (go_at_call 67;refine(xJ9 _ _ _ _ _ _ (hT.init.below D3) hT.linit.le hv).mono ?_;rintro e w9 ⟨rfl,hW⟩;rw[hW];clear hW w9)
        obtain⟨ys,hys⟩:∃x,Hid (x=w3.drew):=⟨_,rfl⟩;have A0:Arr ys w2.heap.size 61 [vr,vb,vo]:=by rw[hys.out];exact hA3.drew
        have L0:LPR (w2.heap.size+1) ys vr vb vo ((t.goal.take k).map (xX2 t.ops)) ((t.goal.take k).map (xXx t.init)) (xYm t.ops):=by rw[hys.out];exact hL3.drew
        have G0:Arr ys wo.heap.size 3 (IV (xX2 t.ops q)):=by rw[hys.out];exact hG.drew
        have D0:Below w.heap.size w ys:=by rw[hys.out];exact mvk
        have C0:Cls ys [(w.heap.size,0,.int .i64 t.facts),(w.heap.size,1,.slice Ai t.init.length ci),(w.heap.size,2,.slice (some gd) t.goal.length cg),(w.heap.size,3,.slice Ao t.ops.length co),(w.heap.size+1,0,.slice none 0 0),(w.heap.size+1,1,.slice none 0 0),(w.heap.size+1,2,.slice none 0 0),(w.heap.size+1+1,0,.int .i64 0),(w.heap.size+1+1,1,.int .i64 0),(w1.heap.size,0,.int .i64 0),(w1.heap.size,1,.int .i64 0)]:=by rw[hys.out];exact C3
        have z0:w3.heap.size<=ys.heap.size:=by rw[hys.out];exact Nat.le_refl _
        have hrl:=hrl0;have hlr:=hgl0.out.1;have hlb:=hgl0.out.2;have S0:=PSt.mk A0 L0 D0 C0 (by simp;omega) (by omega);have hSS:=S0.ss;refine xZ3 (fun W=>W.cell? ⟨w2.heap.size,0,none⟩=some vr/\W.cell? ⟨w2.heap.size,1,none⟩=some vb) [11,13] (by kernel_rfl) ?_;rw[<- hys.out];refine tk0 0 ?_;refine tkK 1 ?_;refine tk0 2 ?_;refine tk0 5 ?_;refine tkK 6 ?_;refine tk0 7 ?_;refine xQ7 (i:=3) (j:=8) (by kernel_rfl) rfl rfl (fun K hK=>?ap2c7) (fun K hK=>?bp2c7)
        case ap2c7=>
         go_simp
         go_wp2_with fail
         obtain⟨yp28,hyp28⟩:∃x,Hid (x=ys.alloc (.cells #[.slice (some ⟨wo.heap.size,0,none⟩) t.ops.length t.ops.length] 22)):=⟨_,rfl⟩;rw[<- hyp28.out];have Syp28:=S0.al hyp28;have Gyp28:=xZg hyp28 G0;have nryp28:=xJs hyp28;have zyp28:=xZ6 hyp28;have hSS:=Syp28.ss;refine hK.out _ _ hSS ?_;clear hK K
         try simp only[ap]
         refine xQ7 (i:=4) (j:=8) (by kernel_rfl) rfl rfl (fun K hK=>?ap2c9) (fun K hK=>?bp2c9)
         case ap2c9=>
          obtain⟨⟨cells,r1,r2⟩,r3,r4,r5⟩:=Syp28.L;have r1k:yp28.ownsRow (w2.heap.size+1) 22 1 vr k cells:=by have h:=r1;rw[hlr] at h;exact h
          refine xJ7 (w:=yp28) rfl (.tmp 89) (.tmp 91) 42 rfl (w2.heap.size+1) 22 il0 (.slice none 0 0) 1 24 underlying42 hil0 hql.1 hql.2.1 hql.2.2 rfl (by decide) vr k cells rfl r1k ⟨ys.heap.size,0,none⟩ 1 1 [.slice (some ⟨wo.heap.size,0,none⟩) t.ops.length t.ops.length] rfl rfl (xJa (nryp28.cell 0)) (by simp[Value.oneCell']) (by simp only[maxLen];omega) (by omega) (by omega) ?_;intro vyp210 yp210 hryp210 hgyp210 _ hatyp210;have zyp210:=hgyp210.size;have Syp210:=Syp28.up r1 hgyp210 (by decide) (LPR.pushR (r:=xX2 t.ops q) r1 r2 r3 r4 r5 (by rw[hlr,hrl.out];exact hryp210) hgyp210 Gyp28 (by omega) hgne (by rw[hrl.out];omega));have hSS:=Syp210.ss;refine hK.out _ _ hSS ?_;clear hK K
          try simp only[ap]
          refine tk0 10 ?_;refine kdo 8 (fun K hK=>?_);go_simp
          go_wp2_with fail
          obtain⟨yp212,hyp212⟩:∃x,Hid (x=yp210.alloc (.cells #[.int .i64 (-1)] 3)):=⟨_,rfl⟩;rw[<- hyp212.out];have Syp212:=Syp210.al hyp212;have nbyp212:=xJs hyp212;have zyp212:=xZ6 hyp212;have hSS:=Syp212.ss;refine hK.out _ _ hSS ?_;clear hK K
          try simp only[ap]
          refine kdo 9 (fun K hK=>?_);have hbsyp213:=Syp212.L.bs;have hbkyp213:yp212.ownsRow (w2.heap.size+1) 3 1 vb k (IV ((t.goal.take k).map (xXx t.init))):=by have h:=hbsyp213;rw[hlb] at h;exact h
          refine xJ7 (w:=yp212) rfl (.tmp 94) (.tmp 96) 22 rfl (w2.heap.size+1) 3 ii0 (.int .i64 0) 1 8 underlying22 hii0 hqi.1 hqi.2.1 hqi.2.2 rfl (by decide) vb k (IV ((t.goal.take k).map (xXx t.init))) rfl hbkyp213 ⟨yp210.heap.size,0,none⟩ 1 1 [.int .i64 (-1)] rfl rfl (xJa (nbyp212.cell 0)) (by simp[Value.oneCell']) (by simp only[maxLen];omega) (by omega) (by omega) ?_;intro vyp213 yp213 hryp213 hgyp213 _ hatyp213;have Syp213:=Syp212.up hbsyp213 hgyp213 (by decide) (Syp212.L.pushB (by rw[hlb];exact hryp213) hgyp213 hatyp213);have hSS:=Syp213.ss;refine hK.out _ _ hSS ?_;clear hK K
          try simp only[ap]
          obtain⟨gR,cR,hvR⟩:=ownsRow_succ hryp210;obtain⟨gB,cB,hvB⟩:=ownsRow_succ hryp213;subst hvR;subst hvB;refine kla 11 (fun K hK=>?_);have hc0:=Syp213.ss.1;have hf0:=Syp213.A.free 0;go_simp
          go_wp2_with fail
          refine hK.out _ _ ?_;clear hK K
          try simp only[ap]
          have A8:=Syp213.A.put0 (.slice (some ⟨gR,0,none⟩) (k+1) cR);have hc1:=A8.c1;have hf1:=A8.free 1;refine xJt (i:=12) (v:=?vp2x14) rfl (by kernel_rfl) (by kernel_rfl) (by kernel_rfl) (by kernel_rfl) (by kernel_rfl) (fun _ _ _ h=>h) (Or.inl ⟨by rfl,?hp2x14⟩) (by kernel_rfl) ?rp2x14
          case hp2x14=>(intro w hSw;(try dsimp only at hSw);go_simp;(try with_reducible rfl))
          try simp only[ap]
          refine kla 13 (fun K hK=>?_);go_simp
          go_wp2_with fail
          refine hK.out _ _ ?_;clear hK K
          try simp only[ap]
          refine kdn ?_ _;obtain⟨AF,LF,DF,CF⟩:=Syp213.fin;go_wp2
          go_roundw
          case rel=>exact⟨k+1,_,_,by omega,by go_num,AF,by rw[xJh hx.out,xJh hx.out,hgb.out];exact LF,DF,CF⟩
          case measure=>simp[intOf];omega
         case bp2c9=>
          go_simp
          go_wp2_with fail
          obtain⟨yp215,hyp215⟩:∃x,Hid (x=yp28.alloc (.cells #[.int .i64 (-1)] 3)):=⟨_,rfl⟩;rw[<- hyp215.out];have Syp215:=Syp28.al hyp215;have Gyp215:=xZg hyp215 Gyp28;have nryp215:=xZg hyp215 nryp28;have nbyp215:=xJs hyp215;have zyp215:=xZ6 hyp215;have hSS:=Syp215.ss;refine hK.out _ _ hSS ?_;clear hK K
          try simp only[ap]
          refine kdo 4 (fun K hK=>?_);obtain⟨⟨cells,r1,r2⟩,r3,r4,r5⟩:=Syp215.L;have r1k:yp215.ownsRow (w2.heap.size+1) 22 1 vr k cells:=by have h:=r1;rw[hlr] at h;exact h
          refine xJ7 (w:=yp215) rfl (.tmp 89) (.tmp 91) 42 rfl (w2.heap.size+1) 22 il0 (.slice none 0 0) 1 24 underlying42 hil0 hql.1 hql.2.1 hql.2.2 rfl (by decide) vr k cells rfl r1k ⟨ys.heap.size,0,none⟩ 1 1 [.slice (some ⟨wo.heap.size,0,none⟩) t.ops.length t.ops.length] rfl rfl (xJa (nryp215.cell 0)) (by simp[Value.oneCell']) (by simp only[maxLen];omega) (by omega) (by omega) ?_;intro vyp216 yp216 hryp216 hgyp216 _ hatyp216;have zyp216:=hgyp216.size;have Syp216:=Syp215.up r1 hgyp216 (by decide) (LPR.pushR (r:=xX2 t.ops q) r1 r2 r3 r4 r5 (by rw[hlr,hrl.out];exact hryp216) hgyp216 Gyp215 (by omega) hgne (by rw[hrl.out];omega));have nbyp216:=Arr.by_row r1 hgyp216 nbyp215 (by decide);have hSS:=Syp216.ss;refine hK.out _ _ hSS ?_;clear hK K
          try simp only[ap]
          refine tk0 10 ?_;refine kdo 9 (fun K hK=>?_);have hbsyp218:=Syp216.L.bs;have hbkyp218:yp216.ownsRow (w2.heap.size+1) 3 1 vb k (IV ((t.goal.take k).map (xXx t.init))):=by have h:=hbsyp218;rw[hlb] at h;exact h
          refine xJ7 (w:=yp216) rfl (.tmp 94) (.tmp 96) 22 rfl (w2.heap.size+1) 3 ii0 (.int .i64 0) 1 8 underlying22 hii0 hqi.1 hqi.2.1 hqi.2.2 rfl (by decide) vb k (IV ((t.goal.take k).map (xXx t.init))) rfl hbkyp218 ⟨yp28.heap.size,0,none⟩ 1 1 [.int .i64 (-1)] rfl rfl (xJa (nbyp216.cell 0)) (by simp[Value.oneCell']) (by simp only[maxLen];omega) (by omega) (by omega) ?_;intro vyp218 yp218 hryp218 hgyp218 _ hatyp218;have Syp218:=Syp216.up hbsyp218 hgyp218 (by decide) (Syp216.L.pushB (by rw[hlb];exact hryp218) hgyp218 hatyp218);have hSS:=Syp218.ss;refine hK.out _ _ hSS ?_;clear hK K
          try simp only[ap]
          obtain⟨gR,cR,hvR⟩:=ownsRow_succ hryp216;obtain⟨gB,cB,hvB⟩:=ownsRow_succ hryp218;subst hvR;subst hvB;refine kla 11 (fun K hK=>?_);have hc0:=Syp218.ss.1;have hf0:=Syp218.A.free 0;go_simp
          go_wp2_with fail
          refine hK.out _ _ ?_;clear hK K
          try simp only[ap]
          have A8:=Syp218.A.put0 (.slice (some ⟨gR,0,none⟩) (k+1) cR);have hc1:=A8.c1;have hf1:=A8.free 1;refine xJt (i:=12) (v:=?vp2x19) rfl (by kernel_rfl) (by kernel_rfl) (by kernel_rfl) (by kernel_rfl) (by kernel_rfl) (fun _ _ _ h=>h) (Or.inl ⟨by rfl,?hp2x19⟩) (by kernel_rfl) ?rp2x19
          case hp2x19=>(intro w hSw;(try dsimp only at hSw);go_simp;(try with_reducible rfl))
          try simp only[ap]
          refine kla 13 (fun K hK=>?_);go_simp
          go_wp2_with fail
          refine hK.out _ _ ?_;clear hK K
          try simp only[ap]
          refine kdn ?_ _;obtain⟨AF,LF,DF,CF⟩:=Syp218.fin;go_wp2
          go_roundw
          case rel=>exact⟨k+1,_,_,by omega,by go_num,AF,by rw[xJh hx.out,xJh hx.out,hgb.out];exact LF,DF,CF⟩
          case measure=>simp[intOf];omega
        case bp2c7=>
         go_simp
         go_wp2_with fail
         obtain⟨yp220,hyp220⟩:∃x,Hid (x=ys.alloc (.cells #[.int .i64 (-1)] 3)):=⟨_,rfl⟩;rw[<- hyp220.out];have Syp220:=S0.al hyp220;have Gyp220:=xZg hyp220 G0;have nbyp220:=xJs hyp220;have zyp220:=xZ6 hyp220;have hSS:=Syp220.ss;refine hK.out _ _ hSS ?_;clear hK K
         try simp only[ap]
         refine kdo 3 (fun K hK=>?_);go_simp
         go_wp2_with fail
         obtain⟨yp221,hyp221⟩:∃x,Hid (x=yp220.alloc (.cells #[.slice (some ⟨wo.heap.size,0,none⟩) t.ops.length t.ops.length] 22)):=⟨_,rfl⟩;rw[<- hyp221.out];have Syp221:=Syp220.al hyp221;have Gyp221:=xZg hyp221 Gyp220;have nbyp221:=xZg hyp221 nbyp220;have nryp221:=xJs hyp221;have zyp221:=xZ6 hyp221;have hSS:=Syp221.ss;refine hK.out _ _ hSS ?_;clear hK K
         try simp only[ap]
         refine kdo 4 (fun K hK=>?_);obtain⟨⟨cells,r1,r2⟩,r3,r4,r5⟩:=Syp221.L;have r1k:yp221.ownsRow (w2.heap.size+1) 22 1 vr k cells:=by have h:=r1;rw[hlr] at h;exact h
         refine xJ7 (w:=yp221) rfl (.tmp 89) (.tmp 91) 42 rfl (w2.heap.size+1) 22 il0 (.slice none 0 0) 1 24 underlying42 hil0 hql.1 hql.2.1 hql.2.2 rfl (by decide) vr k cells rfl r1k ⟨yp220.heap.size,0,none⟩ 1 1 [.slice (some ⟨wo.heap.size,0,none⟩) t.ops.length t.ops.length] rfl rfl (xJa (nryp221.cell 0)) (by simp[Value.oneCell']) (by simp only[maxLen];omega) (by omega) (by omega) ?_;intro vyp222 yp222 hryp222 hgyp222 _ hatyp222;have zyp222:=hgyp222.size;have Syp222:=Syp221.up r1 hgyp222 (by decide) (LPR.pushR (r:=xX2 t.ops q) r1 r2 r3 r4 r5 (by rw[hlr,hrl.out];exact hryp222) hgyp222 Gyp221 (by omega) hgne (by rw[hrl.out];omega));have nbyp222:=Arr.by_row r1 hgyp222 nbyp221 (by decide);have hSS:=Syp222.ss;refine hK.out _ _ hSS ?_;clear hK K
         try simp only[ap]
         refine tk0 10 ?_;refine kdo 9 (fun K hK=>?_);have hbsyp224:=Syp222.L.bs;have hbkyp224:yp222.ownsRow (w2.heap.size+1) 3 1 vb k (IV ((t.goal.take k).map (xXx t.init))):=by have h:=hbsyp224;rw[hlb] at h;exact h
         refine xJ7 (w:=yp222) rfl (.tmp 94) (.tmp 96) 22 rfl (w2.heap.size+1) 3 ii0 (.int .i64 0) 1 8 underlying22 hii0 hqi.1 hqi.2.1 hqi.2.2 rfl (by decide) vb k (IV ((t.goal.take k).map (xXx t.init))) rfl hbkyp224 ⟨ys.heap.size,0,none⟩ 1 1 [.int .i64 (-1)] rfl rfl (xJa (nbyp222.cell 0)) (by simp[Value.oneCell']) (by simp only[maxLen];omega) (by omega) (by omega) ?_;intro vyp224 yp224 hryp224 hgyp224 _ hatyp224;have Syp224:=Syp222.up hbsyp224 hgyp224 (by decide) (Syp222.L.pushB (by rw[hlb];exact hryp224) hgyp224 hatyp224);have hSS:=Syp224.ss;refine hK.out _ _ hSS ?_;clear hK K
         try simp only[ap]
         obtain⟨gR,cR,hvR⟩:=ownsRow_succ hryp222;obtain⟨gB,cB,hvB⟩:=ownsRow_succ hryp224;subst hvR;subst hvB;refine kla 11 (fun K hK=>?_);have hc0:=Syp224.ss.1;have hf0:=Syp224.A.free 0;go_simp
         go_wp2_with fail
         refine hK.out _ _ ?_;clear hK K
         try simp only[ap]
         have A8:=Syp224.A.put0 (.slice (some ⟨gR,0,none⟩) (k+1) cR);have hc1:=A8.c1;have hf1:=A8.free 1;refine xJt (i:=12) (v:=?vp2x25) rfl (by kernel_rfl) (by kernel_rfl) (by kernel_rfl) (by kernel_rfl) (by kernel_rfl) (fun _ _ _ h=>h) (Or.inl ⟨by rfl,?hp2x25⟩) (by kernel_rfl) ?rp2x25
         case hp2x25=>(intro w hSw;(try dsimp only at hSw);go_simp;(try with_reducible rfl))
         try simp only[ap]
         refine kla 13 (fun K hK=>?_);go_simp
         go_wp2_with fail
         refine hK.out _ _ ?_;clear hK K
         try simp only[ap]
         refine kdn ?_ _;obtain⟨AF,LF,DF,CF⟩:=Syp224.fin;go_wp2
         go_roundw
         case rel=>exact⟨k+1,_,_,by omega,by go_num,AF,by rw[xJh hx.out,xJh hx.out,hgb.out];exact LF,DF,CF⟩
         case measure=>simp[intOf];omega
    ·have HTK2:Hid (t.goal.take k=t.goal):=lHd (zQd (by omega));rw[HTK2.out] at hL;have hnr:∀k,vr.ownBlock=some k->k<wo.heap.size:=fun k hk=>by obtain⟨cells,h,_⟩:=hL.rs;exact(h.lt k hk).2
     have hnb:=hL.blk
     go_wp2_with fail
     go_at_call 21;refine(yQp _ t Ai Ag Ao ci cg co (hT.below hBr) n HN.out HV.out).mono ?_;rintro e w6 ⟨vL,rfl,hLO,hB6⟩;have D6:=xJ3 w hB6 bch;have d6s:=D6.size;have C6:=Cls.below (l:=[(w.heap.size,0,.int .i64 t.facts),(w.heap.size,1,.slice Ai t.init.length ci),(w.heap.size,2,.slice Ag t.goal.length cg),(w.heap.size,3,.slice Ao t.ops.length co),(w.heap.size+1,0,.slice none 0 0),(w.heap.size+1,1,.slice none 0 0),(w.heap.size+1,2,.slice none 0 0),(w.heap.size+1+1,0,.int .i64 0),(w.heap.size+1+1,1,.int .i64 0),(w1.heap.size,0,.int .i64 0),(w1.heap.size,1,.int .i64 0)]) hB6 (by simp[Cls,go_sem,Fr]);have F6:=C6.f;have y6w2:=C6.b 7;have y6w1:w.heap.size+1<w6.heap.size:=(by omega);have y6w0:w.heap.size<w6.heap.size:=(by omega);have y6w10:=C6.b 9;obtain⟨AL,cL,rfl,hnL,hIL⟩:=hLO.form;have hA6:=hA.below hB6;have hL6:=hL.below hB6;have z6:=hB6.size
     go_wp2_with fail
     go_at_call 68;refine(vJ2 _ t Ai Ag Ao ci cg co (hT.below bch) n HN.out HV.out).mono ?_;rintro e w7 ⟨vA,rfl,⟨BA,hBA,hAO⟩,hB7⟩;have D7:=xJ3 w hB7 bch;have C7:=Cls.below (l:=[(w.heap.size,0,.int .i64 t.facts),(w.heap.size,1,.slice Ai t.init.length ci),(w.heap.size,2,.slice Ag t.goal.length cg),(w.heap.size,3,.slice Ao t.ops.length co),(w.heap.size+1,0,.slice none 0 0),(w.heap.size+1,1,.slice none 0 0),(w.heap.size+1,2,.slice none 0 0),(w.heap.size+1+1,0,.int .i64 0),(w.heap.size+1+1,1,.int .i64 0),(w1.heap.size,0,.int .i64 0),(w1.heap.size,1,.int .i64 0),(w6.heap.size,0,.int .i64 0),(w6.heap.size,1,.int .i64 0)]) hB7 (by simp[Cls,go_sem,F6,y6w2,y6w1,y6w0,y6w10]);have F7:=C7.f;have y7w2:=C7.b 7;have y7w10:=C7.b 9;have y7w60:=C7.b 11;obtain⟨AA,cA,rfl⟩:=hAO.form;have hB67:Below w6.heap.size w6 w7:=Below.trans (b:=w6.alloc (.cells #[.int .i64 0,.int .i64 0] 28)) mvk (hB7.mono (by simp));have hA7:=hA6.below hB67;have hL7:=hL6.below hB67;have hI7:=hIL.below hB67;have hF7:=(Arr.new w6 28 [.int .i64 0,.int .i64 0]).below hB7;have hAl:∀ad,AL=some ad->wo.heap.size<=ad.block/\ad.block<w6.heap.size:=fun ad e=>by subst e;exact hLO.blk_ ad rfl
     have hll:=zK8 n t;have hll24:Hid ((xXd n t).length<=24):=by have:=HV.out.f1;have:=HN.out;show(xXd n t).length<=24;omega
     have hln:Hid (((xXd n t).map (xW8 t)).length=(xXd n t).length):=zQl _;rw[hln.out];obtain⟨w8,hw8⟩:∃x,Hid (x=(w7.setCell ⟨w6.heap.size,0,none⟩ (.int .i64 0)).setCell ⟨w6.heap.size,1,none⟩ (.int .i64 0)):=⟨_,rfl⟩;have hB78:Below w6.heap.size w7 w8:=by rw[hw8.out];exact((Below.refl _ _).setCell (by simp) _).setCell (by simp) _
     have hF8:Arr (w7.setCell ⟨w6.heap.size,0,none⟩ (.int .i64 0)) w6.heap.size 28 [.int .i64 0,.int .i64 0]:=hF7.set_ 0 _;have hA8:Arr w8 w2.heap.size 61 [vr,vb,vo]:=by rw[hw8.out];exact(hA7.far2 _ hF7 rfl (by decide)).far2 _ hF8 rfl (by decide)
     have hL8:LPR (w2.heap.size+1) w8 vr vb vo (t.goal.map (xX2 t.ops)) (t.goal.map (xXx t.init)) (xYm t.ops):=by rw[hw8.out];exact(hL7.set_ _ hF7 rfl (by decide) (by decide)).set_ _ hF8 rfl (by decide) (by decide)
     have z8:=hB78.size;have D8:=D7.trans (hB78.mono (by omega));have C8:=Cls.low2 (Cls.below hB67 (Cls.below hB6 hCr)) hB78 (by simp;omega);have hr1:OutR wo.heap.size w8.heap.size vr:=OutR.low hnr;have hr2:OutR wo.heap.size w8.heap.size vb:=OutR.low hnb;have hI8:=((Mid.refl wo.heap.size w6.heap.size w7).below hB78 (Nat.le_refl _)).ints hI7 hAl;have hR8:ReadM wo.heap.size w8.heap.size w8 AA ((xXd n t).map (xW8 t)):=((yVp (lo:=w6.heap.size+1) (hi:=w8.heap.size) hAO (by simp at hBA;omega) (by omega)).mid (by rw[hw8.out];exact((Mid.refl _ _ w7).set_ (.inl (by simp)) _).set_ (.inl (by simp)) _)).mono (by omega);have hAl8:∀ad,AL=some ad->wo.heap.size<=ad.block/\ad.block<w8.heap.size:=fun ad e=>by have:=hAl ad e;omega
     go_wp2;rw[<- hw8.out]
     go_loopw [123] (fun i wr=>∃(k:Nat) (vr vb:Value),k<=(xXd n t).length/\i=.int .i64 k/\Arr wr w2.heap.size 61 [vr,vb,vo]/\LPR (w2.heap.size+1) wr vr vb vo (t.goal.map (xX2 t.ops)++(xW4 n t k).map (xQr t)) (t.goal.map (xXx t.init)++(xW4 n t k).map fun _=>-1) (xYm t.ops)/\Mid wo.heap.size w8.heap.size w8 wr/\OutR wo.heap.size w8.heap.size vr/\OutR wo.heap.size w8.heap.size vb/\Below w.heap.size w wr/\Cls wr [(w.heap.size,0,.int .i64 t.facts),(w.heap.size,1,.slice Ai t.init.length ci),(w.heap.size,2,.slice Ag t.goal.length cg),(w.heap.size,3,.slice Ao t.ops.length co),(w.heap.size+1,0,.slice none 0 0),(w.heap.size+1,1,.slice none 0 0),(w.heap.size+1,2,.slice none 0 0),(w.heap.size+1+1,0,.int .i64 0),(w.heap.size+1+1,1,.int .i64 0),(w1.heap.size,0,.int .i64 0),(w1.heap.size,1,.int .i64 0)]/\w8.heap.size<=wr.heap.size) (fun i _=>(xXd n t).length-(intOf i).toNat)
     case atStart=>exact⟨0,vr,vb,zKk _,rfl,hA8,by simpa[xW4] using hL8,Mid.refl _ _ _,hr1,hr2,D8,C8,Nat.le_refl _⟩
     case round=>
      clear hA8 hL8 hr1 hr2 D8 C8 hA hL hA6 hL6 hA7 hL7 hI7 hF7 hF8 hB78 hAO hnr hnb;obtain⟨k,vr,vb,hk,rfl,hA,hL,hM,hr1,hr2,hB4,hC4,hz4⟩:=hrel;obtain⟨wp,rfl⟩:∃wo:World,wo=wr:=⟨_,rfl⟩;have F4:=hC4.f;have y4w2:=hC4.blk (b:=w.heap.size+1+1) (k:=0) (v:=.int .i64 0) (by simp);have y4w10:=hC4.blk (b:=w1.heap.size) (k:=0) (v:=.int .i64 0) (by simp);have zp:=hB4.size;have hlA:=hA.lt;have hnl:=hL.blk;have hI4:=hM.ints hI8 hAl8;have hl24:=hll24.out
      by_cases hlt:k<(xXd n t).length
      ·obtain⟨gd4,q,hgd4,hx,hxc⟩:=hI4.at_ hlt;obtain⟨ga,Ba,ca,hga,hga1,hga2,hcell,hIa,hBa⟩:=hR8.mid hM k (xW8 t q) (by rw[vQ4,hx.out];rfl);subst hgd4;subst hga;have hgl:ga<wp.heap.size:=by omega
       have hle24:(xW8 t q).length<=t.ops.length:=zYp t q t.ops.length
       by_cases hqi2:q∈t.init
       ·have hv:decide (q∈t.init)=true:=by simp[hqi2]
        have hnw:=lHd (yYe hx.out hqi2);clear hqi2
        go_wp2_with (go_at_call 67;refine(xJ9 _ _ _ _ _ _ (hT.init.below hB4) hT.linit.le hv).mono ?_;rintro e w9 ⟨rfl,hW⟩;rw[hW];clear hW w9)
        go_roundw
        case rel=>exact⟨k+1,vr,vb,by omega,by go_num,hA,by rw[hnw.out];exact hL,hM,hr1,hr2,hB4,hC4,hz4⟩
        case measure=>simp[intOf];omega
       ·have hv:decide (q∈t.init)=false:=by simp[hqi2]
        have hnw:=lHd (yWy hx.out hqi2);clear hqi2
        go_wp2_with (go_at_call 67;refine(xJ9 _ _ _ _ _ _ (hT.init.below hB4) hT.linit.le hv).mono ?_;rintro e w9 ⟨rfl,hW⟩;rw[hW];clear hW w9)
        go_loopw [141] (fun i w5=>∃(j:Nat) (xs:List Int),j<=(xW8 t q).length/\i=.int .i64 j/\Arr w5 wp.heap.size 3 (IV xs)/\xs.length=t.ops.length/\Hid (∀i,i<t.ops.length->xs[i]? = some (if(i:Int)∈(xW8 t q).take j then -1 else 0))/\Below wp.heap.size wp w5) (fun i _=>(xW8 t q).length-(intOf i).toNat)
        case atStart=>exact⟨0,List.replicate t.ops.length 0,zKk _,rfl,by unfold IV;rw[List.map_replicate];exact Arr.new wp _ _,by simp,lHd (fun i h=>by rw[List.getElem?_replicate];simp[h]),(Below.refl _ _).alloc (Nat.le_refl _) _⟩
        case round=>
         obtain⟨j,xs,hj,rfl,hG,hxl,hup,hB5⟩:=hrel;obtain⟨w5,rfl⟩:∃wo:World,wo=wr:=⟨_,rfl⟩;have z5:=hB5.size;have D5:=hB4.trans (hB5.mono (by omega));have C5:=Cls.below hB5 hC4;have hGl:=hG.lt;have y5w2:=C5.blk (b:=w.heap.size+1+1) (k:=0) (v:=.int .i64 0) (by simp);have y5w10:=C5.blk (b:=w1.heap.size) (k:=0) (v:=.int .i64 0) (by simp)
         by_cases hjl:j<(xW8 t q).length
         ·obtain⟨ge,a,hge,ha,hac⟩:=(hIa.below hB5).at_ hjl;subst hge;obtain⟨ha0,ha1⟩:=yWx a (lMg ha.out);obtain⟨op,rfl⟩:=Int.eq_ofNat_of_zero_le ha0;have hop:op<t.ops.length:=by omega
          obtain⟨x0,hx0⟩:∃x,xs[op]? = some x:=⟨_,lGe (by omega)⟩;have hc5:w5.cell? ⟨wp.heap.size,op,none⟩=some (.int .i64 x0):=(hG.cell op).trans (by unfold IV;rw[vQ4,hx0];rfl);have hf5:=hG.free op;go_wp2
          go_roundw
          case rel=>
           refine⟨j+1,xs.set op (-1),by omega,by go_num,?_,by simp[hxl],lHd (fun i hi=>?_),hB5.setCell (by simp) _⟩
           ·have h:=hG.set_ op (.int .i64 (-1));have e:IV (xs.set op (-1))=(IV xs).set op (.int .i64 (-1)):=by unfold IV;rw[List.map_set]
            rw[e];exact h
           ·have htk:(xW8 t q).take (j+1)=(xW8 t q).take j ++ [(op:Int)]:=by rw[vXd,ha.out];rfl
            by_cases hij:i=op
            ·subst hij;rw[List.getElem?_set_self (by omega),htk];simp
            ·rw[List.getElem?_set_ne (fun e=>hij e.symm),hup.out i hi,htk];have:¬(i:Int)=(op:Int):=fun e=>hij (by omega)
             simp[this]
          case measure=>simp[intOf];omega
         ·have hrowE:Hid (xs=xQr t q):=by
           refine List.ext_getElem? (fun i=>?_);rcases vVq i t.ops.length with h|h
           ·rw[hup.out i h,zY9 h,zQd (by omega)]
           ·rw[vXn (by omega),vXn (by rw[zZ8];omega)]
          clear hup;have hrl:Hid ((xQr t q).length=t.ops.length):=zZ8 t q;have hnle:=vQ8 n t k;obtain⟨nk,hnk⟩:∃nk,Hid (nk=t.goal.length+(xW4 n t k).length):=⟨_,rfl⟩;have hnk1:nk<=48:=by have:=hnk.out;have:=HGL.out;have:=hll24.out;omega
          have hlr:(t.goal.map (xX2 t.ops)++(xW4 n t k).map (xQr t)).length=nk:=by rw[List.length_append,zQl,zQl];exact hnk.out.symm
          have hlb:(t.goal.map (xXx t.init)++(xW4 n t k).map fun _=>(-1:Int)).length=nk:=by rw[List.length_append,zQl,zQl];exact hnk.out.symm
          rw[hrowE.out] at hG;have hA5:=hA.below hB5;have hL5:=hL.below hB5;have hM5:=hM.below hB5 (by omega);obtain⟨il0,hil0,hql⟩:=vYt.1 xZy;simp only[Prod.mk.injEq] at hql;obtain⟨ii0,hii0,hqi⟩:=vYt.1 xZd;simp only[Prod.mk.injEq] at hqi;have hgne:vb.ownBlock≠some wp.heap.size:=fun e=>by have:=hnl _ e;omega
          go_wp2;obtain⟨ys,hys⟩:∃x,Hid (x=w5.drew):=⟨_,rfl⟩;have A0:Arr ys w2.heap.size 61 [vr,vb,vo]:=by rw[hys.out];exact hA5.drew
          have L0:LPR (w2.heap.size+1) ys vr vb vo (t.goal.map (xX2 t.ops)++(xW4 n t k).map (xQr t)) (t.goal.map (xXx t.init)++(xW4 n t k).map fun _=>(-1:Int)) (xYm t.ops):=by rw[hys.out];exact hL5.drew
          have G0:Arr ys wp.heap.size 3 (IV (xQr t q)):=by rw[hys.out];exact hG.drew
          have D0:Below w.heap.size w ys:=by rw[hys.out];exact mvk
          have C0:Cls ys [(w.heap.size,0,.int .i64 t.facts),(w.heap.size,1,.slice Ai t.init.length ci),(w.heap.size,2,.slice Ag t.goal.length cg),(w.heap.size,3,.slice Ao t.ops.length co),(w.heap.size+1,0,.slice none 0 0),(w.heap.size+1,1,.slice none 0 0),(w.heap.size+1,2,.slice none 0 0),(w.heap.size+1+1,0,.int .i64 0),(w.heap.size+1+1,1,.int .i64 0),(w1.heap.size,0,.int .i64 0),(w1.heap.size,1,.int .i64 0)]:=by rw[hys.out];exact C5
          have M0:Mid wo.heap.size w8.heap.size w8 ys:=by rw[hys.out];exact hM5.drew
          have z0:w5.heap.size<=ys.heap.size:=by rw[hys.out];exact Nat.le_refl _
          have S0:=PSt.mk A0 L0 D0 C0 (by simp;omega) (by omega);have hSS:=S0.ss;refine xZ3 (fun W=>W.cell? ⟨w2.heap.size,0,none⟩=some vr/\W.cell? ⟨w2.heap.size,1,none⟩=some vb) [10,12] (by kernel_rfl) ?_;rw[<- hys.out];refine tk0 0 ?_;refine tkK 1 ?_;refine tk0 2 ?_;refine tk0 5 ?_;refine tkK 6 ?_;refine xQ7 (i:=3) (j:=7) (by kernel_rfl) rfl rfl (fun K hK=>?ap3c6) (fun K hK=>?bp3c6)
          case ap3c6=>
           go_simp
           go_wp2_with fail
           obtain⟨yp37,hyp37⟩:∃x,Hid (x=ys.alloc (.cells #[.slice (some ⟨wp.heap.size,0,none⟩) t.ops.length t.ops.length] 22)):=⟨_,rfl⟩;rw[<- hyp37.out];have Syp37:=S0.al hyp37;have Gyp37:=xZg hyp37 G0;have nryp37:=xJs hyp37;have Myp37:Mid wo.heap.size w8.heap.size w8 yp37:=by rw[hyp37.out];exact M0.alloc (by omega) _
           have zyp37:=xZ6 hyp37;have hSS:=Syp37.ss;refine hK.out _ _ hSS ?_;clear hK K
           try simp only[ap]
           refine xQ7 (i:=4) (j:=7) (by kernel_rfl) rfl rfl (fun K hK=>?ap3c8) (fun K hK=>?bp3c8)
           case ap3c8=>
            obtain⟨⟨cells,r1,r2⟩,r3,r4,r5⟩:=Syp37.L;have r1k:yp37.ownsRow (w2.heap.size+1) 22 1 vr nk cells:=by have h:=r1;rw[hlr] at h;exact h
            refine xJ7 (w:=yp37) rfl (.tmp 150) (.tmp 152) 42 rfl (w2.heap.size+1) 22 il0 (.slice none 0 0) 1 24 underlying42 hil0 hql.1 hql.2.1 hql.2.2 rfl (by decide) vr nk cells rfl r1k ⟨ys.heap.size,0,none⟩ 1 1 [.slice (some ⟨wp.heap.size,0,none⟩) t.ops.length t.ops.length] rfl rfl (xJa (nryp37.cell 0)) (by simp[Value.oneCell']) (by simp only[maxLen];omega) (by omega) (by omega) ?_;intro vyp39 yp39 hryp39 hgyp39 _ hatyp39;have zyp39:=hgyp39.size;have Syp39:=Syp37.up r1 hgyp39 (by decide) (LPR.pushR (r:=xQr t q) r1 r2 r3 r4 r5 (by rw[hlr,hrl.out];exact hryp39) hgyp39 Gyp37 (by omega) hgne (by rw[hrl.out];omega));have Myp39:=Myp37.grown hgyp39 hr1 (by omega);have oRyp39:=hr1.pushed hatyp39 (by omega);have hSS:=Syp39.ss;refine hK.out _ _ hSS ?_;clear hK K
            try simp only[ap]
            refine tk0 9 ?_;refine kdo 7 (fun K hK=>?_);go_simp
            go_wp2_with fail
            obtain⟨yp311,hyp311⟩:∃x,Hid (x=yp39.alloc (.cells #[.int .i64 (-1)] 3)):=⟨_,rfl⟩;rw[<- hyp311.out];have Syp311:=Syp39.al hyp311;have nbyp311:=xJs hyp311;have Myp311:Mid wo.heap.size w8.heap.size w8 yp311:=by rw[hyp311.out];exact Myp39.alloc (by omega) _
            have zyp311:=xZ6 hyp311;have hSS:=Syp311.ss;refine hK.out _ _ hSS ?_;clear hK K
            try simp only[ap]
            refine kdo 8 (fun K hK=>?_);have hbsyp312:=Syp311.L.bs;have hbkyp312:yp311.ownsRow (w2.heap.size+1) 3 1 vb nk (IV ((t.goal.map (xXx t.init)++(xW4 n t k).map (fun _=>(-1:Int))))):=by have h:=hbsyp312;rw[hlb] at h;exact h
            refine xJ7 (w:=yp311) rfl (.tmp 155) (.tmp 156) 22 rfl (w2.heap.size+1) 3 ii0 (.int .i64 0) 1 8 underlying22 hii0 hqi.1 hqi.2.1 hqi.2.2 rfl (by decide) vb nk (IV ((t.goal.map (xXx t.init)++(xW4 n t k).map (fun _=>(-1:Int))))) rfl hbkyp312 ⟨yp39.heap.size,0,none⟩ 1 1 [.int .i64 (-1)] rfl rfl (xJa (nbyp311.cell 0)) (by simp[Value.oneCell']) (by simp only[maxLen];omega) (by omega) (by omega) ?_;intro vyp312 yp312 hryp312 hgyp312 _ hatyp312;have zyp312:=hgyp312.size;have Syp312:=Syp311.up hbsyp312 hgyp312 (by decide) (Syp311.L.pushB (by rw[hlb];exact hryp312) hgyp312 hatyp312);have Myp312:=Myp311.grown hgyp312 hr2 (by omega);have oByp312:=hr2.pushed hatyp312 (by omega);have hSS:=Syp312.ss;refine hK.out _ _ hSS ?_;clear hK K
            try simp only[ap]
            obtain⟨gR,cR,hvR⟩:=ownsRow_succ hryp39;obtain⟨gB,cB,hvB⟩:=ownsRow_succ hryp312;subst hvR;subst hvB;refine kla 10 (fun K hK=>?_);have hc0:=Syp312.ss.1;have hf0:=Syp312.A.free 0;go_simp
            go_wp2_with fail
            refine hK.out _ _ ?_;clear hK K
            try simp only[ap]
            have A8:=Syp312.A.put0 (.slice (some ⟨gR,0,none⟩) (nk+1) cR);have hc1:=A8.c1;have hf1:=A8.free 1;refine xJt (i:=11) (v:=?vp3x13) rfl (by kernel_rfl) (by kernel_rfl) (by kernel_rfl) (by kernel_rfl) (by kernel_rfl) (fun _ _ _ h=>h) (Or.inl ⟨by rfl,?hp3x13⟩) (by kernel_rfl) ?rp3x13
            case hp3x13=>(intro w hSw;(try dsimp only at hSw);go_simp;(try with_reducible rfl))
            try simp only[ap]
            refine kla 12 (fun K hK=>?_);go_simp
            go_wp2_with fail
            refine hK.out _ _ ?_;clear hK K
            try simp only[ap]
            refine kdn ?_ _;obtain⟨AF,LF,DF,CF⟩:=Syp312.fin;have MF:=(Myp312.set_ (p:=⟨w2.heap.size,0,none⟩) (.inl (by simp;omega)) (.slice (some ⟨gR,0,none⟩) (nk+1) cR)).set_ (p:=⟨w2.heap.size,1,none⟩) (.inl (by simp;omega)) (.slice (some ⟨gB,0,none⟩) (nk+1) cB);have oRF:=oRyp39;have oBF:=oByp312;go_wp2
            go_roundw
            case rel=>exact⟨k+1,_,_,by omega,by go_num,AF,by rw[hnw.out,vQu,vQu,<- List.append_assoc,<- List.append_assoc];exact LF,MF,oRF,oBF,DF,CF,by simp;omega⟩
            case measure=>simp[intOf];omega
           case bp3c8=>
            go_simp
            go_wp2_with fail
            obtain⟨yp314,hyp314⟩:∃x,Hid (x=yp37.alloc (.cells #[.int .i64 (-1)] 3)):=⟨_,rfl⟩;rw[<- hyp314.out];have Syp314:=Syp37.al hyp314;have Gyp314:=xZg hyp314 Gyp37;have nryp314:=xZg hyp314 nryp37;have nbyp314:=xJs hyp314;have Myp314:Mid wo.heap.size w8.heap.size w8 yp314:=by rw[hyp314.out];exact Myp37.alloc (by omega) _
            have zyp314:=xZ6 hyp314;have hSS:=Syp314.ss;refine hK.out _ _ hSS ?_;clear hK K
            try simp only[ap]
            refine kdo 4 (fun K hK=>?_);obtain⟨⟨cells,r1,r2⟩,r3,r4,r5⟩:=Syp314.L;have r1k:yp314.ownsRow (w2.heap.size+1) 22 1 vr nk cells:=by have h:=r1;rw[hlr] at h;exact h
            refine xJ7 (w:=yp314) rfl (.tmp 150) (.tmp 152) 42 rfl (w2.heap.size+1) 22 il0 (.slice none 0 0) 1 24 underlying42 hil0 hql.1 hql.2.1 hql.2.2 rfl (by decide) vr nk cells rfl r1k ⟨ys.heap.size,0,none⟩ 1 1 [.slice (some ⟨wp.heap.size,0,none⟩) t.ops.length t.ops.length] rfl rfl (xJa (nryp314.cell 0)) (by simp[Value.oneCell']) (by simp only[maxLen];omega) (by omega) (by omega) ?_;intro vyp315 yp315 hryp315 hgyp315 _ hatyp315;have zyp315:=hgyp315.size;have Syp315:=Syp314.up r1 hgyp315 (by decide) (LPR.pushR (r:=xQr t q) r1 r2 r3 r4 r5 (by rw[hlr,hrl.out];exact hryp315) hgyp315 Gyp314 (by omega) hgne (by rw[hrl.out];omega));have nbyp315:=Arr.by_row r1 hgyp315 nbyp314 (by decide);have Myp315:=Myp314.grown hgyp315 hr1 (by omega);have oRyp315:=hr1.pushed hatyp315 (by omega);have hSS:=Syp315.ss;refine hK.out _ _ hSS ?_;clear hK K
            try simp only[ap]
            refine tk0 9 ?_;refine kdo 8 (fun K hK=>?_);have hbsyp317:=Syp315.L.bs;have hbkyp317:yp315.ownsRow (w2.heap.size+1) 3 1 vb nk (IV ((t.goal.map (xXx t.init)++(xW4 n t k).map (fun _=>(-1:Int))))):=by have h:=hbsyp317;rw[hlb] at h;exact h
            refine xJ7 (w:=yp315) rfl (.tmp 155) (.tmp 156) 22 rfl (w2.heap.size+1) 3 ii0 (.int .i64 0) 1 8 underlying22 hii0 hqi.1 hqi.2.1 hqi.2.2 rfl (by decide) vb nk (IV ((t.goal.map (xXx t.init)++(xW4 n t k).map (fun _=>(-1:Int))))) rfl hbkyp317 ⟨yp37.heap.size,0,none⟩ 1 1 [.int .i64 (-1)] rfl rfl (xJa (nbyp315.cell 0)) (by simp[Value.oneCell']) (by simp only[maxLen];omega) (by omega) (by omega) ?_;intro vyp317 yp317 hryp317 hgyp317 _ hatyp317;have zyp317:=hgyp317.size;have Syp317:=Syp315.up hbsyp317 hgyp317 (by decide) (Syp315.L.pushB (by rw[hlb];exact hryp317) hgyp317 hatyp317);have Myp317:=Myp315.grown hgyp317 hr2 (by omega);have oByp317:=hr2.pushed hatyp317 (by omega);have hSS:=Syp317.ss;refine hK.out _ _ hSS ?_;clear hK K
            try simp only[ap]
            obtain⟨gR,cR,hvR⟩:=ownsRow_succ hryp315;obtain⟨gB,cB,hvB⟩:=ownsRow_succ hryp317;subst hvR;subst hvB;refine kla 10 (fun K hK=>?_);have hc0:=Syp317.ss.1;have hf0:=Syp317.A.free 0;go_simp
            go_wp2_with fail
            refine hK.out _ _ ?_;clear hK K
            try simp only[ap]
            have A8:=Syp317.A.put0 (.slice (some ⟨gR,0,none⟩) (nk+1) cR);have hc1:=A8.c1;have hf1:=A8.free 1;refine xJt (i:=11) (v:=?vp3x18) rfl (by kernel_rfl) (by kernel_rfl) (by kernel_rfl) (by kernel_rfl) (by kernel_rfl) (fun _ _ _ h=>h) (Or.inl ⟨by rfl,?hp3x18⟩) (by kernel_rfl) ?rp3x18
            case hp3x18=>(intro w hSw;(try dsimp only at hSw);go_simp;(try with_reducible rfl))
            try simp only[ap]
            refine kla 12 (fun K hK=>?_);go_simp
            go_wp2_with fail
            refine hK.out _ _ ?_;clear hK K
            try simp only[ap]
            refine kdn ?_ _;obtain⟨AF,LF,DF,CF⟩:=Syp317.fin;have MF:=(Myp317.set_ (p:=⟨w2.heap.size,0,none⟩) (.inl (by simp;omega)) (.slice (some ⟨gR,0,none⟩) (nk+1) cR)).set_ (p:=⟨w2.heap.size,1,none⟩) (.inl (by simp;omega)) (.slice (some ⟨gB,0,none⟩) (nk+1) cB);have oRF:=oRyp315;have oBF:=oByp317;go_wp2
            go_roundw
            case rel=>exact⟨k+1,_,_,by omega,by go_num,AF,by rw[hnw.out,vQu,vQu,<- List.append_assoc,<- List.append_assoc];exact LF,MF,oRF,oBF,DF,CF,by simp;omega⟩
            case measure=>simp[intOf];omega
          case bp3c6=>
           go_simp
           go_wp2_with fail
           obtain⟨yp319,hyp319⟩:∃x,Hid (x=ys.alloc (.cells #[.int .i64 (-1)] 3)):=⟨_,rfl⟩;rw[<- hyp319.out];have Syp319:=S0.al hyp319;have Gyp319:=xZg hyp319 G0;have nbyp319:=xJs hyp319;have Myp319:Mid wo.heap.size w8.heap.size w8 yp319:=by rw[hyp319.out];exact M0.alloc (by omega) _
           have zyp319:=xZ6 hyp319;have hSS:=Syp319.ss;refine hK.out _ _ hSS ?_;clear hK K
           try simp only[ap]
           refine kdo 3 (fun K hK=>?_);go_simp
           go_wp2_with fail
           obtain⟨yp320,hyp320⟩:∃x,Hid (x=yp319.alloc (.cells #[.slice (some ⟨wp.heap.size,0,none⟩) t.ops.length t.ops.length] 22)):=⟨_,rfl⟩;rw[<- hyp320.out];have Syp320:=Syp319.al hyp320;have Gyp320:=xZg hyp320 Gyp319;have nbyp320:=xZg hyp320 nbyp319;have nryp320:=xJs hyp320;have Myp320:Mid wo.heap.size w8.heap.size w8 yp320:=by rw[hyp320.out];exact Myp319.alloc (by omega) _
           have zyp320:=xZ6 hyp320;have hSS:=Syp320.ss;refine hK.out _ _ hSS ?_;clear hK K
           try simp only[ap]
           refine kdo 4 (fun K hK=>?_);obtain⟨⟨cells,r1,r2⟩,r3,r4,r5⟩:=Syp320.L;have r1k:yp320.ownsRow (w2.heap.size+1) 22 1 vr nk cells:=by have h:=r1;rw[hlr] at h;exact h
           refine xJ7 (w:=yp320) rfl (.tmp 150) (.tmp 152) 42 rfl (w2.heap.size+1) 22 il0 (.slice none 0 0) 1 24 underlying42 hil0 hql.1 hql.2.1 hql.2.2 rfl (by decide) vr nk cells rfl r1k ⟨yp319.heap.size,0,none⟩ 1 1 [.slice (some ⟨wp.heap.size,0,none⟩) t.ops.length t.ops.length] rfl rfl (xJa (nryp320.cell 0)) (by simp[Value.oneCell']) (by simp only[maxLen];omega) (by omega) (by omega) ?_;intro vyp321 yp321 hryp321 hgyp321 _ hatyp321;have zyp321:=hgyp321.size;have Syp321:=Syp320.up r1 hgyp321 (by decide) (LPR.pushR (r:=xQr t q) r1 r2 r3 r4 r5 (by rw[hlr,hrl.out];exact hryp321) hgyp321 Gyp320 (by omega) hgne (by rw[hrl.out];omega));have nbyp321:=Arr.by_row r1 hgyp321 nbyp320 (by decide);have Myp321:=Myp320.grown hgyp321 hr1 (by omega);have oRyp321:=hr1.pushed hatyp321 (by omega);have hSS:=Syp321.ss;refine hK.out _ _ hSS ?_;clear hK K
           try simp only[ap]
           refine tk0 9 ?_;refine kdo 8 (fun K hK=>?_);have hbsyp323:=Syp321.L.bs;have hbkyp323:yp321.ownsRow (w2.heap.size+1) 3 1 vb nk (IV ((t.goal.map (xXx t.init)++(xW4 n t k).map (fun _=>(-1:Int))))):=by have h:=hbsyp323;rw[hlb] at h;exact h
           refine xJ7 (w:=yp321) rfl (.tmp 155) (.tmp 156) 22 rfl (w2.heap.size+1) 3 ii0 (.int .i64 0) 1 8 underlying22 hii0 hqi.1 hqi.2.1 hqi.2.2 rfl (by decide) vb nk (IV ((t.goal.map (xXx t.init)++(xW4 n t k).map (fun _=>(-1:Int))))) rfl hbkyp323 ⟨ys.heap.size,0,none⟩ 1 1 [.int .i64 (-1)] rfl rfl (xJa (nbyp321.cell 0)) (by simp[Value.oneCell']) (by simp only[maxLen];omega) (by omega) (by omega) ?_;intro vyp323 yp323 hryp323 hgyp323 _ hatyp323;have zyp323:=hgyp323.size;have Syp323:=Syp321.up hbsyp323 hgyp323 (by decide) (Syp321.L.pushB (by rw[hlb];exact hryp323) hgyp323 hatyp323);have Myp323:=Myp321.grown hgyp323 hr2 (by omega);have oByp323:=hr2.pushed hatyp323 (by omega);have hSS:=Syp323.ss;refine hK.out _ _ hSS ?_;clear hK K
           try simp only[ap]
           obtain⟨gR,cR,hvR⟩:=ownsRow_succ hryp321;obtain⟨gB,cB,hvB⟩:=ownsRow_succ hryp323;subst hvR;subst hvB;refine kla 10 (fun K hK=>?_);have hc0:=Syp323.ss.1;have hf0:=Syp323.A.free 0;go_simp
           go_wp2_with fail
           refine hK.out _ _ ?_;clear hK K
           try simp only[ap]
           have A8:=Syp323.A.put0 (.slice (some ⟨gR,0,none⟩) (nk+1) cR);have hc1:=A8.c1;have hf1:=A8.free 1;refine xJt (i:=11) (v:=?vp3x24) rfl (by kernel_rfl) (by kernel_rfl) (by kernel_rfl) (by kernel_rfl) (by kernel_rfl) (fun _ _ _ h=>h) (Or.inl ⟨by rfl,?hp3x24⟩) (by kernel_rfl) ?rp3x24
           case hp3x24=>(intro w hSw;(try dsimp only at hSw);go_simp;(try with_reducible rfl))
           try simp only[ap]
           refine kla 12 (fun K hK=>?_);go_simp
           go_wp2_with fail
           refine hK.out _ _ ?_;clear hK K
           try simp only[ap]
           refine kdn ?_ _;obtain⟨AF,LF,DF,CF⟩:=Syp323.fin;have MF:=(Myp323.set_ (p:=⟨w2.heap.size,0,none⟩) (.inl (by simp;omega)) (.slice (some ⟨gR,0,none⟩) (nk+1) cR)).set_ (p:=⟨w2.heap.size,1,none⟩) (.inl (by simp;omega)) (.slice (some ⟨gB,0,none⟩) (nk+1) cB);have oRF:=oRyp321;have oBF:=oByp323;go_wp2
           go_roundw
           case rel=>exact⟨k+1,_,_,by omega,by go_num,AF,by rw[hnw.out,vQu,vQu,<- List.append_assoc,<- List.append_assoc];exact LF,MF,oRF,oBF,DF,CF,by simp;omega⟩
           case measure=>simp[intOf];omega
      ·obtain rfl:k=(xXd n t).length:=by omega
       have hLf:LPR (w2.heap.size+1) wp vr vb vo (xJn n t) (xJw n t) (xYm t.ops):=hL;clear hL;obtain⟨⟨cells,r1,r2⟩,r3,r4,r5⟩:=hLf;obtain⟨NR,hNR⟩:∃k,Hid (k=(xJn n t).length):=⟨_,rfl⟩;obtain⟨NB,hNB⟩:∃k,Hid (k=(xJw n t).length):=⟨_,rfl⟩;have hNN:NR=NB:=by rw[hNR.out,hNB.out];unfold xJn xJw;simp
       have hN48:NR<=48:=by
        have h1:=hNR.out;have h2:=vQ8 n t (xXd n t).length;have h3:=HGL.out;unfold xJn at h1;rw[List.length_append,zQl,zQl] at h1;omega
       rw[<- hNR.out] at r1;rw[<- hNB.out] at r3;subst hNN;obtain⟨AR,cR,rfl,hcr1,hcr2,hRR,hRn,hRl⟩:=xKn r1;obtain⟨AB,cB,rfl,hcb1,hcb2,hBR,hBn,hBl⟩:=xKn r3;have hcA0:wp.cell? ⟨w2.heap.size,0,none⟩=some (.slice AR NR cR):=hA.cell 0;obtain⟨AO,cO,rfl,hco1,hco2,hOR,hOn,hOl⟩:=xKn r4;obtain⟨nn,hnn⟩:∃k:Nat,Hid (k=min NR 6):=⟨_,rfl⟩;have hnn1:nn<=NR/\nn<=6:=by have:=hnn.out;omega
       have hmin:Hid (min (NR:Int) 6=(nn:Int)):=by have:=hnn.out;show _=_;omega
       have hcutR:=uJq AR NR cR nn (by omega) hcr2 (nn:Int) rfl;have hcutB:=uJr AB NR cB nn (by omega) hcb2 (nn:Int) rfl;have hones:=yV2 r2 (by rw[hRl];exact hNR.out);have hBI:=vZp (base:=(w2.heap.size+1)) (n:=NR) (c:=cB) (by rw[<- hNB.out];exact r3);have hOI:=vZp r4;have hBtk:((xJw n t).take nn).length=nn:=by rw[List.length_take,<- hNB.out];omega
       have hAO:∀ad,AO=some ad->(w2.heap.size+1)<=ad.block:=fun ad e=>by subst e;exact(r4.lt ad.block rfl).1
       go_wp2;rw[hmin.out];obtain⟨ys,hys⟩:∃x,Hid (x=wp.drew):=⟨_,rfl⟩;have A0:Arr ys w2.heap.size 61 [.slice AR NR cR,.slice AB NR cB,.slice AO (xYm t.ops).length cO]:=by rw[hys.out];exact hA.drew
       have E0:Elts ys (w2.heap.size+1) (.slice AB NR cB) cells (xJn n t):=by rw[hys.out];exact r2.keep (fun g xs h _=>h.drew)
       have RR0:Row ys AR cells:=by rw[hys.out];exact hRR
       have BI0:Ints ys AB ((xJw n t).take nn):=by
        rw[hys.out];have h:=vZ9 (xs:=(xJw n t).map (Value.int .i64)) hBI nn;rw[<- List.map_take] at h;exact h
       have OI0:Ints ys AO (xYm t.ops):=by rw[hys.out];exact hOI
       have D0:Below w.heap.size w ys:=by rw[hys.out];exact mvk
       have C0:Cls ys [(w.heap.size,0,.int .i64 t.facts),(w.heap.size,1,.slice Ai t.init.length ci),(w.heap.size,2,.slice Ag t.goal.length cg),(w.heap.size,3,.slice Ao t.ops.length co),(w.heap.size+1,0,.slice none 0 0),(w.heap.size+1,1,.slice none 0 0),(w.heap.size+1,2,.slice none 0 0),(w.heap.size+1+1,0,.int .i64 0),(w.heap.size+1+1,1,.int .i64 0),(w1.heap.size,0,.int .i64 0),(w1.heap.size,1,.int .i64 0)]:=by rw[hys.out];exact hC4
       have z0:wp.heap.size<=ys.heap.size:=by rw[hys.out];exact Nat.le_refl _
       have hSS:ys.cell? ⟨w2.heap.size,0,none⟩=some (.slice AR NR cR)/\ys.cell? ⟨w2.heap.size,1,none⟩=some (.slice AB NR cB):=⟨A0.cell 0,A0.cell 1⟩;refine xZ4 (fun W=>W.cell? ⟨w2.heap.size,0,none⟩=some (.slice AR NR cR)/\W.cell? ⟨w2.heap.size,1,none⟩=some (.slice AB NR cB)) [11,13] (by kernel_rfl) ?_;rw[<- hys.out];refine tk0 0 ?_;refine tkK 1 ?_;refine tk0 2 ?_;refine tk0 3 ?_;refine tk0 5 ?_;refine tkK 6 ?_;refine tk0 7 ?_;refine tk0 8 ?_;refine kdo 4 (fun K hK=>?_);go_simp;go_at_call 69;refine(vJm _ AR nn cR (cells.take nn) (vZ9 RR0 nn) (by rw[List.length_take];omega) (by omega) (fun u hu=>hones u (List.mem_of_mem_take hu))).mono ?_;rintro e y1 ⟨v1,rfl,hv1,hB1y⟩;obtain⟨AR1,cR1,rfl,hk1,hk2,hRw1,hRn1,hRl1⟩:=xKn hv1;have z1:=hB1y.size;have A1y:=A0.below hB1y
       go_wp2_with fail
       have hSS:y1.cell? ⟨w2.heap.size,0,none⟩=some (.slice AR NR cR)/\y1.cell? ⟨w2.heap.size,1,none⟩=some (.slice AB NR cB):=⟨A1y.cell 0,A1y.cell 1⟩;refine hK.out _ _ hSS ?_;clear hK K
       try simp only[ap]
       refine tk0 10 ?_;refine kdo 9 (fun K hK=>?_);go_simp;go_at_call 70;have hcl:=vW9 y1 AB cB ((xJw n t).take nn) (BI0.below hB1y) (by rw[hBtk];omega);rw[hBtk] at hcl;refine hcl.mono ?_;rintro e y2 ⟨A2,c2,rfl,hF2,hB2y⟩;have A2y:=A1y.below hB2y
       go_wp2_with fail
       have hSS:y2.cell? ⟨w2.heap.size,0,none⟩=some (.slice AR NR cR)/\y2.cell? ⟨w2.heap.size,1,none⟩=some (.slice AB NR cB):=⟨A2y.cell 0,A2y.cell 1⟩;refine hK.out _ _ hSS ?_;clear hK K
       try simp only[ap]
       refine kla 11 (fun K hK=>?_);have hd1:=A2y.free 0;go_simp
       go_wp2_with fail
       refine hK.out _ _ ?_;clear hK K
       try simp only[ap]
       have A8:Arr (y2.setCell ⟨w2.heap.size,0,none⟩ (.slice AR1 nn cR1)) w2.heap.size 61 [.slice AR1 nn cR1,.slice AB NR cB,.slice AO (xYm t.ops).length cO]:=A2y.set_ 0 _;have hd2:(y2.setCell ⟨w2.heap.size,0,none⟩ (.slice AR1 nn cR1)).cell? ⟨w2.heap.size,1,none⟩=some (.slice AB NR cB):=A8.cell 1;have hd3:=A8.free 1;refine xJt (i:=12) (v:=?vr4512) rfl (by kernel_rfl) (by kernel_rfl) (by kernel_rfl) (by kernel_rfl) (by kernel_rfl) (fun _ _ _ h=>h) (Or.inl ⟨by rfl,?hr4512⟩) (by kernel_rfl) ?rr4512
       case hr4512=>(intro w hSw;(try dsimp only at hSw);go_simp;(try with_reducible rfl))
       try simp only[ap]
       refine kla 13 (fun K hK=>?_);go_simp
       go_wp2_with fail
       refine hK.out _ _ ?_;clear hK K
       try simp only[ap]
       refine kdn ?_ _;have hB02:=hB1y.trans (hB2y.mono (by omega));have D2y:=D0.trans (hB02.mono (by omega));have C2y:=Cls.below hB02 C0;have E2y:=E0.keep (fun g xs h _=>h.below hB02);have RW2y:=Row.below hRw1 hB2y;have BI2y:=Fresh.ints hF2;have OI2y:=OI0.below hB02;have hA1b:∀ad,AR1=some ad->(w2.heap.size+1)<=ad.block:=fun ad e=>by subst e;have:=(hv1.lt ad.block rfl).1;omega
       have hA2b:∀ad,A2=some ad->(w2.heap.size+1)<=ad.block:=fun ad e=>by obtain⟨A',c',e1,_,_,_,_,h3⟩:=hF2;injection e1 with e1;injection e1 with e2 e3 e4;have:=(h3 ad (e2 ▸ e)).2.2;omega
       dsimp only[zVt];obtain⟨wf,hwf⟩:∃x,Hid (x=(y2.setCell ⟨w2.heap.size,0,none⟩ (.slice AR1 nn cR1)).setCell ⟨w2.heap.size,1,none⟩ (.slice A2 nn c2)):=⟨_,rfl⟩;rw[<- hwf.out];have Af:Arr wf w2.heap.size 61 [.slice AR1 nn cR1,.slice A2 nn c2,.slice AO (xYm t.ops).length cO]:=by rw[hwf.out];exact A8.set_ 1 _
       have hBf:Below w2.heap.size y2 wf:=by rw[hwf.out];exact((Below.refl _ _).setCell (by simp) _).setCell (by simp) _
       have Df:=D2y.trans (hBf.mono (by omega));have Cf:=Cls.low2 C2y hBf (by simp;omega);have Mf:Mid (w2.heap.size+1) y2.heap.size y2 wf:=by rw[hwf.out];exact((Mid.refl _ _ _).set_ (.inl (by simp)) _).set_ (.inl (by simp)) _
       have hf0:wf.cell? ⟨w2.heap.size,0,none⟩=some (.slice AR1 nn cR1):=Af.cell 0;have hf1:wf.cell? ⟨w2.heap.size,1,none⟩=some (.slice A2 nn c2):=Af.cell 1;have hf2:wf.cell? ⟨w2.heap.size,2,none⟩=some (.slice AO (xYm t.ops).length cO):=Af.cell 2;have F9:=Cf.f;have y9w2:=Cf.blk (b:=w.heap.size+1+1) (k:=0) (v:=.int .i64 0) (by simp);have y9w10:=Cf.blk (b:=w1.heap.size) (k:=0) (v:=.int .i64 0) (by simp);have htk1:(xJn n t).take nn=(xJn n t).take 6:=by
        have h1:=hNR.out;have h2:=hnn.out;rcases vVq 6 NR with h|h
        ·have:nn=6:=by omega
         rw[this]
        ·rw[zQd (by omega),zQd (by omega)]
       have htk2:(xJw n t).take nn=(xJw n t).take 6:=by
        have h1:=hNB.out;have h2:=hnn.out;rcases vVq 6 NR with h|h
        ·have:nn=6:=by omega
         rw[this]
        ·rw[zQd (by omega),zQd (by omega)]
       have HT1:=lHd htk1;have HT2:=lHd htk2;clear htk1 htk2;go_wp2;refine bodyPost_ret (v:=.tuple #[.agg #[.slice AR1 nn cR1,.slice A2 nn c2,.slice AO (xYm t.ops).length cO],.agg #[.int .i64 0,.int .i64 0]]) ?_ rfl ⟨?_,AR1,A2,AO,nn,nn,(xYm t.ops).length,cR1,c2,cO,rfl,?_,?_,?_,rfl⟩
       ·simp[results,results23,go_sem,F9]
       ·exact mvk
       ·show LpMem _ AR1 A2 AO ⟨(xJn n t).take 6,(xJw n t).take 6,xYm t.ops⟩;rw[<- HT1.out,<- HT2.out];refine vWy (W:=y2) (((((Mf.set_ (.inl ?_) _).set_ (.inl ?_) _).set_ (.inl ?_) _).set_ (.inl ?_) _).set_ (.inl ?_) _) E2y RW2y ?_ BI2y ?_ OI2y hAO (by rw[<- hNR.out];omega) (by rw[hBtk];omega) (by rw[xVi];omega)
        all_goals first|(simp;omega)|skip
        ·exact hA1b
        ·exact hA2b
       ·show nn=((xJn n t).take 6).length;rw[<- HT1.out,List.length_take,<- hNR.out];omega
       ·show nn=((xJw n t).take 6).length;rw[<- HT2.out];exact hBtk.symm
end
theorem vYk(c:Int)(h:0<=c/\c<=100)(w:World):Calls prog 114 #[.int .i64 c] w fun e w'=>e=.returned (.int .i64 (c*4096+1))/\w=w':=by
 go_enter func114,ntmps114;go_wp2;go_ret;exact⟨rfl,rfl⟩
theorem vVi{ops:List OpV}{pl:List Int}{k op:Nat}{o:OpV}(h:pl[k]? = some (op:Int))(ho:ops[op]? = some o):(pl.take (k+1)).map (fun x=>xJ2 (ops.map (·.cost)) x)=(pl.take k).map (fun x=>xJ2 (ops.map (·.cost)) x) ++ [o.cost]:=by
 rw[vXd,h];have:xJ2 (ops.map (·.cost)) (op:Int)=o.cost:=xJl (by simp[ho]);simp[this]
def xYo(ops:List OpV)(pl:List Int):Int:=(pl.map fun x=>xJ2 (ops.map (·.cost)) x).sum
theorem vVj{ops:List OpV}{pl:List Int}{k op:Nat}{o:OpV}(h:pl[k]? = some (op:Int))(ho:ops[op]? = some o):xYo ops (pl.take (k+1))=xYo ops (pl.take k)+o.cost:=by
 unfold xYo;rw[vVi h ho,List.sum_append];simp
theorem vXy{ops:List OpV}(hc:∀o∈ops,0<=o.cost/\o.cost<=100):∀(pl:List Int),(∀x∈pl,0<=x/\x<(ops.length:Int))->0<=xYo ops pl/\xYo ops pl<=100*pl.length
 | [],_=>by simp[xYo]
 |x::pl,hx=>by
  have ih:=vXy hc pl (fun y hy=>hx y (List.mem_cons_of_mem _ hy));obtain⟨h0,h1⟩:=hx x (vVp ..);obtain⟨op,rfl⟩:=Int.eq_ofNat_of_zero_le h0;have ho:ops[op]? = some ops[op]:=lGe (by omega);have hv:xJ2 (ops.map (·.cost)) (op:Int)=ops[op].cost:=xJl (by simp[ho]);have hc':=hc _ (lMg ho);have e:xYo ops ((op:Int)::pl)=ops[op].cost+xYo ops pl:=by unfold xYo;rw[List.map_cons,List.sum_cons,hv]
  rw[e];simp only[List.length_cons];omega
theorem vWa(w:World)(t:TaskV)(Ai Ag Ao:Option Addr)(ci cg co:Nat)(hT:TaskMem w Ai Ag Ao t)(A:Option Addr)(c:Nat)(xs:List Int)(hS:Ints w A xs)(fnd:Bool)(ne:Int)(hl:xs.length<1000000000)(h60:60<xs.length) :
  Calls prog 60 #[.agg #[.int .i64 t.facts,.slice Ai t.init.length ci,.slice Ag t.goal.length cg,.slice Ao t.ops.length co],.slice A xs.length c,.bool fnd,.int .i64 ne] w fun e w'=>e=.returned (.tuple #[.agg #[.bool false,.slice none 0 0,.int .i64 0,.int .i64 0],.agg #[.int .i64 10,.int .i64 (-9)]])/\Below w.heap.size w w':=by
 go_enter func60,ntmps60;go_wp2;refine bodyPost_ret ?_ rfl ⟨rfl,bch⟩;simp[results,results60,go_sem]
theorem zK3(w:World)(t:TaskV)(Ai Ag Ao:Option Addr)(ci cg co:Nat)(hT:TaskMem w Ai Ag Ao t)(A:Option Addr)(c:Nat)(xs:List Int)(hS:Ints w A xs)(fnd:Bool)(ne:Int)(hl:xs.length<1000000000)(h60:xs.length<=60)(hx:∀x∈xs,0<=x/\x<(t.ops.length:Int))(hco:∀o∈t.ops,0<=o.cost/\o.cost<=100) :
  Calls prog 60 #[.agg #[.int .i64 t.facts,.slice Ai t.init.length ci,.slice Ag t.goal.length cg,.slice Ao t.ops.length co],.slice A xs.length c,.bool fnd,.int .i64 ne] w fun e w'=>e=.returned (.tuple #[.agg #[.bool fnd,.slice A xs.length c,.int .i64 (xYo t.ops xs),.int .i64 ne],.agg #[.int .i64 0,.int .i64 0]])/\Below w.heap.size w w':=by
 have HXS:=lHd hx;have HCO:=lHd hco;clear hx hco;go_enter func60,ntmps60;go_wp2
 go_loopw [24] (fun i wr=>∃k:Nat,k<=xs.length/\i=.int .i64 k/\Arr wr (w.heap.size+1+1+1) 51 [.bool fnd,.slice A xs.length c,.int .i64 (xYo t.ops (xs.take k)),.int .i64 ne]/\Below w.heap.size w wr/\Cls wr [(w.heap.size,0,.int .i64 t.facts),(w.heap.size,1,.slice Ai t.init.length ci),(w.heap.size,2,.slice Ag t.goal.length cg),(w.heap.size,3,.slice Ao t.ops.length co),(w.heap.size+1,0,.bool false),(w.heap.size+1,1,.slice none 0 0),(w.heap.size+1,2,.int .i64 0),(w.heap.size+1,3,.int .i64 0),(w.heap.size+1+1,0,.int .i64 0),(w.heap.size+1+1,1,.int .i64 0)]) (fun i _=>xs.length-(intOf i).toNat)
 case atStart=>exact⟨0,zKk _,rfl,Arr.new_at _ _ (by simp) _ _,bch,(by simp[Cls,go_sem])⟩
 case round=>
  obtain⟨k,hk,rfl,hA,hBr,hCr⟩:=hrel;have hcA:=hA.cell 2;have hfA:=hA.free 2;have hlA:=hA.lt;have Fr:=hCr.f
  by_cases hlt:k<xs.length
  ·obtain⟨pd,x,rfl,hx,hxc⟩:=(hS.below hBr).at_ hlt;obtain⟨hx0,hx1⟩:=HXS.out x (lMg hx.out);obtain⟨op,rfl⟩:=Int.eq_ofNat_of_zero_le hx0;have hol:op<t.ops.length:=by omega
   obtain⟨ad,o,A0,c0,A2,c2,A4,c4,rfl,ho,hc0,hc1,hc2,hc3,hm⟩:=hT.ops.at2 hBr hol;have HSN:=lHd (vVj hx.out ho.out);have hoc:=HCO.out o (lMg ho.out);have hsr:=vXy HCO.out (xs.take k) (fun x hx=>HXS.out x (List.mem_of_mem_take hx));rw[List.length_take] at hsr;obtain⟨s,hs⟩:∃s,Hid (s=xYo t.ops (xs.take k)):=⟨_,rfl⟩;rw[<- hs.out] at hcA hsr;have hadw:(ad.add (op*4)).block<w.heap.size:=by
    obtain⟨ad',_,_,_,_,_,_,_,e1,_,hc0',_⟩:=hT.ops.at2 (Below.refl _ w) hol;injection e1 with e1;subst e1
    exact zQ2 w _ hc0'
   clear hm hc0 hc1 hc2
   go_wp2_with fail
   have hSS0:wr.drew.cell? ⟨w.heap.size+1+1+1,2,none⟩=some (.int .i64 s)/\wr.drew.cell? ⟨w.heap.size,3,none⟩=some (.slice (some ad) t.ops.length co)/\wr.drew.cell? ⟨(ad.add (op*4)).block,(ad.add (op*4)).off+3,none⟩=some (.int .i64 o.cost):=⟨hcA,Fr.2.2.2.1.1,hc3⟩;refine xZ3 (fun W=>W.cell? ⟨w.heap.size+1+1+1,2,none⟩=some (.int .i64 s)/\W.cell? ⟨w.heap.size,3,none⟩=some (.slice (some ad) t.ops.length co)/\W.cell? ⟨(ad.add (op*4)).block,(ad.add (op*4)).off+3,none⟩=some (.int .i64 o.cost)) [10] (by kernel_rfl) ?_;have hSS:=hSS0;refine tkK 0 ?_;refine tkK 1 ?_;refine tkK 2 ?_;refine tkK 3 ?_;refine tkK 4 ?_;refine tkK 5 ?_;refine tkK 6 ?_;refine tkK 7 ?_;refine tkK 8 ?_;refine tkK 9 ?_;refine kla 10 (fun K hK=>?_);go_simp
   go_wp2_with fail
   refine hK.out _ _ ?_;clear hK K
   try simp only[ap]
   refine kdn ?_ _;go_wp2
   go_roundw
   case rel=>exact⟨k+1,by omega,by go_num,by rw[HSN.out,<- hs.out];exact hA.drew.set_ 2 _,bch,(by simp[Cls,go_sem,Fr])⟩
   case measure=>simp[intOf];omega
  ·have HTK:=lHd (show xs.take k=xs from zQd (by omega));rw[HTK.out] at hcA hA;have hc0:=hA.cell 0;have hc1:=hA.cell 1;have hc3:=hA.cell 3;go_wp2;refine bodyPost_ret ?_ rfl ⟨rfl,?_⟩
   ·simp[results,results60,go_sem,Fr]
   ·exact mvk
theorem vY1(w:World)(t:TaskV)(Ai Ag Ao:Option Addr)(ci cg co:Nat)(hT:TaskMem w Ai Ag Ao t)(n:Nat)(hn:t.facts=n)(hv:Valid t) :
  Calls prog 56 #[.agg #[.int .i64 t.facts,.slice Ai t.init.length ci,.slice Ag t.goal.length cg,.slice Ao t.ops.length co],.bool true] w ((CheckedP n t w)):=by
 have HCK:=fun w0 h=>zQ7 w0 t Ai Ag Ao ci cg co h n hn hv
 clear hv hn;go_enter func56,ntmps56
 go_wp2_with fail
 refine(HCK _ (hT.below bch)).mono ?_;rintro e w1 ⟨hB1,hR1⟩;have D1:=xJ3 w hB1 bch;have C1:=Cls.below (l:=[(w.heap.size,0,.int .i64 t.facts),(w.heap.size,1,.slice Ai t.init.length ci),(w.heap.size,2,.slice Ag t.goal.length cg),(w.heap.size,3,.slice Ao t.ops.length co),(w.heap.size+1,0,.int .i64 0),(w.heap.size+1,1,.int .i64 0)]) hB1 (by simp[Cls,go_sem]);have F1:=C1.f;have y1w1:=C1.b 4;rcases hR1 with⟨rfl,HTOO⟩|⟨g,v,ls,rfl,hW,hO,hC,hl⟩
 ·have HT1:=lHd HTOO;clear HTOO
  go_wp2_with fail
  refine xJ5 5 (by kernel_rfl) (by kernel_rfl) ?_;simp only[yJx,List.take_zero,List.drop_succ_cons,List.drop_zero]
  repeat still_step
  try refine wpStill_nil ?_
  go_wp2;refine bodyPost_ret (v:=.tuple #[.pointer none,.slice none 0 0,.agg #[.int .i64 10,.int .i64 (-7)]]) ?_ rfl ⟨?_,.inl ⟨rfl,HT1.out⟩⟩
  ·simp[results,results56,go_sem,F1,y1w1]
  ·exact mvk
 ·have HC:=lHd hC;clear hC
  go_wp2_with fail
  refine xJ5 5 (by kernel_rfl) (by kernel_rfl) ?_;simp only[yJx,List.take_zero,List.drop_succ_cons,List.drop_zero]
  repeat still_step
  try refine wpStill_nil ?_
  go_wp2;refine bodyPost_ret (v:=.tuple #[.pointer (some ⟨g,0,none⟩),v,.agg #[.int .i64 0,.int .i64 0]]) ?_ rfl ⟨?_,.inr ⟨g,v,ls,rfl,?_,?_,HC.out,hl⟩⟩
  ·simp[results,results56,go_sem,F1,y1w1]
  ·exact mvk
  ·exact(((hW.set_low (p:=⟨w.heap.size+1,0,none⟩) (by simp) _).set_low (p:=⟨w.heap.size+1,1,none⟩) (by simp) _).mono (by simp;omega)).below bl
  ·exact xZx (zW5 (ownsRow_setCell_below (ownsRow_setCell_below hO (a:=⟨w.heap.size+1,0,none⟩) (by simp) _) (a:=⟨w.heap.size+1,1,none⟩) (by simp) _) (by simp;omega)) bl
theorem zYi(w:World):Calls prog 57 #[.int .i64 4] w fun e w'=>e=.returned (.bool true)/\w=w':=by
 go_enter func57,ntmps57;go_wp2;go_ret;exact⟨rfl,rfl⟩
