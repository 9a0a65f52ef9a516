/-
  Lemmas.
-/
import Derived.Test.YtjjjeohejhmpoaaGreatX9
import Derived.Test.YtjjjeohejhmpoaaGreatX4
import Derived.Test.YtjjjeohejhmpoaaGreatX12
set_option linter.unusedVariables false
set_option linter.unusedSimpArgs false
set_option maxRecDepth 100000
set_option maxHeartbeats 4000000
namespace Go.Proofs.YtjjjeohejhmpoaaGreat
open Go.RowKit Go.Proofs.Tryz
theorem xW0(A:Option Addr)(c:Nat)(s:List Int)(w:World)(hI:Ints w A s)(n:Nat)(hs:SetP s (n:Int))(hn:n<=24) :
  Calls prog 127 #[.slice A s.length c] w fun e w'=>e=.returned (.int .u32 (xJ0 s))/\w=w':=by
 have HX:=lHd hs.1;have HS:=lHd hs;have hl:s.length<=9223372036854775807:=by have:=SetP.length hs (by omega);omega
 clear hs;go_enter func127,ntmps127;go_wp2
 go_loop [3,8] (fun a i=>∃k:Nat,k<=s.length/\i=.int .i64 k/\a=.int .u32 (xJ0 (s.take k))) (fun _ i=>s.length-(intOf i).toNat)
 case atStart=>exact⟨0,zKk _,rfl,rfl⟩
 case round=>
  obtain⟨k,hk,rfl,rfl⟩:=hrel
  by_cases hlt:k<s.length
  ·obtain⟨ad,x,rfl,hx,hc⟩:=hI.at_ hlt;obtain⟨x0,x1⟩:=HX.out x (lMg hx.out);have HP:=lHd (zWh HS.out hn hx.out);have x32:x<=32:=by omega
   have hp:=yXp ⟨x0,x1⟩ hn;go_wp2
   go_round
   case rel=>
    refine⟨k+1,by omega,by go_num,?_⟩;rw[<- HP.out]
    try simp[IntKind.wrap_u32']
   case measure=>simp[intOf];omega
  ·have hall:=lHd (show s.take k=s from zQd (by omega));rw[hall.out];go_wp2;go_ret;exact⟨rfl,rfl⟩
theorem yXk(A:Option Addr)(c:Nat)(s:List Int)(w:World)(hI:Ints w A s)(n:Nat)(hs:SetP s (n:Int))(hn:n<=24) :
  Calls prog 127 #[.slice A s.length c] w fun e w'=>e=.returned (.int .u32 (xJ0 s))/\w'=w:=(xW0 A c s w hI n hs hn).mono fun _ _ h=>⟨h.1,h.2.symm⟩
def yY8(w:World)(row:Option Nat)(cs:List Value)(o:OpV):Prop:=cs=[.int .u32 (xJ0 o.pre),.int .u32 (xJ0 o.add),.int .u32 (xJ0 o.del),.int .i64 o.cost]
theorem xYa:Stable yY8:=⟨fun h _=>h,fun h _=>⟨h,h⟩⟩
theorem yXl:(prog.info? 197).map (fun i=>(i.zero,i.size,i.bytes))=some (some (.agg #[.int .u32 0,.int .u32 0,.int .u32 0,.int .i64 0]),4,24):=by kernel_rfl
def WMem(base:Nat)(w:World)(g:Nat)(t:TaskV):Prop:=
 ∃v,Arr w g 149 [.int .u32 (xJ0 t.init),.int .u32 (xJ0 t.goal),v]/\OwnEs yY8 197 4 base w v t.ops/\base<=g
theorem WMem.below{base g:Nat}{w w':World}{t:TaskV}(h:WMem base w g t)(hb:Below w.heap.size w w'):WMem base w' g t:=by
 obtain⟨v,h1,h2,h3⟩:=h;exact⟨v,h1.below hb,h2.below xYa hb,h3⟩
theorem WMem.lt{base g:Nat}{w:World}{t:TaskV}(h:WMem base w g t):g<w.heap.size:=by obtain⟨v,h1,_⟩:=h;exact h1.lt
structure TSets(n:Nat)(t:TaskV):Prop where
 n24:n<=24
 init:SetP t.init (n:Int)
 goal:SetP t.goal (n:Int)
 nops:t.ops.length<=40
 ops:∀o∈t.ops,SetP o.pre (n:Int)/\SetP o.add (n:Int)/\SetP o.del (n:Int)/\0<=o.cost/\o.cost<=100/\∀x∈o.add,¬x∈o.del
theorem zY6{t:TaskV}{n:Nat}(hv:Valid t)(hn:t.facts=n):TSets n t:=
 ⟨by have:=hv.f1;omega,hn ▸ hv.init,hn ▸ hv.goal,hv.nops,fun o ho=>by
  obtain⟨⟨h1,h2,h3,h4⟩,h5⟩:=hv.ops o ho;rw[hn] at h1 h2 h3;exact⟨h1,h2,h3,h5.1,h5.2,h4⟩⟩
theorem yWs(w:World)(t:TaskV)(Ai Ag Ao:Option Addr)(ci cg co:Nat)(hT:TaskMem w Ai Ag Ao t)(n:Nat)(hv:TSets n t) :
  Calls prog 76 #[.agg #[.int .i64 t.facts,.slice Ai t.init.length ci,.slice Ag t.goal.length cg,.slice Ao t.ops.length co]] w fun e w'=>∃g,e=.returned (.pointer (some ⟨g,0,none⟩))/\WMem w.heap.size w' g t/\Below w.heap.size w w':=by
 have HV:=lHd hv;have hn24:=hv.n24;have h40:=hv.nops;clear hv;go_enter func76,ntmps76
 go_wp2_with fail
 refine xJ5 7 (by kernel_rfl) (by kernel_rfl) ?_;simp only[yJx,List.take_zero,List.drop_succ_cons,List.drop_zero]
 repeat still_step
 still_call (yXk _ _ _ _ (hT.init.below bl) n HV.out.init hn24)
 repeat still_step
 still_call (yXk _ _ _ _ (hT.goal.below bl) n HV.out.goal hn24)
 repeat still_step
 try refine wpStill_nil ?_
 go_wp2_with fail
 go_loopw [17] (fun i wr=>∃(k:Nat) (v:Value),k<=t.ops.length/\i=.int .i64 k/\Arr wr (w.heap.size+1) 149 [.int .u32 (xJ0 t.init),.int .u32 (xJ0 t.goal),v]/\OwnEs yY8 197 4 (w.heap.size+1+1) wr v (t.ops.take k)/\(w.heap.size+1+1)<=wr.heap.size/\Below w.heap.size w wr/\Cls wr [(w.heap.size,0,.int .i64 t.facts),(w.heap.size,1,.slice Ai t.init.length ci),(w.heap.size,2,.slice Ag t.goal.length cg),(w.heap.size,3,.slice Ao t.ops.length co)]) (fun i _=>t.ops.length-(intOf i).toNat)
 case atStart=>exact⟨0,.slice none 0 0,zKk _,rfl,Arr.new_at _ _ (by simp) _ _,OwnEs.nil _ _,by simp,bch,(by simp[Cls,go_sem])⟩
 case round=>
  obtain⟨k,v,hk,rfl,hA,hO,hbz,hBr,hCr⟩:=hrel;have drs:=hBr.size;have Fr:=hCr.f;have yrw0:=hCr.blk (b:=w.heap.size) (k:=0) (v:=.int .i64 t.facts) (by simp);have yrwp1:w.heap.size<wr.heap.size+1:=(by omega);obtain⟨A1,c1,rfl⟩:=hO.form;have HLK:Hid ((t.ops.take k).length=k):=by show _=_;rw[List.length_take];omega
  rw[HLK.out] at hA hO;have hcv:wr.cell? ⟨(w.heap.size+1),2,none⟩=some (.slice A1 k c1):=hA.cell 2;have hblt:=hA.lt
  by_cases hlt:k<t.ops.length
  ·obtain⟨ad,o,A0,c0,A3,c3,A4,c4,rfl,ho,hc0,hc1,hc2,hc3,hm⟩:=hT.ops.at2 hBr hlt;obtain⟨hpre,hadd,hdel,hcost⟩:=HV.out.ops o (lMg ho.out);have HPRE:=lHd hpre;have HADD:=lHd hadd;have HDEL:=lHd hdel;clear hpre hadd hdel hcost
   go_wp2_with fail
   have hbp1:w.heap.size+1<wr.heap.size+1:=by omega
   have hSS0:(wr.alloc (.cells #[.slice A0 o.pre.length c0,.slice A3 o.add.length c3,.slice A4 o.del.length c4,.int .i64 o.cost] 89)).drew.cell? ⟨(w.heap.size+1),2,none⟩=some (.slice A1 k c1)/\(wr.alloc (.cells #[.slice A0 o.pre.length c0,.slice A3 o.add.length c3,.slice A4 o.del.length c4,.int .i64 o.cost] 89)).drew.cell? ⟨wr.heap.size,0,none⟩=some (.slice A0 o.pre.length c0)/\(wr.alloc (.cells #[.slice A0 o.pre.length c0,.slice A3 o.add.length c3,.slice A4 o.del.length c4,.int .i64 o.cost] 89)).drew.cell? ⟨wr.heap.size,1,none⟩=some (.slice A3 o.add.length c3)/\(wr.alloc (.cells #[.slice A0 o.pre.length c0,.slice A3 o.add.length c3,.slice A4 o.del.length c4,.int .i64 o.cost] 89)).drew.cell? ⟨wr.heap.size,2,none⟩=some (.slice A4 o.del.length c4)/\(wr.alloc (.cells #[.slice A0 o.pre.length c0,.slice A3 o.add.length c3,.slice A4 o.del.length c4,.int .i64 o.cost] 89)).drew.cell? ⟨wr.heap.size,3,none⟩=some (.int .i64 o.cost):=by simp[go_sem,hcv,hblt]
   refine xZ3 (fun W=>W.cell? ⟨(w.heap.size+1),2,none⟩=some (.slice A1 k c1)/\W.cell? ⟨wr.heap.size,0,none⟩=some (.slice A0 o.pre.length c0)/\W.cell? ⟨wr.heap.size,1,none⟩=some (.slice A3 o.add.length c3)/\W.cell? ⟨wr.heap.size,2,none⟩=some (.slice A4 o.del.length c4)/\W.cell? ⟨wr.heap.size,3,none⟩=some (.int .i64 o.cost)) [21] (by kernel_rfl) ?_;have hSS:=hSS0;refine tkK 0 ?_;refine tkK 1 ?_;refine tkK 2 ?_;refine tkK 3 ?_;refine tkK 4 ?_;refine tkK 5 ?_;refine tkK 6 ?_;refine tkK 8 ?_;refine tkK 9 ?_;refine tkK 11 ?_;refine tkK 12 ?_;refine tkK 14 ?_;refine tkK 15 ?_;refine kdo 7 (fun K hK=>?_);go_simp;go_at_call 127;refine(xW0 _ _ _ _ (hm.pre.below bl) n HPRE.out hn24).mono ?_;rintro e w9 ⟨rfl,rfl⟩
   go_wp2_with fail
   have hSS:=hSS0;refine hK.out _ _ hSS ?_;clear hK K
   try simp only[ap]
   refine kdo 10 (fun K hK=>?_);go_simp;go_at_call 127;refine(xW0 _ _ _ _ (hm.add.below bl) n HADD.out hn24).mono ?_;rintro e w9 ⟨rfl,rfl⟩
   go_wp2_with fail
   have hSS:=hSS0;refine hK.out _ _ hSS ?_;clear hK K
   try simp only[ap]
   refine kdo 13 (fun K hK=>?_);go_simp;go_at_call 127;refine(xW0 _ _ _ _ (hm.del.below bl) n HDEL.out hn24).mono ?_;rintro e w9 ⟨rfl,rfl⟩
   go_wp2_with fail
   have hSS:=hSS0;refine hK.out _ _ hSS ?_;clear hK K
   try simp only[ap]
   refine tkK 16 ?_;refine kdo 17 (fun K hK=>?_);go_simp
   go_wp2_with fail
   have hSS:((wr.alloc (.cells #[.slice A0 o.pre.length c0,.slice A3 o.add.length c3,.slice A4 o.del.length c4,.int .i64 o.cost] 89)).alloc (.cells #[.int .u32 (xJ0 o.pre),.int .u32 (xJ0 o.add),.int .u32 (xJ0 o.del),.int .i64 o.cost] 197)).drew.cell? ⟨(w.heap.size+1),2,none⟩=some (.slice A1 k c1)/\((wr.alloc (.cells #[.slice A0 o.pre.length c0,.slice A3 o.add.length c3,.slice A4 o.del.length c4,.int .i64 o.cost] 89)).alloc (.cells #[.int .u32 (xJ0 o.pre),.int .u32 (xJ0 o.add),.int .u32 (xJ0 o.del),.int .i64 o.cost] 197)).drew.cell? ⟨wr.heap.size,0,none⟩=some (.slice A0 o.pre.length c0)/\((wr.alloc (.cells #[.slice A0 o.pre.length c0,.slice A3 o.add.length c3,.slice A4 o.del.length c4,.int .i64 o.cost] 89)).alloc (.cells #[.int .u32 (xJ0 o.pre),.int .u32 (xJ0 o.add),.int .u32 (xJ0 o.del),.int .i64 o.cost] 197)).drew.cell? ⟨wr.heap.size,1,none⟩=some (.slice A3 o.add.length c3)/\((wr.alloc (.cells #[.slice A0 o.pre.length c0,.slice A3 o.add.length c3,.slice A4 o.del.length c4,.int .i64 o.cost] 89)).alloc (.cells #[.int .u32 (xJ0 o.pre),.int .u32 (xJ0 o.add),.int .u32 (xJ0 o.del),.int .i64 o.cost] 197)).drew.cell? ⟨wr.heap.size,2,none⟩=some (.slice A4 o.del.length c4)/\((wr.alloc (.cells #[.slice A0 o.pre.length c0,.slice A3 o.add.length c3,.slice A4 o.del.length c4,.int .i64 o.cost] 89)).alloc (.cells #[.int .u32 (xJ0 o.pre),.int .u32 (xJ0 o.add),.int .u32 (xJ0 o.del),.int .i64 o.cost] 197)).drew.cell? ⟨wr.heap.size,3,none⟩=some (.int .i64 o.cost):=(by simp[go_sem,hcv,hblt,hbp1]);refine hK.out _ _ hSS ?_;clear hK K
   try simp only[ap]
   refine kdo 18 (fun K hK=>?_);refine yWg xYa 147 24 (.agg #[.int .u32 0,.int .u32 0,.int .u32 0,.int .i64 0]) underlying147 yXl rfl (by decide) (by decide) rfl (.tmp 25) (.tmp 38) rfl w [(w.heap.size,0,.int .i64 t.facts),(w.heap.size,1,.slice Ai t.init.length ci),(w.heap.size,2,.slice Ag t.goal.length cg),(w.heap.size,3,.slice (some ad) t.ops.length co)] rfl (hO.below xYa bl) ⟨wr.heap.size+1,0,none⟩ 1 rfl [.int .u32 (xJ0 o.pre),.int .u32 (xJ0 o.add),.int .u32 (xJ0 o.del),.int .i64 o.cost] o rfl ?n1 ?n2 rfl ?n3 ?n4 ?n5 bl ?n6 ?n7 ?nn
   case n1=>exact zJ5 _ _ (by simp) _ _
   case n2=>simp[Value.oneCell']
   case n3=>(have:=HLK.out;omega)
   case n4=>(simp;omega)
   case n5=>omega
   case n6=>simp[Cls,go_sem,Fr,yrw0,yrwp1]
   case n7=>(simp;try omega)
   intro g5 c5 w' hO2 hB2 hC2 hsz2 hg2;simp at hsz2;rw[HLK.out] at hO2 ⊢;have hA2:=Arr.grown (hA.below bl) hg2 (fun e1=>by have:=hO.lt _ e1;omega);have hcq:w'.cell? ⟨(w.heap.size+1),2,none⟩=some (.slice A1 k c1):=hA2.cell 2;have hfq:=hA2.free 2;have hOp:=Arr.grown (w:=((wr.alloc (.cells #[.slice A0 o.pre.length c0,.slice A3 o.add.length c3,.slice A4 o.del.length c4,.int .i64 o.cost] 89)).alloc (.cells #[.int .u32 (xJ0 o.pre),.int .u32 (xJ0 o.add),.int .u32 (xJ0 o.del),.int .i64 o.cost] 197)).drew) ((Arr.new wr 89 _).alloc _) hg2 (fun e1=>by have:=hO.lt _ e1;omega);have hSS:w'.cell? ⟨(w.heap.size+1),2,none⟩=some (.slice A1 k c1)/\w'.cell? ⟨wr.heap.size,0,none⟩=some (.slice A0 o.pre.length c0)/\w'.cell? ⟨wr.heap.size,1,none⟩=some (.slice A3 o.add.length c3)/\w'.cell? ⟨wr.heap.size,2,none⟩=some (.slice A4 o.del.length c4)/\w'.cell? ⟨wr.heap.size,3,none⟩=some (.int .i64 o.cost):=⟨hcq,hOp.cell 0,hOp.cell 1,hOp.cell 2,hOp.cell 3⟩;refine hK.out _ _ hSS ?_;clear hK K
   try simp only[ap]
   refine tk0 19 ?_;refine tk0 20 ?_;refine kla 21 (fun K hK=>?_);go_simp
   go_wp2_with fail
   refine hK.out _ _ ?_;clear hK K
   try simp only[ap]
   refine kdn ?_ _;go_wp2;have HTK:=lHd (vXd (l:=t.ops) (i:=k))
   go_roundw
   case rel=>
    refine⟨k+1,_,by omega,by go_num,hA2.set_ 2 _,?_,by simp;omega,bl,hC2.far _ _ (by simp)⟩;rw[HTK.out,ho.out];exact hO2.far (fun h _=>h) (p:=⟨(w.heap.size+1),2,none⟩) (by show w.heap.size+1<w.heap.size+1+1;omega) _
   case measure=>simp[intOf];omega
  ·have HALL:=lHd (show t.ops.take k=t.ops from zQd (by omega));go_wp2;rw[HALL.out] at hO;go_ret;exact⟨_,rfl,⟨_,hA,hO.mono (by omega),by omega⟩,hBr⟩
