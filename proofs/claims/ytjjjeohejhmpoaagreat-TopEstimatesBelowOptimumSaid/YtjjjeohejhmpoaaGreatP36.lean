/-
  Lemmas for the law: Tre, Tac, Tad, Ta.
-/
import Derived.Test.YtjjjeohejhmpoaaGreatP17
import Derived.Test.YtjjjeohejhmpoaaGreatP3
set_option linter.unusedVariables false
set_option linter.unusedSimpArgs false
set_option maxRecDepth 100000
set_option maxHeartbeats 4000000
namespace Go.Proofs.YtjjjeohejhmpoaaGreat
open Go.RowKit
theorem vVi{ops:List OpV}{pl:List Int}{k op:Nat}{o:OpV}(h:pl[k]? = some (op:Int))(ho:ops[op]? = some o):(pl.take (k+1)).map (fun x=>xJ2 (ops.map (·.cost)) x)=(pl.take k).map (fun x=>xJ2 (ops.map (·.cost)) x) ++ [o.cost]:=by
 rw[List.take_add_one,h];have:xJ2 (ops.map (·.cost)) (op:Int)=o.cost:=xJl (by simp[ho]);simp[this]
def xYo(ops:List OpV)(pl:List Int):Int:=(pl.map fun x=>xJ2 (ops.map (·.cost)) x).sum
theorem vVj{ops:List OpV}{pl:List Int}{k op:Nat}{o:OpV}(h:pl[k]? = some (op:Int))(ho:ops[op]? = some o):xYo ops (pl.take (k+1))=xYo ops (pl.take k)+o.cost:=by
 unfold xYo;rw[vVi h ho,List.sum_append];simp
theorem vXy{ops:List OpV}(hc:∀o∈ops,0<=o.cost/\o.cost<=100):∀(pl:List Int),(∀x∈pl,0<=x/\x<(ops.length:Int))->0<=xYo ops pl/\xYo ops pl<=100*pl.length
 | [],_=>by simp[xYo]
 |x::pl,hx=>by
  have ih:=vXy hc pl (fun y hy=>hx y (List.mem_cons_of_mem _ hy));obtain⟨h0,h1⟩:=hx x (List.mem_cons_self ..);obtain⟨op,rfl⟩:=Int.eq_ofNat_of_zero_le h0;have ho:ops[op]? = some ops[op]:=lGe (by omega);have hv:xJ2 (ops.map (·.cost)) (op:Int)=ops[op].cost:=xJl (by simp[ho]);have hc':=hc _ (lMg ho);have e:xYo ops ((op:Int)::pl)=ops[op].cost+xYo ops pl:=by unfold xYo;rw[List.map_cons,List.sum_cons,hv]
  rw[e];simp only[List.length_cons];omega
theorem vWa(w:World)(t:TaskV)(Ai Ag Ao:Option Addr)(ci cg co:Nat)(hT:TaskMem w Ai Ag Ao t)(A:Option Addr)(c:Nat)(xs:List Int)(hS:Ints w A xs)(fnd:Bool)(ne:Int)(hl:xs.length<1000000000)(h60:60<xs.length) :
  Calls Tryz.prog 60 #[.agg #[.int .i64 t.facts,.slice Ai t.init.length ci,.slice Ag t.goal.length cg,.slice Ao t.ops.length co],.slice A xs.length c,.bool fnd,.int .i64 ne] w fun e w'=>e=.returned (.tuple #[.agg #[.bool false,.slice none 0 0,.int .i64 0,.int .i64 0],.agg #[.int .i64 10,.int .i64 (-9)]])/\Below w.heap.size w w':=by
 go_enter Tryz.func60,Tryz.ntmps60;go_wp2;refine bodyPost_ret ?_ rfl ⟨rfl,bch⟩;simp[results,Tryz.results60,go_sem]
theorem zK3(w:World)(t:TaskV)(Ai Ag Ao:Option Addr)(ci cg co:Nat)(hT:TaskMem w Ai Ag Ao t)(A:Option Addr)(c:Nat)(xs:List Int)(hS:Ints w A xs)(fnd:Bool)(ne:Int)(hl:xs.length<1000000000)(h60:xs.length<=60)(hx:∀x∈xs,0<=x/\x<(t.ops.length:Int))(hco:∀o∈t.ops,0<=o.cost/\o.cost<=100) :
  Calls Tryz.prog 60 #[.agg #[.int .i64 t.facts,.slice Ai t.init.length ci,.slice Ag t.goal.length cg,.slice Ao t.ops.length co],.slice A xs.length c,.bool fnd,.int .i64 ne] w fun e w'=>e=.returned (.tuple #[.agg #[.bool fnd,.slice A xs.length c,.int .i64 (xYo t.ops xs),.int .i64 ne],.agg #[.int .i64 0,.int .i64 0]])/\Below w.heap.size w w':=by
 have HXS:=lHd hx;have HCO:=lHd hco;clear hx hco;go_enter Tryz.func60,Tryz.ntmps60;go_wp2
 go_loopw [24] (fun i wr=>∃k:Nat,k<=xs.length/\i=.int .i64 k/\Arr wr (w.heap.size+1+1+1) 51 [.bool fnd,.slice A xs.length c,.int .i64 (xYo t.ops (xs.take k)),.int .i64 ne]/\Below w.heap.size w wr/\Cls wr [(w.heap.size,0,.int .i64 t.facts),(w.heap.size,1,.slice Ai t.init.length ci),(w.heap.size,2,.slice Ag t.goal.length cg),(w.heap.size,3,.slice Ao t.ops.length co),(w.heap.size+1,0,.bool false),(w.heap.size+1,1,.slice none 0 0),(w.heap.size+1,2,.int .i64 0),(w.heap.size+1,3,.int .i64 0),(w.heap.size+1+1,0,.int .i64 0),(w.heap.size+1+1,1,.int .i64 0)]) (fun i _=>xs.length-(intOf i).toNat)
 case atStart=>exact⟨0,Nat.zero_le _,rfl,Arr.new_at _ _ (by simp) _ _,bch,(by simp[Cls,go_sem])⟩
 case round=>
  obtain⟨k,hk,rfl,hA,hBr,hCr⟩:=hrel;have hcA:=hA.cell 2;have hfA:=hA.free 2;have hlA:=hA.lt;have Fr:=hCr.f
  by_cases hlt:k<xs.length
  ·obtain⟨pd,x,rfl,hx,hxc⟩:=(hS.below hBr).at_ hlt;obtain⟨hx0,hx1⟩:=HXS.out x (lMg hx.out);obtain⟨op,rfl⟩:=Int.eq_ofNat_of_zero_le hx0;have hol:op<t.ops.length:=by omega
   obtain⟨ad,o,A0,c0,A2,c2,A4,c4,rfl,ho,hc0,hc1,hc2,hc3,hm⟩:=hT.ops.at2 hBr hol;have HSN:=lHd (vVj hx.out ho.out);have hoc:=HCO.out o (lMg ho.out);have hsr:=vXy HCO.out (xs.take k) (fun x hx=>HXS.out x (List.mem_of_mem_take hx));rw[List.length_take] at hsr;obtain⟨s,hs⟩:∃s,Hid (s=xYo t.ops (xs.take k)):=⟨_,rfl⟩;rw[<- hs.out] at hcA hsr;have hadw:(ad.add (op*4)).block<w.heap.size:=by
    obtain⟨ad',_,_,_,_,_,_,_,e1,_,hc0',_⟩:=hT.ops.at2 (Below.refl _ w) hol;injection e1 with e1;subst e1
    exact World.block_lt_of_cell? w _ hc0'
   clear hm hc0 hc1 hc2
   go_wp2_with fail
   have hSS0:wr.drew.cell? ⟨w.heap.size+1+1+1,2,none⟩=some (.int .i64 s)/\wr.drew.cell? ⟨w.heap.size,3,none⟩=some (.slice (some ad) t.ops.length co)/\wr.drew.cell? ⟨(ad.add (op*4)).block,(ad.add (op*4)).off+3,none⟩=some (.int .i64 o.cost):=⟨hcA,Fr.2.2.2.1.1,hc3⟩;refine xZ3 (fun W=>W.cell? ⟨w.heap.size+1+1+1,2,none⟩=some (.int .i64 s)/\W.cell? ⟨w.heap.size,3,none⟩=some (.slice (some ad) t.ops.length co)/\W.cell? ⟨(ad.add (op*4)).block,(ad.add (op*4)).off+3,none⟩=some (.int .i64 o.cost)) [10] (by kernel_rfl) ?_;have hSS:=hSS0;refine tkK 0 ?_;refine tkK 1 ?_;refine tkK 2 ?_;refine tkK 3 ?_;refine tkK 4 ?_;refine tkK 5 ?_;refine tkK 6 ?_;refine tkK 7 ?_;refine tkK 8 ?_;refine tkK 9 ?_;refine kla 10 (fun K hK=>?_);go_simp
   go_wp2_with fail
   refine hK.out _ _ ?_;clear hK K
   try simp only[ap]
   refine kdn ?_ _;go_wp2
   go_roundw
   case rel=>exact⟨k+1,by omega,by go_num,by rw[HSN.out,<- hs.out];exact hA.drew.set_ 2 _,bch,(by simp[Cls,go_sem,Fr])⟩
   case measure=>simp[intOf];omega
  ·have HTK:=lHd (show xs.take k=xs from List.take_of_length_le (by omega));rw[HTK.out] at hcA hA;have hc0:=hA.cell 0;have hc1:=hA.cell 1;have hc3:=hA.cell 3;go_wp2;refine bodyPost_ret ?_ rfl ⟨rfl,?_⟩
   ·simp[results,Tryz.results60,go_sem,Fr]
   ·exact mvk
theorem vY1(w:World)(t:TaskV)(Ai Ag Ao:Option Addr)(ci cg co:Nat)(hT:TaskMem w Ai Ag Ao t)(n:Nat)(hn:t.facts=n)(hv:Valid t) :
  Calls Tryz.prog 56 #[.agg #[.int .i64 t.facts,.slice Ai t.init.length ci,.slice Ag t.goal.length cg,.slice Ao t.ops.length co],.bool true] w ((CheckedP n t w)):=by
 have HCK:=fun w0 h=>zQ7 w0 t Ai Ag Ao ci cg co h n hn hv
 clear hv hn;go_enter Tryz.func56,Tryz.ntmps56
 go_wp2_with fail
 refine(HCK _ (hT.below bch)).mono ?_;rintro e w1 ⟨hB1,hR1⟩;have D1:=xJ3 w hB1 bch;have C1:=Cls.below (l:=[(w.heap.size,0,.int .i64 t.facts),(w.heap.size,1,.slice Ai t.init.length ci),(w.heap.size,2,.slice Ag t.goal.length cg),(w.heap.size,3,.slice Ao t.ops.length co),(w.heap.size+1,0,.int .i64 0),(w.heap.size+1,1,.int .i64 0)]) hB1 (by simp[Cls,go_sem]);have F1:=C1.f;have y1w1:=C1.b 4;rcases hR1 with⟨rfl,HTOO⟩|⟨g,v,ls,rfl,hW,hO,hC,hl⟩
 ·have HT1:=lHd HTOO;clear HTOO
  go_wp2_with fail
  refine xJ5 5 (by kernel_rfl) (by kernel_rfl) ?_;simp only[List.take_succ_cons,List.take_zero,List.drop_succ_cons,List.drop_zero]
  repeat still_step
  try refine wpStill_nil ?_
  go_wp2;refine bodyPost_ret (v:=.tuple #[.pointer none,.slice none 0 0,.agg #[.int .i64 10,.int .i64 (-7)]]) ?_ rfl ⟨?_,.inl ⟨rfl,HT1.out⟩⟩
  ·simp[results,Tryz.results56,go_sem,F1,y1w1]
  ·exact mvk
 ·have HC:=lHd hC;clear hC
  go_wp2_with fail
  refine xJ5 5 (by kernel_rfl) (by kernel_rfl) ?_;simp only[List.take_succ_cons,List.take_zero,List.drop_succ_cons,List.drop_zero]
  repeat still_step
  try refine wpStill_nil ?_
  go_wp2;refine bodyPost_ret (v:=.tuple #[.pointer (some ⟨g,0,none⟩),v,.agg #[.int .i64 0,.int .i64 0]]) ?_ rfl ⟨?_,.inr ⟨g,v,ls,rfl,?_,?_,HC.out,hl⟩⟩
  ·simp[results,Tryz.results56,go_sem,F1,y1w1]
  ·exact mvk
  ·exact(((hW.set_low (p:=⟨w.heap.size+1,0,none⟩) (by simp) _).set_low (p:=⟨w.heap.size+1,1,none⟩) (by simp) _).mono (by simp;omega)).below bl
  ·exact xZx (zW5 (ownsRow_setCell_below (ownsRow_setCell_below hO (a:=⟨w.heap.size+1,0,none⟩) (by simp) _) (a:=⟨w.heap.size+1,1,none⟩) (by simp) _) (by simp;omega)) bl
theorem zYi(w:World):Calls Tryz.prog 57 #[.int .i64 4] w fun e w'=>e=.returned (.bool true)/\w=w':=by
 go_enter Tryz.func57,Tryz.ntmps57;go_wp2;go_ret;exact⟨rfl,rfl⟩
theorem xY2(w:World)  :
  Calls Tryz.prog 27 #[] w fun e w'=>∃g h,e=.returned (.agg #[.int .i64 2,.slice none 0 0,.slice (some ⟨g,0,none⟩) 1 1,.slice (some ⟨h,0,none⟩) 2 2])/\TaskMem w' none (some ⟨g,0,none⟩) (some ⟨h,0,none⟩) xJ1/\Below w.heap.size w w':=by
 go_enter Tryz.func27,Tryz.ntmps27;go_wp2;refine bodyPost_ret (v:=.agg #[.int .i64 2,.slice none 0 0,.slice (some ⟨w.heap.size+1,0,none⟩) 1 1,.slice (some ⟨w.heap.size+1+1+1+1+1,0,none⟩) 2 2]) ?_ rfl ⟨_,_,rfl,?_,bch⟩
 ·simp[results,Tryz.results27,go_sem]
 ·refine⟨Ints.nil _ _,zJp ?_,yWh (A0:=none) (c0:=0) (A1:=some ⟨w.heap.size+1+1,0,none⟩) (c1:=1) (A2:=none) (c2:=0) (B0:=some ⟨w.heap.size+1+1+1,0,none⟩) (d0:=1) (B1:=some ⟨w.heap.size+1+1+1+1,0,none⟩) (d1:=1) (B2:=none) (d2:=0) ?_ ?_ ?_ ?_ ⟨Ints.nil _ _,zJp ?_,Ints.nil _ _,by simp[lenOk],by simp[lenOk],by simp[lenOk]⟩ ?_ ?_ ?_ ?_ ⟨zJp ?_,zJp ?_,Ints.nil _ _,by simp[lenOk],by simp[lenOk],by simp[lenOk]⟩,by simp[lenOk,xJ1],by simp[lenOk,xJ1],by simp[lenOk,xJ1]⟩
  all_goals simp[go_sem]
theorem xX7:Valid xJ1:=by
 refine⟨by decide,by decide,SetP.nil _,?_,by decide,?_⟩
 ·exact SetP.of_pairwise (by simp[xJ1]) (by simp[xJ1])
 ·intro o ho;simp only[xJ1,List.mem_cons,List.not_mem_nil,or_false] at ho;rcases ho with rfl|rfl
  ·exact⟨⟨SetP.nil _,SetP.of_pairwise (by simp[xJ1]) (by simp),SetP.nil _,by simp⟩,by decide,by decide⟩
  ·exact⟨⟨SetP.of_pairwise (by simp[xJ1]) (by simp),SetP.of_pairwise (by simp[xJ1]) (by simp),SetP.nil _,by simp⟩,by decide,by decide⟩
theorem xWn{d:Int}(h:RBest 2 xJ1.ops xJ1.goal xJ1.init d):d=5:=by
 have hs0:xJb 2 [] (⟨[],[0],[],2⟩:OpV)=[0]:=by decide
 have hs1:xJb 2 [0] (⟨[0],[1],[],3⟩:OpV)=[0,1]:=by decide
 have hc:Cst 2 xJ1.ops xJ1.init [0,1] (0+2+3):=by
  have h1:Cst 2 xJ1.ops xJ1.init (xJb 2 [] ⟨[],[0],[],2⟩) (0+2):=.step (p:=0) .init rfl (by simp);rw[hs0] at h1;have h2:Cst 2 xJ1.ops xJ1.init (xJb 2 [0] ⟨[0],[1],[],3⟩) (0+2+3):=.step (p:=1) h1 rfl (by simp)
  rwa [hs1] at h2
 have hle:=h.2.2 _ _ hc (by simp[xJ1]);have key:∀ {l:List Int} {c:Int},Cst 2 xJ1.ops xJ1.init l c->(0<=c)/\(0∈l->2<=c)/\(1∈l->5<=c):=fun {l c} hc=>by
  induction hc with
  |init=>exact⟨by omega,fun h=>by simp[xJ1] at h,fun h=>by simp[xJ1] at h⟩
  |step h1 h2 h3 ih=>
   rename_i l c p o
   obtain⟨i0,i1,i2⟩:=ih
   match p,h2 with
   |0,h2=>
    cases h2
    dsimp only;refine⟨by omega,fun _=>by omega,fun h=>?_⟩;have h4:(1:Int)∈l:=by rcases (xXa.1 h).2 with h5|h5;simp at h5;exact h5.1
    have:=i2 h4;omega
   |1,h2=>
    cases h2
    have h5:=i1 (h3 0 (by simp));dsimp only;exact⟨by omega,fun _=>by omega,fun _=>by omega⟩
 rcases h.1 with h1|⟨l,h1,h2⟩
 ·rw[h1] at hle;omega
 ·have h3:=(key h1).2.2 (h2 1 (by simp[xJ1]));omega
end Go.Proofs.YtjjjeohejhmpoaaGreat
