/-
  Lemmas for the law: Sb, Sc, Sd, Se, Sf, Sg, Sh, Si.
-/
import Derived.Test.YtpeipeljmapkmaaGreatU11
import Derived.RangeFuncNested
import Derived.RangeFuncBound
import Derived.RangeFuncCalls
import Derived.RangeFuncLeaves
import Derived.Shelf.Abstract
import Derived.Shelf.RegionOpen
import Derived.OwnWalkIn
import Derived.TacticsInMore
import Derived.LoopNIn
import Derived.LoopIn
import Derived.Test.YtpeipeljmapkmaaGreatU14
import Derived.Test.YtpeipeljmapkmaaGreatU7
import Derived.Test.YtpeipeljmapkmaaGreatU3
set_option linter.unusedVariables false
set_option linter.unusedSimpArgs false
set_option maxRecDepth 100000
set_option maxHeartbeats 4000000
namespace Go.Proofs.YtpeipeljmapkmaaGreat
open Go.RowKit
section
open Go.Shelf
attribute [local go_sem] Oper.semAt_some
theorem xYr{l p:List Int}{n:Nat}(hl:SetP l (n:Int))(hp:SetP p (n:Int))(hn:n<=24):bits .and .u32 (xJ0 l) (xJ0 p)=xJ0 p↔∀ x∈p,x∈l:=by
 have h1:=hl.word_u32 hn;have h2:=hp.word_u32 hn;rw[u32_and _ _ h1.1 h1.2 h2.1 h2.2];have hbit:∀ i:Nat,((xJ0 l).toNat &&& (xJ0 p).toNat).testBit i=(decide ((i:Int)∈l) && decide ((i:Int)∈p)):=fun i=>by rw[Nat.testBit_and,hl.bit,hp.bit]
 constructor
 ·intro h x hx;obtain⟨x0,x1⟩:=hp.1 x hx;obtain⟨i,rfl⟩:=Int.eq_ofNat_of_zero_le x0;have h3:=hbit i;have h4:((xJ0 l).toNat &&& (xJ0 p).toNat)=(xJ0 p).toNat:=by omega
  rw[h4,hp.bit,decide_eq_true hx,Bool.and_true] at h3;exact of_decide_eq_true h3.symm
 ·intro h;have h4:((xJ0 l).toNat &&& (xJ0 p).toNat)=(xJ0 p).toNat:=by
   refine Nat.eq_of_testBit_eq fun i=>?_
   rw[hbit,hp.bit]
   by_cases hi:(i:Int)∈p
   ·rw[decide_eq_true hi,decide_eq_true (h _ hi)];rfl
   ·rw[decide_eq_false hi,Bool.and_false]
  rw[h4];omega
theorem vXh{l:List Int}{o:OpV}{n:Nat}(hl:SetP l (n:Int))(ha:SetP o.add (n:Int))(hd:SetP o.del (n:Int))(hn:n<=24) :
  bits .or .u32 (bits .andNot .u32 (xJ0 l) (xJ0 o.del)) (xJ0 o.add)=xJ0 (xJ5 n l o):=by
 have h1:=hl.word_u32 hn;have h2:=hd.word_u32 hn;have h3:=ha.word_u32 hn;have hs:=xJj n l o;have h4:=hs.word_u32 hn;have e1:=u32_andNot _ _ h1.1 h1.2 h2.1 h2.2;have hlt:((xJ0 l).toNat &&& (4294967295 - (xJ0 o.del).toNat)) < 4294967296:=Nat.lt_of_le_of_lt Nat.and_le_left (by omega);rw[e1,u32_or _ _ (by omega) (by omega) h3.1 h3.2,Int.toNat_natCast];have e:((xJ0 l).toNat &&& (4294967295 - (xJ0 o.del).toNat)) ||| (xJ0 o.add).toNat=(xJ0 (xJ5 n l o)).toNat:=by
  refine Nat.eq_of_testBit_eq fun i=>?_
  have e2:4294967295 - (xJ0 o.del).toNat=2 ^ 32 - ((xJ0 o.del).toNat+1):=by
   have:(2:Nat) ^ 32=4294967296:=by decide
   omega
  rw[Nat.testBit_or,Nat.testBit_and,hl.bit,e2,Nat.testBit_two_pow_sub_succ (by
    have:(2:Nat) ^ 32=4294967296:=by decide
    omega),hd.bit,ha.bit,hs.bit]
  by_cases hi:(i:Int)∈xJ5 n l o
  ·rw[decide_eq_true hi];rcases (xJq.1 hi).2 with h | ⟨h,h'⟩
   ·rw[decide_eq_true h,Bool.or_true]
   ·have:=hl.1 _ h;rw[decide_eq_true h,decide_eq_false h',decide_eq_true (by omega:i < 32)];rfl
  ·rw[decide_eq_false hi];have hna:¬ (i:Int)∈o.add:=fun h=>hi (xJq.2 ⟨ha.1 _ h,.inl h⟩)
   rw[decide_eq_false hna,Bool.or_false]
   by_cases hil:(i:Int)∈l
   ·by_cases hid:(i:Int)∈o.del
    ·rw[decide_eq_true hid];simp
    ·exact absurd (xJq.2 ⟨hl.1 _ hil,.inr ⟨hil,hid⟩⟩) hi
   ·rw[decide_eq_false hil];rfl
 rw[e];omega
def xJm(n:Nat)(ops:List OpV)(l:List Int):Nat->List (Nat×OpV×List Int)
 | 0=>[]
 | k+1=>xJm n ops l k ++ (match ops[k]? with | some o=>if ∀ x∈o.pre,x∈l then [(k,o,xJ5 n l o)] else [] | none=>[])
theorem xWp{n:Nat}{ops:List OpV}{l:List Int}{k:Nat}{o:OpV}(ho:ops[k]? = some o)(h:∀ x∈o.pre,x∈l):xJm n ops l (k+1)=xJm n ops l k ++ [(k,o,xJ5 n l o)]:=by
 show xJm n ops l k ++ _=_;rw[ho];show _ ++ (if _ then _ else _)=_;rw[if_pos h]
theorem vXi{n:Nat}{ops:List OpV}{l:List Int}{k:Nat}{o:OpV}(ho:ops[k]? = some o)(h:¬ ∀ x∈o.pre,x∈l):xJm n ops l (k+1)=xJm n ops l k:=by
 show xJm n ops l k ++ _=_;rw[ho];show _ ++ (if _ then _ else _)=_;rw[if_neg h,List.append_nil]
theorem xJz{n:Nat}{ops:List OpV}{l:List Int}:∀ {k:Nat} {x:Nat×OpV×List Int},x∈xJm n ops l k↔x.1 < k/\ops[x.1]? = some x.2.1/\(∀ q∈x.2.1.pre,q∈l)/\x.2.2=xJ5 n l x.2.1
 | 0,x=>by simp[xJm]
 | k+1,x=>by
  have ih:=xJz (n:=n) (ops:=ops) (l:=l) (k:=k) (x:=x);show x∈xJm n ops l k ++ _↔_;rw[List.mem_append,ih];obtain⟨i,o,l'⟩:=x;constructor
  ·rintro (⟨h1,h2⟩ | h)
   ·exact⟨by omega,h2⟩
   ·cases ho:ops[k]? with
    | none=>rw[ho] at h;simp at h
    | some o'=>
     rw[ho] at h;have h:(i,o,l')∈(if ∀ x∈o'.pre,x∈l then [(k,o',xJ5 n l o')] else []):=h
     split at h
     ·rename_i hp
      simp at h;obtain⟨rfl,rfl,rfl⟩:=h;exact⟨by simp,ho,hp,rfl⟩
     ·simp at h
  ·rintro ⟨h1,h2,h3,h4⟩;simp only at h1 h2 h3 h4
   by_cases hik:i=k
   ·subst hik;right;rw[h2];show _∈(if _ then _ else _);rw[if_pos h3,h4];simp
   ·exact .inl ⟨by simp only;omega,h2,h3,h4⟩
theorem xZh{n:Nat}{ops:List OpV}{l:List Int}:∀ k,(xJm n ops l k).length<=k
 | 0=>Nat.le_refl _
 | k+1=>by
  show (xJm n ops l k ++ _).length<=_;have:=xZh (n:=n) (ops:=ops) (l:=l) k;rw[List.length_append];have h:(match ops[k]? with | some o=>if ∀ x∈o.pre,x∈l then [(k,o,xJ5 n l o)] else [] | none=>[]).length<=1:=by
   split
   ·split <;> simp
   ·simp
  omega
theorem vXj{n:Nat}{ops:List OpV}{l:List Int}{k:Nat}{o:OpV}(ho:ops[k]? = some o)(h:∀ x∈o.pre,x∈l):∀ m,k < m->(xJm n ops l k).length < (xJm n ops l m).length:=by
 intro m hm
 induction m with
 | zero=>omega
 | succ m ih=>
  by_cases e:k=m
  ·subst e;rw[xWp ho h];simp
  ·have h1:=ih (by omega);show _ < (xJm n ops l m ++ _).length;rw[List.length_append];omega
theorem xVz{base g:Nat}{w:World}{t:TaskV}(h:WMem base w g t):Calls Tryz.prog 18 #[.pointer (some ⟨g,0,none⟩)] w fun e w'=>e=.returned (.int .u32 (xJ0 t.init))/\w=w':=by
 obtain⟨v,hA,_⟩:=h;have hc:w.cell? ⟨g,0,none⟩=some (.int .u32 (xJ0 t.init)):=hA.cell 0;clear hA;go_enter Tryz.func18,Tryz.ntmps18;go_wp2;go_ret;exact⟨rfl,rfl⟩
theorem zZo{base g n:Nat}{w:World}{t:TaskV}(h:WMem base w g t)(hv:TSets n t){l:List Int}(hl:SetP l (n:Int))(hg:∀ x∈t.goal,x∈l):Calls Tryz.prog 55 #[.pointer (some ⟨g,0,none⟩),.int .u32 (xJ0 l)] w fun e w'=>e=.returned (.bool true)/\∃ d,w'=w.drewN d:=by
 obtain⟨v,hA,_⟩:=h;have hc:w.cell? ⟨g,1,none⟩=some (.int .u32 (xJ0 t.goal)):=hA.cell 1;have hw:=(xYr hl hv.goal hv.n24).2 hg;clear hA hg hl hv;go_enter Tryz.func55,Tryz.ntmps55;go_wp2
 go_quiet (fail)
 go_wp2;go_ret;exact⟨rfl,_,rfl⟩
theorem zVq{base g n:Nat}{w:World}{t:TaskV}(h:WMem base w g t)(hv:TSets n t){l:List Int}(hl:SetP l (n:Int))(hg:¬ ∀ x∈t.goal,x∈l):Calls Tryz.prog 55 #[.pointer (some ⟨g,0,none⟩),.int .u32 (xJ0 l)] w fun e w'=>e=.returned (.bool false)/\∃ d,w'=w.drewN d:=by
 obtain⟨v,hA,_⟩:=h;have hc:w.cell? ⟨g,1,none⟩=some (.int .u32 (xJ0 t.goal)):=hA.cell 1;have hw:(bits .and .u32 (xJ0 l) (xJ0 t.goal) == xJ0 t.goal)=false:=by
  have:=fun h=>hg ((xYr hl hv.goal hv.n24).1 h)
  simpa using this
 clear hA hg hl hv;go_enter Tryz.func55,Tryz.ntmps55;go_wp2
 go_quiet (fail)
 go_wp2;go_ret;exact⟨rfl,_,rfl⟩
theorem xQr(g:Nat)(x:Int)(w:World):Calls Tryz.prog 57 #[.pointer (some ⟨g,0,none⟩),.int .u32 x] w fun e w'=>e=.returned (.func (.func 101) #[] #[.pointer (some ⟨w.heap.size,0,none⟩),.pointer (some ⟨w.heap.size+1,0,none⟩)])/\w'=(w.alloc (.cells #[.pointer (some ⟨g,0,none⟩)] 50)).alloc (.cells #[.int .u32 x] 56):=by
 go_enter Tryz.func57,Tryz.ntmps57;go_wp2;go_ret;exact⟨rfl,rfl⟩
end
section
open Go.Shelf
attribute [local go_sem] Oper.semAt_some
abbrev xX4(n:Nat)(ops:List OpV)(l:List Int):={ x:Nat×OpV×List Int // x∈xJm n ops l ops.length }
def xX5{n:Nat}{ops:List OpV}{l:List Int}(x:xX4 n ops l):Array Value:=#[.agg #[.int .i64 (x.1.1:Int),.int .i64 x.1.2.1.cost,.int .u32 (xJ0 x.1.2.2)]]
def KpS(n0 b:Nat)(W W':World):Prop:=Below n0 W W'/\W'.heap[b]? = W.heap[b]?
theorem vKb{n0 b:Nat}{A B C:World}(h:KpS n0 b A B)(k:KpS n0 b B C):KpS n0 b A C:=⟨h.1.trans k.1,k.2.trans h.2⟩
theorem kps_b{n0 b:Nat}{w:World}(hn:n0<=w.heap.size)(hb:b < w.heap.size)(W:World)(l:Nat)(o o':Obj)(hl:w.heap.size<=l)(h:W.heap[l]? = some o)(h1:o.isCells=false)(h2:o.isWalk=false):KpS n0 b W (W.putObj l o'):=
 ⟨belowK_b hn W l o o' hl h h1 h2,World.putObj_heap_other (by omega)⟩
theorem vZp{base g n b1 b2:Nat}{w0:World}{t:TaskV}{l:List Int}(hM:WMem base w0 g t)(hv:TSets n t)(hl:SetP l (n:Int))(y:Nat)(J Jx:List (xX4 n t.ops l)->World->Prop)(W:World)
  (hB:Below w0.heap.size w0 W) (h1:W.cell? ⟨b1,0,none⟩=some (.pointer (some ⟨g,0,none⟩))) (h2:W.cell? ⟨b2,0,none⟩=some (.int .u32 (xJ0 l))) (hb2:w0.heap.size<=b2)
  (hJa:∀ s A o,J s A->J s (A.alloc o))
  (hY:∀ pre x W1,J pre W1->pre.length < (xJm n t.ops l t.ops.length).length->YieldAt Fence.wide 3 Tryz.prog y (xX5 x) W1 fun e W'=>
   (e=.returned (.bool true)/\J (pre ++ [x]) W'/\KpS w0.heap.size b2 W1 W')\/(e=.returned (.bool false)/\Jx (pre ++ [x]) W'))
  (h0:J [] W) :
  CallsIn Fence.wide 4 Tryz.prog 101 #[.func (.yield y) #[] #[],.pointer (some ⟨b1,0,none⟩),.pointer (some ⟨b2,0,none⟩)] W fun e W'=>(∃ v,e=.returned v) /\
   ((∃ xs:List (xX4 n t.ops l),xs.map (·.1)=xJm n t.ops l t.ops.length/\J xs W')\/(∃ pre,True/\Jx pre W')):=by
 obtain⟨v,hA,hO,_⟩:=hM;obtain⟨A,c,rfl⟩:=hO.form;have hgl:=hA.lt;have hc3:W.cell? ⟨g,2,none⟩=some (.slice A t.ops.length c):=(hB.cell (p:=⟨g,2,none⟩) hgl).trans (hA.cell 2);have h40:t.ops.length<=40:=hv.nops;refine callsIn_of_wp Tryz.func101 rfl trivial ?_ rfl;simp only[Tryz.ntmps101,List.size_toArray,List.length_cons,List.length_nil,Nat.reduceAdd,Nat.reduceSub,Array.replicate_succ,Array.replicate_zero,List.push_toArray,List.append_toArray,List.nil_append,List.cons_append]
 gi_wp2
 gi_loopw [11] (fun i wr=>∃ (k:Nat) (pre:List (xX4 n t.ops l)),k<=t.ops.length/\i=.int .i64 (k:Int)/\Hid (pre.map (·.1)=xJm n t.ops l k)/\J pre wr/\Below w0.heap.size w0 wr/\wr.cell? ⟨b2,0,none⟩=some (.int .u32 (xJ0 l))) (fun i _=>t.ops.length - (intOf i).toNat)
 case atStart=>exact⟨0,[],Nat.zero_le _,rfl,rfl,h0,hB,h2⟩
 case round=>
  clear h0 hB h2 hc3 h1;obtain⟨k,pre,hk,rfl,hp,hJ,hB,h2⟩:=hrel;have hb2l:b2 < wr.heap.size:=World.block_lt_of_cell? wr _ h2
  by_cases hlt:k < t.ops.length
  ·obtain⟨gr,cs,o,rfl,hbr,hgr,ho,hcl,hcs,hP⟩:=hO.at_ hlt;unfold vQc at hP;subst hP;have hm0:wr.cell? ⟨gr,k * 4,none⟩=some (.int .u32 (xJ0 o.pre)):=(hB.cell (p:=⟨gr,k * 4,none⟩) hgr).trans (hcs 0 _ rfl);have hm1:wr.cell? ⟨gr,k * 4+1,none⟩=some (.int .u32 (xJ0 o.add)):=(hB.cell (p:=⟨gr,k * 4+1,none⟩) hgr).trans (hcs 1 _ rfl);have hm2:wr.cell? ⟨gr,k * 4+2,none⟩=some (.int .u32 (xJ0 o.del)):=(hB.cell (p:=⟨gr,k * 4+2,none⟩) hgr).trans (hcs 2 _ rfl);have hm3:wr.cell? ⟨gr,k * 4+3,none⟩=some (.int .i64 o.cost):=(hB.cell (p:=⟨gr,k * 4+3,none⟩) hgr).trans (hcs 3 _ rfl);clear hcs hcl;obtain⟨hpre,hadd,hdel,hcost⟩:=hv.ops o (lMg ho.out);have h2':(wr.alloc (.cells #[.int .u32 (xJ0 o.pre),.int .u32 (xJ0 o.add),.int .u32 (xJ0 o.del),.int .i64 o.cost] 174)).cell? ⟨b2,0,none⟩=some (.int .u32 (xJ0 l)):=by rw[World.cell?_alloc_lt _ _ _ hb2l];exact h2
   by_cases hsub:∀ x∈o.pre,x∈l
   ·have hw1:=(xYr hl hpre hv.n24).2 hsub;have hw2:=vXh hl hadd hdel hv.n24;have HS:=lHd (xWp (n:=n) ho.out hsub);have HMEM:Hid ((k,o,xJ5 n l o)∈xJm n t.ops l t.ops.length):=xJz.2 ⟨hlt,ho.out,hsub,rfl⟩;have hlen:pre.length < (xJm n t.ops l t.ops.length).length:=by
     have h1:=congrArg List.length hp.out;rw[List.length_map] at h1;rw[h1];exact vXj ho.out hsub _ hlt
    have HLEN:=lHd hlen;clear hsub hpre hadd hdel hcost hlen;obtain⟨fn,tmps,assign,body,hy,hR⟩:=hY pre ⟨(k,o,xJ5 n l o),HMEM.out⟩ _ (hJa _ _ (.cells #[.int .u32 (xJ0 o.pre),.int .u32 (xJ0 o.add),.int .u32 (xJ0 o.del),.int .i64 o.cost] 174) hJ) HLEN.out;unfold xX5 at hy;dsimp only at hy
    gi_wp2
    refine hR.mono ?_;rintro e W3 (⟨rfl,hJ3,hk3⟩ | ⟨rfl,hJx3⟩)
    ·have hB3:Below w0.heap.size w0 W3:=(Below.alloc hB (by have:=hB.size;omega) _).trans hk3.1;have h3:W3.cell? ⟨b2,0,none⟩=some (.int .u32 (xJ0 l)):=(World.cell?_of_block (a:=⟨b2,0,none⟩) hk3.2).trans h2'
     gi_wp2
     go_roundw
     case rel=>exact⟨k+1,pre ++ [⟨(k,o,xJ5 n l o),HMEM.out⟩],by omega,by go_num,by show _=_;rw[HS.out,List.map_append,hp.out];rfl,hJ3,hB3,h3⟩
     case measure=>simp[intOf];omega
    ·gi_wp2
     refine bodyPost_ret (results_none rfl _ _ _) rfl ?_;exact⟨⟨_,rfl⟩,.inr ⟨_,trivial,hJx3⟩⟩
   ·have hw1:(bits .and .u32 (xJ0 l) (xJ0 o.pre) == xJ0 o.pre)=false:=by
     have:=fun h=>hsub ((xYr hl hpre hv.n24).1 h)
     simpa using this
    have HS:=lHd (vXi (n:=n) ho.out hsub);have hJ3:=hJa _ _ (.cells #[.int .u32 (xJ0 o.pre),.int .u32 (xJ0 o.add),.int .u32 (xJ0 o.del),.int .i64 o.cost] 174) hJ;have hB3:Below w0.heap.size w0 (wr.alloc (.cells #[.int .u32 (xJ0 o.pre),.int .u32 (xJ0 o.add),.int .u32 (xJ0 o.del),.int .i64 o.cost] 174)):=Below.alloc hB (by have:=hB.size;omega) _;clear hsub hpre hadd hdel hcost hY hB hJ
    gi_wp2
    refine⟨fun _ h=>(by cases h),?_⟩
    gi_wp2
    go_roundw
    case rel=>exact⟨k+1,pre,by omega,by go_num,by show _=_;rw[HS.out];exact hp.out,hJ3,hB3,h2'⟩
    case measure=>simp[intOf];omega
  ·have hke:k=t.ops.length:=by omega
   have HP:Hid (pre.map (·.1)=xJm n t.ops l t.ops.length):=hp.out.trans (congrArg (xJm n t.ops l) hke);clear hY hke
   gi_wp2
   go_end0
   exact⟨⟨_,rfl⟩,.inl ⟨pre,HP.out,hJ⟩⟩
theorem zQ5{base g n b1 b2:Nat}{w0 W0:World}{t:TaskV}{l:List Int}(hM:WMem base w0 g t)(hv:TSets n t)(hl:SetP l (n:Int))
  (hB:Below w0.heap.size w0 W0) (h1:W0.cell? ⟨b1,0,none⟩=some (.pointer (some ⟨g,0,none⟩))) (h2:W0.cell? ⟨b2,0,none⟩=some (.int .u32 (xJ0 l))) (hb2:w0.heap.size<=b2) :
  SeqStopsK Fence.wide 4 Tryz.prog 101 #[.pointer (some ⟨b1,0,none⟩),.pointer (some ⟨b2,0,none⟩)] (xX5 (n:=n) (ops:=t.ops) (l:=l)) (KpS w0.heap.size b2) (fun xs=>xs.map (·.1)=xJm n t.ops l t.ops.length) (fun _=>True) (xJm n t.ops l t.ops.length).length W0:=by
 intro y J Jx W hW hJ hJx hY h0;refine vZp hM hv hl y J Jx W (hB.trans (hW.mono hB.size)) ((hW.cell (p:=⟨b1,0,none⟩) (World.block_lt_of_cell? W0 _ h1)).trans h1) ((hW.cell (p:=⟨b2,0,none⟩) (World.block_lt_of_cell? W0 _ h2)).trans h2) hb2 (fun s A o hs=>hJ s A _ none hs (World.grownBy_alloc A o none) (fun r e=>by cases e)) hY h0
end
section
open Go.Shelf
def xWu(D:Nat):Deferred:={ target:=.collected D,args:=#[] }
def MarksOk(B:Nat)(ds:List Deferred)(W:World):Prop:=∃ Ds:List Nat,ds=Ds.map xWu/\Ds.Nodup/\∀ D∈Ds,B<=D/\W.heap[D]? = some (.deferred (some []))
theorem MarksOk.nil(B:Nat)(W:World):MarksOk B [] W:=⟨[],rfl,List.nodup_nil,by simp⟩
theorem MarksOk.keep{B:Nat}{ds:List Deferred}{W W':World}(h:MarksOk B ds W)(hk:∀ D:Nat,B<=D->W.heap[D]? = some (.deferred (some []))->W'.heap[D]? = some (.deferred (some []))):MarksOk B ds W':=by
 obtain⟨Ds,h1,h2,h3⟩:=h;exact⟨Ds,h1,h2,fun D hD=>⟨(h3 D hD).1,hk D (h3 D hD).1 (h3 D hD).2⟩⟩
theorem MarksOk.below{B:Nat}{ds:List Deferred}{W W':World}(h:MarksOk B ds W)(hb:Below W.heap.size W W'):MarksOk B ds W':=
 h.keep fun D _ hD=>(hb.block D (Array.getElem?_eq_some_iff.1 hD).1).trans hD
theorem MarksOk.set_{B:Nat}{ds:List Deferred}{W:World}(h:MarksOk B ds W)(p:Addr)(u:Value):MarksOk B ds (W.setCell p u):=
 h.keep fun D _ hD=>(KeepsOthers.setCell W p u).same D _ hD rfl
theorem MarksOk.grown{B:Nat}{ds:List Deferred}{W W':World}{row:Option Nat}(h:MarksOk B ds W)(hg:W.grownBy W' row)(hr:∀ k,row=some k->W.heap[k]?≠some (.deferred (some []))):MarksOk B ds W':=
 h.keep fun D _ hD=>(hg.block D (Array.getElem?_eq_some_iff.1 hD).1 (fun e=>hr D e.symm hD)).trans hD
theorem MarksOk.from{B B':Nat}{ds:List Deferred}{W W':World}(h:MarksOk B ds W)(hk:KeepsFrom B' W W')(hlow:∀ D:Nat,D < B'->W.heap[D]? = some (.deferred (some []))->W'.heap[D]? = some (.deferred (some []))):MarksOk B ds W':=
 h.keep fun D _ hD=>by
  rcases Nat.lt_or_ge D B' with h1 | h1
  ·exact hlow D h1 hD
  ·exact hk.same D _ h1 hD rfl
theorem MarksOk.cons{B D:Nat}{ds:List Deferred}{W:World}(h:MarksOk B ds W)(hD:W.heap[D]? = some (.deferred (some [])))(hB:B<=D)(hn:∀ d∈ds,d≠xWu D):MarksOk B (xWu D :: ds) W:=by
 obtain⟨Ds,rfl,h2,h3⟩:=h;refine⟨D :: Ds,rfl,List.nodup_cons.2 ⟨fun hm=>hn (xWu D) (List.mem_map.2 ⟨D,hm,rfl⟩) rfl,h2⟩,fun E hE=>?_⟩;rcases List.mem_cons.1 hE with rfl | hE
 ·exact⟨hB,hD⟩
 ·exact h3 E hE
theorem MarksOk.lt{B X:Nat}{ds:List Deferred}{W:World}(h:MarksOk B ds W)(hX:W.heap.size<=X):∀ d∈ds,d≠xWu X:=by
 obtain⟨Ds,rfl,h2,h3⟩:=h;intro d hd e;obtain⟨E,hE,rfl⟩:=List.mem_map.1 hd;have:=(Array.getElem?_eq_some_iff.1 (h3 E hE).2).1;unfold xWu at e;injection e with e1
 injection e1 with e1
 omega
structure MTurn(B:Nat)(W W':World):Prop where
 below:Below B W W'
 size:W'.heap.size=W.heap.size
 same:∀ (k:Nat) (o:Obj),W.heap[k]? = some o->(∀ c,o≠.deferred c)->W'.heap[k]? = some o
theorem MTurn.refl(B:Nat)(W:World):MTurn B W W:=⟨Below.refl _ _,rfl,fun _ _ h _=>h⟩
theorem MTurn.cells{B:Nat}{W W':World}(h:MTurn B W W'){a:Addr}{v:Value}(hc:W.cell? a=some v):W'.cell? a=some v:=by
 obtain⟨o,ho,hcs⟩:=cells_of_cell hc;exact (World.cell?_of_block ((h.same _ _ ho (fun c e=>by rw[e] at hcs;cases hcs)).trans ho.symm)).trans hc
theorem MapF.mturn{B:Nat}{W W':World}{b n:Nat}{f:Int->Option Value}(h:MapF W b n f)(hm:MTurn B W W'):MapF W' b n f:=by
 obtain⟨es,cl,ho⟩:=h.obj;exact h.of_block ((hm.same b _ ho (fun c e=>by cases e)).trans ho.symm)
theorem zX7{B:Nat}{W W':World}{B':Nat}{e:TypeId}{size n:Nat}{v:Value}{xs:List Value}(h:W.ownsRow B' e size v n xs)(hm:MTurn B W W'):W'.ownsRow B' e size v n xs:=by
 obtain⟨h1,h2⟩:=h;refine⟨h1,?_⟩;rcases h2 with h2 | ⟨g,cap,cur,hv,hg,hh,r⟩
 ·exact Or.inl h2
 ·exact Or.inr ⟨g,cap,cur,hv,hg,hm.same g _ hh (fun c e=>by cases e),r⟩
theorem xZs{P:Program}{fn:Func}{tmps:Array Value}{R:Ending->World->Prop}{n B:Nat}{v:Value}:∀ {ds:List Deferred} {W:World},MarksOk B ds W->(∀ W',MTurn B W W'->(results fn tmps).run P W'=.ok v W'/\R (.returned v) W')->LeavesInM Fence.wide n P fn tmps R ds .returning W:=by
 intro ds W hm hR;obtain⟨Ds,rfl,h2,h3⟩:=hm
 induction Ds generalizing W with
 | nil=>exact⟨v,(hR W (MTurn.refl _ _)).1,(hR W (MTurn.refl _ _)).2⟩
 | cons D Ds ih=>
  obtain⟨hB,hD⟩:=h3 D (List.mem_cons_self ..);refine⟨by simp,.inl ⟨D,_,rfl,run_takeDeferred hD,?_⟩⟩;have hlt:=(Array.getElem?_eq_some_iff.1 hD).1;have hnd:=List.nodup_cons.1 h2;have hT:MTurn B W (W.putObj D (.deferred none)):=by
   refine⟨(Below.refl B W).grown (grownBy_putObj' W D _) (by omega) (fun k e=>by cases e;exact hB),by simp,fun k o hk ho=>?_⟩
   by_cases e:k=D
   ·subst e;rw[hD] at hk;injection hk with hk;exact absurd hk.symm (ho _)
   ·exact (World.putObj_heap_other e).trans hk
  refine ih (fun W' hW'=>hR W' ⟨hT.below.trans hW'.below,hW'.size.trans hT.size,fun k o hk ho=>hW'.same k o (hT.same k o hk ho) ho⟩) hnd.2 (fun E hE=>⟨(h3 E (List.mem_cons_of_mem _ hE)).1,?_⟩);have hne:E≠D:=fun e=>hnd.1 (e ▸ hE)
  exact (World.putObj_heap_other hne).trans (h3 E (List.mem_cons_of_mem _ hE)).2
theorem zZt{P:Program}{fn:Func}{R:Ending->World->Prop}{n B:Nat}{t:Tmp}{a:Act}{W:World}(h:fn.results = #[.tmp t])(hm:MarksOk B a.defers W)(hR:∀ W',MTurn B W W'->R (.returned (a.tmps.getD t undef)) W'):bodyPostM Fence.wide n P fn R .normal a W:=
 xZs hm fun W' h'=>⟨results_tmp h _ _ _,hR W' h'⟩
theorem xYv{P:Program}{fn:Func}{R:Ending->World->Prop}{n B:Nat}{t u:Tmp}{a:Act}{W:World}(h:fn.results = #[.tmp t,.tmp u])(hm:MarksOk B a.defers W)(hR:∀ W',MTurn B W W'->R (.returned (.tuple #[a.tmps.getD t undef,a.tmps.getD u undef])) W'):bodyPostM Fence.wide n P fn R .normal a W:=
 xZs hm fun W' h'=>⟨results_tmp2 h _ _ _,hR W' h'⟩
theorem zZu{P:Program}{fn:Func}{R:Ending->World->Prop}{n B:Nat}{t:Tmp}{a:Act}{W:World}(h:fn.results = #[.tmp t])(hm:MarksOk B a.defers W)(hR:∀ W',MTurn B W W'->R (.returned (a.tmps.getD t undef)) W'):bodyPostM Fence.wide n P fn R .ret a W:=zZt h hm hR
theorem zZv{P:Program}{fn:Func}{R:Ending->World->Prop}{n B:Nat}{t u:Tmp}{a:Act}{W:World}(h:fn.results = #[.tmp t,.tmp u])(hm:MarksOk B a.defers W)(hR:∀ W',MTurn B W W'->R (.returned (.tuple #[a.tmps.getD t undef,a.tmps.getD u undef])) W'):bodyPostM Fence.wide n P fn R .ret a W:=xYv h hm hR
theorem xZ9{P:Program}{f:FuncId}{fn:Func}{c:Code}{args:Array Value}{w:World}{R:Ending->World->Prop}(hf:P.funcs[f]? = some fn)(hb:fn.body=some c)
  (h:c.wp P (bodyPostM Fence.wide 5 P fn R) { tmps:=args ++ Array.replicate (fn.ntmps - args.size) undef,defers:=[] } w):Calls P f args w R:=
 callsIn_wide.1 (callsIn_of_wp_marks (F:=Fence.wide) (n:=5) hf hb trivial (wpIn_wide.2 h))
theorem xKv{gop:Operand}{ps:Array Tmp}{assign body:Code}{Q:Exit->Act->World->Prop}{a:Act}{w w0:World}{base g n b1 b2:Nat}{t:TaskV}{l:List Int}
  (hM:WMem base w0 g t) (hv:TSets n t) (hl:SetP l (n:Int)) (hB:Below w0.heap.size w0 w) (h1:w.cell? ⟨b1,0,none⟩=some (.pointer (some ⟨g,0,none⟩))) (h2:w.cell? ⟨b2,0,none⟩=some (.int .u32 (xJ0 l))) (hb2:w0.heap.size<=b2)
  (hg:a.eval gop=.func (.func 101) #[] #[.pointer (some ⟨b1,0,none⟩),.pointer (some ⟨b2,0,none⟩)]) (hps:ps.size=1)
  (I:List (xX4 n t.ops l)->World->Prop) (hI:OwnFrom w.heap.size I) (h0:I [] w) (Ax:xX4 n t.ops l->Act->World->Prop) (hAx:∀ x a',OwnFrom w.heap.size (fun (_:Unit) W=>Ax x a' W))
  (hassign:∀ (y:Nat) (pre:List (xX4 n t.ops l)) (x:xX4 n t.ops l) (W:World) (K:Act->World->Prop),I pre W->(∀ a' W',KeepsFrom w.heap.size W W'->KpS w0.heap.size b2 W W'->I pre W'->Ax x a' W'->K a' W') ->
   assign.wpIn (Fence.wide.inRound y) 3 Tryz.prog (Exit.then K (fun _ _ _=>False)) { tmps:=(ps.zip (xX5 x)).foldl (fun t (p,v)=>t.setIfInBounds p v) a.tmps,defers:=[] } W)
  (hbody:∀ (y:Nat) (pre:List (xX4 n t.ops l)) (x:xX4 n t.ops l) (a':Act) (W:World),pre.length < (xJm n t.ops l t.ops.length).length->I pre W->Ax x a' W->body.wpIn (Fence.wide.inRound y) 3 Tryz.prog (ownPostG w.heap.size (KpS w0.heap.size b2) I (fun _ _ _=>False) (pre ++ [x]) W) a' W)
  (hdone:∀ (D:Nat) (xs:List (xX4 n t.ops l)) (W:World),w.heap.size<=D->xs.map (·.1)=xJm n t.ops l t.ops.length->I xs W->W.heap[D]? = some (.deferred (some []))->Q .normal { a with defers:=xWu D :: a.defers } W) :
  (Code.rangeFunc gop ps assign body).wp Tryz.prog Q a w:=by
 have hb2l:b2 < w.heap.size:=World.block_lt_of_cell? w _ h2;refine (wpIn_wide (n:=5)).1 (wpIn_rangeFunc_ownH (n:=5) (encs:=xX5) rfl (by decide) hg trivial (enters_of Tryz.func101 (by kernel_rfl) rfl) (zQ5 hM hv hl hB h1 h2 hb2) vKb (fun W l o o' hl h h1 h2=>kps_b hB.size hb2l W l o o' hl h h1 h2) (Below.refl _ _) (fun x=>by rw[hps];rfl) I (fun _ _ _=>False) hI (fun _ _ _ _ _ hs _ _=>hs) h0 Ax hAx hassign (fun y pre x a' W _ _ hi hax hlt=>hbody y pre x a' W hlt hi hax) (fun D xs W hD hS hi hK=>hdone D xs W hD hS hi hK) (fun D c pre W _ _ h _=>h.elim))
def Turn(B:Nat)(W W':World):Prop:=∃ row,W.grownBy W' row/\∀ r,row=some r->B<=r/\∃ o:Obj,W.heap[r]? = some o/\o.isCells=false
section
variable {B:Nat}{W W':World}
theorem Turn.obj(h:Turn B W W'){k:Nat}{o:Obj}(hk:W.heap[k]? = some o)(hc:o.isCells=true\/k < B):W'.heap[k]? = some o:=by
 obtain⟨row,hg,hr⟩:=h;refine (hg.block k (Array.getElem?_eq_some_iff.1 hk).1 (fun e=>?_)).trans hk;obtain⟨h1,o',h2,h3⟩:=hr k e.symm;rcases hc with hc | hc
 ·rw[hk] at h2;injection h2 with h2;subst h2;rw[hc] at h3;cases h3
 ·omega
theorem Arr.turn{g:Nat}{e:TypeId}{xs:List Value}(h:Arr W g e xs)(ht:Turn B W W'):Arr W' g e xs:=ht.obj h (.inl rfl)
theorem MapF.turn{b n:Nat}{f:Int->Option Value}(h:MapF W b n f)(ht:Turn B W W')(hb:b < B):MapF W' b n f:=by
 obtain⟨es,cl,ho⟩:=h.obj;exact h.of_block ((ht.obj ho (.inr hb)).trans ho.symm)
theorem xYi{B':Nat}{e:TypeId}{size n:Nat}{v:Value}{xs:List Value}(h:W.ownsRow B' e size v n xs)(ht:Turn B W W'):W'.ownsRow B' e size v n xs:=by
 obtain⟨h1,h2⟩:=h;refine⟨h1,?_⟩;rcases h2 with h2 | ⟨g,cap,cur,hv,hg,hh,r⟩
 ·exact Or.inl h2
 ·exact Or.inr ⟨g,cap,cur,hv,hg,ht.obj hh (.inl rfl),r⟩
theorem xVm{n0:Nat}{w0:World}(h:Below n0 w0 W)(ht:Turn B W W')(hn:n0<=B)(hw:n0<=W.heap.size):Below n0 w0 W':=by
 obtain⟨row,hg,hr⟩:=ht;exact h.grown hg hw (fun k e=>by have:=(hr k e).1;omega)
theorem MarksOk.turn{B0:Nat}{ds:List Deferred}{W0:World}(h:MarksOk B0 ds W)(h0:MarksOk B0 ds W0)(hB:W0.heap.size<=B)(ht:Turn B W W'):MarksOk B0 ds W':=by
 obtain⟨Ds,rfl,h2,h3⟩:=h;obtain⟨Ds',h1',h2',h3'⟩:=h0;refine⟨Ds,rfl,h2,fun D hD=>⟨(h3 D hD).1,ht.obj (h3 D hD).2 (.inr ?_)⟩⟩;have hm:xWu D∈Ds'.map xWu:=by rw[<- h1'];exact List.mem_map.2 ⟨D,hD,rfl⟩
 obtain⟨E,hE,he⟩:=List.mem_map.1 hm;unfold xWu at he;injection he with he
 injection he with he
 subst he;have:=(Array.getElem?_eq_some_iff.1 (h3' E hE).2).1;omega
end
theorem xZt{gop:Operand}{pe es:Nat}{ps:Array Tmp}{assign body:Code}{Q:Exit->Act->World->Prop}{a:Act}{w w0:World}{base g n b1 b2:Nat}{t:TaskV}{l:List Int}
  (hM:WMem base w0 g t) (hv:TSets n t) (hl:SetP l (n:Int)) (hB:Below w0.heap.size w0 w) (h1:w.cell? ⟨b1,0,none⟩=some (.pointer (some ⟨g,0,none⟩))) (h2:w.cell? ⟨b2,0,none⟩=some (.int .u32 (xJ0 l))) (hb2:w0.heap.size<=b2)
  (hg:a.eval gop=.func (.func 101) #[] #[.pointer (some ⟨b1,0,none⟩),.pointer (some ⟨b2,0,none⟩)]) (hps:ps = #[pe])
  (I:List (xX4 n t.ops l)->World->Prop) (hI:∀ s W W',I s W->Turn w.heap.size W W'->I s W') (hIs:∀ s W,I s W->w.heap.size<=W.heap.size) (h0:I [] w)
  (hassign:∀ (y:Nat) (x:xX4 n t.ops l) (W:World) (K:Act->World->Prop),(∀ a',a'=({ tmps:=(a.tmps.setIfInBounds pe ((xX5 x).getD 0 undef)).setIfInBounds es (.pointer (some ⟨W.heap.size,0,none⟩)),defers:=[] }:Act)->K a' (W.alloc (.cells #[.int .i64 (x.1.1:Int),.int .i64 x.1.2.1.cost,.int .u32 (xJ0 x.1.2.2)] 110))) ->
   assign.wpIn (Fence.wide.inRound y) 3 Tryz.prog (Exit.then K (fun _ _ _=>False)) { tmps:=a.tmps.setIfInBounds pe ((xX5 x).getD 0 undef),defers:=[] } W)
  (hbody:∀ (y:Nat) (pre:List (xX4 n t.ops l)) (x:xX4 n t.ops l) (Bx:Nat) (W:World),pre.length < (xJm n t.ops l t.ops.length).length->I pre W->Arr W Bx 110 [.int .i64 (x.1.1:Int),.int .i64 x.1.2.1.cost,.int .u32 (xJ0 x.1.2.2)]->w.heap.size<=Bx ->
   ∀ a',a'=({ tmps:=(a.tmps.setIfInBounds pe ((xX5 x).getD 0 undef)).setIfInBounds es (.pointer (some ⟨Bx,0,none⟩)),defers:=[] }:Act)->body.wpIn (Fence.wide.inRound y) 3 Tryz.prog (ownPostG w.heap.size (KpS w0.heap.size b2) I (fun _ _ _=>False) (pre ++ [x]) W) a' W)
  (hdone:∀ (D:Nat) (xs:List (xX4 n t.ops l)) (W:World),w.heap.size<=D->xs.map (·.1)=xJm n t.ops l t.ops.length->I xs W->W.heap[D]? = some (.deferred (some []))->Q .normal { a with defers:=xWu D :: a.defers } W) :
  (Code.rangeFunc gop ps assign body).wp Tryz.prog Q a w:=by
 have hb2l:b2 < w.heap.size:=World.block_lt_of_cell? w _ h2;subst hps;refine xKv hM hv hl hB h1 h2 hb2 hg rfl I (fun s W W' row hs hg hr=>hI s W W' hs ⟨row,hg,hr⟩) h0 (fun x a' W=>∃ Bx,w.heap.size<=Bx/\Arr W Bx 110 [.int .i64 (x.1.1:Int),.int .i64 x.1.2.1.cost,.int .u32 (xJ0 x.1.2.2)]/\a'={ tmps:=(a.tmps.setIfInBounds pe ((xX5 x).getD 0 undef)).setIfInBounds es (.pointer (some ⟨Bx,0,none⟩)),defers:=[] })
  (fun x a' _ W W' row ⟨Bx,e1,e2,e3⟩ hg hr=>⟨Bx,e1,e2.turn ⟨row,hg,hr⟩,e3⟩) ?_ ?_ hdone
 ·intro y pre x W K hi hK;have hsz:=hIs _ _ hi;have hf:(#[pe].zip (xX5 x)).foldl (fun t (p,v)=>t.setIfInBounds p v) a.tmps=a.tmps.setIfInBounds pe ((xX5 x).getD 0 undef):=by simp[xX5]
  rw[hf];refine hassign y x W K (fun a' ha'=>hK _ _ ((KeepsOthers.alloc _ _).from _) ⟨(Below.refl _ W).alloc (Nat.le_trans hB.size hsz) _,Below.heap_alloc W _ b2 (by omega)⟩ (hI _ _ _ hi ⟨none,World.grownBy_alloc W _ none,fun r e=>by cases e⟩) ⟨W.heap.size,hsz,Arr.new W _ _,ha'⟩)
 ·rintro y pre x a' W hlt hi ⟨Bx,e1,e2,e3⟩;exact hbody y pre x Bx W hlt hi e2 e1 a' e3
end
section
open Go.Shelf
section
variable {ops:Array Oper}{rest:List Oper}{o:Oper}{a:Act}{w:World}{Q:Exit->Act->World->Prop}
theorem xQc(hgd:o.guard=none)(s x:Operand)(T e:TypeId)(z:Value)(by_:Nat)(hT:Tryz.prog.underlying T=some (.slice e))(hinf:(Tryz.prog.info? e).map (fun i=>(i.zero,i.size,i.bytes))=some (some z,1,by_))(hz:z.oneCell'=true)(hby:by_<=64)
  (ho:o.op=.call { callee:=.builtin .append,args:=#[s,x],argTypes:=#[T,T] })
  (base:Nat) (v:Value) (n:Nat) (xs:List Value) (y:Value) (hy:y.oneCell'=true) (hs:a.eval s=v) (hown:w.ownsRow base e 1 v n xs) (ad:Addr) (m:Nat) (hx:a.eval x=.slice (some ad) 1 m) (hc:w.cell? ad=some y)
  (hlen:n < 1000000000000) (hbase:base<=w.heap.size)
  (h:∀ g c w',w'.ownsRow base e 1 (.slice (some ⟨g,0,none⟩) (n+1) c) (n+1) (xs ++ [y])->w.grownBy w' v.ownBlock->(v.ownBlock=some g\/g=w.heap.size)->wpList Tryz.prog ops Q rest (a.put o.dst (.slice (some ⟨g,0,none⟩) (n+1) c)) w'):wpList Tryz.prog ops Q (o :: rest) a w:=by
 obtain⟨i0,hi0,hq⟩:=Option.map_eq_some_iff.1 hinf;simp only[Prod.mk.injEq] at hq;have hz2:z.cells.size=1:=by cases z <;> first | rfl | cases hz
 refine wpList_append_own_at w hgd s x T ho base e i0 z 1 by_ hT hi0 hq.1 hq.2.1 hq.2.2 hz2 (by decide) v n xs hs hown ad 1 m [y] hx rfl (xQ9 hc) (fun u hu=>by simp at hu;subst hu;exact hy) (by simp only[maxLen];omega) ?_ hbase fun v' w' h1 h2 _ h4=>?_
 ·have:(n+1) * by_<=(n+1) * 64:=Nat.mul_le_mul_left _ hby;omega
 ·obtain⟨g,cap,rfl⟩:=ownsRow_succ h1;refine h g cap w' h1 h2 (h4.imp (fun e1=>e1.symm.trans rfl |>.trans rfl) (fun e1=>?_));injection e1
variable {F:Fence}{N:Nat}
theorem xW0(hgd:o.guard=none)(s x:Operand)(T e:TypeId)(z:Value)(by_:Nat)(hT:Tryz.prog.underlying T=some (.slice e))(hinf:(Tryz.prog.info? e).map (fun i=>(i.zero,i.size,i.bytes))=some (some z,1,by_))(hz:z.oneCell'=true)(hby:by_<=64)
  (ho:o.op=.call { callee:=.builtin .append,args:=#[s,x],argTypes:=#[T,T] })
  (base:Nat) (v:Value) (n:Nat) (xs:List Value) (y:Value) (hy:y.oneCell'=true) (hs:a.eval s=v) (hown:w.ownsRow base e 1 v n xs) (ad:Addr) (m:Nat) (hx:a.eval x=.slice (some ad) 1 m) (hc:w.cell? ad=some y)
  (hlen:n < 1000000000000) (hbase:base<=w.heap.size)
  (h:∀ g c w',w'.ownsRow base e 1 (.slice (some ⟨g,0,none⟩) (n+1) c) (n+1) (xs ++ [y])->w.grownBy w' v.ownBlock->(v.ownBlock=some g\/g=w.heap.size)->wpListIn F N Tryz.prog ops Q rest (a.put o.dst (.slice (some ⟨g,0,none⟩) (n+1) c)) w'):wpListIn F N Tryz.prog ops Q (o :: rest) a w:=by
 obtain⟨i0,hi0,hq⟩:=Option.map_eq_some_iff.1 hinf;simp only[Prod.mk.injEq] at hq;have hz2:z.cells.size=1:=by cases z <;> first | rfl | cases hz
 refine wpListIn_append_own_at w hgd s x T ho base e i0 z 1 by_ hT hi0 hq.1 hq.2.1 hq.2.2 hz2 (by decide) v n xs hs hown ad 1 m [y] hx rfl (xQ9 hc) (fun u hu=>by simp at hu;subst hu;exact hy) (by simp only[maxLen];omega) ?_ hbase fun v' w' h1 h2 _ h4=>?_
 ·have:(n+1) * by_<=(n+1) * 64:=Nat.mul_le_mul_left _ hby;omega
 ·obtain⟨g,cap,rfl⟩:=ownsRow_succ h1;refine h g cap w' h1 h2 (h4.imp (fun e1=>e1.symm.trans rfl |>.trans rfl) (fun e1=>?_));injection e1
end
section
variable {w w':World}{base n:Nat}{e:TypeId}{size:Nat}{v:Value}{xs:List Value}
theorem xXe(h:w.ownsRow base e size v n xs){k:Nat}(hk:v.ownBlock=some k):∃ cu,w.heap[k]? = some (.cells cu e (0,0)):=by
 rcases h.2 with ⟨hv,_⟩ | ⟨g,cap,cur,hv,_,hh,_⟩
 ·rw[hv] at hk;cases hk
 ·rw[hv] at hk;injection hk with hk;subst hk;exact⟨cur,hh⟩
theorem zZf(h:w.ownsRow base e size v n xs)(hg:w.grownBy w' v.ownBlock){k:Nat}{o:Obj}(hk:w.heap[k]? = some o)(ho:∀ cu,o≠.cells cu e (0,0)):w'.heap[k]? = some o:=
 (hg.block k (Array.getElem?_eq_some_iff.1 hk).1 (fun e1=>by
  obtain⟨cu,h1⟩:=xXe h e1.symm;rw[hk] at h1;injection h1 with h1;exact ho cu h1)).trans hk
theorem Arr.by_row(h:w.ownsRow base e size v n xs)(hg:w.grownBy w' v.ownBlock){g:Nat}{T:TypeId}{ys:List Value}(hA:Arr w g T ys)(hT:T≠e):Arr w' g T ys:=zZf h hg hA (fun cu e1=>by injection e1 with _ e2;exact hT e2)
theorem MapF.by_row(h:w.ownsRow base e size v n xs)(hg:w.grownBy w' v.ownBlock){b m:Nat}{f:Int->Option Value}(hM:MapF w b m f):MapF w' b m f:=by
 obtain⟨es,cl,ho⟩:=hM.obj;exact hM.of_block ((zZf h hg ho (fun cu e1=>by cases e1)).trans ho.symm)
def Apart(v u:Value):Prop:=∀ k,v.ownBlock=some k->u.ownBlock≠some k
theorem Apart.symm{v u:Value}(h:Apart v u):Apart u v:=fun k hk e=>h k e hk
theorem Apart.nil(u:Value):Apart (.slice none 0 0) u:=fun k hk=>by cases hk
theorem xXx{base':Nat}{e':TypeId}{size' n':Nat}{u:Value}{ys:List Value}(hg:w.grownBy w' v.ownBlock)(hu:w.ownsRow base' e' size' u n' ys)(ha:Apart v u):w'.ownsRow base' e' size' u n' ys:=by
 refine hu.kept hg ?_
 cases h1:u.ownBlock with
 | none=>exact .inl rfl
 | some k=>exact .inr (fun e1=>ha k e1.symm h1)
theorem Apart.pushed{base':Nat}{e':TypeId}{size' n':Nat}{u:Value}{ys:List Value}{g m c:Nat}(ha:Apart v u)(hu:w.ownsRow base' e' size' u n' ys)(hat:v.ownBlock=some g\/g=w.heap.size):Apart (.slice (some ⟨g,0,none⟩) m c) u:=fun k hk e1=>by
 injection hk with hk
 have hk:g=k:=hk;subst hk;rcases hat with h | h
 ·exact ha g h e1
 ·have:=(hu.lt g e1).2;omega
theorem MarksOk.by_row{B:Nat}{ds:List Deferred}(h:w.ownsRow base e size v n xs)(hg:w.grownBy w' v.ownBlock)(hm:MarksOk B ds w):MarksOk B ds w':=
 hm.grown hg (fun k hk e1=>by obtain⟨cu,h1⟩:=xXe h hk;rw[e1] at h1;cases h1)
end
section
variable {w w':World}{b n:Nat}{f:Int->Option Value}
theorem Arr.by_map{g:Nat}{T:TypeId}{ys:List Value}(hM:MapF w b n f)(hg:w.grownBy w' (some b))(hA:Arr w g T ys):Arr w' g T ys:=
 (hg.block g hA.lt (fun e=>by injection e with e;obtain⟨es,cl,ho⟩:=hM.obj;unfold Arr at hA;rw[<- e,hA] at ho;cases ho)).trans hA
theorem xXy{base n':Nat}{e:TypeId}{size:Nat}{u:Value}{ys:List Value}(hM:MapF w b n f)(hg:w.grownBy w' (some b))(hu:w.ownsRow base e size u n' ys):w'.ownsRow base e size u n' ys:=by
 refine hu.kept hg ?_
 cases h1:u.ownBlock with
 | none=>exact .inl rfl
 | some k=>exact .inr (fun e1=>by
   injection e1 with e1
   obtain⟨cu,ho⟩:=xXe hu h1;obtain⟨es,cl,ho'⟩:=hM.obj;rw[e1,ho'] at ho;cases ho)
theorem MapF.by_map{b' n':Nat}{f':Int->Option Value}(hg:w.grownBy w' (some b))(hM:MapF w b' n' f')(hne:b'≠b):MapF w' b' n' f':=
 hM.of_block (hg.block b' hM.lt (fun e=>by injection e with e;exact hne e))
theorem MarksOk.by_map{B:Nat}{ds:List Deferred}(hM:MapF w b n f)(hg:w.grownBy w' (some b))(hm:MarksOk B ds w):MarksOk B ds w':=
 hm.grown hg (fun k hk e1=>by injection hk with hk;obtain⟨es,cl,ho⟩:=hM.obj;rw[<- hk,ho] at e1;cases e1)
theorem Below.by_map{B:Nat}{a:World}(hg:w.grownBy w' (some b))(hB:B<=w.heap.size)(hb:B<=b)(h:Below B a w):Below B a w':=h.grown hg hB (fun k e=>by injection e with e;omega)
theorem Below.by_row{B base n':Nat}{a:World}{e:TypeId}{size:Nat}{v:Value}{ys:List Value}(hg:w.grownBy w' v.ownBlock)(hv:w.ownsRow base e size v n' ys)(hB:B<=w.heap.size)(hb:B<=base)(h:Below B a w):Below B a w':=h.grown hg hB (fun k e=>Nat.le_trans hb (hv.lt k e).1)
theorem zJr{base n':Nat}{e:TypeId}{size:Nat}{u:Value}{ys:List Value}(hu:w.ownsRow base e size u n' ys){p:Addr}(y:Value){g:Nat}{T:TypeId}{xs:List Value}(hA:Arr w g T xs)(hp:p.block=g)(hT:T≠e):(w.setCell p y).ownsRow base e size u n' ys:=by
 refine ownsRow_setCell_other hu (fun e1=>?_) y;obtain⟨cu,ho⟩:=xXe hu e1;unfold Arr at hA;rw[hp,hA] at ho;injection ho with ho;injection ho with _ e2;exact hT e2
theorem MarksOk.alloc{B:Nat}{ds:List Deferred}(hm:MarksOk B ds w)(o:Obj):MarksOk B ds (w.alloc o):=hm.below ((Below.refl _ _).alloc (Nat.le_refl _) o)
theorem MarksOk.drew{B:Nat}{ds:List Deferred}(hm:MarksOk B ds w):MarksOk B ds w.drew:=hm
theorem MapF.drew(h:MapF w b n f):MapF w.drew b n f:=h.of_block rfl
theorem Arr.far2{g g':Nat}{e e':TypeId}{xs ys:List Value}(h:Arr w g e xs){p:Addr}(u:Value)(h':Arr w g' e' ys)(hp:p.block=g')(he:e'≠e):Arr (w.setCell p u) g e xs:=
 h.far (fun e1=>by unfold Arr at h h';rw[<- hp,e1,h] at h';injection h' with h';injection h' with _ e2;exact he e2.symm) u
end
theorem mvp{p:Prop}(h:p:=by repeat' (with_reducible first  | assumption | exact Below.refl _ _ | apply Arr.alloc | apply Arr.drew | (apply Arr.far;(case hp=>(first | (simp;done) | (simp;omega) | omega))) | apply World.ownsRow.alloc | apply World.ownsRow.drew | apply MapF.alloc | apply MapF.drew | (apply MapF.setCell;(case hp=>(first | (simp;done) | (simp;omega) | omega))) | apply MarksOk.alloc | apply MarksOk.drew | apply MarksOk.set_ | apply xKh | apply xYd | apply xVf | (apply Below.alloc;(case hB=>(first | omega | (simp;done) | (simp;omega) | (dsimp only[World.drewN];omega)))) | (apply Below.setCell;(case hp=>(first | omega | (simp;done) | (simp;omega)))) | ((refine Arr.by_row ?_ (by assumption) ?_ ?_);rotate_right;decide) | refine MapF.by_row ?_ (by assumption) ?_ | refine MarksOk.by_row ?_ ?_ (by assumption) | (apply zJr;(case hp=>rfl);(case hA=>assumption);(case hT=>decide)) | (apply Arr.by_row;case hg=>assumption) | (apply MapF.by_row;case hg=>assumption) | (apply MarksOk.by_row;case hg=>assumption) | (apply xXx;case hg=>assumption) | (apply Arr.by_map;case hg=>assumption) | (apply xXy;case hg=>assumption) | (apply MarksOk.by_map;case hg=>assumption) | (apply MapF.by_map;(case hg=>assumption);(case hne=>omega)) | (apply Below.by_map;(case hg=>assumption);(case hB=>(first | omega | (simp;done) | (simp;omega) | (dsimp only[World.drewN];omega)));(case hb=>omega)) | (apply Below.by_row;(case hg=>assumption);(case hB=>(first | omega | (simp;done) | (simp;omega) | (dsimp only[World.drewN];omega)));(case hb=>exact Nat.le_refl _)) | decide)):p:=h
theorem vYh{w:World}{base n m c:Nat}{A:Option Addr}{e:TypeId}{xs:List Value}(h:w.ownsRow base e 1 (.slice A n c) n xs)(hm:m<=n)(h0:0 < n):w.ownsRow base e 1 (.slice A m c) m (xs.take m):=by
 obtain⟨h1,h2⟩:=h;refine⟨by rw[List.length_take];omega,?_⟩;rcases h2 with ⟨h2,h3⟩ | ⟨g,cap,cur,hv,hbg,hh,hnc,hcm,hs,ht⟩
 ·omega
 ·injection hv with v1 v2 v3
  refine .inr ⟨g,cap,cur,by rw[v1,v3],hbg,hh,by omega,hcm,hs,?_⟩;rw[Nat.mul_one] at ht ⊢;rw[<- ht,List.take_take,Nat.min_eq_left hm]
theorem zZg:(Tryz.prog.info? 56).map (fun i=>(i.zero,i.size,i.bytes))=some (some (.int .u32 0),1,4):=by kernel_rfl
def xZ3(l:List Int):Value:=.int .u32 (xJ0 l)
@[reducible] def OwnU(base:Nat)(w:World)(v:Value)(ls:List (List Int)):Prop:=w.ownsRow base 56 1 v ls.length (ls.map xZ3)
theorem OwnU.nil(base:Nat)(w:World):OwnU base w (.slice none 0 0) []:=World.ownsRow_nil w base _ _
theorem OwnU.form{base:Nat}{w:World}{v:Value}{ls:List (List Int)}(h:OwnU base w v ls):∃ A c,v=.slice A ls.length c:=by
 rcases h.2 with ⟨h2,h4⟩ | ⟨g,cap,cur,hv,r⟩
 ·exact⟨none,0,by rw[h4];exact h2⟩
 ·exact⟨_,_,hv⟩
theorem OwnU.at_{base n c k:Nat}{w:World}{A:Option Addr}{ls:List (List Int)}(h:OwnU base w (.slice A n c) ls)(hn:ls.length=n){l:List Int}(hl:ls[k]? = some l) :
  ∃ g,A=some ⟨g,0,none⟩/\base<=g/\g < w.heap.size/\w.cell? ⟨g,k,none⟩=some (.int .u32 (xJ0 l)):=by
 unfold OwnU at h;rw[hn] at h;have hk:k < n:=by rw[<- hn];exact (List.getElem?_eq_some_iff.1 hl).1
 obtain⟨g,h1,h2,h3,h4,_⟩:=xY6 h hk;refine⟨g,h1,h2,h3,?_⟩;rw[h4,List.getElem?_map,hl];rfl
def SeenF(f:Int->Option Value)(ls:List (List Int)):Prop:=(∀ l∈ls,f (xJ0 l)=some (.agg #[]))/\∀ x,f x≠none->∃ l∈ls,xJ0 l=x
theorem SeenF.yes{f:Int->Option Value}{ls:List (List Int)}(h:SeenF f ls){l:List Int}(hl:l∈ls):(f (xJ0 l)).isSome=true/\(f (xJ0 l)).getD (.agg #[])=.agg #[]:=by rw[h.1 l hl];exact⟨rfl,rfl⟩
theorem SeenF.no{f:Int->Option Value}{ls:List (List Int)}{n:Nat}(h:SeenF f ls)(hs:∀ l∈ls,SetP l (n:Int)){l:List Int}(hl:SetP l (n:Int))(hn:¬ l∈ls):(f (xJ0 l)).isSome=false/\(f (xJ0 l)).getD (.agg #[])=.agg #[]:=by
 have:f (xJ0 l)=none:=Classical.byContradiction fun hc=>by
  obtain⟨l',h1,h2⟩:=h.2 _ hc;exact hn (xJi (hs l' h1) hl h2 ▸ h1)
 rw[this];exact⟨rfl,rfl⟩
theorem SeenF.put{f:Int->Option Value}{ls ls':List (List Int)}(h:SeenF f ls)(l:List Int)(hp:∀ x,x∈ls'↔x∈ls\/x=l):SeenF (upd f (xJ0 l) (.agg #[])) ls':=by
 constructor
 ·intro l' h1;unfold upd
  split
  ·rfl
  ·rename_i hne
   rcases (hp l').1 h1 with h2 | h2
   ·exact h.1 l' h2
   ·subst h2;exact absurd rfl hne
 ·intro x hx;unfold upd at hx
  split at hx
  ·rename_i e;exact⟨l,(hp l).2 (.inr rfl),e.symm⟩
  ·obtain⟨l',h1,h2⟩:=h.2 x hx;exact⟨l',(hp l').2 (.inl h1),h2⟩
theorem SeenF.congr{f:Int->Option Value}{ls ls':List (List Int)}(h:SeenF f ls)(hp:∀ x,x∈ls'↔x∈ls):SeenF f ls':=
 ⟨fun l hl=>h.1 l ((hp l).1 hl),fun x hx=>by obtain⟨l,h1,h2⟩:=h.2 x hx;exact⟨l,(hp l).2 h1,h2⟩⟩
structure Clos(n:Nat)(ops:List OpV)(st:List Int)(ls:List (List Int)):Prop where
 nd:ls.Nodup
 hst:st∈ls
 set:∀ l∈ls,SetP l (n:Int)
 rch:∀ l∈ls,∃ c,Cst n ops st l c
 closed:∀ l∈ls,∀ (p:Nat) (o:OpV),ops[p]? = some o->(∀ q∈o.pre,q∈l)->xJ5 n l o∈ls
structure Srch(n:Nat)(ops:List OpV)(st:List Int)(out stack:List (List Int)):Prop where
 nd:(out ++ stack).Nodup
 hst:st∈out ++ stack
 set:∀ l∈out ++ stack,SetP l (n:Int)
 rch:∀ l∈out ++ stack,∃ c,Cst n ops st l c
 closed:∀ l∈out,∀ (p:Nat) (o:OpV),ops[p]? = some o->(∀ q∈o.pre,q∈l)->xJ5 n l o∈out ++ stack
theorem Srch.start{n:Nat}{ops:List OpV}{st:List Int}(h:SetP st (n:Int)):Srch n ops st [] [st]:=
 ⟨by simp,by simp,fun l hl=>by simp at hl;subst hl;exact h,fun l hl=>by simp at hl;subst hl;exact⟨0,.init⟩,fun l hl=>by simp at hl⟩
theorem Srch.done{n:Nat}{ops:List OpV}{st:List Int}{out:List (List Int)}(h:Srch n ops st out []):Clos n ops st out:=by
 obtain⟨h1,h2,h3,h4,h5⟩:=h;rw[List.append_nil] at h1 h2 h3 h4;exact⟨h1,h2,h3,h4,fun l hl p o ho hp=>by have:=h5 l hl p o ho hp;rwa [List.append_nil] at this⟩
structure Srch1(n:Nat)(ops:List OpV)(st:List Int)(out:List (List Int))(s:List Int)(stack:List (List Int))(pre:List (Nat×OpV×List Int)):Prop where
 nd:(out ++ [s] ++ stack).Nodup
 hst:st∈out ++ [s] ++ stack
 set:∀ l∈out ++ [s] ++ stack,SetP l (n:Int)
 rch:∀ l∈out ++ [s] ++ stack,∃ c,Cst n ops st l c
 closed:∀ l∈out,∀ (p:Nat) (o:OpV),ops[p]? = some o->(∀ q∈o.pre,q∈l)->xJ5 n l o∈out ++ [s] ++ stack
 pre:∀ x∈pre,x.2.2∈out ++ [s] ++ stack
section
variable {n:Nat}{ops:List OpV}{st s:List Int}{out stack:List (List Int)}{pre:List (Nat×OpV×List Int)}
theorem Srch.take(h:Srch n ops st out (stack ++ [s])):Srch1 n ops st out s stack []:=by
 have hp:(out ++ [s] ++ stack).Perm (out ++ (stack ++ [s])):=by
  rw[List.append_assoc];exact List.Perm.append_left _ List.perm_append_comm
 exact⟨hp.nodup_iff.2 h.nd,hp.mem_iff.2 h.hst,fun l hl=>h.set l (hp.mem_iff.1 hl),fun l hl=>h.rch l (hp.mem_iff.1 hl),fun l hl p o ho hq=>hp.mem_iff.2 (h.closed l hl p o ho hq),fun x hx=>by simp at hx⟩
theorem Srch1.old(h:Srch1 n ops st out s stack pre){x:Nat×OpV×List Int}(hx:x.2.2∈out ++ [s] ++ stack):Srch1 n ops st out s stack (pre ++ [x]):=
 ⟨h.nd,h.hst,h.set,h.rch,h.closed,fun y hy=>by rcases List.mem_append.1 hy with hy | hy;exact h.pre y hy;simp at hy;subst hy;exact hx⟩
theorem Srch1.new(h:Srch1 n ops st out s stack pre){x:Nat×OpV×List Int}(hm:x∈xJm n ops s ops.length)(hx:¬ x.2.2∈out ++ [s] ++ stack):Srch1 n ops st out s (stack ++ [x.2.2]) (pre ++ [x]):=by
 obtain⟨h1,h2,h3,h4⟩:=xJz.1 hm;have e:out ++ [s] ++ (stack ++ [x.2.2])=(out ++ [s] ++ stack) ++ [x.2.2]:=(List.append_assoc _ _ _).symm;have old:∀ {y},y∈out ++ [s] ++ stack->y∈out ++ [s] ++ (stack ++ [x.2.2]):=fun {y} hy=>by rw[e];exact List.mem_append.2 (.inl hy)
 have hs:s∈out ++ [s] ++ stack:=by simp
 refine⟨?_,old h.hst,fun l hl=>?_,fun l hl=>?_,fun l hl p o ho hq=>old (h.closed l hl p o ho hq),fun y hy=>?_⟩
 ·rw[e];refine List.nodup_append.2 ⟨h.nd,by simp,fun a ha b hb=>?_⟩;simp at hb;subst hb;exact fun e1=>hx (e1 ▸ ha)
 ·rw[e] at hl;rcases List.mem_append.1 hl with hl | hl
  ·exact h.set l hl
  ·simp at hl;subst hl;rw[h4];exact xJj n s _
 ·rw[e] at hl;rcases List.mem_append.1 hl with hl | hl
  ·exact h.rch l hl
  ·simp at hl;subst hl;obtain⟨c,hc⟩:=h.rch s hs;rw[h4];exact⟨_,.step hc h2 h3⟩
 ·rcases List.mem_append.1 hy with hy | hy
  ·exact old (h.pre y hy)
  ·simp at hy;subst hy;rw[e];simp
theorem Srch1.done(h:Srch1 n ops st out s stack pre)(hp:pre=xJm n ops s ops.length):Srch n ops st (out ++ [s]) stack:=by
 refine⟨h.nd,h.hst,h.set,h.rch,fun l hl p o ho hq=>?_⟩;rcases List.mem_append.1 hl with hl | hl
 ·exact h.closed l hl p o ho hq
 ·simp at hl;subst hl;exact h.pre (p,o,xJ5 n l o) (by rw[hp];exact xJz.2 ⟨(List.getElem?_eq_some_iff.1 ho).1,ho,hq,rfl⟩)
theorem Srch1.setS(h:Srch1 n ops st out s stack pre):SetP s (n:Int):=h.set s (by simp)
end
end
section
open Go.Shelf
attribute [local go_sem] Oper.semAt_some
theorem zWc(a:Addr)(n:Nat)(w:World):Sem.run Tryz.prog (method (n+1) 50 (.pointer (some a)) "Start") w=.ok (18,.pointer (some a)) w:=by kernel_rfl
theorem vK9(a:Addr)(n:Nat)(w:World):Sem.run Tryz.prog (method (n+1) 50 (.pointer (some a)) "Goal") w=.ok (55,.pointer (some a)) w:=by kernel_rfl
theorem zWd(a:Addr)(n:Nat)(w:World):Sem.run Tryz.prog (method (n+1) 50 (.pointer (some a)) "Steps") w=.ok (57,.pointer (some a)) w:=by kernel_rfl
theorem zXe(w:World):(zeroValue 150).run Tryz.prog w=.ok (.agg #[]) w:=by kernel_rfl
theorem MapF.made_at(w:World)(b:Nat)(hb:b=w.heap.size):MapF (w.alloc (.map #[] 0)) b 0 (fun _=>none):=by subst hb;exact MapF.made w
theorem SetP.wrd{l:List Int}{n:Nat}(h:SetP l (n:Int))(hn:n<=24):Wrd (xJ0 l):=h.word_u32 hn
theorem zYg(l:List Int):SeenF (upd (fun _=>none) (xJ0 l) (.agg #[])) ([] ++ [l]):=
 ⟨fun x hx=>by simp at hx;subst hx;exact xX1 _ _ _,fun x hx=>by
  by_cases e:x=xJ0 l
  ·exact⟨l,by simp,e.symm⟩
  ·rw[xJe _ _ e] at hx;exact absurd rfl hx⟩
def IAll(n:Nat)(t:TaskV)(w:World)(BM b2 sz:Nat)(vo:Value)(ds:List Deferred)(out:List (List Int))(s:List Int)(k:Nat)(pre:List (xX4 n t.ops s))(W:World):Prop:=
 ∃ (stack:List (List Int)) (vs:Value) (f:Int->Option Value),Hid (Srch1 n t.ops t.init out s stack (pre.map (·.1)))/\Arr W (w.heap.size+1) 51 [vs]/\Arr W BM 148 [.map (some (w.heap.size+1+1))]/\MapF W (w.heap.size+1+1) (out ++ [s] ++ stack).length f/\Hid (SeenF f (out ++ [s] ++ stack))/\OwnU w.heap.size W vs stack/\OwnU w.heap.size W vo (out ++ [s])/\Apart vs vo/\Below w.heap.size w W/\MarksOk w.heap.size ds W/\vs.ownBlock≠some b2/\sz<=W.heap.size/\k<=stack.length/\stack.length<=k+pre.length
theorem IAll.turn{n k sz BM b2:Nat}{t:TaskV}{w W0:World}{vo:Value}{ds:List Deferred}{out:List (List Int)}{s:List Int}(h0:MarksOk w.heap.size ds W0)(hM0:w.heap.size+1+1 < W0.heap.size)(hw:w.heap.size<=W0.heap.size){pre:List (xX4 n t.ops s)}{W W':World}(h:IAll n t w BM b2 sz vo ds out s k pre W)(ht:Turn W0.heap.size W W'):IAll n t w BM b2 sz vo ds out s k pre W':=by
 obtain⟨stack,vs,f,h1,h2,h3,h4,h5,h6,h7,h8,h9,h10,h11,h12,h13⟩:=h;have hsz:W.heap.size<=W'.heap.size:=by obtain⟨row,hg,_⟩:=ht;exact hg.size
 exact⟨stack,vs,f,h1,h2.turn ht,h3.turn ht,h4.turn ht hM0,h5,xYi h6 ht,xYi h7 ht,h8,xVm h9 ht hw (by have:=h9.size;omega),h10.turn h0 (Nat.le_refl _) ht,h11,Nat.le_trans h12 hsz,h13⟩
theorem vVh(A:Option Addr)(n c k:Nat)(hk:k<=n)(hc:n<=c)(hc2:c<=9223372036854775807)(i:Int)(hi:i=(k:Int))(w:World) :
  (Instr.slice 51 (.slice A n c) none (some (.int .i64 i)) none).run Tryz.prog w=.ok (.slice A k c) w:=by
 subst hi;have h0:(0:Int)<=k:=by omega
 have h1:(k:Int)<=c:=by omega
 simp[go_sem,Tryz.underlying51,h0,h1]
 try omega
theorem vVi{w:World}{base n c m:Nat}{A:Option Addr}{e:TypeId}{xs:List Value}(h:w.ownsRow base e 1 (.slice A n c) m xs):n<=c/\c<=9223372036854775807:=by
 rcases h.2 with ⟨h1,_⟩ | ⟨g,cap,cur,hv,_,_,h1,h2,_⟩
 ·injection h1 with h1 h2 h3;omega
 ·injection hv with h3 h4 h5
  simp only[maxLen] at h2;omega
def AllP(n:Nat)(ops:List OpV)(st:List Int)(w:World)(e:Ending)(w':World):Prop:=
 Below w.heap.size w w'/\((∃ v ls,e=.returned (.tuple #[v,.bool true])/\OwnU w.heap.size w' v ls/\Clos n ops st ls/\ls.length<=2000) \/
  (e=.returned (.tuple #[.slice none 0 0,.bool false])/\∃ ls:List (List Int),ls.Nodup/\ls.length=2001/\∀ l∈ls,∃ c,Cst n ops st l c))
theorem vZk{base g n:Nat}{w:World}{t:TaskV}(hM:WMem base w g t)(hv:TSets n t) :
  Calls Tryz.prog 49 #[.iface 50 (.pointer (some ⟨g,0,none⟩))] w (AllP n t.ops t.init w):=by
 have hs1:=fun n w=>zWc ⟨g,0,none⟩ n w
 have hs2:=fun n w=>zWd ⟨g,0,none⟩ n w
 have hn24:=hv.n24;have h40:=hv.nops;have HV:=lHd hv;have hk0:=hv.init.wrd hn24;have hmm:=@run_makeMap Tryz.prog;clear hv;refine xZ9 Tryz.func49 rfl ?_;simp only[Tryz.ntmps49,List.size_toArray,List.length_cons,List.length_nil,Nat.reduceAdd,Nat.reduceSub,Array.replicate_succ,Array.replicate_zero,List.push_toArray,List.append_toArray,List.nil_append,List.cons_append]
 go_wp2_with (first | (go_at_call 18;refine (xVz (hM.below bl)).mono ?_;rintro e w' ⟨rfl,rfl⟩) | (refine xQ5 rfl (.tmp 14) (.tmp 16) (.tmp 17) 148 rfl 150 Tryz.underlying148 (b:=w.heap.size+1+1) (n:=0) (f:=fun _=>none) rfl ?q1 (by decide) (xJ0 t.init) _ rfl rfl hk0 ?_;(case q1=>exact MapF.made_at _ _ (by simp));intro w2 hM2 hg2))
 replace hM2:MapF w2 (w.heap.size+1+1) (up1 (fun _=>none) (xJ0 t.init) 0) (upd (fun _=>none) (xJ0 t.init) (.agg #[])):=hM2
 have hA0:Arr (((w.alloc (.cells #[.int .u32 (xJ0 t.init)] 56)).alloc (.cells #[.slice (some ⟨w.heap.size,0,none⟩) 1 1] 51)).alloc (.map #[] 0)) (w.heap.size+1) 51 [.slice (some ⟨w.heap.size,0,none⟩) 1 1]:=(Arr.new_at _ _ (by simp) _ _).alloc _;have hO0:OwnU w.heap.size (((w.alloc (.cells #[.int .u32 (xJ0 t.init)] 56)).alloc (.cells #[.slice (some ⟨w.heap.size,0,none⟩) 1 1] 51)).alloc (.map #[] 0)) (.slice (some ⟨w.heap.size,0,none⟩) 1 1) [t.init]:=⟨by simp,.inr ⟨w.heap.size,1,#[.int .u32 (xJ0 t.init)],rfl,Nat.le_refl _,((Arr.new w 56 [.int .u32 (xJ0 t.init)]).alloc _).alloc _,by simp,by decide,by simp,by simp[xZ3]⟩⟩;have hmo:((((w.alloc (.cells #[.int .u32 (xJ0 t.init)] 56)).alloc (.cells #[.slice (some ⟨w.heap.size,0,none⟩) 1 1] 51)).alloc (.map #[] 0))).heap[(w.heap.size+1+1)]? = some (.map #[] 0):=by
  have h:=World.alloc_heap_new ((w.alloc (.cells #[.int .u32 (xJ0 t.init)] 56)).alloc (.cells #[.slice (some ⟨w.heap.size,0,none⟩) 1 1] 51)) (.map #[] 0);simpa using h
 have kept:∀ {k:Nat} {cu:Array Value} {e:TypeId},((((w.alloc (.cells #[.int .u32 (xJ0 t.init)] 56)).alloc (.cells #[.slice (some ⟨w.heap.size,0,none⟩) 1 1] 51)).alloc (.map #[] 0))).heap[k]? = some (.cells cu e (0,0))->w2.heap[k]? = some (.cells cu e (0,0)):=fun {k cu e} hk=>(hg2.block k (Array.getElem?_eq_some_iff.1 hk).1 (fun e1=>by injection e1 with e1;rw[e1,hmo] at hk;cases hk)).trans hk
 have hA2:Arr w2 (w.heap.size+1) 51 [.slice (some ⟨w.heap.size,0,none⟩) 1 1]:=kept hA0;have hO2:OwnU w.heap.size w2 (.slice (some ⟨w.heap.size,0,none⟩) 1 1) [t.init]:=by
  refine hO0.kept hg2 (.inr (fun e1=>?_));injection e1 with e1
  have e1:w.heap.size=w.heap.size+1+1:=e1;omega
 have hB2:Below w.heap.size w w2:=Below.grown (a:=w) (w:=(((w.alloc (.cells #[.int .u32 (xJ0 t.init)] 56)).alloc (.cells #[.slice (some ⟨w.heap.size,0,none⟩) 1 1] 51)).alloc (.map #[] 0))) bl hg2 (by simp;omega) (fun k e1=>by injection e1 with e1;omega);have hs2z:w.heap.size+1+1+1<=w2.heap.size:=by have:=hg2.size;simp at this;omega
 have e0:up1 (fun _=>none) (xJ0 t.init) 0=1:=rfl;rw[e0] at hM2;have HM2:=lHd hM2;have HA2:=lHd hA2;have HO2:=lHd hO2;have HI:=lHd HV.out.init;have HF0:Hid (SeenF (upd (fun _=>none) (xJ0 t.init) (.agg #[])) ([] ++ [t.init])):=zYg t.init;clear kept hA0 hO0 hmo hM2 hA2 hO2 e0 hg2;refine wp_loop_ghost_k (fun gk a wr=>∃ (ds:List Deferred) (vo u7 u8 u9 u10 u11 u12 u13 u14 u15 u16 u17 u18 u19 u20 u21 u22 u23 u24 u25 u26 u27 u28 u29 u30 u31 u32 u33 u34 u35 u36 u37 u38 u39 u40 u41 u42 u43 u44 u45 u46 u47 u48 u49 u50 u51 u52 u53 u54 u55 u56 u57 u58 u59 u60 u61 u62:Value),(∃ (out stack:List (List Int)) (vs:Value) (f:Int->Option Value),Hid (Srch n t.ops t.init out stack)/\Arr wr (w.heap.size+1) 51 [vs]/\Arr wr w2.heap.size 148 [.map (some (w.heap.size+1+1))]/\MapF wr (w.heap.size+1+1) (out ++ stack).length f/\Hid (SeenF f (out ++ stack))/\OwnU w.heap.size wr vs stack/\OwnU w.heap.size wr vo out/\Apart vs vo/\Below w.heap.size w wr/\MarksOk w.heap.size ds wr/\(out ++ stack).length<=2000/\Hid (gk=2 * (2041 - (out ++ stack).length)+stack.length))/\a={ tmps:=#[.iface 50 (.pointer (some ⟨g,0,none⟩)),undef,.slice none 0 0,.bool false,.pointer (some ⟨(w.heap.size+1),0,none⟩),.pointer (some ⟨w2.heap.size,0,none⟩),vo,u7,u8,u9,u10,u11,u12,u13,u14,u15,u16,u17,u18,u19,u20,u21,u22,u23,u24,u25,u26,u27,u28,u29,u30,u31,u32,u33,u34,u35,u36,u37,u38,u39,u40,u41,u42,u43,u44,u45,u46,u47,u48,u49,u50,u51,u52,u53,u54,u55,u56,u57,u58,u59,u60,u61,u62],defers:=ds }) 4081 ?start ?round
 case start=>
  refine⟨[],?_⟩
  (repeat apply Exists.intro)
  refine⟨⟨[],[t.init],_,_,Srch.start HI.out,HA2.out.alloc _,Arr.new_at _ _ rfl _ _,HM2.out.alloc _,HF0,HO2.out.alloc _,OwnU.nil _ _,(fun k hk e=>by cases e),bl,MarksOk.nil _ _,by simp,rfl⟩,rfl⟩
 case round=>
  clear HM2 HA2 HO2 HI;intro gk a wr hinv;obtain⟨ds,vo,u7,u8,u9,u10,u11,u12,u13,u14,u15,u16,u17,u18,u19,u20,u21,u22,u23,u24,u25,u26,u27,u28,u29,u30,u31,u32,u33,u34,u35,u36,u37,u38,u39,u40,u41,u42,u43,u44,u45,u46,u47,u48,u49,u50,u51,u52,u53,u54,u55,u56,u57,u58,u59,u60,u61,u62,⟨out,stack,vs,f,hS,hA,hBm,hMp,hF,hOs,hOo,hap,hB,hmk,hlen,hgk⟩,rfl⟩:=hinv;intro J K hJ hK;rcases List.eq_nil_or_concat stack with rfl | ⟨rest,s,hst⟩
  ·have hOk:=lHd hS.out.done;have HM:=lHd hmk;obtain⟨A,c,rfl⟩:=hOs.form;have hc:=hA.cell 0;have hl2:out.length<=2000:=by simpa using hlen
   clear hS hF HV hs1 hs2 hmk hM;go_wp2
   (try simp only[Exit.inBlock,Exit.then])
   refine xYv rfl HM.out ?_;intro W' hW';exact⟨hB.trans hW'.below,.inl ⟨_,out,rfl,zX7 hOo hW',hOk.out,hl2⟩⟩
  ·rw[List.concat_eq_append] at hst;subst hst;have hS1:=lHd hS.out.take;have HF:=lHd (hF.out.congr (ls':=out ++ [s] ++ rest) (fun x=>by simp[or_assoc,or_comm,or_left_comm]));have HM:=lHd hmk;have HG:=lHd hgk;obtain⟨A,c,rfl⟩:=hOs.form;obtain⟨g1,rfl,hg1,hg2,hcs⟩:=hOs.at_ rfl (List.getElem?_concat_length ..);have hcap:=vVi hOs;have ecnt:(out ++ (rest ++ [s])).length=(out ++ [s] ++ rest).length:=by (try simp);(try omega)
   have elen:(rest ++ [s]).length=rest.length+1:=by simp
   have hOr:=vYh hOs (m:=rest.length) (by omega) (by omega);have e3:((rest ++ [s]).map xZ3).take rest.length=rest.map xZ3:=by simp
   rw[e3] at hOr;rw[ecnt] at hMp hlen;have hol:out.length<=2000:=by simp at hlen;omega
   have hrl:rest.length<=2000:=by simp at hlen;omega
   simp only[elen] at hOs hOr hA hcap hcs hap;have hcut:=vVh (some ⟨g1,0,none⟩) (rest.length+1) c rest.length (by omega) hcap.1 hcap.2;have hc:=hA.cell 0;have hfr:=hA.free 0;have hsz:=hB.size;have HAP:=lHd hap;clear hap hS hF hmk hgk e3
   go_wp2_with (first | (go_at_call 57;with_reducible refine (xQr _ _ _).mono ?_;rintro e w' ⟨rfl,rfl⟩) | (at_builtin;refine xQc rfl (.tmp 33) (.tmp 35) 51 56 (.int .u32 0) 4 Tryz.underlying51 zZg rfl (by decide) rfl w.heap.size vo out.length (out.map xZ3) (xZ3 s) rfl rfl ?p0 _ 1 rfl ?p1 ?p2 ?p3 ?_;(case p0=>exact mvp);(case p1=>simp[go_sem,xZ3]);(case p2=>omega);(case p3=>(first | omega | (simp;omega)));intro g3 c3 w3 hO3 hg3 hat3))
   have hO2:((wr.setCell ⟨w.heap.size+1,0,none⟩ (.slice (some ⟨g1,0,none⟩) rest.length c)).alloc (.cells #[.int .u32 (xJ0 s)] 56)).ownsRow w.heap.size 56 1 vo out.length (out.map xZ3):=mvp;have hA2:Arr ((wr.setCell ⟨w.heap.size+1,0,none⟩ (.slice (some ⟨g1,0,none⟩) rest.length c)).alloc (.cells #[.int .u32 (xJ0 s)] 56)) (w.heap.size+1) 51 [.slice (some ⟨g1,0,none⟩) rest.length c]:=(hA.set_ 0 _).alloc _;have hm0:=HM.out;have hap:=HAP.out;have hm0:=HM.out;have hz3:=hg3.size;rw[World.size_alloc,World.size_setCell] at hz3;have hB3:Below w.heap.size w w3:=mvp;have hA3:Arr w3 (w.heap.size+1) 51 [.slice (some ⟨g1,0,none⟩) rest.length c]:=mvp;have hBm3:Arr w3 w2.heap.size 148 [.map (some (w.heap.size+1+1))]:=mvp;have hMp3:MapF w3 (w.heap.size+1+1) (out ++ [s] ++ rest).length f:=mvp;have hm3:MarksOk w.heap.size ds w3:=mvp;have hOr3:OwnU w.heap.size w3 (.slice (some ⟨g1,0,none⟩) rest.length c) rest:=by
    refine xXx hg3 ?_ (Apart.symm hap);exact mvp
   have hOr2:((wr.setCell ⟨w.heap.size+1,0,none⟩ (.slice (some ⟨g1,0,none⟩) rest.length c)).alloc (.cells #[.int .u32 (xJ0 s)] 56)).ownsRow w.heap.size 56 1 (.slice (some ⟨g1,0,none⟩) rest.length c) rest.length (rest.map xZ3):=mvp;have hvb3:(Value.slice (some ⟨g1,0,none⟩) rest.length c).ownBlock≠some (w3.heap.size+1):=fun e1=>by
    injection e1 with e1
    have e1:g1=w3.heap.size+1:=e1;omega
   have hap3:Apart (.slice (some ⟨g1,0,none⟩) rest.length c) (.slice (some ⟨g3,0,none⟩) (out.length+1) c3):=by
    exact Apart.symm (Apart.pushed (u:=.slice (some ⟨g1,0,none⟩) rest.length c) (Apart.symm hap) hOr2 hat3)
   have hO3':OwnU w.heap.size w3 (.slice (some ⟨g3,0,none⟩) (out.length+1) c3) (out ++ [s]):=by
    have e1:(out ++ [s]).map xZ3=out.map xZ3 ++ [xZ3 s]:=by simp
    have e2:(out ++ [s]).length=out.length+1:=by simp
    unfold OwnU;rw[e1,e2];exact hO3
   refine xZt (b1:=w3.heap.size) (b2:=w3.heap.size+1) (es:=8) hM HV.out hS1.out.setS ?hB ?hc1 ?hc2 ?hb2 rfl rfl (IAll n t w w2.heap.size (w3.heap.size+1) (w3.heap.size+1+1) (.slice (some ⟨g3,0,none⟩) (out.length+1) c3) ds out s rest.length) ?hI ?hIs ?h0 ?hassign ?hbody ?hdone
   case hB=>exact mvp
   case hc1=>exact ((Arr.new_at w3 _ rfl _ _).alloc _).cell 0
   case hc2=>exact (Arr.new_at (w3.alloc _) _ (by simp) _ [.int .u32 (xJ0 s)]).cell 0
   case hb2=>omega
   case hI=>exact fun pre W W' h ht=>h.turn (hm3.alloc _ |>.alloc _) (by simp;omega) (by simp;omega) ht
   case hIs=>rintro pre W ⟨_,_,_,_,_,_,_,_,_,_,_,_,_,_,h,_,_⟩;simpa using h
   case h0=>exact⟨rest,_,f,hS1.out,mvp,mvp,mvp,HF.out,mvp,mvp,hap3,mvp,mvp,hvb3,by simp,Nat.le_refl _,by simp⟩
   case hassign=>
    intro y x W K hK;simp only[xX5,List.setIfInBounds_toArray,List.set_cons_succ,List.set_cons_zero] at hK ⊢
    gi_wp2
    rfl
   case hbody=>
    clear hS1 HF hA hBm hMp hB HM HG hOs hOr hA2 hm0 hap hA3 hBm3 hMp3 hm3 hOr3 hOr2 hcs hcut hc HAP hat3 hg3 hO2 hO3 hB3 hap3 hOo hs1 hs2;intro y pre x Bx W hlt hi hx hBx a' ha';obtain⟨⟨p,o,l⟩,hmem⟩:=x;obtain⟨stack,vs,f',h1,h2,h3,h4,h5,h6,h7,h8,h9,h10,h11,h12,h13,h14⟩:=hi;have hps:=xZh (n:=n) (ops:=t.ops) (l:=s) t.ops.length;have hSl:SetP l (n:Int):=by obtain⟨_,_,_,e1⟩:=xJz.1 hmem;dsimp only at e1;rw[e1];exact xJj n s _
    have hwl:=hSl.wrd hn24;have hstep:W.cell? ⟨Bx,2,none⟩=some (.int .u32 (xJ0 l)):=hx.cell 2;have hbm:=h3.cell 0;have hsW:=h9.size;have hl1:=h2.lt;have hl2:=h3.lt;have hl3:=hx.lt;have HS1:=lHd h1;have HF:=lHd h5;have HAP:=lHd h8;have HMK:=lHd h10;have HVB:=lHd h11;have HMEM:=lHd hmem;have HSL:=lHd hSl;have HX:=lHd hx;clear h1 h5 h8 h10 h11 hx hSl;simp only[xX5,List.setIfInBounds_toArray,List.set_cons_succ,List.set_cons_zero] at ha';subst ha'
    by_cases hseen:l∈out ++ [s] ++ stack
    ·obtain⟨hy1,hy2⟩:=HF.out.out.yes hseen
     gi_wp2_with (gi_at_lookup;refine xZo rfl (.tmp 42) (.tmp 44) 148 rfl 150 Tryz.underlying148 (zXe _) rfl h4 _ rfl hwl _ _ hy2 hy1 ?_)
     have hmW:=HMK.out;refine⟨(KeepsOthers.alloc _ _).from _,⟨(Below.refl _ W).alloc hsW _,Below.heap_alloc W _ (w3.heap.size+1) (by omega)⟩,stack,vs,f',?_,mvp,mvp,mvp,HF.out,mvp,mvp,HAP.out,mvp,mvp,HVB.out,by rw[World.size_alloc];omega,h13,by rw[List.length_append];omega⟩;rw[List.map_append];exact HS1.out.out.old hseen
    ·obtain⟨hy1,hy2⟩:=HF.out.out.no HS1.out.out.set HSL.out hseen;have HSEEN:=lHd hseen;have hN:(out ++ [s] ++ stack).length < 1000000000000:=by simp;omega
     have hN2:stack.length < 1000000000000:=by omega
     clear hseen
     gi_wp2_with (first | (gi_at_lookup;refine xZo rfl (.tmp 42) (.tmp 44) 148 rfl 150 Tryz.underlying148 (zXe _) rfl h4 _ rfl hwl _ _ hy2 hy1 ?_) | (gi_at_mapUpdate;refine xX9 rfl (.tmp 50) (.tmp 52) (.tmp 53) 148 rfl 150 Tryz.underlying148 rfl (h4.alloc _) hN _ _ rfl rfl hwl ?_;intro w5 hM5 hg5;have h2a:Arr w5 (w.heap.size+1) 51 [vs]:=mvp;have hc5:=h2a.cell 0;have hf5:=h2a.free 0;have h3a:Arr w5 Bx 110 [.int .i64 (p:Int),.int .i64 o.cost,.int .u32 (xJ0 l)]:=(by have HX:=HX.out;exact mvp);have hc6:w5.cell? ⟨Bx,2,none⟩=some (.int .u32 (xJ0 l)):=h3a.cell 2;clear h3a) | (gi_at_builtin;refine xW0 rfl (.tmp 54) (.tmp 57) 51 56 (.int .u32 0) 4 Tryz.underlying51 zZg rfl (by decide) rfl w.heap.size vs stack.length (stack.map xZ3) (xZ3 l) rfl rfl ?p0 _ 1 rfl ?p1 hN2 ?p3 ?_;(case p0=>exact mvp);(case p1=>simp[go_sem,xZ3]);(case p3=>(have:=hg5.size;simp at this ⊢;omega));intro g6 c6 w6 hO6 hg6 hat6;have h2b:Arr w6 (w.heap.size+1) 51 [vs]:=mvp;have hc7:=h2b.cell 0;have hf7:=h2b.free 0))
     have hmW:=HMK.out;have hz5:=hg5.size;have hz6:=hg6.size;rw[World.size_alloc] at hz5 hz6;have hV5:(w5.alloc (.cells #[.int .u32 (xJ0 l)] 56)).ownsRow w.heap.size 56 1 vs stack.length (stack.map xZ3):=mvp;have hO5:(w5.alloc (.cells #[.int .u32 (xJ0 l)] 56)).ownsRow w.heap.size 56 1 (.slice (some ⟨g3,0,none⟩) (out.length+1) c3) (out ++ [s]).length ((out ++ [s]).map xZ3):=mvp;have hM5':MapF w5 (w.heap.size+1+1) (out ++ [s] ++ (stack ++ [l])).length (upd f' (xJ0 l) (.agg #[])):=by
      have e1:up1 f' (xJ0 l) (out ++ [s] ++ stack).length=(out ++ [s] ++ (stack ++ [l])).length:=by unfold up1;rw[hy1];simp;omega
      rw[<- e1];exact hM5
     have hmk6:MarksOk w.heap.size ds (w6.setCell ⟨w.heap.size+1,0,none⟩ (.slice (some ⟨g6,0,none⟩) (stack.length+1) c6)):=mvp;have hO6':OwnU w.heap.size w6 (.slice (some ⟨g6,0,none⟩) (stack.length+1) c6) (stack ++ [l]):=by
      have e1:(stack ++ [l]).map xZ3=stack.map xZ3 ++ [xZ3 l]:=by simp
      have e2:(stack ++ [l]).length=stack.length+1:=by simp
      unfold OwnU;rw[e1,e2];exact hO6
     have hap6:Apart vs (.slice (some ⟨g3,0,none⟩) (out.length+1) c3):=HAP.out;have hO6o:=xXx hg6 hO5 hap6;have hkf:KeepsFrom (w3.heap.size+1+1) W (w6.setCell ⟨w.heap.size+1,0,none⟩ (.slice (some ⟨g6,0,none⟩) (stack.length+1) c6)):=
      ((
        ((KeepsOthers.alloc W _).from _).trans (KeepsFrom.of_grownBy hg5 (fun j e=>by injection e with e;omega))).trans ((KeepsOthers.alloc w5 _).from _)).trans
        (((KeepsOthers.of_grownBy hg6 (fun j o e1 e2=>by obtain⟨cu,h⟩:=xXe hV5 e1;rw[h] at e2;injection e2 with e2;rw[<- e2];rfl)).from _).trans ((KeepsOthers.setCell w6 _ _).from _))
     have hb5:(w6.setCell ⟨w.heap.size+1,0,none⟩ (.slice (some ⟨g6,0,none⟩) (stack.length+1) c6)).heap[w3.heap.size+1]? = W.heap[w3.heap.size+1]?:=
      (Below.heap_setCell _ _ _ _ (by simp;omega)).trans ((hg6.block _ (by simp;omega) (fun e=>HVB.out e.symm)).trans
       ((Below.heap_alloc _ _ _ (by omega)).trans ((hg5.block _ (by simp;omega) (fun e=>by injection e with e;omega)).trans (Below.heap_alloc _ _ _ (by omega)))))
     have hBW:Below w.heap.size W w6:=by
      have hb0:Below w.heap.size W (W.alloc (.cells #[] 150)):=(Below.refl _ W).alloc hsW _;exact mvp
     refine⟨hkf,⟨hBW.setCell (by simp) _,hb5⟩,stack ++ [l],_,upd f' (xJ0 l) (.agg #[]),?_,h2b.set_ 0 _,?_,mvp,HF.out.out.put l (fun x=>by simp[or_assoc]),mvp,mvp,?_,mvp,hmk6,?_,?_,?_,?_⟩
     ·rw[List.map_append];exact HS1.out.out.new HMEM.out HSEEN.out
     ·exact mvp
     ·exact Apart.pushed hap6 hO5 hat6
     ·intro e1;injection e1 with e1
      have e1:g6=w3.heap.size+1:=e1;rcases hat6 with h | h
      ·rw[e1] at h;exact HVB.out h
      ·rw[World.size_alloc] at h;omega
     ·rw[World.size_setCell];omega
     ·rw[List.length_append];omega
     ·rw[List.length_append,List.length_append];simp only[List.length_cons,List.length_nil];omega
   case hdone=>
    clear hS1 HF hA hBm hMp hB HM hOs hOr hA2 hm0 hap hA3 hBm3 hMp3 hOr3 hOr2 hcs hcut hc HAP hat3 hg3 hO2 hO3 hB3 hap3 hOo hs1 hs2 hO3' hfr;intro D xs W hD hxs hi hDh;obtain⟨stack,vs,f',h1,h2,h3,h4,h5,h6,h7,h8,h9,h10,h11,h12,h13,h14⟩:=hi;have hlx:xs.length<=40:=by
     have e1:=congrArg List.length hxs;rw[List.length_map] at e1;have:=xZh (n:=n) (ops:=t.ops) (l:=s) t.ops.length;omega
    have HS2:=lHd (h1.out.done hxs);have HMK:=lHd (h10.cons hDh (by simp at hD;omega) (((hm3.alloc _).alloc _).lt hD));have hbm:=h3.cell 0;have hln:=h4.len Tryz.underlying148;obtain⟨N,hN⟩:∃ N,(out ++ [s] ++ stack).length=N:=⟨_,rfl⟩;rw[hN] at h4 hln;have hNs:out.length+1+stack.length=N:=by rw[<- hN];simp;omega
    have HF:=lHd h5;have HAP:=lHd h8;clear h1 h5 h8 h10 h11 hDh hm3
    by_cases hbig:N<=2000
    ·go_wp2;refine Handed.intro (2 * (2041 - N)+stack.length) ?measure (hJ _ _ _ ⟨xWu D :: ds,?_⟩)
     case measure=>
      have h:=HG.out.out;simp only[List.length_append,List.length_cons,List.length_nil] at h;omega
     (repeat apply Exists.intro)
     refine⟨?rel,rfl⟩
     case rel=>exact⟨out ++ [s],stack,vs,f',HS2.out,h2,h3,hN ▸ h4,HF.out.out,h6,h7,HAP.out,h9,HMK.out,by omega,(show _=_ by rw[hN])⟩
    ·go_wp2
     (try simp only[Exit.inBlock,Exit.then])
     refine zZv rfl HMK.out ?_;intro W' hW';refine⟨h9.trans hW'.below,.inr ⟨rfl,(out ++ [s] ++ stack).take 2001,?_,?_,?_⟩⟩
     ·exact HS2.out.nd.sublist (List.take_sublist _ _)
     ·rw[List.length_take];omega
     ·exact fun l hl=>HS2.out.rch l (List.mem_of_mem_take hl)
end
section
open Go.Shelf
attribute [local go_sem] Oper.semAt_some
theorem zXd{P:Program}(w:World)(base:Nat)(t ty e:TypeId)(i:TypeInfo)(z:Value)(size bytes:Nat)(ht:P.underlying t=some (.slice e))(hi:P.info? e=some i)(hz:i.zero=some z)
  (hsize:i.size=size) (hby:i.bytes=bytes) (hzs:z.cells.size=size) (hsz:0 < size) (v:Value) (n:Nat) (xs:List Value) (hown:w.ownsRow base e size v n xs)
  (a:Addr) (m c:Nat) (news:List Value) (hl:news.length=m * size) (hnews:∀ j u,news[j]? = some u->w.cell? (a.add j)=some u) (h1:∀ u∈news,u.oneCell'=true) (hm:m≠0)
  (h63:n+m<=maxLen) (hbytes:(n+m) * bytes<=140737488355328) {v':Value} {w':World} (hr:(Builtin.append_ #[t,t] ty #[v,.slice (some a) m c]).run P w=.ok v' w'):w.drawn<=w'.drawn:=by
 subst hsize;subst hby;have hsmall:n+m<=9223372036854775807:=by simp only[maxLen] at h63;omega
 rcases hown.2 with ⟨rfl,rfl⟩ | ⟨g,cap,cur,rfl,hbg,hg,hnc,hcm,hcs,htake⟩
 ·have h:=run_append_nil (P:=P) w t ty e i z ht hi hz a m c news hl hnews (by omega) (by omega) (by have hb:=hbytes;simp only[Nat.zero_add] at hb;omega);rw[hr] at h;injection h with _ h
  rw[h];exact Nat.le_succ _
 ·by_cases hroom:n+m<=cap
  ·have hfit:n * i.size+news.length<=cur.size:=by rw[hl,hcs,<- Nat.add_mul];exact Nat.mul_le_mul_right _ hroom
   have h:=run_append_room (P:=P) w t ty e i ht hi g n cap cur hg a m c news hl hnews h1 hroom hfit;rw[hr] at h;injection h with _ h
   rw[h];exact Nat.le_refl _
  ·have holds:∀ j u,xs[j]? = some u->w.cell? ((⟨g,0,none⟩:Addr).add j)=some u:=hown.cells (g:=g) rfl;have h:=run_append_grow (P:=P) w t ty e i z ht hi hz ⟨g,0,none⟩ n cap xs hown.1 holds a m c news hl hnews (by omega) (by omega) (growslice_fits (by omega) hbytes);rw[hr] at h;injection h with _ h
   rw[h];exact Nat.le_succ _
theorem xY7{ops:Array Oper}{rest:List Oper}{o:Oper}{a:Act}{w:World}{Q:Exit->Act->World->Prop}(hgd:o.guard=none)(s x:Operand)(T e:TypeId)(z:Value)(by_:Nat)(hT:Tryz.prog.underlying T=some (.slice e))(hinf:(Tryz.prog.info? e).map (fun i=>(i.zero,i.size,i.bytes))=some (some z,1,by_))(hz:z.oneCell'=true)(hby:by_<=64)
  (ho:o.op=.call { callee:=.builtin .append,args:=#[s,x],argTypes:=#[T,T] })
  (base:Nat) (v:Value) (n:Nat) (xs:List Value) (y:Value) (hy:y.oneCell'=true) (hs:a.eval s=v) (hown:w.ownsRow base e 1 v n xs) (ad:Addr) (m:Nat) (hx:a.eval x=.slice (some ad) 1 m) (hc:w.cell? ad=some y)
  (hlen:n < 1000000000000) (hbase:base<=w.heap.size)
  (h:∀ v' w',w'.ownsRow base e 1 v' (n+1) (xs ++ [y])->w.grownBy w' v.ownBlock->w.drawn<=w'.drawn->wpList Tryz.prog ops Q rest (a.put o.dst v') w'):wpList Tryz.prog ops Q (o :: rest) a w:=by
 obtain⟨i0,hi0,hq⟩:=Option.map_eq_some_iff.1 hinf;simp only[Prod.mk.injEq] at hq;have hz2:z.cells.size=1:=by cases z <;> first | rfl | cases hz
 have hb:(n+1) * by_<=140737488355328:=by
  have:(n+1) * by_<=(n+1) * 64:=Nat.mul_le_mul_left _ hby;omega
 have h63:n+1<=maxLen:=by simp only[maxLen];omega
 have h1:∀ u∈[y],u.oneCell'=true:=fun u hu=>by simp at hu;subst hu;exact hy
 obtain⟨v',w',hrun,r1,r2,_,_⟩:=run_append_own_at w base T o.type e i0 z 1 by_ hT hi0 hq.1 hq.2.1 hq.2.2 hz2 (by decide) v n xs hown ad 1 m [y] rfl (xQ9 hc) h1 h63 hb hbase;have r3:=zXd w base T o.type e i0 z 1 by_ hT hi0 hq.1 hq.2.1 hq.2.2 hz2 (by decide) v n xs hown ad 1 m [y] rfl (xQ9 hc) h1 (by decide) h63 hb hrun;refine wpList_plain hgd fun K' hK'=>?_
 unfold Oper.wp execOp;simp only[ho,resolve,invoke,builtin,Sem.run_bind,Sem.run_pure,Result.andThen_ok,List.map_toArray,List.map_cons,List.map_nil,hs,hx,hrun];exact hK' _ _ (h v' w' r1 r2 r3)
theorem vVg{l:List Int}{n:Nat}(h:SetP l (n:Int))(hn:n<=24)(k:Nat):(bits BinOp.and IntKind.u32 (xJ0 l / 2 ^ k) 1 == 1)=decide ((k:Int)∈l):=by
 have h1:=h.word_u32 hn;have hb:=h.bit k;obtain⟨x,hx⟩:=Int.eq_ofNat_of_zero_le h1.1;rw[hx] at h1 hb ⊢;rw[Int.toNat_natCast] at hb;have e:((x:Int) / 2 ^ k)=((x / 2 ^ k:Nat):Int):=by simp[Int.natCast_ediv]
 have hle:x / 2 ^ k<=x:=Nat.div_le_self _ _;rw[<- hb,Nat.testBit_eq_decide_div_mod_eq,e];generalize x / 2 ^ k=y at hle;rw[u32_and _ _ (by omega) (by omega) (by decide) (by decide),Int.toNat_natCast];have e2:(1:Int).toNat=1:=rfl;rw[e2,Nat.and_one_is_mod]
 by_cases h2:y % 2=1
 ·rw[h2];rfl
 ·rw[decide_eq_false h2];have:y % 2=0:=by omega
  rw[this];rfl
def xXt(l:List Int):Nat->List Int
 | 0=>[]
 | k+1=>if (k:Int)∈l then xXt l k ++ [(k:Int)] else xXt l k
theorem xZc{l:List Int}:∀ {k:Nat} {x:Int},x∈xXt l k↔x∈l/\0<=x/\x < (k:Int)
 | 0,x=>by
   unfold xXt;constructor
   ·intro h;cases h
   ·rintro ⟨_,h1,h2⟩;omega
 | k+1,x=>by
   unfold xXt
   split
   ·rename_i h
    rw[List.mem_append,xZc (k:=k)];simp only[List.mem_singleton];constructor
    ·rintro (⟨h1,h2,h3⟩ | rfl)
     ·exact⟨h1,h2,by omega⟩
     ·exact⟨h,by omega,by omega⟩
    ·rintro ⟨h1,h2,h3⟩
     by_cases e:x=(k:Int)
     ·exact .inr e
     ·exact .inl ⟨h1,h2,by omega⟩
   ·rename_i h
    rw[xZc (k:=k)];constructor
    ·rintro ⟨h1,h2,h3⟩;exact⟨h1,h2,by omega⟩
    ·rintro ⟨h1,h2,h3⟩;refine⟨h1,h2,?_⟩
     by_cases e:x=(k:Int)
     ·subst e;exact absurd h1 h
     ·omega
theorem xK4{l:List Int}:∀ k,(xXt l k).Pairwise (· < ·)
 | 0=>List.Pairwise.nil
 | k+1=>by
   unfold xXt
   split
   ·refine List.pairwise_append.2 ⟨xK4 k,by simp,fun a ha b hb=>?_⟩;simp at hb;subst hb;exact (xZc.1 ha).2.2
   ·exact xK4 k
theorem xW6{l:List Int}:∀ k,(xXt l k).length<=k
 | 0=>Nat.le_refl _
 | k+1=>by
   have:=xW6 (l:=l) k;unfold xXt
   split
   ·rw[List.length_append];simp;omega
   ·omega
theorem zYf{l:List Int}{n:Nat}(h:SetP l (n:Int))(hn:n<=32):xXt l 32=l:=by
 refine SetP.ext (n:=32) (m:=n) (SetP.of_pairwise (fun x hx=>?_) (xK4 32)) h (fun x=>?_)
 ·have:=xZc.1 hx;omega
 ·rw[xZc];constructor
  ·exact fun h=>h.1
  ·intro hx;have:=h.1 x hx;exact⟨hx,this.1,by omega⟩
def vK8(l:List Int)(w:World)(e:Ending)(w':World):Prop:=Below w.heap.size w w'/\w.drawn<=w'.drawn/\∃ v,e=.returned v/\OwnI w.heap.size w' v l
theorem xVr(w:World){l:List Int}{n:Nat}(h:SetP l (n:Int))(hn:n<=24):Calls Tryz.prog 53 #[.int .u32 (xJ0 l)] w (vK8 l w):=by
 have hbit:∀ k:Nat,(bits BinOp.and IntKind.u32 (xJ0 l / 2 ^ k) 1 == 1)=decide ((k:Int)∈l):=vVg h hn;have hall:=lHd (zYf h (by omega));clear h;go_enter Tryz.func53,Tryz.ntmps53;go_wp2
 go_loopw [5,3] (fun i v wr=>∃ k:Nat,k<=32/\i=.int .i64 (k:Int)/\OwnI w.heap.size wr v (xXt l k)/\Below w.heap.size w wr/\w.drawn<=wr.drawn) (fun i _ _=>32 - (intOf i).toNat)
 case atStart=>exact⟨0,by omega,rfl,OwnI.nil _ _,Below.refl _ _,Nat.le_refl _⟩
 case round=>
  obtain⟨k,hk,rfl,hO,hB,hd⟩:=hrel;have hsz:=hB.size
  by_cases hlt:k < 32
  ·have hl32:=xW6 (l:=l) k
   by_cases hm:(k:Int)∈l
   ·have hb:=(hbit k).trans (decide_eq_true hm);have HE:Hid (xXt l (k+1)=xXt l k ++ [(k:Int)]):=if_pos hm;have hO':=hO.alloc (.cells #[.int .i64 (k:Int)] 3);clear hm hbit
    go_wp2_with (at_builtin;refine xY7 rfl (.tmp 13) (.tmp 15) 22 3 (.int .i64 0) 8 Tryz.underlying22 xXo rfl (by decide) rfl w.heap.size u3 (xXt l k).length ((xXt l k).map (Value.int .i64)) (.int .i64 (k:Int)) rfl rfl hO' _ 1 rfl ?p1 ?p2 ?p3 ?_;(case p1=>simp[go_sem]);(case p2=>omega);(case p3=>(simp;omega));intro v3 w3 hO3 hg3 hd3)
    go_roundw
    case rel=>exact⟨k+1,by omega,by go_num,by rw[HE.out];unfold OwnI;rw[List.length_append,List.map_append];exact hO3,mvp,Nat.le_trans hd hd3⟩
    case measure=>simp[intOf];omega
   ·have hb:=(hbit k).trans (decide_eq_false hm);have HE:Hid (xXt l (k+1)=xXt l k):=if_neg hm;clear hm hbit;go_wp2
    go_roundw
    case rel=>exact⟨k+1,by omega,by go_num,by rw[HE.out];exact hO,hB,hd⟩
    case measure=>simp[intOf];omega
  ·have hke:k=32:=by omega
   subst hke;rw[hall.out] at hO;go_wp2;go_ret;exact⟨hB,hd,_,rfl,hO⟩
end
section
open Go.Shelf Go.Sort
section
variable {α:Type}{enc:α->Value}{e:TypeId}[Inhabited α]
theorem zJi{P:Program}{ρ:Ren}(L:SlLaysF.n6 P ρ)(h1:∀ x,(enc x).oneCell'=true)(hoc:OneCell enc)(cf:α->α->Int)(hO:SWO (ltOf cf))(gf:Nat)(cb:Array Value)
  (eg:∀ args w,(callFunc gf args).run P w=.ok (.enter gf args) w) (hcmp:∀ (W:World) (x y:α),Calls P gf (#[enc x,enc y] ++ cb) W fun e w'=>e=.returned (.int .i64 (cf x y))/\∃ q os',w'=grow (W.drewN q) os')
  {w0 w:World} {base:Nat} {v:Value} {xs:List α} (h:vXn enc e base w v xs) (h0:w0.heap.size<=base) (hB:Below w0.heap.size w0 w) (hl:xs.length<=1000000000000) :
  Calls P (ρ.f 6) #[v,.func (.func gf) #[] cb] w fun e' w'=>e'=.returned (.tuple #[])/\∃ ys,ys.Perm xs/\(∀ (i j:Nat) (a b:α),i < j->ys[i]? = some a->ys[j]? = some b->¬ cf b a < 0)/\vXn enc e base w' v ys/\w.grownBy w' v.ownBlock/\Below w0.heap.size w0 w':=by
 obtain⟨A,c,rfl⟩:=OwnEs.form h;have h':=xQk h;rcases h'.2 with ⟨h2,h4⟩ | ⟨g,cap,cur,hv,_⟩
 ·injection h2 with e1 e2 e3
  have hx:xs=[]:=List.eq_nil_of_length_eq_zero e2;subst e1;subst hx;refine (AnyF.slices_SortFunc_none { L with } none c _ w).mono ?_;rintro e' w' ⟨rfl,rfl⟩;exact⟨rfl,[],List.Perm.refl _,by simp,h,⟨rfl,rfl,rfl,Nat.le_refl _,fun k _ _=>rfl⟩,hB⟩
 ·injection hv with e1 e2 e3
  subst e1;obtain⟨hH,hlt,hb,hn,hnc,hcm,_⟩:=xVt h;have hcl:CmpLays1 P gf cb enc cf g 0 xs.toArray.size w:=fun m os dk _ x y=>hcmp _ x y
  have hc:=Any.slices_SortFunc L enc hoc cf hO gf cb g 0 c xs.toArray w eg hcl hH hlt (by simp;omega);rw[show xs.toArray.size=xs.length by simp] at hc;refine hc.mono ?_;rintro e' w' ⟨rfl,d',m,os,hp,hs,rfl⟩;have hsz:d'.size=xs.length:=by have:=hp.1;simpa using this
  have hperm:d'.toList.Perm xs:=by
   have h3:=hp.2.2;rw[show d'.extract 0 xs.length=d' by rw[<- hsz];simp,show xs.toArray.extract 0 xs.length=xs.toArray by simp] at h3;simpa using h3
  have hle:d'.toList.length=xs.length:=by simpa using hsz
  obtain⟨h5,h6⟩:=zVb (m:=m) (os:=os) (ts:=d'.toList) h hle;rw[show d'.toList.toArray=d' by simp] at h5 h6;refine⟨rfl,d'.toList,hperm,fun i j a b hij ha hb' hlt'=>?_,h5,h6,hB.grown h6 (by have:=hB.size;omega) (fun k hk=>by injection hk with hk;omega)⟩;obtain⟨hi,hxa⟩:=List.getElem?_eq_some_iff.1 ha;obtain⟨hj,hxb⟩:=List.getElem?_eq_some_iff.1 hb';have h7:=hs i j (Nat.zero_le _) hij (by omega);have hi':i < d'.size:=by simpa using hi
  have hj':j < d'.size:=by simpa using hj
  rw[getElem!_pos _ i hi',getElem!_pos _ j hj'] at h7;rw[Array.getElem_toList] at hxa hxb;rw[hxa,hxb] at h7;unfold ltOf at h7;simp at h7;omega
end
attribute [local go_sem] Oper.semAt_some
theorem zJj{W W':World}(hb:Below W.heap.size W W')(hd:W.drawn<=W'.drawn):∃ q os',W'=grow (W.drewN q) os':=by
 refine⟨W'.drawn - W.drawn,W'.heap.extract W.heap.size W'.heap.size,?_⟩;have hh:W'.heap=W.heap ++ W'.heap.extract W.heap.size W'.heap.size:=by
  refine Array.ext_getElem? fun i=>?_
  rw[Array.getElem?_append]
  split
  ·rename_i hi;exact hb.block i hi
  ·rename_i hi
   rw[Array.getElem?_extract];have hs:=hb.size
   split
   ·congr 1;omega
   ·rw[Array.getElem?_eq_none (by omega)]
 obtain⟨h1,h2,h3,h4,h5⟩:=hb
 cases W;cases W'
 unfold grow World.drewN;simp only[World.mk.injEq] at *;exact⟨hh,h2,by omega,h1,h3⟩
def xZy:List Int->List Int->Int
 | [],[]=>0
 | [],_ :: _=>-1
 | _ :: _,[]=>1
 | a :: s,b :: t=>if a=b then xZy s t else vJh a b
theorem zXv:∀ s,xZy s s=0
 | []=>rfl
 | a :: s=>by unfold xZy;rw[if_pos rfl];exact zXv s
theorem xWd:∀ s t u,xZy s t < 0->xZy t u < 0->xZy s u < 0
 | [],[],u,h,_=>by simp[xZy] at h
 | [],_ :: _,[],_,h=>by simp[xZy] at h
 | [],_ :: _,_ :: _,_,_=>by simp[xZy]
 | _ :: _,[],_,h,_=>by simp[xZy] at h
 | _ :: _,_ :: _,[],_,h=>by simp[xZy] at h
 | a :: s,b :: t,c :: u,h1,h2=>by
   unfold xZy at *
   by_cases e1:a=b
   ·subst e1;rw[if_pos rfl] at h1
    by_cases e2:a=c
    ·subst e2;rw[if_pos rfl] at h2 ⊢;exact xWd s t u h1 h2
    ·rw[if_neg e2] at h2 ⊢;exact h2
   ·rw[if_neg e1] at h1
    by_cases e2:b=c
    ·subst e2;rw[if_neg e1];exact h1
    ·rw[if_neg e2] at h2;rw[xYm] at h1 h2;have e3:a≠c:=by omega
     rw[if_neg e3,xYm];omega
theorem xK8:∀ s t u,¬ xZy s t < 0->¬ xZy t u < 0->¬ xZy s u < 0
 | _,[],[],h,_=>h
 | _,[],_ :: _,_,h=>by simp[xZy] at h
 | [],_ :: _,_,h,_=>by simp[xZy] at h
 | _ :: _,_ :: _,[],_,_=>by simp[xZy]
 | a :: s,b :: t,c :: u,h1,h2=>by
   unfold xZy at *
   by_cases e1:a=b
   ·subst e1;rw[if_pos rfl] at h1
    by_cases e2:a=c
    ·subst e2;rw[if_pos rfl] at h2 ⊢;exact xK8 s t u h1 h2
    ·rw[if_neg e2] at h2 ⊢;exact h2
   ·rw[if_neg e1] at h1
    by_cases e2:b=c
    ·subst e2;rw[if_neg e1];exact h1
    ·rw[if_neg e2] at h2;rw[xYm] at h1 h2;have e3:a≠c:=by omega
     rw[if_neg e3,xYm];omega
theorem vQ2{α:Type}(f:α->List Int):SWO (ltOf fun x y=>xZy (f x) (f y)):=
 ⟨fun x=>by unfold ltOf;exact decide_eq_false (by show ¬ xZy (f x) (f x) < 0;rw[zXv];decide),fun x y z h1 h2=>by
  unfold ltOf at *;exact decide_eq_true (xWd _ _ _ (of_decide_eq_true h1) (of_decide_eq_true h2)),fun x y z h1 h2=>by
  unfold ltOf at *;exact decide_eq_false (xK8 _ _ _ (of_decide_eq_false h1) (of_decide_eq_false h2))⟩
theorem vJ4{s t:List Int}{k:Nat}{a b:Int}(ha:s[k]? = some a)(hb:t[k]? = some b):xZy (s.drop k) (t.drop k)=if a=b then xZy (s.drop (k+1)) (t.drop (k+1)) else vJh a b:=by
 obtain⟨h1,rfl⟩:=List.getElem?_eq_some_iff.1 ha;obtain⟨h2,rfl⟩:=List.getElem?_eq_some_iff.1 hb;rw[List.drop_eq_getElem_cons h1,List.drop_eq_getElem_cons h2];rfl
theorem zXw{a b:Int}:vJh a b=0↔a=b:=by
 unfold vJh;constructor
 ·intro h
  split at h
  ·cases h
  ·split at h
   ·assumption
   ·cases h
 ·rintro rfl;rw[if_neg (Int.lt_irrefl a),if_pos rfl]
theorem zJk{A B:Option Addr}{c d:Nat}{s t:List Int}{w:World}(hs:Ints w A s)(ht:Ints w B t)(hls:s.length<=1000000)(hlt:t.length<=1000000) :
  Calls Tryz.prog 52 #[.slice A s.length c,.slice B t.length d] w fun e w'=>e=.returned (.int .i64 (xZy s t))/\w'=w:=by
 go_enter Tryz.func52,Tryz.ntmps52;go_wp2
 go_loopw [11] (fun i wr=>∃ k:Nat,k<=s.length/\k<=t.length/\i=.int .i64 (k:Int)/\Hid (xZy s t=xZy (s.drop k) (t.drop k))/\wr=w) (fun i _=>s.length - (intOf i).toNat)
 case atStart=>exact⟨0,by omega,by omega,rfl,rfl,rfl⟩
 case round=>
  obtain⟨k,hk1,hk2,rfl,he,rfl⟩:=hrel
  by_cases h1:k < s.length
  ·obtain⟨ad,rfl,hc⟩:=hs k _ (by rw[List.getElem?_map,lGe h1];rfl)
   by_cases h2:k < t.length
   ·obtain⟨bd,rfl,hd⟩:=ht k _ (by rw[List.getElem?_map,lGe h2];rfl);have hst:=vJ4 (lGe h1) (lGe h2);obtain⟨x,hx⟩:∃ x,s[k]=x:=⟨_,rfl⟩;obtain⟨y,hy⟩:∃ y,t[k]=y:=⟨_,rfl⟩;rw[hx,hy] at hst;rw[hx] at hc;rw[hy] at hd;have hn:¬ k>=t.length:=by omega
    by_cases e:x=y
    ·rw[if_pos e] at hst;have hv:vJh x y=0:=zXw.2 e;have HE:Hid (xZy s t=xZy (s.drop (k+1)) (t.drop (k+1))):=he.out.trans hst;clear he hst e hs ht hx hy
     go_wp2_with (go_at_call 99;(with_reducible refine (xWj x y _).mono ?_);rintro e w' ⟨rfl,rfl⟩)
     go_roundw
     case rel=>exact⟨k+1,by omega,by omega,by go_num,HE,trivial⟩
     case measure=>simp[intOf];omega
    ·rw[if_neg e] at hst;have hv:(vJh x y != 0)=true:=by simpa using fun h=>e (zXw.1 h)
     have HE:Hid (xZy s t=vJh x y):=he.out.trans hst;clear he hst e hs ht hx hy
     go_wp2_with (go_at_call 99;(with_reducible refine (xWj x y _).mono ?_);rintro e w' ⟨rfl,rfl⟩)
     go_ret;exact⟨by rw[HE.out];rfl,rfl⟩
   ·have HE:Hid (xZy s t=1):=by
     show _=_;rw[he.out,List.drop_eq_nil_of_le (by omega:t.length<=k),List.drop_eq_getElem_cons h1];rfl
    have hke:t.length=k:=by omega
    clear he hs ht;go_wp2;go_ret;exact⟨by rw[HE.out];rfl,rfl⟩
  ·have hke:s.length=k:=by omega
   have HE:Hid (xZy s t=if s.length < t.length then -1 else 0):=by
    show _=_;rw[he.out,List.drop_eq_nil_of_le (by omega:s.length<=k)]
    by_cases h2:k < t.length
    ·rw[if_pos (by omega),List.drop_eq_getElem_cons h2];rfl
    ·rw[if_neg (by omega),List.drop_eq_nil_of_le (by omega:t.length<=k)];rfl
   clear he hs ht
   by_cases h2:s.length < t.length
   ·have HF:Hid (xZy s t = -1):=HE.out.trans (if_pos h2);go_wp2;go_ret;exact⟨by rw[HF.out];rfl,rfl⟩
   ·have HF:Hid (xZy s t=0):=HE.out.trans (if_neg h2);go_wp2;go_ret;exact⟨by rw[HF.out];rfl,rfl⟩
theorem zJl{n:Nat}(hn:n<=24)(w:World){s t:List Int}(hs:SetP s (n:Int))(ht:SetP t (n:Int)) :
  Calls Tryz.prog 51 #[.int .u32 (xJ0 s),.int .u32 (xJ0 t)] w fun e w'=>e=.returned (.int .i64 (xZy s t))/\Below w.heap.size w w'/\w.drawn<=w'.drawn:=by
 have h1:s.length<=1000000:=by have:=hs.length (by omega);omega
 have h2:t.length<=1000000:=by have:=ht.length (by omega);omega
 have HS:=lHd hs;have HT:=lHd ht;clear hs ht;go_enter Tryz.func51,Tryz.ntmps51
 go_wp2_with (first | (go_at_call 53;(with_reducible refine (xVr w HS.out hn).mono ?_);rintro e w1 ⟨hB1,hd1,v,rfl,hO1⟩;obtain⟨A,c,rfl,hI1⟩:=hO1.ints) | (go_at_call 53;(with_reducible refine (xVr w1 HT.out hn).mono ?_);rintro e w2 ⟨hB2,hd2,v,rfl,hO2⟩;obtain⟨B,d,rfl,hI2⟩:=hO2.ints) | (go_at_call 52;(with_reducible refine (zJk (hI1.below hB2) hI2 h1 h2).mono ?_);rintro e w9 ⟨rfl,rfl⟩))
 go_ret;exact⟨rfl,hB1.trans (hB2.mono hB1.size),Nat.le_trans hd1 hd2⟩
def zXx{n:Nat}:(ls:List (List Int))->(∀ l∈ls,SetP l (n:Int))->List {l:List Int // SetP l (n:Int)}:=fun ls h=>ls.attach.map fun x=>⟨x.1,h x.1 x.2⟩
theorem xVv{n:Nat}(ls:List (List Int))(h:∀ l∈ls,SetP l (n:Int)):(zXx ls h).map (·.1)=ls:=by
 unfold zXx;rw[List.map_map];exact List.attach_map_subtype_val ls
instance inhSet{n:Nat}:Inhabited {l:List Int // SetP l (n:Int)}:=⟨⟨[],⟨by simp,by simp⟩⟩⟩
def encS{n:Nat}(x:{l:List Int // SetP l (n:Int)}):Value:=xZ3 x.1
def cfS{n:Nat}(x y:{l:List Int // SetP l (n:Int)}):Int:=xZy x.1 y.1
theorem vJ5{n:Nat}(hn:n<=24){w0 w:World}{v:Value}{ls:List (List Int)}(hS:∀ l∈ls,SetP l (n:Int))(h:OwnU w0.heap.size w v ls)(hB:Below w0.heap.size w0 w)(hl:ls.length<=1000000000000) :
  Calls Tryz.prog 50 #[v,.func (.func 51) #[] #[]] w fun e w'=>e=.returned (.tuple #[])/\Below w0.heap.size w0 w'/\∃ rs,rs.Perm ls/\OwnU w0.heap.size w' v rs:=by
 have hmap:(zXx ls hS).map encS=ls.map xZ3:=by
  have e:=congrArg (List.map xZ3) (xVv ls hS);rw[List.map_map] at e;exact e
 have hlen:(zXx ls hS).length=ls.length:=by
  have e:=congrArg List.length (xVv ls hS)
  rwa [List.length_map] at e
 have hO:vXn encS 56 w0.heap.size w v (zXx ls hS):=zQc (by rw[hlen,hmap];exact h);have hc:=zJi zYy (enc:=encS (n:=n)) (e:=56) (fun _=>rfl) (fun _=>rfl) cfS (vQ2 Subtype.val) 51 #[] (fun args w=>by kernel_rfl)
  (fun W x y=>(zJl hn W x.2 y.2).mono fun e w' hw=>⟨hw.1,zJj hw.2.1 hw.2.2⟩) hO (Nat.le_refl _) hB (by omega)
 refine hc.mono ?_;rintro e w' ⟨rfl,rs,h1,_,h3,_,h5⟩;refine⟨rfl,h5,rs.map (·.1),?_,?_⟩
 ·have:=h1.map (·.1)
  rwa [xVv] at this
 ·have h6:=xQk h3;unfold OwnU;rw[List.length_map,List.map_map];exact h6
end
theorem zYe(w:World)(t:TaskV)(Ai Ag Ao:Option Addr)(ci cg co:Nat)(hT:TaskMem w Ai Ag Ao t)(h:¬ (xJn t).1=0) :
  Calls Tryz.prog 16 #[.agg #[.int .i64 t.facts,.slice Ai t.init.length ci,.slice Ag t.goal.length cg,.slice Ao t.ops.length co]] w fun e w'=>e=.returned (.tuple #[.pointer none,.slice none 0 0,.agg #[.int .i64 (xJn t).1,.int .i64 (xJn t).2]])/\Below w.heap.size w w':=by
 have N:=vYl h;have N':=vQp h;go_enter Tryz.func16,Tryz.ntmps16
 go_wp2_with fail
 refine (xXq _ _ _ _ _ _ _ _ (hT.below bch)).mono ?_;rintro e w1 ⟨rfl,hB1⟩;have D1:=xJ3 w hB1 bch;have C1:=Cls.below (l:=[(w.heap.size,0,.int .i64 t.facts),(w.heap.size,1,.slice Ai t.init.length ci),(w.heap.size,2,.slice Ag t.goal.length cg),(w.heap.size,3,.slice Ao t.ops.length co),(w.heap.size+1,0,.int .i64 0),(w.heap.size+1,1,.int .i64 0)]) hB1 (by simp[Cls,go_sem]);have F1:=C1;simp only[Cls,and_true] at F1;have y1w1:w.heap.size+1 < w1.heap.size:=C1.blk (b:=w.heap.size+1) (k:=0) (v:=.int .i64 0) (by simp)
 go_wp2_with fail
 refine xJa 3 (by kernel_rfl) (by kernel_rfl) ?_;simp only[List.take_succ_cons,List.take_zero,List.drop_succ_cons,List.drop_zero]
 repeat still_step
 try refine wpStill_nil ?_
 go_wp2;refine bodyPost_ret (v:=.tuple #[.pointer none,.slice none 0 0,.agg #[.int .i64 (xJn t).1,.int .i64 (xJn t).2]]) ?_ rfl ⟨rfl,bch⟩;simp[results,Tryz.results16,go_sem,F1,y1w1]
theorem WMem.set_low{base g:Nat}{w:World}{t:TaskV}(h:WMem base w g t){p:Addr}(hp:p.block < base)(u:Value):WMem base (w.setCell p u) g t:=by
 obtain⟨v,h1,h2,h3⟩:=h;exact⟨v,h1.far (by omega) u,h2.far (fun h _=>h) hp u,h3⟩
theorem WMem.mono{base base' g:Nat}{w:World}{t:TaskV}(h:WMem base w g t)(hb:base'<=base):WMem base' w g t:=by
 obtain⟨v,h1,h2,h3⟩:=h;exact⟨v,h1,h2.mono hb,by omega⟩
theorem zXc{base base' n:Nat}{w:World}{e:TypeId}{size:Nat}{v:Value}{xs:List Value}(h:w.ownsRow base e size v n xs)(hb:base'<=base):w.ownsRow base' e size v n xs:=by
 obtain⟨h1,h2⟩:=h;refine⟨h1,?_⟩;rcases h2 with h2 | ⟨g,cap,cur,hv,hg,r⟩
 ·exact .inl h2
 ·exact .inr ⟨g,cap,cur,hv,by omega,r⟩
theorem Clos.perm{n:Nat}{ops:List OpV}{st:List Int}{ls rs:List (List Int)}(h:Clos n ops st ls)(hp:rs.Perm ls):Clos n ops st rs:=
 ⟨hp.nodup_iff.2 h.nd,hp.mem_iff.2 h.hst,fun l hl=>h.set l (hp.mem_iff.1 hl),fun l hl=>h.rch l (hp.mem_iff.1 hl),fun l hl p o ho hq=>hp.mem_iff.2 (h.closed l (hp.mem_iff.1 hl) p o ho hq)⟩
def CheckedP(n:Nat)(t:TaskV)(w:World)(e:Ending)(w':World):Prop:=Below w.heap.size w w' /\
 (
   (e=.returned (.tuple #[.pointer none,.slice none 0 0,.agg #[.int .i64 10,.int .i64 (-7)]])/\∃ ls:List (List Int),ls.Nodup/\ls.length=2001/\∀ l∈ls,∃ c,Cst n t.ops t.init l c) \/
   (∃ g v ls,e=.returned (.tuple #[.pointer (some ⟨g,0,none⟩),v,.agg #[.int .i64 0,.int .i64 0]])/\WMem w.heap.size w' g t/\OwnU w.heap.size w' v ls/\Clos n t.ops t.init ls/\ls.length<=2000))
theorem xW5(w:World)(t:TaskV)(Ai Ag Ao:Option Addr)(ci cg co:Nat)(hT:TaskMem w Ai Ag Ao t)(n:Nat)(hn:t.facts=n)(hv:Valid t) :
  Calls Tryz.prog 16 #[.agg #[.int .i64 t.facts,.slice Ai t.init.length ci,.slice Ag t.goal.length cg,.slice Ao t.ops.length co]] w ((CheckedP n t w)):=by
 have HT0:=lHd (xZ8 hv);have HS:=lHd (zJq hv hn);have hn24:n<=24:=HS.out.n24;clear hv hn;go_enter Tryz.func16,Tryz.ntmps16
 go_wp2_with fail
 refine (xXq _ _ _ _ _ _ _ _ (hT.below bch)).mono ?_;rintro e w1 ⟨he,hB1⟩;rw[HT0.out] at he;subst he;have D1:=xJ3 w hB1 bch;have C1:=Cls.below (l:=[(w.heap.size,0,.int .i64 t.facts),(w.heap.size,1,.slice Ai t.init.length ci),(w.heap.size,2,.slice Ag t.goal.length cg),(w.heap.size,3,.slice Ao t.ops.length co),(w.heap.size+1,0,.int .i64 0),(w.heap.size+1,1,.int .i64 0)]) hB1 (by simp[Cls,go_sem]);have F1:=C1;simp only[Cls,and_true] at F1;have y1w1:w.heap.size+1 < w1.heap.size:=C1.blk (b:=w.heap.size+1) (k:=0) (v:=.int .i64 0) (by simp);have y1w0:w.heap.size < w1.heap.size:=(by omega)
 go_wp2_with fail
 go_at_call 48;refine (vY4 _ _ _ _ _ _ _ _ (hT.below bch) n HS.out).mono ?_;rintro e w2 ⟨g2,rfl,hW2,hB2⟩;have D2:=xJ3 w hB2 bch;have d2s:=D2.size;have C2:=Cls.below (l:=[(w.heap.size,0,.int .i64 t.facts),(w.heap.size,1,.slice Ai t.init.length ci),(w.heap.size,2,.slice Ag t.goal.length cg),(w.heap.size,3,.slice Ao t.ops.length co),(w.heap.size+1,0,.int .i64 0),(w.heap.size+1,1,.int .i64 0),(w1.heap.size,0,.int .i64 0),(w1.heap.size,1,.int .i64 0)]) hB2 (by simp[Cls,go_sem,F1,y1w1,y1w0]);have F2:=C2;simp only[Cls,and_true] at F2;have y2w1:w.heap.size+1 < w2.heap.size:=C2.blk (b:=w.heap.size+1) (k:=0) (v:=.int .i64 0) (by simp);have y2w10:w1.heap.size < w2.heap.size:=C2.blk (b:=w1.heap.size) (k:=0) (v:=.int .i64 0) (by simp);have HW:=lHd hW2;have hW2':=HW;clear hW2
 go_wp2_with fail
 go_at_call 49;refine (vZk HW.out HS.out).mono ?_;rintro e w3 ⟨hB3,hR3⟩;have D3:=xJ3 w hB3 bch;have C3:=Cls.below (l:=[(w.heap.size,0,.int .i64 t.facts),(w.heap.size,1,.slice Ai t.init.length ci),(w.heap.size,2,.slice Ag t.goal.length cg),(w.heap.size,3,.slice Ao t.ops.length co),(w.heap.size+1,0,.int .i64 0),(w.heap.size+1,1,.int .i64 0),(w1.heap.size,0,.int .i64 0),(w1.heap.size,1,.int .i64 0)]) hB3 (by simp[Cls,go_sem,F2,y2w1,y2w10]);have F3:=C3;simp only[Cls,and_true] at F3;have y3w1:w.heap.size+1 < w3.heap.size:=C3.blk (b:=w.heap.size+1) (k:=0) (v:=.int .i64 0) (by simp);have y3w10:w1.heap.size < w3.heap.size:=C3.blk (b:=w1.heap.size) (k:=0) (v:=.int .i64 0) (by simp);rcases hR3 with ⟨v,ls,rfl,hO,hC,hl⟩ | ⟨rfl,ls,h1,h2,h3⟩
 ·have HC:=lHd hC;clear hC
  go_wp2_with fail
  go_at_call 50;refine (vJ5 hn24 HC.out.set hO hB3 (by omega)).mono ?_;rintro e w4 ⟨rfl,hB4,rs,hp,hO4⟩;have D4:Below w.heap.size w w4:=D2.trans (hB4.mono D2.size);have C4:Cls w4 [(w.heap.size,0,.int .i64 t.facts),(w.heap.size,1,.slice Ai t.init.length ci),(w.heap.size,2,.slice Ag t.goal.length cg),(w.heap.size,3,.slice Ao t.ops.length co),(w.heap.size+1,0,.int .i64 0),(w.heap.size+1,1,.int .i64 0),(w1.heap.size,0,.int .i64 0),(w1.heap.size,1,.int .i64 0)]:=Cls.below hB4 C2;have F4:=C4;simp only[Cls,and_true] at F4;have y4w1:w.heap.size+1 < w4.heap.size:=C4.blk (b:=w.heap.size+1) (k:=0) (v:=.int .i64 0) (by simp);have y4w10:w1.heap.size < w4.heap.size:=C4.blk (b:=w1.heap.size) (k:=0) (v:=.int .i64 0) (by simp);go_wp2;refine bodyPost_ret (v:=.tuple #[.pointer (some ⟨g2,0,none⟩),v,.agg #[.int .i64 0,.int .i64 0]]) ?_ rfl ⟨?_,.inr ⟨g2,v,rs,rfl,?_,?_,?_,?_⟩⟩
  ·simp[results,Tryz.results16,go_sem,F4,y4w1,y4w10]
  ·exact mvp
  ·exact ((hW2'.out.below hB4).set_low (p:=⟨w.heap.size+1,0,none⟩) (by simp;omega) _ |>.set_low (p:=⟨w.heap.size+1,1,none⟩) (by simp;omega) _).mono (by simp;omega)
  ·exact zXc (ownsRow_setCell_below (ownsRow_setCell_below hO4 (a:=⟨w.heap.size+1,0,none⟩) (by simp;omega) _) (a:=⟨w.heap.size+1,1,none⟩) (by simp;omega) _) (by omega)
  ·exact HC.out.perm hp
  ·rw[hp.length_eq];exact hl
 ·have H1:=lHd h1;have H2:=lHd h2;have H3:=lHd h3;clear h1 h2 h3;go_wp2;refine bodyPost_ret (v:=.tuple #[.pointer none,.slice none 0 0,.agg #[.int .i64 10,.int .i64 (-7)]]) ?_ rfl ⟨?_,.inl ⟨rfl,ls,H1.out,H2.out,H3.out⟩⟩
  ·simp[results,Tryz.results16,go_sem,F3,y3w1,y3w10]
  ·exact mvp
end Go.Proofs.YtpeipeljmapkmaaGreat
