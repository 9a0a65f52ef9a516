/-
  Lemmas for the law: Qs, Qt, Qu, Qv.
-/
import Derived.Test.YtpeipeljmapkmaaGreatU2
import Derived.RangeFuncBox
set_option linter.unusedVariables false
set_option linter.unusedSimpArgs false
set_option maxRecDepth 100000
set_option maxHeartbeats 4000000
namespace Go.Proofs.YtpeipeljmapkmaaGreat
open Go.RowKit
theorem zXb{ops:Array Oper}{rest:List Oper}{o:Oper}{a:Act}{w:World}{Q:Exit->Act->World->Prop}(hgd:o.guard=none)(s x:Operand)(T e:TypeId)(z:Value)(by_:Nat)(hT:Tryz.prog.underlying T=some (.slice e))(hinf:(Tryz.prog.info? e).map (fun i=>(i.zero,i.size,i.bytes))=some (some z,1,by_))(hz:z.oneCell'=true)(hby:by_<=64)
  (ho:o.op=.call { callee:=.builtin .append,args:=#[s,x],argTypes:=#[T,T] })
  (base:Nat) (v:Value) (n:Nat) (xs:List Value) (y:Value) (hy:y.oneCell'=true) (hs:a.eval s=v) (hown:w.ownsRow base e 1 v n xs) (ad:Addr) (m:Nat) (hx:a.eval x=.slice (some ad) 1 m) (hc:w.cell? ad=some y)
  (hlen:n < 1000000000000) (hbase:base<=w.heap.size)
  (h:∀ A c w',w'.ownsRow base e 1 (.slice A (n+1) c) (n+1) (xs ++ [y])->w.grownBy w' v.ownBlock->wpList Tryz.prog ops Q rest (a.put o.dst (.slice A (n+1) c)) w'):wpList Tryz.prog ops Q (o :: rest) a w:=by
 obtain⟨i0,hi0,hq⟩:=Option.map_eq_some_iff.1 hinf;simp only[Prod.mk.injEq] at hq;have hz2:z.cells.size=1:=by cases z <;> first | rfl | cases hz
 refine wpList_append_own w hgd s x T ho base e i0 z 1 by_ hT hi0 hq.1 hq.2.1 hq.2.2 hz2 (by decide) v n xs hs hown ad 1 m [y] hx rfl ?_ ?_ ?_ ?_ hbase ?_
 ·intro j u hu
  cases j with
  | zero=>simp at hu;subst hu;rw[add_zero];exact hc
  | succ j=>simp at hu
 ·intro u hu;simp at hu;subst hu;exact hy
 ·simp only[maxLen];omega
 ·have:(n+1) * by_<=(n+1) * 64:=Nat.mul_le_mul_left _ hby;omega
 ·intro v' w' h1 h2 _;obtain⟨g,cap,rfl⟩:=ownsRow_succ h1;exact h _ _ w' h1 h2
theorem vVe(A:Option Addr)(n c k:Nat)(hk:k<=n)(hc:n<=c)(hc2:c<=9223372036854775807)(i:Int)(hi:i=(k:Int))(w:World) :
  (Instr.slice 181 (.slice A n c) none (some (.int .i64 i)) none).run Tryz.prog w=.ok (.slice A k c) w:=by
 subst hi;have h0:(0:Int)<=k:=by omega
 have h1:(k:Int)<=c:=by omega
 simp[go_sem,Tryz.underlying181,h0,h1]
 try omega
theorem xW4(p:Option Addr)(w:World):(Instr.typeAssert (.iface 184 (.pointer p)) 20 184 false).run Tryz.prog w=.ok (.pointer p) w:=by kernel_rfl
theorem vZg:(Tryz.prog.info? 184).map (fun i=>(i.zero,i.size,i.bytes))=some (some (.pointer none),1,8):=by kernel_rfl
theorem QH.push_q{base q m:Nat}{t:Int}{w0 w W:World}{l:List Ent}{e:Ent}{A A':Option Addr}{c c':Nat}{a0:Value}(h:QH base q m t w0 w l)(hq:Arr w q 183 [.slice A l.length c,.map (some m),.int .i64 t])(hrow:w.ownsRow base 184 1 (.slice A l.length c) l.length (l.map xXn))
  (he:Arr w e.blk 187 [.int .u32 e.item,.int .i64 e.key,.int .i64 e.time,a0]) (hb:base<=e.blk) (hnew:e.blk∉l.map Ent.blk) (hl:l.length < 1000000000)
  (h1:W.ownsRow base 184 1 (.slice A' (l.length+1) c') (l.length+1) (l.map xXn ++ [xXn e]))
  (hg:((w.setCell ⟨e.blk,3,none⟩ (.int .i64 (l.length:Int))).alloc (.cells #[xXn e] 184)).grownBy W (Value.slice A l.length c).ownBlock) :
  Arr W q 183 [.slice A l.length c,.map (some m),.int .i64 t]:=by
 have hlt:=he.lt;have nqe:q≠e.blk:=fun x=>by rw[<- x] at he;unfold Arr at hq he;rw[hq] at he;injection he with he;injection he with _ e2;exact absurd e2 (by decide)
 have hrb:∀ k,(Value.slice A l.length c).ownBlock=some k->base<=k/\∃ cu,w.heap[k]? = some (.cells cu 184 (0,0)):=fun k hk=>by
  refine⟨(hrow.lt k hk).1,?_⟩;rcases hrow.2 with ⟨hv,_⟩ | ⟨g,cap,cur,hv,_,hh,_⟩
  ·rw[hv] at hk;cases hk
  ·rw[hv] at hk;injection hk with hk;subst hk;exact⟨cur,hh⟩
 have hne:∀ {k:Nat} {cu:Array Value} {T:TypeId},w.heap[k]? = some (.cells cu T (0,0))->T≠184->some k≠(Value.slice A l.length c).ownBlock:=fun {k cu T} hk hT e1=>by
  obtain⟨_,cu2,h3⟩:=hrb k e1.symm;rw[hk] at h3;injection h3 with h3;injection h3 with _ h4
  exact hT h4
 have hold:∀ {k:Nat} {o:Obj},(w.setCell ⟨e.blk,3,none⟩ (.int .i64 (l.length:Int))).heap[k]? = some o->some k≠(Value.slice A l.length c).ownBlock->W.heap[k]? = some o:=fun {k o} hk hn=>by
  have hk2:=(Below.heap_alloc _ (.cells #[xXn e] 184) k (Array.getElem?_eq_some_iff.1 hk).1).trans hk;exact (hg.block k (Array.getElem?_eq_some_iff.1 hk2).1 hn).trans hk2
 exact hold (hq.far (p:=⟨e.blk,3,none⟩) nqe.symm _) (hne hq (by decide))
theorem QH.pushed{base q m:Nat}{t:Int}{w0 w W:World}{l:List Ent}{e:Ent}{A A':Option Addr}{c c':Nat}{a0:Value}(h:QH base q m t w0 w l)(hq:Arr w q 183 [.slice A l.length c,.map (some m),.int .i64 t])(hrow:w.ownsRow base 184 1 (.slice A l.length c) l.length (l.map xXn))
  (he:Arr w e.blk 187 [.int .u32 e.item,.int .i64 e.key,.int .i64 e.time,a0]) (hb:base<=e.blk) (hnew:e.blk∉l.map Ent.blk) (hl:l.length < 1000000000)
  (h1:W.ownsRow base 184 1 (.slice A' (l.length+1) c') (l.length+1) (l.map xXn ++ [xXn e]))
  (hg:((w.setCell ⟨e.blk,3,none⟩ (.int .i64 (l.length:Int))).alloc (.cells #[xXn e] 184)).grownBy W (Value.slice A l.length c).ownBlock) :
  QH base q m t w0 (W.setCell ⟨q,0,none⟩ (.slice A' (l.length+1) c')) (l ++ [e]):=by
 have hlt:=he.lt;have hsz:base<=w.heap.size:=by have:=h.qb;omega
 have nqe:q≠e.blk:=fun x=>by rw[<- x] at he;unfold Arr at hq he;rw[hq] at he;injection he with he;injection he with _ e2;exact absurd e2 (by decide)
 have hrb:∀ k,(Value.slice A l.length c).ownBlock=some k->base<=k/\∃ cu,w.heap[k]? = some (.cells cu 184 (0,0)):=fun k hk=>by
  refine⟨(hrow.lt k hk).1,?_⟩;rcases hrow.2 with ⟨hv,_⟩ | ⟨g,cap,cur,hv,_,hh,_⟩
  ·rw[hv] at hk;cases hk
  ·rw[hv] at hk;injection hk with hk;subst hk;exact⟨cur,hh⟩
 have hne:∀ {k:Nat} {cu:Array Value} {T:TypeId},w.heap[k]? = some (.cells cu T (0,0))->T≠184->some k≠(Value.slice A l.length c).ownBlock:=fun {k cu T} hk hT e1=>by
  obtain⟨_,cu2,h3⟩:=hrb k e1.symm;rw[hk] at h3;injection h3 with h3;injection h3 with _ h4
  exact hT h4
 have hold:∀ {k:Nat} {o:Obj},(w.setCell ⟨e.blk,3,none⟩ (.int .i64 (l.length:Int))).heap[k]? = some o->some k≠(Value.slice A l.length c).ownBlock->W.heap[k]? = some o:=fun {k o} hk hn=>by
  have hk2:=(Below.heap_alloc _ (.cells #[xXn e] 184) k (Array.getElem?_eq_some_iff.1 hk).1).trans hk;exact (hg.block k (Array.getElem?_eq_some_iff.1 hk2).1 hn).trans hk2
 have hqW:Arr W q 183 [.slice A l.length c,.map (some m),.int .i64 t]:=hold (hq.far (p:=⟨e.blk,3,none⟩) nqe.symm _) (hne hq (by decide));constructor
 ·refine⟨A',c',?_,?_⟩
  ·rw[List.length_append,List.map_append];obtain⟨r1,r2⟩:=h1;refine⟨r1,?_⟩;rcases r2 with ⟨r2,r3⟩ | ⟨g,cap,cur,hv,hbg,hh,r⟩
   ·omega
   ·have hgq:g≠q:=fun e1=>by rw[e1] at hh;unfold Arr at hqW;rw[hqW] at hh;injection hh with hh;injection hh with _ e2;exact absurd e2 (by decide)
    exact Or.inr ⟨g,cap,cur,hv,hbg,(Below.heap_setCell W ⟨q,0,none⟩ _ g hgq).trans hh,r⟩
  ·have:=hqW.set_ 0 (.slice A' (l.length+1) c');rw[List.length_append];exact this
 ·intro i x hx
  by_cases hi:i < l.length
  ·rw[List.getElem?_append_left hi] at hx;obtain⟨hX,hXb⟩:=h.ents i x hx;have nxe:e.blk≠x.blk:=fun e1=>hnew (e1 ▸ List.mem_map.2 ⟨x,lMg hx,rfl⟩)
   have nqx:q≠x.blk:=fun e1=>by rw[<- e1] at hX;unfold Arr at hq hX;rw[hq] at hX;injection hX with hX;injection hX with _ e2;exact absurd e2 (by decide)
   have h2:Arr W x.blk 187 _:=hold (hX.far (p:=⟨e.blk,3,none⟩) nxe _) (hne hX (by decide));exact⟨h2.far (p:=⟨q,0,none⟩) nqx _,hXb⟩
  ·have hil:i=l.length:=by
    have:=(List.getElem?_eq_some_iff.1 hx).1;simp at this;omega
   subst hil;rw[List.getElem?_append_right (Nat.le_refl _),Nat.sub_self] at hx;injection hx with hx
   subst hx;have h2:Arr W e.blk 187 _:=hold (he.set_ 3 (.int .i64 (l.length:Int))) (hne he (by decide));exact⟨h2.far (p:=⟨q,0,none⟩) nqe _,hb⟩
 ·rw[List.map_append];refine List.nodup_append.2 ⟨h.nd,by simp,fun a ha b hb2=>?_⟩;simp at hb2;subst hb2;exact fun e1=>hnew (e1 ▸ ha)
 ·exact h.qb
 ·rw[List.length_append];exact hl
 ·have f1:=h.fr.set_ (p:=⟨e.blk,3,none⟩) hb he (xZ0 (e:=187) rfl) (.int .i64 (l.length:Int));have f2:=f1.alloc (by simpa using hsz) (.cells #[xXn e] 184);have f3:=f2.grown hg (by simp;omega) (fun k hk=>by
   obtain⟨b1,cu,b2⟩:=hrb k hk;refine⟨b1,fun o ho=>?_⟩;have hke:k≠e.blk:=fun e1=>by rw[e1] at b2;unfold Arr at he;rw[he] at b2;injection b2 with b2;injection b2 with _ e2;exact absurd e2 (by decide)
   have hkl:=(Array.getElem?_eq_some_iff.1 b2).1;rw[Below.heap_alloc _ _ k (by simpa using hkl),Below.heap_setCell w ⟨e.blk,3,none⟩ _ k hke,b2] at ho;injection ho with ho
   subst ho;exact xZ0 (e:=184) rfl)
  exact f3.set_ (p:=⟨q,0,none⟩) h.qb hqW (xZ0 (e:=183) rfl) _
theorem zWa{base q m:Nat}{t:Int}{w0 w:World}{l:List Ent}{e:Ent}{a0:Value}(h:QH base q m t w0 w l)(he:Arr w e.blk 187 [.int .u32 e.item,.int .i64 e.key,.int .i64 e.time,a0])(hb:base<=e.blk)(hnew:e.blk∉l.map Ent.blk)(hl:l.length < 1000000000) :
  Calls Tryz.prog 208 #[.pointer (some ⟨q,0,none⟩),.iface 184 (xXn e)] w fun en w'=>en=.returned (.tuple #[])/\QH base q m t w0 w' (l ++ [e]):=by
 obtain⟨A,c,hc0,hc1,hc2,hrow,hq⟩:=h.cell;have hce:w.cell? ⟨e.blk,3,none⟩=some a0:=he.cell 3;have hfe:=he.free 3;have hsz:base<=w.heap.size:=by have:=h.qb;have:=hq.lt;omega
 have nqe:q≠e.blk:=fun x=>by rw[<- x] at he;unfold Arr at hq he;rw[hq] at he;injection he with he;injection he with _ e2;exact absurd e2 (by decide)
 have nqe':=nqe.symm;have hln:l.length < 1000000000000:=by omega
 have hrow2:(w.setCell ⟨e.blk,3,none⟩ (.int .i64 (l.length:Int))).ownsRow base 184 1 (.slice A l.length c) l.length (l.map xXn):=by
  refine hrow.kept (row:=some e.blk) ⟨rfl,rfl,rfl,by simp[World.setCell],fun k _ hk=>Below.heap_setCell w ⟨e.blk,3,none⟩ _ k (fun e1=>hk (by rw[e1]))⟩ ?_;rcases hrow.2 with ⟨hv,_⟩ | ⟨g,cap,cur,hv,_,hh,_⟩
  ·rw[hv];exact Or.inl rfl
  ·refine Or.inr (fun e1=>?_);rw[hv] at e1;injection e1 with e1
   have e1:g=e.blk:=e1;rw[e1] at hh;unfold Arr at he;rw[he] at hh;injection hh with hh;injection hh with _ e2;exact absurd e2 (by decide)
 have HQ:=lHd hq;have HE:=lHd he;have HR:=lHd hrow;have HR2:=lHd hrow2;have HN:=lHd hnew;clear hq he hrow hrow2 hnew;have ha:=fun W=>xW4 (some ⟨e.blk,0,none⟩) W
 unfold xXn;go_enter Tryz.func208,Tryz.ntmps208
 go_wp2_with (at_builtin;refine zXb rfl (.tmp 17) (.tmp 19) 181 184 (.pointer none) 8 Tryz.underlying181 vZg rfl (by decide) rfl base _ l.length _ (xXn e) rfl rfl (HR2.out.alloc _) _ 1 rfl ?p1 hln ?p2 ?_;(case p1=>simp[go_sem,xXn]);(case p2=>(first | omega | (simp <;> omega)));intro A' c' W h1 hg;have hqW:=h.push_q HQ.out HR.out HE.out hb HN.out hl h1 hg;have hcq:W.cell? ⟨q,0,none⟩=some (.slice A l.length c):=hqW.cell 0;have hfw:=hqW.free 0;clear hqW)
 go_end0
 exact⟨rfl,h.pushed HQ.out HR.out HE.out hb HN.out hl h1 hg⟩
def Off(base q m:Nat)(t:Int)(w0 w:World)(l:List Ent)(x:Ent):Prop:=
 QH base q m t w0 w l/\(∃ a,Arr w x.blk 187 [.int .u32 x.item,.int .i64 x.key,.int .i64 x.time,a])/\x.blk∉l.map Ent.blk
theorem QH.popped{base q m:Nat}{t:Int}{w0 w:World}{l:List Ent}{x:Ent}{A:Option Addr}{c:Nat}(h:QH base q m t w0 w (l ++ [x]))(hq:Arr w q 183 [.slice A (l.length+1) c,.map (some m),.int .i64 t])(hrow:w.ownsRow base 184 1 (.slice A (l.length+1) c) (l.length+1) ((l ++ [x]).map xXn)) :
  Off base q m t w0 (w.setCell ⟨q,0,none⟩ (.slice A l.length c)) l x:=by
 have far:∀ (i:Nat) (e:Ent),(l ++ [x])[i]? = some e->q≠e.blk:=fun i e he e1=>by
  have hE:=(h.ents i e he).1;rw[<- e1] at hE;unfold Arr at hq hE;rw[hq] at hE;injection hE with hE;injection hE with _ e2;exact absurd e2 (by decide)
 have hlast:(l ++ [x])[l.length]? = some x:=by simp
 refine⟨⟨⟨A,c,?_,hq.set_ 0 _⟩,fun i e he=>?_,?_,h.qb,?_,h.fr.set_ (p:=⟨q,0,none⟩) h.qb hq (xZ0 (e:=183) rfl) _⟩,⟨_,(h.ents _ _ hlast).1.far (p:=⟨q,0,none⟩) (far _ _ hlast) _⟩,?_⟩
 ·obtain⟨r1,r2⟩:=hrow;rcases r2 with ⟨r2,r3⟩ | ⟨g,cap,cur,hv,hbg,hh,hnc,hcm,hs,ht⟩
  ·omega
  ·injection hv with v1 v2 v3
   have hgq:g≠q:=fun e1=>by rw[e1] at hh;unfold Arr at hq;rw[hq] at hh;injection hh with hh;injection hh with _ e2;exact absurd e2 (by decide)
   refine⟨by simp,Or.inr ⟨g,cap,cur,by rw[v1,v3],hbg,(Below.heap_setCell w ⟨q,0,none⟩ _ g hgq).trans hh,by omega,hcm,hs,?_⟩⟩;have h1:(List.take ((l.length+1) * 1) cur.toList).take l.length=((l ++ [x]).map xXn).take l.length:=by rw[ht]
   rw[List.take_take,Nat.min_eq_left (by omega)] at h1;rw[Nat.mul_one,h1];simp
 ·have hi:i < l.length:=(List.getElem?_eq_some_iff.1 he).1;have he2:(l ++ [x])[i]? = some e:=by rw[List.getElem?_append_left hi];exact he
  exact⟨(h.ents i e he2).1.far (p:=⟨q,0,none⟩) (far _ _ he2) _,(h.ents i e he2).2⟩
 ·have:=h.nd;rw[List.map_append] at this;exact (List.nodup_append.1 this).1
 ·have:=h.len;simp at this;omega
 ·intro hm;have:=h.nd;rw[List.map_append] at this;exact (List.nodup_append.1 this).2.2 _ hm _ (by simp) rfl
theorem vZh{base q m:Nat}{t:Int}{w0 w:World}{l:List Ent}{x:Ent}(h:QH base q m t w0 w (l ++ [x])) :
  Calls Tryz.prog 207 #[.pointer (some ⟨q,0,none⟩)] w fun en w'=>en=.returned (.iface 184 (xXn x))/\Off base q m t w0 w' l x:=by
 obtain⟨A,c,hc0,_,_,hrow,hq⟩:=h.cell;have e1:(l ++ [x]).length=l.length+1:=by simp
 rw[e1] at hc0 hrow hq;have hb:l.length<=1000000000:=by have:=h.len;rw[e1] at this;omega
 have hcap:l.length+1<=c/\c<=9223372036854775807:=by
  rcases hrow.2 with ⟨_,h2⟩ | ⟨g,cap,cur,hv,_,_,h1,h2,_⟩
  ·omega
  ·injection hv with _ _ v3
   simp only[maxLen] at h2;omega
 obtain⟨g,rfl,_,_,hcx,_⟩:=xY6 hrow (show l.length < l.length+1 by omega);have hcx:w.cell? ⟨g,l.length,none⟩=some (xXn x):=by rw[hcx];simp
 have hfq:w.frozen? ⟨q,0,none⟩=false:=hq.free 0;have hP:=lHd (h.popped hq hrow);have hcut:=vVe (some ⟨g,0,none⟩) (l.length+1) c l.length (by omega) hcap.1 hcap.2;obtain⟨n,hn⟩:∃ n,l.length=n:=⟨_,rfl⟩;rw[hn] at hc0 hb hcx hcut hP;clear hrow hq e1 hn hcap h;have hw1:(n:Int)+1 - 1=(n:Int):=by omega
 unfold xXn at hcx;go_enter Tryz.func207,Tryz.ntmps207;go_wp2;go_ret;exact⟨rfl,hP.out⟩
section
variable {base q m:Nat}{t:Int}{w0 w w':World}{l:List Ent}
theorem QH.here(h:QH base q m t w0 w l):QH base q m t w w l:=⟨h.row,h.ents,h.nd,h.qb,h.len,QFr.refl _ _⟩
theorem QH.of_blocks(h:QH base q m t w0 w l)(hs:∀ (k:Nat) cu e,w.heap[k]? = some (.cells cu e (0,0))->w'.heap[k]? = some (.cells cu e (0,0))){w1:World}(hf:QFr base w1 w'):QH base q m t w1 w' l:=by
 obtain⟨⟨A,c,h1,h2⟩,h3,h4,h5,h6,h7⟩:=h;refine⟨⟨A,c,?_,hs _ _ _ h2⟩,fun i e he=>⟨hs _ _ _ (h3 i e he).1,(h3 i e he).2⟩,h4,h5,h6,hf⟩;obtain⟨r1,r2⟩:=h1;refine⟨r1,?_⟩;rcases r2 with r2 | ⟨g,cap,cur,hv,hbg,hh,r⟩
 ·exact Or.inl r2
 ·exact Or.inr ⟨g,cap,cur,hv,hbg,hs _ _ _ hh,r⟩
theorem QH.alloc(h:QH base q m t w0 w l)(o:Obj):QH base q m t w (w.alloc o) l:=
 h.of_blocks (fun k cu e hk=>(Below.heap_alloc w o k (Array.getElem?_eq_some_iff.1 hk).1).trans hk) ((QFr.refl base w).alloc (by have:=h.qb;obtain⟨A,c,_,h2⟩:=h.row;have:=h2.lt;omega) o)
theorem QH.turned(h:QH base q m t w0 w l){es:Array MapEntry}{cl:Nat}(hm:w.heap[m]? = some (.map es cl))(hg:w.grownBy w' (some m)):QH base q m t w' w' l:=
 h.of_blocks (fun k cu e hk=>(hg.block k (Array.getElem?_eq_some_iff.1 hk).1 (fun e1=>by injection e1 with e1;rw[e1,hm] at hk;cases hk)).trans hk) (QFr.refl _ _)
theorem QH.time(h:QH base q m t w0 w l)(t':Int):QH base q m t' w (w.setCell ⟨q,2,none⟩ (.int .i64 t')) l:=by
 obtain⟨A,c,_,_,_,hrow,hq⟩:=h.cell;have ne:∀ {k:Nat} {cu:Array Value} {e:TypeId},w.heap[k]? = some (.cells cu e (0,0))->e≠183->k≠q:=fun {k cu e} hk he e1=>by
  rw[e1] at hk;unfold Arr at hq;rw[hq] at hk;injection hk with hk;injection hk with _ e2;exact he e2.symm
 refine⟨⟨A,c,?_,hq.set_ 2 _⟩,fun i e he=>⟨?_,(h.ents i e he).2⟩,h.nd,h.qb,h.len,(QFr.refl base w).set_ (p:=⟨q,2,none⟩) h.qb hq (xZ0 (e:=183) rfl) _⟩
 ·obtain⟨r1,r2⟩:=hrow;refine⟨r1,?_⟩;rcases r2 with r2 | ⟨g,cap,cur,hv,hbg,hh,r⟩
  ·exact Or.inl r2
  ·exact Or.inr ⟨g,cap,cur,hv,hbg,(Below.heap_setCell w ⟨q,2,none⟩ _ g (ne hh (by decide))).trans hh,r⟩
 ·exact (h.ents i e he).1.far (p:=⟨q,2,none⟩) (fun e1=>ne (h.ents i e he).1 (by decide) e1.symm) _
theorem QH.rekey(h:QH base q m t w0 w l){i:Nat}{x:Ent}(hx:l[i]? = some x)(k s:Int):QH base q m t w ((w.setCell ⟨x.blk,1,none⟩ (.int .i64 k)).setCell ⟨x.blk,2,none⟩ (.int .i64 s)) (l.set i { x with key:=k,time:=s }):=by
 obtain⟨A,c,_,_,_,hrow,hq⟩:=h.cell;have hi:=(List.getElem?_eq_some_iff.1 hx).1;obtain⟨hX,hXb⟩:=h.ents i x hx;have ne:∀ {k:Nat} {cu:Array Value} {e:TypeId},w.heap[k]? = some (.cells cu e (0,0))->e≠187->k≠x.blk:=fun {k cu e} hk he e1=>by
  rw[e1] at hk;unfold Arr at hX;rw[hX] at hk;injection hk with hk;injection hk with _ e2;exact he e2.symm
 have hX1:=hX.set_ 1 (.int .i64 k);refine⟨⟨A,c,?_,?_⟩,fun j e he=>?_,?_,h.qb,by rw[List.length_set];exact h.len,((QFr.refl base w).set_ (p:=⟨x.blk,1,none⟩) hXb hX (xZ0 (e:=187) rfl) _).set_ (p:=⟨x.blk,2,none⟩) hXb hX1 (xZ0 (e:=187) rfl) _⟩
 ·have hm:(l.set i { x with key:=k,time:=s }).map xXn=l.map xXn:=by
   rw[List.map_set];refine List.ext_getElem? fun j=>?_
   rw[List.getElem?_set]
   split
   ·rename_i e1
    subst e1;rw[if_pos (by simpa using hi),List.getElem?_map,hx];rfl
   ·rfl
  rw[hm,List.length_set];obtain⟨r1,r2⟩:=hrow;refine⟨r1,?_⟩;rcases r2 with r2 | ⟨g,cap,cur,hv,hbg,hh,r⟩
  ·exact Or.inl r2
  ·exact Or.inr ⟨g,cap,cur,hv,hbg,(Below.heap_setCell _ ⟨x.blk,2,none⟩ _ g (ne hh (by decide))).trans ((Below.heap_setCell w ⟨x.blk,1,none⟩ _ g (ne hh (by decide))).trans hh),r⟩
 ·rw[List.length_set];exact (hq.far (p:=⟨x.blk,1,none⟩) (fun e1=>ne hq (by decide) e1.symm) _).far (p:=⟨x.blk,2,none⟩) (fun e1=>ne hq (by decide) e1.symm) _
 ·rw[List.getElem?_set] at he
  by_cases hij:i=j
  ·subst hij;rw[if_pos rfl,if_pos hi] at he;injection he with he
   subst he;exact⟨hX1.set_ 2 (.int .i64 s),hXb⟩
  ·rw[if_neg hij] at he;have hn:=h.inj hx he hij;exact⟨((h.ents j e he).1.far (p:=⟨x.blk,1,none⟩) hn _).far (p:=⟨x.blk,2,none⟩) hn _,(h.ents j e he).2⟩
 ·have hm:(l.set i { x with key:=k,time:=s }).map Ent.blk=l.map Ent.blk:=by
   rw[List.map_set];refine List.ext_getElem? fun j=>?_
   rw[List.getElem?_set]
   split
   ·rename_i e1
    subst e1;rw[if_pos (by simpa using hi),List.getElem?_map,hx];rfl
   ·rfl
  rw[hm];exact h.nd
end
structure QUp(base m:Nat)(w w':World):Prop where
 below:Below base w w'
 same:∀ (k:Nat) (o:Obj),w.heap[k]? = some o->zYb o=true->k≠m->w'.heap[k]? = some o
theorem QUp.refl(base m:Nat)(w:World):QUp base m w w:=⟨Below.refl _ _,fun _ _ h _ _=>h⟩
theorem QUp.trans{base m:Nat}{a b c:World}(h:QUp base m a b)(k:QUp base m b c):QUp base m a c:=⟨h.below.trans k.below,fun i o hi ho hm=>k.same i o (h.same i o hi ho hm) ho hm⟩
theorem QFr.up{base m:Nat}{a b:World}(h:QFr base a b):QUp base m a b:=⟨h.below,fun k o hk ho _=>h.same k o hk ho⟩
theorem QUp.map{base m:Nat}{a b c:World}(h:QUp base m a b)(hg:b.grownBy c (some m))(hm:base<=m)(hb:base<=b.heap.size):QUp base m a c:=
 ⟨h.below.grown hg hb (fun k e=>by injection e with e;omega),fun k o hk ho hne=>by
  have h1:=h.same k o hk ho hne;exact (hg.block k (Array.getElem?_eq_some_iff.1 h1).1 (fun e=>hne (by injection e))).trans h1⟩
section
variable {base m:Nat}{w w':World}
theorem Arr.qup{g:Nat}{e:TypeId}{xs:List Value}(h:Arr w g e xs)(hq:QUp base m w w')(hm:∃ es cl,w.heap[m]? = some (.map es cl))(he:(e == 183 || e == 184 || e == 187)=false):Arr w' g e xs:=
 hq.same g _ h (by simp only[zYb,he,Bool.not_false]) (fun e1=>by obtain⟨es,cl,h2⟩:=hm;subst e1;unfold Arr at h;rw[h] at h2;cases h2)
theorem MapF.qup{b n:Nat}{f:Int->Option Value}(h:MapF w b n f)(hq:QUp base m w w')(hb:b≠m):MapF w' b n f:=by
 obtain⟨es,cl,ho⟩:=h.obj;exact h.of_block ((hq.same b _ ho rfl hb).trans ho.symm)
theorem zQd{B:Nat}{e:TypeId}{size n:Nat}{v:Value}{xs:List Value}(h:w.ownsRow B e size v n xs)(hq:QUp base m w w')(hm:∃ es cl,w.heap[m]? = some (.map es cl))(he:(e == 183 || e == 184 || e == 187)=false):w'.ownsRow B e size v n xs:=by
 obtain⟨h1,h2⟩:=h;refine⟨h1,?_⟩;rcases h2 with h2 | ⟨g,cap,cur,hv,hg,hh,r⟩
 ·exact Or.inl h2
 ·refine Or.inr ⟨g,cap,cur,hv,hg,hq.same g _ hh (by simp only[zYb,he,Bool.not_false]) (fun e1=>?_),r⟩;obtain⟨es,cl,h3⟩:=hm;subst e1;rw[hh] at h3;cases h3
end
def Que(base q m:Nat)(w:World)(n:Nat)(f:Int->Option Int):Prop:=
 ∃ (t:Int) (l:List Ent) (g:Int->Option Value),QH base q m t w w l/\HeapN zYa l.length l/\MapF w m n g/\base<=m/\l.length=n /\
  (∀ e∈l,Wrd e.item/\g e.item=some (xXn e)/\f e.item=some e.key)/\(∀ x,Wrd x->(g x≠none->f x≠none))/\(∀ x,f x≠none->∃ e∈l,e.item=x)
def xZ1(f:Int->Option Int)(x k:Int):Int->Option Int:=fun y=>if y=x then some k else f y
def xKu(f:Int->Option Int)(x:Int):Int->Option Int:=fun y=>if y=x then none else f y
def upN(f:Int->Option Int)(x:Int)(n:Nat):Nat:=if (f x).isSome then n else n+1
theorem Que.obj{base q m n:Nat}{w:World}{f:Int->Option Int}(h:Que base q m w n f):∃ es cl,w.heap[m]? = some (.map es cl):=by obtain⟨t,l,g,_,_,h3,_⟩:=h;exact h3.obj
theorem xYl{base q m n:Nat}{w:World}{f:Int->Option Int}(h:Que base q m w n f):Calls Tryz.prog 58 #[.pointer (some ⟨q,0,none⟩)] w fun e w'=>e=.returned (.int .i64 (n:Int))/\w=w':=by
 obtain⟨t,l,g,hQ,_,_,_,hn,_⟩:=h;obtain⟨A,c,hc0,_⟩:=hQ.cell;rw[hn] at hc0;clear hn hQ;go_enter Tryz.func58,Tryz.ntmps58;go_wp2;go_ret;exact⟨rfl,rfl⟩
theorem zVd(w:World):Calls Tryz.prog 54 #[] w fun e w'=>e=.returned (.pointer (some ⟨w.heap.size+1,0,none⟩))/\Que w.heap.size (w.heap.size+1) w.heap.size w' 0 (fun _=>none)/\Below w.heap.size w w':=by
 have hmm:=@run_makeMap Tryz.prog;go_enter Tryz.func54,Tryz.ntmps54;go_wp2;go_ret;have hA:=Arr.new (w.alloc (.map #[] 0)) 183 [.slice none 0 0,.map (some w.heap.size),.int .i64 0];rw[World.size_alloc] at hA;refine⟨rfl,⟨0,[],fun _=>none,⟨⟨none,0,World.ownsRow_nil _ _ _ _,hA⟩,fun i e he=>by simp at he,List.nodup_nil,by omega,by simp,QFr.refl _ _⟩,fun k _ h=>by simp at h,(MapF.made w).alloc _,Nat.le_refl _,rfl,by simp,by simp,by simp⟩,?_⟩;exact ((Below.refl _ _).alloc (Nat.le_refl _) _).alloc (by simp) _
theorem zQv(w:World):(zeroValue 184).run Tryz.prog w=.ok (.pointer none) w:=by kernel_rfl
theorem QH.drew{base q m:Nat}{t:Int}{w0 w:World}{l:List Ent}(h:QH base q m t w0 w l):QH base q m t w0 w.drew l:=h.drewN 1
theorem zKw{l l':List Ent}{g:Int->Option Value}{f:Int->Option Int}(hl:∀ e∈l,Wrd e.item/\g e.item=some (xXn e)/\f e.item=some e.key)(hs:∀ x,f x≠none->∃ e∈l,e.item=x)
  (hd:∀ (i j:Nat) (x y:Ent),l[i]? = some x->l[j]? = some y->i≠j->x.blk≠y.blk) {i:Nat} {e:Ent} (hi:l[i]? = some e) (k s:Int) (hp:l'.Perm (l.set i { e with key:=k,time:=s })) :
  (∀ e'∈l',Wrd e'.item/\g e'.item=some (xXn e')/\xZ1 f e.item k e'.item=some e'.key)/\∀ x,xZ1 f e.item k x≠none->∃ e'∈l',e'.item=x:=by
 have hil:=(List.getElem?_eq_some_iff.1 hi).1;have hnew:({ e with key:=k,time:=s }:Ent)∈l':=hp.mem_iff.2 (List.mem_iff_getElem?.2 ⟨i,by rw[List.getElem?_set,if_pos rfl,if_pos hil]⟩);constructor
 ·intro e' he';obtain⟨j,hj⟩:=List.mem_iff_getElem?.1 (hp.mem_iff.1 he');rw[List.getElem?_set] at hj
  by_cases hij:i=j
  ·subst hij;rw[if_pos rfl,if_pos hil] at hj;injection hj with hj
   subst hj;obtain⟨h1,h2,h3⟩:=hl e (lMg hi);exact⟨h1,h2,by unfold xZ1;rw[if_pos rfl]⟩
  ·rw[if_neg hij] at hj;obtain⟨h1,h2,h3⟩:=hl e' (lMg hj);obtain⟨_,h5,_⟩:=hl e (lMg hi);refine⟨h1,h2,?_⟩;unfold xZ1;rw[if_neg,h3];intro e1;rw[e1,h5] at h2;have h6:e.blk=e'.blk:=by
    injection h2 with h2;unfold xXn at h2;injection h2 with h2;injection h2 with h2;injection h2
   exact hd i j e e' hi hj hij h6
 ·intro x hx;unfold xZ1 at hx
  by_cases hxe:x=e.item
  ·exact⟨_,hnew,hxe.symm⟩
  ·rw[if_neg hxe] at hx;obtain⟨e2,h1,h2⟩:=hs x hx;obtain⟨j,hj⟩:=List.mem_iff_getElem?.1 h1;refine⟨e2,hp.mem_iff.2 (List.mem_iff_getElem?.2 ⟨j,?_⟩),h2⟩;rw[List.getElem?_set,if_neg,hj];intro e1;subst e1;rw[hi] at hj;injection hj with hj
   subst hj;exact hxe h2.symm
def vKy(base q m:Nat)(w:World)(n:Nat)(f:Int->Option Int)(e:Ending)(w':World):Prop:=e=.returned (.tuple #[])/\Que base q m w' n f/\QUp base m w w'
theorem zQw{base q m n:Nat}{w:World}{f:Int->Option Int}(h:Que base q m w n f)(x k:Int)(hx:Wrd x)(hf:(f x).isSome=true) :
  Calls Tryz.prog 56 #[.pointer (some ⟨q,0,none⟩),.int .u32 x,.int .i64 k] w (vKy base q m w n (xZ1 f x k)):=by
 obtain⟨t,l,g,hQ,hH,hM,hbm,hn,hl,hg0,hs⟩:=h;obtain⟨e,hel,rfl⟩:=hs x (by cases hh:f x with | none=>rw[hh] at hf;cases hf | some v=>simp);obtain⟨i,hi,hie⟩:=List.getElem_of_mem hel;have hie:l[i]? = some e:=by rw[lGe hi,hie]
 obtain⟨_,hge,_⟩:=hl e hel;obtain⟨A,c,hc0,hc1,hc2,hrow,hq⟩:=hQ.cell;obtain⟨hE,hEb⟩:=hQ.ents i e hie;have hf2:w.frozen? ⟨q,2,none⟩=false:=hq.free 2;obtain⟨t',ht'⟩:∃ t',wrap64 (t+1)=t':=⟨_,rfl⟩;have hQ1:=hQ.time t';have hM1:=hM.setCell (p:=⟨q,2,none⟩) (fun e1=>by
  obtain⟨es,cl,ho⟩:=hM.obj;have e1:q=m:=e1;rw[<- e1] at ho;unfold Arr at hq;rw[hq] at ho;cases ho) (.int .i64 t')
 have nqe:q≠e.blk:=fun x=>by rw[<- x] at hE;unfold Arr at hq hE;rw[hq] at hE;injection hE with hE;injection hE with _ e2;exact absurd e2 (by decide)
 have nqe':=nqe.symm;have he1:w.cell? ⟨e.blk,1,none⟩=some (.int .i64 e.key):=hE.cell 1;have he2:w.cell? ⟨e.blk,2,none⟩=some (.int .i64 e.time):=hE.cell 2;have he3:w.cell? ⟨e.blk,3,none⟩=some (.int .i64 (i:Int)):=hE.cell 3;have hf3:w.frozen? ⟨e.blk,1,none⟩=false:=hE.free 1;have hf4:w.frozen? ⟨e.blk,2,none⟩=false:=hE.free 2;have hge2:(g e.item).getD (.pointer none)=.pointer (some ⟨e.blk,0,none⟩):=by rw[hge];rfl
 have hge3:(g e.item).isSome=true:=by rw[hge];rfl
 have hfix:=(zWb base q m t' (w.setCell ⟨q,2,none⟩ (.int .i64 t'))) |> fun M=>Ohfix M _ (l.set i { e with key:=k,time:=t' }) i (hQ1.here.rekey hie k t').drew (by rw[List.length_set];exact hi) (by rw[List.length_set];exact hH.change zV2 (Nat.le_refl _) hi _)
 have HP:=lHd (fun l' s hp=>zKw hl hs (fun i j x y a b hij=>hQ.inj a b hij) hie k s (l':=l') hp);have HN:=lHd hn;have HG0:=lHd hg0;have HG:=lHd hge2;have HG3:=lHd hge3;clear hge2 hge3 hl hn hf hs hg0 hge hH hq hrow hE hie hel;go_enter Tryz.func56,Tryz.ntmps56
 go_wp2_with (at_lookup;refine xQv rfl (.tmp 20) (.tmp 21) 179 rfl 184 Tryz.underlying179 (zQv _) rfl hM1 e.item rfl hx _ _ HG.out HG3.out ?_)
 refine xJa 8 (by kernel_rfl) (by kernel_rfl) ?_;simp only[List.take_succ_cons,List.take_zero,List.drop_succ_cons,List.drop_zero]
 repeat still_step
 try refine wpStill_nil ?_
 go_wp2_with (go_at_call 100;(with_reducible refine hfix.mono ?_);rintro en w1 ⟨rfl,hw1⟩)
 go_end0
 obtain⟨l',hQ',hH',hp⟩:=hw1;obtain⟨p1,p2⟩:=HP.out l' t' hp;have hlen:l'.length=l.length:=by rw[hp.length_eq,List.length_set]
 have hM2:=hM1.qfr hQ'.fr;refine⟨rfl,⟨t',l',g,hQ'.here,by rw[List.length_set] at hH';rw[hlen];exact hH',hM2,hbm,by rw[hlen];exact HN.out,p1,fun x hx hgx=>?_,p2⟩,?_⟩
 ·unfold xZ1
  split
  ·simp
  ·exact HG0.out x hx hgx
 ·exact (hQ1.fr.trans hQ'.fr).up
theorem zKx{l l':List Ent}{g:Int->Option Value}{f:Int->Option Int}(hl:∀ e∈l,Wrd e.item/\g e.item=some (xXn e)/\f e.item=some e.key)(hs:∀ x,f x≠none->∃ e∈l,e.item=x)
  {e:Ent} (hw:Wrd e.item) (hf:f e.item=none) (hp:l'.Perm (l ++ [e])) :
  (∀ e'∈l',Wrd e'.item/\upd g e.item (xXn e) e'.item=some (xXn e')/\xZ1 f e.item e.key e'.item=some e'.key)/\∀ x,xZ1 f e.item e.key x≠none->∃ e'∈l',e'.item=x:=by
 constructor
 ·intro e' he';rcases List.mem_append.1 (hp.mem_iff.1 he') with h | h
  ·obtain⟨h1,h2,h3⟩:=hl e' h;have hne:e'.item≠e.item:=fun e1=>by rw[e1,hf] at h3;cases h3
   exact⟨h1,by rw[xJe g _ hne];exact h2,by unfold xZ1;rw[if_neg hne];exact h3⟩
  ·simp at h;subst h;exact⟨hw,xX1 _ _ _,by unfold xZ1;rw[if_pos rfl]⟩
 ·intro x hx;unfold xZ1 at hx
  by_cases hxe:x=e.item
  ·exact⟨e,hp.mem_iff.2 (by simp),hxe.symm⟩
  ·rw[if_neg hxe] at hx;obtain⟨e2,h1,h2⟩:=hs x hx;exact⟨e2,hp.mem_iff.2 (List.mem_append.2 (.inl h1)),h2⟩
theorem xWw{base q m n:Nat}{w:World}{f:Int->Option Int}(h:Que base q m w n f)(x k:Int)(hx:Wrd x)(hf:f x=none)(hnn:n < 1000000000) :
  Calls Tryz.prog 56 #[.pointer (some ⟨q,0,none⟩),.int .u32 x,.int .i64 k] w (vKy base q m w (n+1) (xZ1 f x k)):=by
 obtain⟨t,l,g,hQ,hH,hM,hbm,hn,hl,hg0,hs⟩:=h;have hge:g x=none:=Classical.byContradiction fun hc=>hg0 x hx hc hf
 obtain⟨A,c,hc0,hc1,hc2,hrow,hq⟩:=hQ.cell;have hf2:w.frozen? ⟨q,2,none⟩=false:=hq.free 2;have hql:=hq.lt;obtain⟨t',ht'⟩:∃ t',wrap64 (t+1)=t':=⟨_,rfl⟩;have hQ1:=hQ.time t';have hM1:=hM.setCell (p:=⟨q,2,none⟩) (fun e1=>by
  obtain⟨es,cl,ho⟩:=hM.obj;have e1:q=m:=e1;rw[<- e1] at ho;unfold Arr at hq;rw[hq] at ho;cases ho) (.int .i64 t')
 have hge2:(g x).getD (.pointer none)=.pointer none:=by rw[hge];rfl
 have hge3:(g x).isSome=false:=by rw[hge];rfl
 have hM2:=hM1.alloc (.cells #[.int .u32 x,.int .i64 k,.int .i64 t',.int .i64 0] 187);have hQ2:=hQ1.here.alloc (.cells #[.int .u32 x,.int .i64 k,.int .i64 t',.int .i64 0] 187);have hE2:=Arr.new (w.setCell ⟨q,2,none⟩ (.int .i64 t')) 187 [.int .u32 x,.int .i64 k,.int .i64 t',.int .i64 0];have hsz:(w.setCell ⟨q,2,none⟩ (.int .i64 t')).heap.size=w.heap.size:=by simp[World.setCell]
 rw[hsz] at hE2;have hnl:n < 1000000000000:=by omega
 have hbsz:base<=w.heap.size:=by have:=hQ.qb;omega
 have hnb:w.heap.size∉l.map Ent.blk:=fun hc=>by
  obtain⟨e,he,e1⟩:=List.mem_map.1 hc;obtain⟨i,hi⟩:=List.mem_iff_getElem?.1 he;have:=(hQ.ents i e hi).1.lt;omega
 have HN:=lHd hn;have HP:=lHd (fun l' hp=>zKx hl hs (e:=⟨w.heap.size,x,k,t'⟩) hx hf (l':=l') hp);have HG:=lHd hge2;have HG3:=lHd hge3;have HG0:=lHd hg0;have HGE:=lHd hge;have HM2:=lHd hM2;have HQ2:=lHd hQ2;have HE2:=lHd hE2;have HH:=lHd hH;have HB:=lHd hnb;have HSZ:=lHd hsz;clear hge2 hge3 hl hn hf hs hg0 hge hH hq hrow hM2 hQ2 hE2 hnb hsz;go_enter Tryz.func56,Tryz.ntmps56
 go_wp2_with (first | (at_lookup;refine xQv rfl (.tmp 20) (.tmp 21) 179 rfl 184 Tryz.underlying179 (zQv _) rfl hM1 x rfl hx _ _ HG.out HG3.out ?_) | (at_mapUpdate;refine xX7 rfl (.tmp 57) (.tmp 58) (.tmp 59) 179 rfl 184 Tryz.underlying179 rfl HM2.out hnl x _ rfl rfl hx ?_;intro w2 hM3 hg2))
 obtain⟨es,cl,hmo⟩:=HM2.out.obj;have hQ3:=HQ2.out.turned hmo hg2;have hE3:Arr w2 w.heap.size 187 [.int .u32 x,.int .i64 k,.int .i64 t',.int .i64 0]:=(hg2.block _ HE2.out.lt (fun e1=>by
  injection e1 with e1
  have h2:=HE2.out;unfold Arr at h2;rw[e1,hmo] at h2;cases h2)).trans HE2.out
 have hll:l.length < 1000000000:=by rw[HN.out];exact hnn
 have hpush:=vKh (zWb base q m t' w2) w2 l ⟨w.heap.size,x,k,t'⟩ (.iface 184 (.pointer (some ⟨w.heap.size,0,none⟩))) HH.out (fun n w=>vK5 _ n w) (zWa hQ3 (e:=⟨w.heap.size,x,k,t'⟩) hE3 hbsz HB.out hll);refine hpush.mono ?_;rintro en w3 ⟨rfl,l',hQ',hH',hp⟩;go_wp2
 go_end0
 obtain⟨p1,p2⟩:=HP.out l' hp;have hlen:l'.length=n+1:=by rw[hp.length_eq,<- HN.out];simp
 have e1:up1 g x n=n+1:=by unfold up1;rw[HGE.out];rfl
 rw[e1] at hM3;refine⟨rfl,⟨t',l',_,hQ'.here,by rw[show (l ++ [(⟨w.heap.size,x,k,t'⟩:Ent)]).length=l'.length from hp.length_eq.symm] at hH';exact hH',hM3.qfr hQ'.fr,hbm,hlen,p1,fun y hy hgy=>?_,p2⟩,?_⟩
 ·unfold xZ1
  split
  ·simp
  ·rename_i hne
   rw[xJe g _ hne] at hgy;exact HG0.out y hy hgy
 ·have u1:QUp base m w ((w.setCell ⟨q,2,none⟩ (.int .i64 t')).alloc (.cells #[.int .u32 x,.int .i64 k,.int .i64 t',.int .i64 0] 187)):=(hQ1.fr.alloc (by rw[HSZ.out];exact hbsz) _).up;exact (u1.map hg2 hbm (by simp;omega)).trans hQ'.fr.up
theorem zWn{l l':List Ent}{g:Int->Option Value}{f:Int->Option Int}(hl:∀ e∈l,Wrd e.item/\g e.item=some (xXn e)/\f e.item=some e.key)(hs:∀ x,f x≠none->∃ e∈l,e.item=x)
  {e:Ent} (hp:(l' ++ [e]).Perm l) (hb:e.blk∉l'.map Ent.blk) :
  (∀ e'∈l',Wrd e'.item/\del g e.item e'.item=some (xXn e')/\xKu f e.item e'.item=some e'.key)/\∀ x,xKu f e.item x≠none->∃ e'∈l',e'.item=x:=by
 have hel:e∈l:=hp.mem_iff.1 (by simp);constructor
 ·intro e' he';obtain⟨h1,h2,h3⟩:=hl e' (hp.mem_iff.1 (List.mem_append.2 (.inl he')));obtain⟨_,h5,_⟩:=hl e hel;have hne:e'.item≠e.item:=fun e1=>by
   rw[e1,h5] at h2;have h6:e.blk=e'.blk:=by
    injection h2 with h2;unfold xXn at h2;injection h2 with h2;injection h2 with h2;injection h2
   exact hb (List.mem_map.2 ⟨e',he',h6.symm⟩)
  exact⟨h1,by rw[xKd g hne];exact h2,by unfold xKu;rw[if_neg hne];exact h3⟩
 ·intro x hx;unfold xKu at hx
  by_cases hxe:x=e.item
  ·rw[if_pos hxe] at hx;exact absurd rfl hx
  ·rw[if_neg hxe] at hx;obtain⟨e2,h1,h2⟩:=hs x hx;rcases List.mem_append.1 (hp.mem_iff.2 h1) with h3 | h3
   ·exact⟨e2,h3,h2⟩
   ·simp at h3;subst h3;exact absurd h2.symm hxe
def TakeP(base q m:Nat)(w:World)(n:Nat)(f:Int->Option Int)(e:Ending)(w':World):Prop:=
 ∃ x k,Wrd x/\f x=some k/\(∀ y k',f y=some k'->k<=k')/\e=.returned (.tuple #[.int .u32 x,.int .i64 k,.bool true])/\Que base q m w' (n - 1) (xKu f x)/\QUp base m w w'
theorem zXl{base q m n:Nat}{w:World}{f:Int->Option Int}(h:Que base q m w n f)(h0:0 < n) :
  Calls Tryz.prog 59 #[.pointer (some ⟨q,0,none⟩)] w (TakeP base q m w n f):=by
 obtain⟨t,l,g,hQ,hH,hM,hbm,hn,hl,hg0,hs⟩:=h;obtain⟨A,c,hc0,hc1,hc2,hrow,hq⟩:=hQ.cell;have hpop:=Ohpop (zWb base q m t w) w l (Off base q m t w) (fun x=>.iface 184 (xXn x)) hQ (by omega) hH (fun n w=>o_pop _ n w) (fun w l x h=>vZh h);rw[hn] at hc0;have hn0:((n:Int) == 0)=false:=by simp;omega
 have HN:=lHd hn;have HL:=lHd hl;have HS:=lHd hs;have HG0:=lHd hg0;clear hH hq hrow hl hs hg0 hn;go_enter Tryz.func59,Tryz.ntmps59
 go_wp2_with (go_at_call 67;(with_reducible refine hpop.mono ?_);rintro en w1 ⟨e,l',rfl,hO,hH',hp,hmin⟩;have ha:=fun W=>xW4 (some ⟨e.blk,0,none⟩) W;unfold xXn)
 obtain⟨hQ1,⟨a0,hE⟩,hnb⟩:=hO;have hel:e∈l:=hp.mem_iff.1 (by simp);obtain⟨hwe,_,hfe⟩:=HL.out e hel;obtain⟨A1,c1,_,hd1,_,_,_⟩:=hQ1.cell;have hM1:MapF w1.drew m n g:=(hM.qfr hQ1.fr).of_block rfl;have hEd:Arr w1.drew e.blk 187 [.int .u32 e.item,.int .i64 e.key,.int .i64 e.time,a0]:=hE;have hd2:w1.cell? ⟨e.blk,0,none⟩=some (.int .u32 e.item):=hE.cell 0;have HX:=lHd (zWn HL.out HS.out hp hnb);have HMin:Hid (∀ y k',f y=some k'->e.key<=k'):=fun y k' hy=>by
  obtain⟨e2,h2,rfl⟩:=HS.out y (by rw[hy];simp);obtain⟨_,_,h3⟩:=HL.out e2 h2;rw[hy] at h3;injection h3 with h3
  rw[h3];exact vZc (hmin e2 h2)
 have HLen:Hid (l'.length=n - 1/\(g e.item).isSome=true):=by
  refine⟨?_,by rw[(HL.out e hel).2.1];rfl⟩;have:=hp.length_eq;simp at this;have:=HN.out;omega
 have HFE:=lHd hfe;have HH:=lHd hH';have HQ1:=lHd hQ1;clear hmin hp hel hfe hE hnb hH' hQ1 hpop;refine xJa 8 (by kernel_rfl) (by kernel_rfl) ?_;simp only[List.take_succ_cons,List.take_zero,List.drop_succ_cons,List.drop_zero]
 repeat still_step
 try refine wpStill_nil ?_
 go_wp2_with (at_delete;refine zZ9 rfl (.tmp 22) (.tmp 26) 179 rfl 184 Tryz.underlying179 rfl hM1 e.item rfl hwe ?_;intro w2 hM2 hg2;have hE2:Arr w2 e.blk 187 [.int .u32 e.item,.int .i64 e.key,.int .i64 e.time,a0]:=(hg2.block _ hEd.lt (fun e1=>by (obtain⟨es,cl,hmo⟩:=hM1.obj;injection e1 with e1;unfold Arr at hEd;rw[e1,hmo] at hEd;cases hEd))).trans hEd;have he0:w2.cell? ⟨e.blk,0,none⟩=some (.int .u32 e.item):=hE2.cell 0;have he1:w2.cell? ⟨e.blk,1,none⟩=some (.int .i64 e.key):=hE2.cell 1;clear hE2)
 go_quiet (fail)
 go_wp2
 go_ret3
 obtain⟨es,cl,hmo⟩:=hM1.obj;have hQ2:=(HQ1.out.drew).turned hmo hg2;have e1:dn1 g e.item n=n - 1:=by unfold dn1;rw[HLen.out.2];rfl
 rw[e1] at hM2;have hgn:∀ x,Wrd x->del g e.item x≠none->xKu f e.item x≠none:=fun x hx hgx=>by
  unfold xKu
  by_cases hxe:x=e.item
  ·subst hxe;rw[zVf] at hgx;exact absurd rfl hgx
  ·rw[if_neg hxe];rw[xKd g hxe] at hgx;exact HG0.out x hx hgx
 have hup:QUp base m w w2:=(HQ1.out.fr.drew.up).map hg2 hbm (by have h1:=HQ1.out.fr.below.size;have h2:=hM.lt;show base<=w1.heap.size;omega);refine⟨e.item,e.key,hwe,HFE.out,HMin.out,rfl,⟨t,l',_,(hQ2.drewN _).here,HH.out,hM2.of_block rfl,hbm,HLen.out.1,HX.out.1,hgn,HX.out.2⟩,⟨below_drewN hup.below _,hup.same⟩⟩
end Go.Proofs.YtpeipeljmapkmaaGreat
