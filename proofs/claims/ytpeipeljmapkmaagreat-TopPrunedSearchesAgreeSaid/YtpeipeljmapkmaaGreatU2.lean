/-
  Lemmas for the law: Qm, Qq, Qr, Cm.
-/
import Derived.Test.YtpeipeljmapkmaaGreatU1
import Derived.Maps.OwnSet
import Derived.Maps.OwnIn
import Derived.RegionTactic
import Derived.ChangeAlike
import Derived.BigRegion
set_option linter.unusedVariables false
set_option linter.unusedSimpArgs false
set_option maxRecDepth 100000
set_option maxHeartbeats 4000000
namespace Go.Proofs.YtpeipeljmapkmaaGreat
open Go.RowKit
section
open Go.Maps
theorem bl{B:Nat}{a w:World}(h:Below B a w:=by repeat (first | with_reducible assumption | with_reducible exact Below.refl _ _ | with_reducible apply xKh | with_reducible apply xYd | with_reducible apply xVf | ((with_reducible refine vKu ?_ ?_ _);rotate_left;(first | omega | (simp <;> omega))))):Below B a w:=h
theorem vJq(w:World)(e:TypeId)(xs:List Value):∀ j u,xs[j]? = some u->(w.alloc (.cells xs.toArray e)).cell? ((⟨w.heap.size,0,none⟩:Addr).add j)=some u:=fun j u hu=>by
 obtain⟨ad,e1,h⟩:=(Arr.new w e xs).row j u hu;injection e1 with e1
 rw[e1];exact h
theorem xYc(w:World)(g:Nat)(hg:g=w.heap.size)(e:TypeId)(xs:List Value):∀ j u,xs[j]? = some u->(w.alloc (.cells xs.toArray e)).cell? ((⟨g,0,none⟩:Addr).add j)=some u:=by subst hg;exact vJq w e xs
theorem Arr.new_at(w:World)(g:Nat)(hg:g=w.heap.size)(e:TypeId)(xs:List Value):Arr (w.alloc (.cells xs.toArray e)) g e xs:=by subst hg;exact Arr.new w e xs
def zQh(v:Value):Option (DataW Value×List MemPlace):=some (.held v,[])
def wl(x:Int):Lit:=.int .u32 x
def Wrd(x:Int):Prop:=0<=x/\x < 4294967296
theorem Wrd.wf{x:Int}(h:Wrd x):(Lit.int .u32 x).wf=true:=by
 unfold Wrd at h;have e1:IntKind.u32.min=0:=rfl;have e2:IntKind.u32.max=4294967295:=rfl;simp only[Lit.wf,e1,e2,Bool.and_eq_true,decide_eq_true_eq];omega
theorem vV0{x y:Int}(h:wl x=wl y):x=y:=by unfold wl at h;injection h
def MapF(w:World)(b n:Nat)(f:Int->Option Value):Prop:=
 ∃ D:DataW Value,w.ownsMap Tryz.prog 56 zQh b n D/\Maps.size D=n/\∀ x,Wrd x->Maps.has D (wl x)=(f x).isSome/\∀ v,f x=some v->∀ z,D.atKey (wl x) z=.held v
theorem MapF.made(w:World):MapF (w.alloc (.map #[] 0)) w.heap.size 0 (fun _=>none):=
 ⟨.map [],World.ownsMap_made _ _ _ _,rfl,fun x _=>⟨rfl,fun v hv=>by cases hv⟩⟩
section
variable {w w':World}{b n:Nat}{f:Int->Option Value}
theorem MapF.lt(h:MapF w b n f):b < w.heap.size:=by obtain⟨D,h,_⟩:=h;exact h.lt
theorem MapF.obj(h:MapF w b n f):∃ es cl,w.heap[b]? = some (.map es cl):=by obtain⟨D,⟨es,cl,h,_⟩,_⟩:=h;exact⟨es,cl,h⟩
theorem MapF.of_block(h:MapF w b n f)(hb:w'.heap[b]? = w.heap[b]?):MapF w' b n f:=by
 obtain⟨D,⟨es,cl,h1,h2⟩,h3⟩:=h;exact⟨D,⟨es,cl,hb.trans h1,h2⟩,h3⟩
theorem MapF.below{B:Nat}(h:MapF w b n f)(hb:Below B w w')(hlt:b < B):MapF w' b n f:=h.of_block (hb.block b hlt)
theorem MapF.alloc(h:MapF w b n f)(o:Obj):MapF (w.alloc o) b n f:=h.of_block (Below.heap_alloc w o b h.lt)
theorem MapF.setCell(h:MapF w b n f){p:Addr}(hp:p.block≠b)(u:Value):MapF (w.setCell p u) b n f:=h.of_block (Below.heap_setCell w p u b (fun e=>hp e.symm))
theorem xZm{x:Int}(hx:Wrd x):keyOf Tryz.prog 56 (.int .u32 x)=some (wl x):=keyOf_int_mk Tryz.underlying56 hx.wf
theorem xXv:Keyed Tryz.prog 56:=int_keyed Tryz.underlying56
theorem MapF.look{t e:TypeId}(h:MapF w b n f)(ht:Tryz.prog.underlying t=some (.map 56 e)){z:Value}(hz:(zeroValue e).run Tryz.prog w=.ok z w){x:Int}(hx:Wrd x) :
  (Instr.lookup t (.map (some b)) (.int .u32 x) false).run Tryz.prog w=.ok ((f x).getD z) w:=by
 obtain⟨D,h1,_,h3⟩:=h;obtain⟨v,ps,hrun,hv⟩:=h1.lookup xXv ht hz (zd:=.held z) (zp:=[]) rfl (xZm hx);obtain⟨h4,h5⟩:=h3 x hx;simp only[zQh,Option.some.injEq,Prod.mk.injEq] at hv;rw[hrun]
 cases hf:f x with
 | none=>
  rw[hf] at h4;rw[Maps.atKey_of_not_has h4] at hv;have hv:=DataW.held.inj hv.1;subst hv;simp only[Option.getD_none,Option.getD_some,Option.isSome_none,Option.isSome_some]
 | some u=>
  rw[h5 u hf] at hv;have hv:=DataW.held.inj hv.1;subst hv;simp only[Option.getD_none,Option.getD_some,Option.isSome_none,Option.isSome_some]
theorem MapF.look_ok{t e:TypeId}(h:MapF w b n f)(ht:Tryz.prog.underlying t=some (.map 56 e)){z:Value}(hz:(zeroValue e).run Tryz.prog w=.ok z w){x:Int}(hx:Wrd x) :
  (Instr.lookup t (.map (some b)) (.int .u32 x) true).run Tryz.prog w=.ok (.tuple #[(f x).getD z,.bool (f x).isSome]) w:=by
 obtain⟨D,h1,_,h3⟩:=h;obtain⟨v,ps,hrun,hv⟩:=h1.look_ok xXv ht hz (zd:=.held z) (zp:=[]) rfl (xZm hx);obtain⟨h4,h5⟩:=h3 x hx;simp only[zQh,Option.some.injEq,Prod.mk.injEq] at hv;rw[hrun,h4]
 cases hf:f x with
 | none=>
  rw[hf] at h4;rw[Maps.atKey_of_not_has h4] at hv;have hv:=DataW.held.inj hv.1;subst hv;simp only[Option.getD_none,Option.getD_some,Option.isSome_none,Option.isSome_some]
 | some u=>
  rw[h5 u hf] at hv;have hv:=DataW.held.inj hv.1;subst hv;simp only[Option.getD_none,Option.getD_some,Option.isSome_none,Option.isSome_some]
theorem MapF.len{t e:TypeId}(h:MapF w b n f)(ht:Tryz.prog.underlying t=some (.map 56 e))(ty:TypeId):(Builtin.len_ #[t] ty #[.map (some b)]).run Tryz.prog w=.ok (.int .i64 n) w:=by
 obtain⟨D,h1,h2,_⟩:=h;rw[h1.len ht ty,h2]
def upd(f:Int->Option Value)(x:Int)(v:Value):Int->Option Value:=fun y=>if y=x then some v else f y
def del(f:Int->Option Value)(x:Int):Int->Option Value:=fun y=>if y=x then none else f y
theorem xX1(f:Int->Option Value)(x:Int)(v:Value):upd f x v x=some v:=if_pos rfl
theorem xJe(f:Int->Option Value){x y:Int}(v:Value)(h:y≠x):upd f x v y=f y:=if_neg h
theorem zVf(f:Int->Option Value)(x:Int):del f x x=none:=if_pos rfl
theorem xKd(f:Int->Option Value){x y:Int}(h:y≠x):del f x y=f y:=if_neg h
theorem vJr(x:Int):WideAt.IsKeyLit (wl x):=trivial
theorem xKe{D:DataW Value}{k:TypeId}{R:Value->Option (DataW Value×List MemPlace)}(h:w.ownsMap Tryz.prog k R b n D):w.ownsMap Tryz.prog k R b (Maps.size D) D:=by
 obtain⟨es,cl,h1,h2,h3,rfl⟩:=h;exact⟨es,cl,h1,h2,by simp[Maps.size,length_sorted],rfl⟩
def up1(f:Int->Option Value)(x:Int)(n:Nat):Nat:=if (f x).isSome then n else n+1
def dn1(f:Int->Option Value)(x:Int)(n:Nat):Nat:=if (f x).isSome then n - 1 else n
theorem MapF.put{D:DataW Value}(h1:w.ownsMap Tryz.prog 56 zQh b n D)(h2:Maps.size D=n)(h3:∀ x,Wrd x->Maps.has D (wl x)=(f x).isSome/\∀ v,f x=some v->∀ z,D.atKey (wl x) z=.held v){x:Int}(hx:Wrd x){v:Value}
  (h4:w'.ownsMap Tryz.prog 56 zQh b (n+1) (D.put (wl x) (.held v))):MapF w' b (up1 f x n) (upd f x v):=by
 have ht:=h1.tidy xXv;have hs:=Maps.size_put (k:=wl x) ht (.held v:DataW Value);rw[(h3 x hx).1,h2] at hs;have e:Maps.size (D.put (wl x) (.held v))=up1 f x n:=by rw[hs];unfold up1;rfl
 refine⟨_,e ▸ xKe h4,e,fun y hy=>?_⟩
 by_cases hyx:y=x
 ·subst hyx;rw[xX1,Maps.has_put_same ht.isMap (vJr y)];exact⟨rfl,fun u hu z=>by rw[Maps.atKey_put_same ht.isMap (vJr y)];injection hu with hu;rw[hu]⟩
 ·have hne:wl y≠wl x:=fun e=>hyx (vV0 e)
  rw[xJe f v hyx,Maps.has_put_other hne];exact⟨(h3 y hy).1,fun u hu z=>by rw[Maps.atKey_put_other hne];exact (h3 y hy).2 u hu z⟩
theorem MapF.del_{D:DataW Value}(h1:w.ownsMap Tryz.prog 56 zQh b n D)(h2:Maps.size D=n)(h3:∀ x,Wrd x->Maps.has D (wl x)=(f x).isSome/\∀ v,f x=some v->∀ z,D.atKey (wl x) z=.held v){x:Int}(hx:Wrd x)
  (h4:w'.ownsMap Tryz.prog 56 zQh b n (D.del (wl x))):MapF w' b (dn1 f x n) (del f x):=by
 have ht:=h1.tidy xXv;have hs:=Maps.size_del (k:=wl x) ht;rw[(h3 x hx).1,h2] at hs;have e:Maps.size (D.del (wl x))=dn1 f x n:=by
  unfold dn1
  cases hf:(f x).isSome
  ·rw[hf] at hs;simpa using hs
  ·rw[hf] at hs;simp at hs ⊢;omega
 refine⟨_,e ▸ xKe h4,e,fun y hy=>?_⟩
 by_cases hyx:y=x
 ·subst hyx;rw[zVf,Maps.has_del_same];exact⟨rfl,fun u hu z=>by cases hu⟩
 ·have hne:wl y≠wl x:=fun e=>hyx (vV0 e)
  rw[xKd f hyx,Maps.has_del_other hne];exact⟨(h3 y hy).1,fun u hu z=>by rw[Maps.atKey_del_other hne];exact (h3 y hy).2 u hu z⟩
end
section
variable {w:World}{ops:Array Oper}{rest:List Oper}{o:Oper}{a:Act}{Q:Exit->Act->World->Prop}{b n:Nat}{f:Int->Option Value}
theorem xX7(hg:o.guard=none)(m x v:Operand)(t:TypeId)(hop:o.op=Op.mapUpdate t m x v)(e:TypeId)(ht:Tryz.prog.underlying t=some (.map 56 e))
  (hm:a.eval m=.map (some b)) (hM:MapF w b n f) (hn:n < 1000000000000) (key:Int) (val:Value) (hx:a.eval x=.int .u32 key) (hv:a.eval v=val) (hk:Wrd key)
  (hK:∀ w',MapF w' b (up1 f key n) (upd f key val)->w.grownBy w' (some b)->wpList Tryz.prog ops Q rest (a.put o.dst undef) w'):wpList Tryz.prog ops Q (o :: rest) a w:=by
 obtain⟨D,h1,h2,h3⟩:=hM;exact wpList_mapUpdate_own w hg m x v t hop _ e xXv ht zQh b n D hm h1 (by simp only[maxLen];omega) _ val (wl key) hx hv (xZm hk) (.held val) [] rfl fun w' h4 h5=>hK w' (MapF.put h1 h2 h3 hk h4) h5
theorem xQ5(hg:o.guard=none)(m x v:Operand)(t:TypeId)(hop:o.op=Op.insert t m x v)(e:TypeId)(ht:Tryz.prog.underlying t=some (.map 56 e))
  (hm:a.eval m=.map (some b)) (hM:MapF w b n f) (hn:n < 1000000000000) (key:Int) (val:Value) (hx:a.eval x=.int .u32 key) (hv:a.eval v=val) (hk:Wrd key)
  (hK:∀ w',MapF w' b (up1 f key n) (upd f key val)->w.grownBy w' (some b)->wpList Tryz.prog ops Q rest (a.put o.dst undef) w'):wpList Tryz.prog ops Q (o :: rest) a w:=by
 obtain⟨D,h1,h2,h3⟩:=hM;refine wpList_plain hg fun K' hK'=>?_
 obtain⟨w',hrun,r1,r2⟩:=h1.update xXv ht (by simp only[maxLen];omega) (xZm hk) (d:=.held val) (ps:=[]) rfl;unfold Oper.wp;simp[execOp,hop,hm,hx,hv,hrun,Result.andThen];exact hK' _ _ (hK w' (MapF.put h1 h2 h3 hk r1) r2)
theorem zZ9(hg:o.guard=none)(m x:Operand)(t:TypeId)(hop:o.op=Op.call { callee:=Callee.builtin Builtin.delete,args:=#[m,x],argTypes:=#[t,56] })(e:TypeId)(ht:Tryz.prog.underlying t=some (.map 56 e))
  (hm:a.eval m=.map (some b)) (hM:MapF w b n f) (key:Int) (hx:a.eval x=.int .u32 key) (hk:Wrd key)
  (hK:∀ w',MapF w' b (dn1 f key n) (del f key)->w.grownBy w' (some b)->wpList Tryz.prog ops Q rest (a.put o.dst (.tuple #[])) w'):wpList Tryz.prog ops Q (o :: rest) a w:=by
 obtain⟨D,h1,h2,h3⟩:=hM;exact wpList_delete_own w hg m x t _ hop e xXv ht zQh b n D hm h1 _ (wl key) hx (xZm hk) fun w' h4 h5=>hK w' (MapF.del_ h1 h2 h3 hk h4) h5.grown
theorem xQv(hg:o.guard=none)(m x:Operand)(t:TypeId)(hop:o.op=Op.lookup t m x true)(e:TypeId)(ht:Tryz.prog.underlying t=some (.map 56 e)){z:Value}(hz:(zeroValue e).run Tryz.prog w=.ok z w)
  (hm:a.eval m=.map (some b)) (hM:MapF w b n f) (key:Int) (hx:a.eval x=.int .u32 key) (hk:Wrd key) (v:Value) (ok:Bool) (hv:(f key).getD z=v) (hok:(f key).isSome=ok)
  (hK:wpList Tryz.prog ops Q rest (a.put o.dst (.tuple #[v,.bool ok])) w):wpList Tryz.prog ops Q (o :: rest) a w:=by
 refine wpList_plain hg fun K' hK'=>?_
 unfold Oper.wp;simp[execOp,hop,hm,hx,hM.look_ok ht hz hk,hv,hok,Result.andThen];exact hK' _ _ hK
variable {F:Fence}{N:Nat}
theorem xX9(hg:o.guard=none)(m x v:Operand)(t:TypeId)(hop:o.op=Op.mapUpdate t m x v)(e:TypeId)(ht:Tryz.prog.underlying t=some (.map 56 e))
  (hm:a.eval m=.map (some b)) (hM:MapF w b n f) (hn:n < 1000000000000) (key:Int) (val:Value) (hx:a.eval x=.int .u32 key) (hv:a.eval v=val) (hk:Wrd key)
  (hK:∀ w',MapF w' b (up1 f key n) (upd f key val)->w.grownBy w' (some b)->wpListIn F N Tryz.prog ops Q rest (a.put o.dst undef) w'):wpListIn F N Tryz.prog ops Q (o :: rest) a w:=by
 obtain⟨D,h1,h2,h3⟩:=hM;exact wpListIn_mapUpdate_own w hg m x v t hop _ e xXv ht zQh b n D hm h1 (by simp only[maxLen];omega) _ val (wl key) hx hv (xZm hk) (.held val) [] rfl fun w' h4 h5=>hK w' (MapF.put h1 h2 h3 hk h4) h5
theorem xZo(hg:o.guard=none)(m x:Operand)(t:TypeId)(hop:o.op=Op.lookup t m x true)(e:TypeId)(ht:Tryz.prog.underlying t=some (.map 56 e)){z:Value}(hz:(zeroValue e).run Tryz.prog w=.ok z w)
  (hm:a.eval m=.map (some b)) (hM:MapF w b n f) (key:Int) (hx:a.eval x=.int .u32 key) (hk:Wrd key) (v:Value) (ok:Bool) (hv:(f key).getD z=v) (hok:(f key).isSome=ok)
  (hK:wpListIn F N Tryz.prog ops Q rest (a.put o.dst (.tuple #[v,.bool ok])) w):wpListIn F N Tryz.prog ops Q (o :: rest) a w:=by
 refine wpListIn_plain hg fun K' hK'=>?_
 have hrun:=hM.look_ok ht hz hk;rw[hv,hok] at hrun;unfold Oper.wpIn;refine⟨by simp[Oper.about,hop],?_⟩;rw[Oper.semAt_plain F _ _ (by rw[hop];intro c hc';cases hc')];simp[execOp,hop,hm,hx,hrun,Result.andThen];exact hK' _ _ hK
end
end
theorem xY6{w:World}{base n c i:Nat}{e:TypeId}{A:Option Addr}{xs:List Value}(h:w.ownsRow base e 1 (.slice A n c) n xs)(hi:i < n) :
  ∃ g,A=some ⟨g,0,none⟩/\base<=g/\g < w.heap.size/\w.cell? ⟨g,i,none⟩=xs[i]?/\w.frozen? ⟨g,i,none⟩=false/\∃ cur,w.heap[g]? = some (.cells cur e (0,0)):=by
 have h':=h;rcases h.2 with ⟨h1,h2⟩ | ⟨g,cap,cur,h1,hb,hg,r⟩
 ·omega
 ·injection h1 with h1 h2 h3
  subst h1;subst h3;have hlt:g < w.heap.size:=by
   rcases Nat.lt_or_ge g w.heap.size with hl | hl
   ·exact hl
   ·rw[Array.getElem?_eq_none hl] at hg;cases hg
  refine⟨g,rfl,hb,hlt,?_,World.ownsRow.frozenAt h' i,cur,hg⟩;rw[World.ownsRow.cellAt h' i (by omega)]
structure Ent where
 blk:Nat
 item:Int
 key:Int
 time:Int
def xXn(e:Ent):Value:=.pointer (some ⟨e.blk,0,none⟩)
def zYa(a b:Ent):Bool:=decide (a.key < b.key) || (decide (a.key=b.key) && decide (a.time < b.time))
theorem zV2:WkOrd zYa:=by
 constructor
 ·intro x y h;simp only[zYa,Bool.or_eq_true,decide_eq_true_eq,Bool.and_eq_true,Bool.or_eq_false_iff,decide_eq_false_iff_not,Bool.and_eq_false_iff] at h ⊢;omega
 ·intro x y z h1 h2;simp only[zYa,Bool.or_eq_true,decide_eq_true_eq,Bool.and_eq_true,Bool.or_eq_false_iff,decide_eq_false_iff_not,Bool.and_eq_false_iff] at h1 h2 ⊢;omega
theorem vZc{a b:Ent}(h:zYa a b=false):b.key<=a.key:=by
 simp only[zYa,Bool.or_eq_false_iff,decide_eq_false_iff_not] at h;omega
def zYb:Obj->Bool
 | .cells _ e _=>!(e == 183 || e == 184 || e == 187)
 | _=>true
structure QFr(base:Nat)(w w':World):Prop where
 below:Below base w w'
 same:∀ (k:Nat) (o:Obj),w.heap[k]? = some o->zYb o=true->w'.heap[k]? = some o
theorem QFr.refl(base:Nat)(w:World):QFr base w w:=⟨Below.refl _ _,fun _ _ h _=>h⟩
theorem QFr.trans{base:Nat}{a b c:World}(h:QFr base a b)(k:QFr base b c):QFr base a c:=⟨h.below.trans k.below,fun i o hi ho=>k.same i o (h.same i o hi ho) ho⟩
theorem QFr.drew{base:Nat}{a b:World}(h:QFr base a b):QFr base a b.drew:=⟨h.below.drew,h.same⟩
theorem QFr.drewN{base:Nat}{a b:World}(h:QFr base a b)(n:Nat):QFr base a (b.drewN n):=⟨below_drewN h.below n,h.same⟩
theorem QFr.alloc{base:Nat}{a b:World}(h:QFr base a b)(hb:base<=b.heap.size)(o:Obj):QFr base a (b.alloc o):=
 ⟨h.below.alloc hb o,fun k o' hk ho=>by
  have h1:=h.same k o' hk ho;exact (Below.heap_alloc b o k (Array.getElem?_eq_some_iff.1 h1).1).trans h1⟩
theorem QFr.set_{base:Nat}{a b:World}(h:QFr base a b){p:Addr}(hp:base<=p.block){o:Obj}(ho:b.heap[p.block]? = some o)(hq:zYb o=false)(u:Value):QFr base a (b.setCell p u):=
 ⟨h.below.setCell hp u,fun k o' hk ho'=>by
  have h1:=h.same k o' hk ho';have hne:k≠p.block:=fun e=>by
   subst e;rw[h1] at ho;injection ho with ho
   rw[ho,hq] at ho'
   cases ho'
  exact (Below.heap_setCell b p u k hne).trans h1⟩
theorem QFr.grown{base:Nat}{a b c:World}(h:QFr base a b){g:Option Nat}(hg:b.grownBy c g)(hb:base<=b.heap.size)(hr:∀ k,g=some k->base<=k/\∀ o,b.heap[k]? = some o->zYb o=false):QFr base a c:=
 ⟨h.below.grown hg hb (fun k e=>(hr k e).1),fun k o hk ho=>by
  have h1:=h.same k o hk ho;have hlt:=(Array.getElem?_eq_some_iff.1 h1).1;refine (hg.block k hlt (fun e=>?_)).trans h1;have:=(hr k e.symm).2 o h1;rw[this] at ho;cases ho⟩
section
variable {base:Nat}{w w':World}
theorem MapF.qfr{b n:Nat}{f:Int->Option Value}(h:MapF w b n f)(hq:QFr base w w'):MapF w' b n f:=by
 obtain⟨es,cl,ho⟩:=h.obj;exact h.of_block ((hq.same b _ ho rfl).trans ho.symm)
end
structure QH(base q m:Nat)(t:Int)(w0 w:World)(l:List Ent):Prop where
 row:∃ A c,w.ownsRow base 184 1 (.slice A l.length c) l.length (l.map xXn)/\Arr w q 183 [.slice A l.length c,.map (some m),.int .i64 t]
 ents:∀ (i:Nat) (e:Ent),l[i]? = some e->Arr w e.blk 187 [.int .u32 e.item,.int .i64 e.key,.int .i64 e.time,.int .i64 (i:Int)]/\base<=e.blk
 nd:(l.map Ent.blk).Nodup
 qb:base<=q
 len:l.length<=1000000000
 fr:QFr base w0 w
theorem Arr.heap{w w':World}{g:Nat}{e:TypeId}{xs:List Value}(h:Arr w g e xs)(hh:w'.heap=w.heap):Arr w' g e xs:=by unfold Arr at *;rw[hh];exact h
theorem zV3{w w':World}{B:Nat}{e:TypeId}{size n:Nat}{v:Value}{xs:List Value}(h:w.ownsRow B e size v n xs)(hh:w'.heap=w.heap):w'.ownsRow B e size v n xs:=by
 obtain⟨h1,h2⟩:=h;refine⟨h1,?_⟩;rcases h2 with h2 | ⟨g,cap,cur,hv,hg,hc,r⟩
 ·exact Or.inl h2
 ·exact Or.inr ⟨g,cap,cur,hv,hg,by rw[hh];exact hc,r⟩
theorem QH.drewN{base q m:Nat}{t:Int}{w0 w:World}{l:List Ent}(h:QH base q m t w0 w l)(n:Nat):QH base q m t w0 (w.drewN n) l:=by
 obtain⟨⟨A,c,h1,h2⟩,h3,h4,h5,h6,h7⟩:=h;exact⟨⟨A,c,zV3 h1 rfl,h2.heap rfl⟩,fun i e he=>⟨(h3 i e he).1.heap rfl,(h3 i e he).2⟩,h4,h5,h6,h7.drewN n⟩
theorem QH.inj{base q m:Nat}{t:Int}{w0 w:World}{l:List Ent}(h:QH base q m t w0 w l){i j:Nat}{x y:Ent}(hx:l[i]? = some x)(hy:l[j]? = some y)(hij:i≠j):x.blk≠y.blk:=fun e=>by
 have h1:=(List.getElem?_inj (l:=l.map Ent.blk) (i:=i) (j:=j) (by rw[List.length_map];exact (List.getElem?_eq_some_iff.1 hx).1) h.nd).1;exact hij (h1 (by rw[List.getElem?_map,List.getElem?_map,hx,hy,Option.map_some,Option.map_some,e]))
theorem o_len{a:Addr}{w:World}{A:Option Addr}{l c:Nat}(hc:w.cell? a=some (.slice A l c))(n:Nat):Sem.run Tryz.prog (method (n+1) 189 (.pointer (some a)) "Len") w=.ok (204,.slice A l c) w:=by
 rw[show Sem.run Tryz.prog (method (n+1) 189 (.pointer (some a)) "Len") w=Sem.run Tryz.prog (do let v <- loadVar 181 a;pure (204,v)) w by kernel_rfl];go_simp
theorem vK3{a:Addr}{w:World}{A:Option Addr}{l c:Nat}(hc:w.cell? a=some (.slice A l c))(n:Nat):Sem.run Tryz.prog (method (n+1) 189 (.pointer (some a)) "Less") w=.ok (205,.slice A l c) w:=by
 rw[show Sem.run Tryz.prog (method (n+1) 189 (.pointer (some a)) "Less") w=Sem.run Tryz.prog (do let v <- loadVar 181 a;pure (205,v)) w by kernel_rfl];go_simp
theorem vK4{a:Addr}{w:World}{A:Option Addr}{l c:Nat}(hc:w.cell? a=some (.slice A l c))(n:Nat):Sem.run Tryz.prog (method (n+1) 189 (.pointer (some a)) "Swap") w=.ok (206,.slice A l c) w:=by
 rw[show Sem.run Tryz.prog (method (n+1) 189 (.pointer (some a)) "Swap") w=Sem.run Tryz.prog (do let v <- loadVar 181 a;pure (206,v)) w by kernel_rfl];go_simp
theorem vK5(a:Addr)(n:Nat)(w:World):Sem.run Tryz.prog (method (n+1) 189 (.pointer (some a)) "Push") w=.ok (208,.pointer (some a)) w:=by kernel_rfl
theorem o_pop(a:Addr)(n:Nat)(w:World):Sem.run Tryz.prog (method (n+1) 189 (.pointer (some a)) "Pop") w=.ok (207,.pointer (some a)) w:=by kernel_rfl
theorem vZd(A:Option Addr)(l c:Nat)(w:World):Calls Tryz.prog 204 #[.slice A l c] w fun e w'=>e=.returned (.int .i64 (l:Int))/\w=w':=by
 go_enter Tryz.func204,Tryz.ntmps204;go_wp2;go_ret;exact⟨rfl,rfl⟩
theorem vZe(w:World)(g i j n c bx by_:Nat)(kx ky tx ty:Int)(hi:i < n)(hj:j < n)(hn:n<=1000000000)(hci:w.cell? ⟨g,i,none⟩=some (.pointer (some ⟨bx,0,none⟩)))(hcj:w.cell? ⟨g,j,none⟩=some (.pointer (some ⟨by_,0,none⟩)))(hkx:w.cell? ⟨bx,1,none⟩=some (.int .i64 kx))(hky:w.cell? ⟨by_,1,none⟩=some (.int .i64 ky))(htx:w.cell? ⟨bx,2,none⟩=some (.int .i64 tx))(hty:w.cell? ⟨by_,2,none⟩=some (.int .i64 ty))(hkt:kx < ky) :
  Calls Tryz.prog 205 #[.slice (some ⟨g,0,none⟩) n c,.int .i64 (i:Int),.int .i64 (j:Int)] w fun e w'=>e=.returned (.bool true)/\∃ d,w'=w.drewN d:=by
 go_enter Tryz.func205,Tryz.ntmps205;go_wp2
 go_quiet (fail)
 go_wp2;go_ret;exact⟨rfl,_,rfl⟩
theorem vZf(w:World)(g i j n c bx by_:Nat)(kx ky tx ty:Int)(hi:i < n)(hj:j < n)(hn:n<=1000000000)(hci:w.cell? ⟨g,i,none⟩=some (.pointer (some ⟨bx,0,none⟩)))(hcj:w.cell? ⟨g,j,none⟩=some (.pointer (some ⟨by_,0,none⟩)))(hkx:w.cell? ⟨bx,1,none⟩=some (.int .i64 kx))(hky:w.cell? ⟨by_,1,none⟩=some (.int .i64 ky))(htx:w.cell? ⟨bx,2,none⟩=some (.int .i64 tx))(hty:w.cell? ⟨by_,2,none⟩=some (.int .i64 ty))(hkt:ky < kx) :
  Calls Tryz.prog 205 #[.slice (some ⟨g,0,none⟩) n c,.int .i64 (i:Int),.int .i64 (j:Int)] w fun e w'=>e=.returned (.bool false)/\∃ d,w'=w.drewN d:=by
 have d1:decide (kx < ky)=false:=decide_eq_false (by omega);have d3:(kx == ky)=false:=by simpa using (by omega:¬ kx=ky)
 go_enter Tryz.func205,Tryz.ntmps205;go_wp2
 go_quiet (fail)
 go_wp2;go_ret;exact⟨rfl,_,rfl⟩
theorem zYc(w:World)(g i j n c bx by_:Nat)(kx ky tx ty:Int)(hi:i < n)(hj:j < n)(hn:n<=1000000000)(hci:w.cell? ⟨g,i,none⟩=some (.pointer (some ⟨bx,0,none⟩)))(hcj:w.cell? ⟨g,j,none⟩=some (.pointer (some ⟨by_,0,none⟩)))(hkx:w.cell? ⟨bx,1,none⟩=some (.int .i64 kx))(hky:w.cell? ⟨by_,1,none⟩=some (.int .i64 ky))(htx:w.cell? ⟨bx,2,none⟩=some (.int .i64 tx))(hty:w.cell? ⟨by_,2,none⟩=some (.int .i64 ty))(hkt:kx=ky)(htt:tx < ty) :
  Calls Tryz.prog 205 #[.slice (some ⟨g,0,none⟩) n c,.int .i64 (i:Int),.int .i64 (j:Int)] w fun e w'=>e=.returned (.bool true)/\∃ d,w'=w.drewN d:=by
 subst hkt;go_enter Tryz.func205,Tryz.ntmps205;go_wp2
 go_quiet (fail)
 go_wp2;go_ret;exact⟨rfl,_,rfl⟩
theorem zYd(w:World)(g i j n c bx by_:Nat)(kx ky tx ty:Int)(hi:i < n)(hj:j < n)(hn:n<=1000000000)(hci:w.cell? ⟨g,i,none⟩=some (.pointer (some ⟨bx,0,none⟩)))(hcj:w.cell? ⟨g,j,none⟩=some (.pointer (some ⟨by_,0,none⟩)))(hkx:w.cell? ⟨bx,1,none⟩=some (.int .i64 kx))(hky:w.cell? ⟨by_,1,none⟩=some (.int .i64 ky))(htx:w.cell? ⟨bx,2,none⟩=some (.int .i64 tx))(hty:w.cell? ⟨by_,2,none⟩=some (.int .i64 ty))(hkt:kx=ky)(htt:ty<=tx) :
  Calls Tryz.prog 205 #[.slice (some ⟨g,0,none⟩) n c,.int .i64 (i:Int),.int .i64 (j:Int)] w fun e w'=>e=.returned (.bool false)/\∃ d,w'=w.drewN d:=by
 subst hkt;have d4:decide (tx < ty)=false:=decide_eq_false (by omega);go_enter Tryz.func205,Tryz.ntmps205;go_wp2
 go_quiet (fail)
 go_wp2;go_ret;exact⟨rfl,_,rfl⟩
theorem vZi(w:World)(g i j n c bx by_:Nat)(hij:i≠j)(hi:i < n)(hj:j < n)(hn:n<=1000000000)(hci:w.cell? ⟨g,i,none⟩=some (.pointer (some ⟨bx,0,none⟩)))(hcj:w.cell? ⟨g,j,none⟩=some (.pointer (some ⟨by_,0,none⟩)))(ax ay:Value)(hax:w.cell? ⟨bx,3,none⟩=some ax)(hay:w.cell? ⟨by_,3,none⟩=some ay)
  (hgx:g≠bx) (hgy:g≠by_) (hxy:bx≠by_) (f1:w.frozen? ⟨g,i,none⟩=false) (f2:w.frozen? ⟨g,j,none⟩=false) (f3:w.frozen? ⟨bx,3,none⟩=false) (f4:w.frozen? ⟨by_,3,none⟩=false) :
  Calls Tryz.prog 206 #[.slice (some ⟨g,0,none⟩) n c,.int .i64 (i:Int),.int .i64 (j:Int)] w fun e w'=>e=.returned (.tuple #[])/\∃ d,w'=((((w.setCell ⟨g,i,none⟩ (.pointer (some ⟨by_,0,none⟩))).setCell ⟨g,j,none⟩ (.pointer (some ⟨bx,0,none⟩))).setCell ⟨by_,3,none⟩ (.int .i64 (i:Int))).setCell ⟨bx,3,none⟩ (.int .i64 (j:Int))).drewN d:=by
 have hgx':=hgx.symm;have hgy':=hgy.symm;have hxy':=hxy.symm;have hij':=hij.symm;go_enter Tryz.func206,Tryz.ntmps206;go_wp2
 go_region
 go_wp2
 go_region
 go_end0
 exact⟨rfl,2,rfl⟩
theorem vZj(w:World)(g i n c bx:Nat)(hi:i < n)(hn:n<=1000000000)(hci:w.cell? ⟨g,i,none⟩=some (.pointer (some ⟨bx,0,none⟩)))(ax:Value)(hax:w.cell? ⟨bx,3,none⟩=some ax)
  (hgx:g≠bx) (f1:w.frozen? ⟨g,i,none⟩=false) (f3:w.frozen? ⟨bx,3,none⟩=false) :
  Calls Tryz.prog 206 #[.slice (some ⟨g,0,none⟩) n c,.int .i64 (i:Int),.int .i64 (i:Int)] w fun e w'=>e=.returned (.tuple #[])/\∃ d,w'=((((w.setCell ⟨g,i,none⟩ (.pointer (some ⟨bx,0,none⟩))).setCell ⟨g,i,none⟩ (.pointer (some ⟨bx,0,none⟩))).setCell ⟨bx,3,none⟩ (.int .i64 (i:Int))).setCell ⟨bx,3,none⟩ (.int .i64 (i:Int))).drewN d:=by
 have hgx':=hgx.symm;go_enter Tryz.func206,Tryz.ntmps206;go_wp2
 go_region
 go_wp2
 go_region
 go_end0
 exact⟨rfl,2,rfl⟩
section
variable {base q m:Nat}{t:Int}{w0 w:World}{l:List Ent}
theorem QH.cell(h:QH base q m t w0 w l):∃ A c,w.cell? ⟨q,0,none⟩=some (.slice A l.length c)/\w.cell? ⟨q,1,none⟩=some (.map (some m))/\w.cell? ⟨q,2,none⟩=some (.int .i64 t)/\w.ownsRow base 184 1 (.slice A l.length c) l.length (l.map xXn)/\Arr w q 183 [.slice A l.length c,.map (some m),.int .i64 t]:=by
 obtain⟨A,c,h1,h2⟩:=h.row;exact⟨A,c,h2.cell 0,h2.cell 1,h2.cell 2,h1,h2⟩
theorem xZ0{e:TypeId}{cs:Array Value}{f:Nat×Nat}(he:(e == 183 || e == 184 || e == 187)=true):zYb (.cells cs e f)=false:=by simp only[zYb,he,Bool.not_true]
theorem QH.exchanged(h:QH base q m t w0 w l){i j:Nat}{x y:Ent}(hx:l[i]? = some x)(hy:l[j]? = some y){g c:Nat}(hrow:w.ownsRow base 184 1 (.slice (some ⟨g,0,none⟩) l.length c) l.length (l.map xXn))(hq:Arr w q 183 [.slice (some ⟨g,0,none⟩) l.length c,.map (some m),.int .i64 t]) :
  QH base q m t w0 ((((w.setCell ⟨g,i,none⟩ (xXn y)).setCell ⟨g,j,none⟩ (xXn x)).setCell ⟨y.blk,3,none⟩ (.int .i64 (i:Int))).setCell ⟨x.blk,3,none⟩ (.int .i64 (j:Int))) (xXa l i j):=by
 have hi:=(List.getElem?_eq_some_iff.1 hx).1;have hj:=(List.getElem?_eq_some_iff.1 hy).1;obtain⟨g',hg',hbg,hlt,_,_,cur,hcur⟩:=xY6 hrow hi;injection hg' with hg';injection hg' with hg';subst hg'
 obtain⟨hX,hXb⟩:=h.ents i x hx;obtain⟨hY,hYb⟩:=h.ents j y hy;have ngx:g≠x.blk:=fun e=>by rw[e] at hcur;unfold Arr at hX;rw[hX] at hcur;injection hcur with hcur;injection hcur with _ e2;exact absurd e2 (by decide)
 have ngy:g≠y.blk:=fun e=>by rw[e] at hcur;unfold Arr at hY;rw[hY] at hcur;injection hcur with hcur;injection hcur with _ e2;exact absurd e2 (by decide)
 have nqg:q≠g:=fun e=>by rw[<- e] at hcur;unfold Arr at hq;rw[hq] at hcur;injection hcur with hcur;injection hcur with _ e2;exact absurd e2 (by decide)
 have nqx:q≠x.blk:=fun e=>by rw[<- e] at hX;unfold Arr at hq hX;rw[hq] at hX;injection hX with hX;injection hX with _ e2;exact absurd e2 (by decide)
 have nqy:q≠y.blk:=fun e=>by rw[<- e] at hY;unfold Arr at hq hY;rw[hq] at hY;injection hY with hY;injection hY with _ e2;exact absurd e2 (by decide)
 have hrow1:=(World.ownsRow.stored hrow i (xXn y)).1;have hrow2:=(World.ownsRow.stored hrow1 j (xXn x)).1;have hmap:((l.map xXn).set i (xXn y)).set j (xXn x)=(xXa l i j).map xXn:=by
  rw[xYo hi hj];obtain⟨_,e1⟩:=List.getElem?_eq_some_iff.1 hx;obtain⟨_,e2⟩:=List.getElem?_eq_some_iff.1 hy;rw[e1,e2,List.map_set,List.map_set]
 rw[hmap] at hrow2;have off:∀ {W:World} {xs:List Value} (p:Addr) (u:Value),g≠p.block->W.ownsRow base 184 1 (.slice (some ⟨g,0,none⟩) l.length c) l.length xs->(W.setCell p u).ownsRow base 184 1 (.slice (some ⟨g,0,none⟩) l.length c) l.length xs:=fun {W xs} p u hp ho=>by
  obtain⟨o1,o2⟩:=ho;refine⟨o1,?_⟩;rcases o2 with ⟨o2,o3⟩ | ⟨g2,cap,cu,hv,hb,hh,r⟩
  ·cases o2
  ·have e:=hv;injection e with e _ _;injection e with e;injection e with e
   subst e;exact Or.inr ⟨_,cap,cu,hv,hb,(Below.heap_setCell W p u _ hp).trans hh,r⟩
 have hlen:(xXa l i j).length=l.length:=xZf l i j;constructor
 ·refine⟨some ⟨g,0,none⟩,c,?_,?_⟩
  ·rw[hlen];exact off _ _ ngx (off _ _ ngy hrow2)
  ·rw[hlen];exact (((hq.far nqg.symm _).far nqg.symm _).far nqy.symm _).far nqx.symm _
 ·intro k e he;rw[xQp hi hj] at he;have low:∀ (z:Ent) (k2:Nat),l[k2]? = some z->Arr ((w.setCell ⟨g,i,none⟩ (xXn y)).setCell ⟨g,j,none⟩ (xXn x)) z.blk 187 [.int .u32 z.item,.int .i64 z.key,.int .i64 z.time,.int .i64 (k2:Int)]/\base<=z.blk:=fun z k2 hz=>by
   obtain⟨hZ,hZb⟩:=h.ents k2 z hz;have ngz:g≠z.blk:=fun e=>by rw[e] at hcur;unfold Arr at hZ;rw[hZ] at hcur;injection hcur with hcur;injection hcur with _ e2;exact absurd e2 (by decide)
   exact⟨(hZ.far ngz _).far ngz _,hZb⟩
  by_cases hkj:k=j
  ·rw[if_pos hkj,hx] at he;injection he with he
   subst he;refine⟨?_,hXb⟩;have h1:=(low x i hx).1
   by_cases exy:i=j
   ·have:x=y:=by rw[exy,hy] at hx;injection hx with hx;exact hx.symm
    subst this;have h2:=(h1.set_ 3 (.int .i64 (i:Int))).set_ 3 (.int .i64 (j:Int));rw[hkj];exact h2
   ·have nxy:=h.inj hy hx (fun e=>exy e.symm);have h2:=(h1.far (p:=⟨y.blk,3,none⟩) nxy (.int .i64 (i:Int))).set_ 3 (.int .i64 (j:Int));rw[hkj];exact h2
  ·rw[if_neg hkj] at he
   by_cases hki:k=i
   ·rw[if_pos hki,hy] at he;injection he with he
    subst he;refine⟨?_,hYb⟩;have nxy:=h.inj hx hy (fun e=>hkj (hki.trans e));have h2:=((low y j hy).1.set_ 3 (.int .i64 (i:Int))).far (p:=⟨x.blk,3,none⟩) nxy (.int .i64 (j:Int));rw[hki];exact h2
   ·rw[if_neg hki] at he;obtain⟨h1,h2⟩:=low e k he;exact⟨(h1.far (p:=⟨y.blk,3,none⟩) (h.inj hy he (fun e=>hkj e.symm)) _).far (p:=⟨x.blk,3,none⟩) (h.inj hx he (fun e=>hki e.symm)) _,h2⟩
 ·exact ((xXm l i j).map Ent.blk).nodup_iff.2 h.nd
 ·exact h.qb
 ·rw[hlen];exact h.len
 ·have keep:∀ {W:World} (p:Addr) (u:Value) (k:Nat) (e:TypeId),(∃ cu,W.heap[k]? = some (.cells cu e (0,0)))->∃ cu,(W.setCell p u).heap[k]? = some (.cells cu e (0,0)):=fun {W} p u k e ⟨cu,hc⟩=>by
   by_cases ek:k=p.block
   ·subst ek;exact⟨if p.spot.isSome then cu else cu.setIfInBounds p.off u,by simp[World.setCell,Array.getElem?_modify,hc]⟩
   ·exact⟨cu,(Below.heap_setCell W p u k ek).trans hc⟩
  have kg:∃ cu,w.heap[g]? = some (.cells cu 184 (0,0)):=⟨_,hcur⟩;have kx:∃ cu,w.heap[x.blk]? = some (.cells cu 187 (0,0)):=⟨_,hX⟩;have ky:∃ cu,w.heap[y.blk]? = some (.cells cu 187 (0,0)):=⟨_,hY⟩;obtain⟨_,c2⟩:=keep ⟨g,i,none⟩ (xXn y) g _ kg;obtain⟨_,c1⟩:=kg;obtain⟨_,c3⟩:=keep ⟨g,j,none⟩ (xXn x) _ _ (keep ⟨g,i,none⟩ (xXn y) _ _ ky);obtain⟨_,c4⟩:=keep ⟨y.blk,3,none⟩ (.int .i64 (i:Int)) _ _ (keep ⟨g,j,none⟩ (xXn x) _ _ (keep ⟨g,i,none⟩ (xXn y) _ _ kx));exact (((h.fr.set_ hbg c1 (xZ0 (e:=184) rfl) _).set_ hbg c2 (xZ0 (e:=184) rfl) _).set_ hYb c3 (xZ0 (e:=187) rfl) _).set_ hXb c4 (xZ0 (e:=187) rfl) _
end
theorem zWb(base q m:Nat)(t:Int)(w0:World):OhMem ⟨q,0,none⟩ (QH base q m t w0) zYa where
 ord:=zV2
 len:=fun w l h=>by
  obtain⟨A,c,h1,_⟩:=h.cell;exact⟨by have:=h.len;omega,A,c,fun n=>o_len h1 n,vZd A l.length c w⟩
 less:=fun w l i j x y h hx hy=>by
  obtain⟨A,c,h1,_,_,hrow,_⟩:=h.cell;have hi:=(List.getElem?_eq_some_iff.1 hx).1;have hj:=(List.getElem?_eq_some_iff.1 hy).1;obtain⟨g,rfl,_,_,hci,_⟩:=xY6 hrow hi;obtain⟨g',hg',_,_,hcj,_⟩:=xY6 hrow hj;injection hg' with hg';injection hg' with hg';subst hg'
  refine⟨_,c,fun n=>vK3 h1 n,?_⟩;rw[List.getElem?_map,hx] at hci;rw[List.getElem?_map,hy] at hcj;obtain⟨hX,_⟩:=h.ents i x hx;obtain⟨hY,_⟩:=h.ents j y hy;have done:∀ b,zYa x y=b->(Calls Tryz.prog 205 #[.slice (some ⟨g,0,none⟩) l.length c,.int .i64 (i:Int),.int .i64 (j:Int)] w fun e w'=>e=.returned (.bool b)/\∃ d,w'=w.drewN d)->Calls Tryz.prog 205 #[.slice (some ⟨g,0,none⟩) l.length c,.int .i64 (i:Int),.int .i64 (j:Int)] w fun e w'=>e=.returned (.bool (zYa x y))/\QH base q m t w0 w' l:=fun b hb hc=>hc.mono fun e w' ⟨h1,d,h2⟩=>⟨by rw[hb];exact h1,by rw[h2];exact h.drewN d⟩
  rcases Int.lt_trichotomy x.key y.key with hk | hk | hk
  ·exact done true (by simp[zYa,hk]) (vZe w g i j l.length c x.blk y.blk x.key y.key x.time y.time hi hj h.len hci hcj (hX.cell 1) (hY.cell 1) (hX.cell 2) (hY.cell 2) hk)
  ·by_cases ht:x.time < y.time
   ·exact done true (by simp[zYa,hk,ht]) (zYc w g i j l.length c x.blk y.blk x.key y.key x.time y.time hi hj h.len hci hcj (hX.cell 1) (hY.cell 1) (hX.cell 2) (hY.cell 2) hk ht)
   ·exact done false (by simp[zYa,hk];omega) (zYd w g i j l.length c x.blk y.blk x.key y.key x.time y.time hi hj h.len hci hcj (hX.cell 1) (hY.cell 1) (hX.cell 2) (hY.cell 2) hk (by omega))
  ·exact done false (by simp[zYa];omega) (vZf w g i j l.length c x.blk y.blk x.key y.key x.time y.time hi hj h.len hci hcj (hX.cell 1) (hY.cell 1) (hX.cell 2) (hY.cell 2) hk)
 swap:=fun w l i j h hi hj=>by
  obtain⟨A,c,h1,_,_,hrow,hq⟩:=h.cell;have hx:=lGe hi;have hy:=lGe hj;obtain⟨g,rfl,_,_,hci,hfi,cur,hcur⟩:=xY6 hrow hi;obtain⟨g',hg',_,_,hcj,hfj,_⟩:=xY6 hrow hj;injection hg' with hg';injection hg' with hg';subst hg'
  refine⟨_,c,fun n=>vK4 h1 n,?_⟩;rw[List.getElem?_map,hx] at hci;rw[List.getElem?_map,hy] at hcj;have hX:=(h.ents i _ hx).1;have hY:=(h.ents j _ hy).1;have nz:∀ z:Ent,(∃ xs,Arr w z.blk 187 xs)->g≠z.blk:=fun z ⟨xs,hZ⟩ e=>by rw[e] at hcur;unfold Arr at hZ;rw[hZ] at hcur;injection hcur with hcur;injection hcur with _ e2;exact absurd e2 (by decide)
  have hE:=h.exchanged hx hy hrow hq
  by_cases hij:i=j
  ·subst hij;refine (vZj w g i l.length c l[i].blk hi h.len hci _ (hX.cell 3) (nz _ ⟨_,hX⟩) hfi (hX.free 3)).mono fun e w' ⟨e1,d,e2⟩=>⟨e1,?_⟩
   rw[e2];exact hE.drewN d
  ·refine (vZi w g i j l.length c l[i].blk l[j].blk hij hi hj h.len hci hcj _ _ (hX.cell 3) (hY.cell 3) (nz _ ⟨_,hX⟩) (nz _ ⟨_,hY⟩) (h.inj hx hy hij) hfi hfj (hX.free 3) (hY.free 3)).mono fun e w' ⟨e1,d,e2⟩=>⟨e1,?_⟩
   rw[e2];exact hE.drewN d
section
open Go.Maps
def wli(x:Int):Lit:=.int .i64 x
theorem Wrd.wfi{x:Int}(h:Wrd x):(Lit.int .i64 x).wf=true:=by
 unfold Wrd at h;have e1:IntKind.i64.min = -9223372036854775808:=rfl;have e2:IntKind.i64.max=9223372036854775807:=rfl;simp only[Lit.wf,e1,e2,Bool.and_eq_true,decide_eq_true_eq];omega
theorem vYe{x y:Int}(h:wli x=wli y):x=y:=by unfold wli at h;injection h
def MapG(w:World)(b n:Nat)(f:Int->Option Value):Prop:=
 ∃ D:DataW Value,w.ownsMap Tryz.prog 3 zQh b n D/\Maps.size D=n/\∀ x,Wrd x->Maps.has D (wli x)=(f x).isSome/\∀ v,f x=some v->∀ z,D.atKey (wli x) z=.held v
theorem MapG.made(w:World):MapG (w.alloc (.map #[] 0)) w.heap.size 0 (fun _=>none):=
 ⟨.map [],World.ownsMap_made _ _ _ _,rfl,fun x _=>⟨rfl,fun v hv=>by cases hv⟩⟩
section
variable {w w':World}{b n:Nat}{f:Int->Option Value}
theorem MapG.lt(h:MapG w b n f):b < w.heap.size:=by obtain⟨D,h,_⟩:=h;exact h.lt
theorem MapG.obj(h:MapG w b n f):∃ es cl,w.heap[b]? = some (.map es cl):=by obtain⟨D,⟨es,cl,h,_⟩,_⟩:=h;exact⟨es,cl,h⟩
theorem MapG.of_block(h:MapG w b n f)(hb:w'.heap[b]? = w.heap[b]?):MapG w' b n f:=by
 obtain⟨D,⟨es,cl,h1,h2⟩,h3⟩:=h;exact⟨D,⟨es,cl,hb.trans h1,h2⟩,h3⟩
theorem MapG.below{B:Nat}(h:MapG w b n f)(hb:Below B w w')(hlt:b < B):MapG w' b n f:=h.of_block (hb.block b hlt)
theorem MapG.alloc(h:MapG w b n f)(o:Obj):MapG (w.alloc o) b n f:=h.of_block (Below.heap_alloc w o b h.lt)
theorem MapG.setCell(h:MapG w b n f){p:Addr}(hp:p.block≠b)(u:Value):MapG (w.setCell p u) b n f:=h.of_block (Below.heap_setCell w p u b (fun e=>hp e.symm))
theorem xVj{x:Int}(hx:Wrd x):keyOf Tryz.prog 3 (.int .i64 x)=some (wli x):=keyOf_int_mk Tryz.underlying3 hx.wfi
theorem xQb:Keyed Tryz.prog 3:=int_keyed Tryz.underlying3
theorem MapG.look_ok{t e:TypeId}(h:MapG w b n f)(ht:Tryz.prog.underlying t=some (.map 3 e)){z:Value}(hz:(zeroValue e).run Tryz.prog w=.ok z w){x:Int}(hx:Wrd x) :
  (Instr.lookup t (.map (some b)) (.int .i64 x) true).run Tryz.prog w=.ok (.tuple #[(f x).getD z,.bool (f x).isSome]) w:=by
 obtain⟨D,h1,_,h3⟩:=h;obtain⟨v,ps,hrun,hv⟩:=h1.look_ok xQb ht hz (zd:=.held z) (zp:=[]) rfl (xVj hx);obtain⟨h4,h5⟩:=h3 x hx;simp only[zQh,Option.some.injEq,Prod.mk.injEq] at hv;rw[hrun,h4]
 cases hf:f x with
 | none=>
  rw[hf] at h4;rw[Maps.atKey_of_not_has h4] at hv;have hv:=DataW.held.inj hv.1;subst hv;simp only[Option.getD_none,Option.getD_some,Option.isSome_none,Option.isSome_some]
 | some u=>
  rw[h5 u hf] at hv;have hv:=DataW.held.inj hv.1;subst hv;simp only[Option.getD_none,Option.getD_some,Option.isSome_none,Option.isSome_some]
theorem MapG.len{t e:TypeId}(h:MapG w b n f)(ht:Tryz.prog.underlying t=some (.map 3 e))(ty:TypeId):(Builtin.len_ #[t] ty #[.map (some b)]).run Tryz.prog w=.ok (.int .i64 n) w:=by
 obtain⟨D,h1,h2,_⟩:=h;rw[h1.len ht ty,h2]
theorem zVh(x:Int):WideAt.IsKeyLit (wli x):=trivial
theorem MapG.put{D:DataW Value}(h1:w.ownsMap Tryz.prog 3 zQh b n D)(h2:Maps.size D=n)(h3:∀ x,Wrd x->Maps.has D (wli x)=(f x).isSome/\∀ v,f x=some v->∀ z,D.atKey (wli x) z=.held v){x:Int}(hx:Wrd x){v:Value}
  (h4:w'.ownsMap Tryz.prog 3 zQh b (n+1) (D.put (wli x) (.held v))):MapG w' b (up1 f x n) (upd f x v):=by
 have ht:=h1.tidy xQb;have hs:=Maps.size_put (k:=wli x) ht (.held v:DataW Value);rw[(h3 x hx).1,h2] at hs;have e:Maps.size (D.put (wli x) (.held v))=up1 f x n:=by rw[hs];unfold up1;rfl
 refine⟨_,e ▸ xKe h4,e,fun y hy=>?_⟩
 by_cases hyx:y=x
 ·subst hyx;rw[xX1,Maps.has_put_same ht.isMap (zVh y)];exact⟨rfl,fun u hu z=>by rw[Maps.atKey_put_same ht.isMap (zVh y)];injection hu with hu;rw[hu]⟩
 ·have hne:wli y≠wli x:=fun e=>hyx (vYe e)
  rw[xJe f v hyx,Maps.has_put_other hne];exact⟨(h3 y hy).1,fun u hu z=>by rw[Maps.atKey_put_other hne];exact (h3 y hy).2 u hu z⟩
end
section
variable {w:World}{ops:Array Oper}{rest:List Oper}{o:Oper}{a:Act}{Q:Exit->Act->World->Prop}{b n:Nat}{f:Int->Option Value}
theorem xYe(hg:o.guard=none)(m x v:Operand)(t:TypeId)(hop:o.op=Op.mapUpdate t m x v)(e:TypeId)(ht:Tryz.prog.underlying t=some (.map 3 e))
  (hm:a.eval m=.map (some b)) (hM:MapG w b n f) (hn:n < 1000000000000) (key:Int) (val:Value) (hx:a.eval x=.int .i64 key) (hv:a.eval v=val) (hk:Wrd key)
  (hK:∀ w',MapG w' b (up1 f key n) (upd f key val)->w.grownBy w' (some b)->wpList Tryz.prog ops Q rest (a.put o.dst undef) w'):wpList Tryz.prog ops Q (o :: rest) a w:=by
 obtain⟨D,h1,h2,h3⟩:=hM;exact wpList_mapUpdate_own w hg m x v t hop _ e xQb ht zQh b n D hm h1 (by simp only[maxLen];omega) _ val (wli key) hx hv (xVj hk) (.held val) [] rfl fun w' h4 h5=>hK w' (MapG.put h1 h2 h3 hk h4) h5
theorem vV1(hg:o.guard=none)(m x v:Operand)(t:TypeId)(hop:o.op=Op.insert t m x v)(e:TypeId)(ht:Tryz.prog.underlying t=some (.map 3 e))
  (hm:a.eval m=.map (some b)) (hM:MapG w b n f) (hn:n < 1000000000000) (key:Int) (val:Value) (hx:a.eval x=.int .i64 key) (hv:a.eval v=val) (hk:Wrd key)
  (hK:∀ w',MapG w' b (up1 f key n) (upd f key val)->w.grownBy w' (some b)->wpList Tryz.prog ops Q rest (a.put o.dst undef) w'):wpList Tryz.prog ops Q (o :: rest) a w:=by
 obtain⟨D,h1,h2,h3⟩:=hM;refine wpList_plain hg fun K' hK'=>?_
 obtain⟨w',hrun,r1,r2⟩:=h1.update xQb ht (by simp only[maxLen];omega) (xVj hk) (d:=.held val) (ps:=[]) rfl;unfold Oper.wp;simp[execOp,hop,hm,hx,hv,hrun,Result.andThen];exact hK' _ _ (hK w' (MapG.put h1 h2 h3 hk r1) r2)
theorem xZb(hg:o.guard=none)(m x:Operand)(t:TypeId)(hop:o.op=Op.lookup t m x true)(e:TypeId)(ht:Tryz.prog.underlying t=some (.map 3 e)){z:Value}(hz:(zeroValue e).run Tryz.prog w=.ok z w)
  (hm:a.eval m=.map (some b)) (hM:MapG w b n f) (key:Int) (hx:a.eval x=.int .i64 key) (hk:Wrd key) (v:Value) (ok:Bool) (hv:(f key).getD z=v) (hok:(f key).isSome=ok)
  (hK:wpList Tryz.prog ops Q rest (a.put o.dst (.tuple #[v,.bool ok])) w):wpList Tryz.prog ops Q (o :: rest) a w:=by
 refine wpList_plain hg fun K' hK'=>?_
 unfold Oper.wp;simp[execOp,hop,hm,hx,hM.look_ok ht hz hk,hv,hok,Result.andThen];exact hK' _ _ hK
variable {F:Fence}{N:Nat}
end
end
end Go.Proofs.YtpeipeljmapkmaaGreat
