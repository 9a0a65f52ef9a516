/-
  Lemmas for the law: Vn, Vo, Vt, Vp, Vu.
-/
import Derived.Test.YtpeipeljmapkmaaGreatU30
import Derived.Test.YtpeipeljmapkmaaGreatU31
import Derived.RegionTactic
import Derived.ChangeAlike
import Derived.BigRegion
import Derived.Deep.RegionLawGrows
import Derived.Maps.AppendAt
import Derived.Deep.AppendSrc
import Derived.Test.YtpeipeljmapkmaaGreatU26
import Derived.Test.YtpeipeljmapkmaaGreatU25
import Derived.Test.YtpeipeljmapkmaaGreatU12
import Derived.Test.YtpeipeljmapkmaaGreatU15
set_option linter.unusedVariables false
set_option linter.unusedSimpArgs false
set_option maxRecDepth 100000
set_option maxHeartbeats 4000000
namespace Go.Proofs.YtpeipeljmapkmaaGreat
open Go.RowKit
def xKf(n:Nat)(ops:List OpV)(k:Nat)(nd:NodeV)(outs:List Int):List NodeV:=outs.map fun x=>⟨xJ5 n nd.state (xZ4 ops x),nd.cost+(xZ4 ops x).cost,(k:Int),x⟩
def xQ6(a m:Nat):List Nat:=(List.range m).map (a + ·)
theorem vJs{n:Nat}{ops:List OpV}{k:Nat}{nd:NodeV}{outs:List Int}{i:Nat}{x:Int}(h:outs[i]? = some x):xKf n ops k nd (outs.take (i+1))=xKf n ops k nd (outs.take i) ++ [⟨xJ5 n nd.state (xZ4 ops x),nd.cost+(xZ4 ops x).cost,(k:Int),x⟩]:=by
 unfold xKf;rw[List.take_add_one,h,List.map_append];rfl
theorem xYn{n:Nat}{ops:List OpV}{k:Nat}{nd:NodeV}{outs:List Int}:(xKf n ops k nd outs).length=outs.length:=by unfold xKf;rw[List.length_map]
theorem zK8(a m:Nat):xQ6 a (m+1)=xQ6 a m ++ [a+m]:=by unfold xQ6;rw[List.range_succ,List.map_append];rfl
theorem zZa{N M:List NodeV}{k:Nat}(h:k < N.length):xVn (N ++ M) k=xVn N k:=by unfold xVn;rw[List.getElem?_append_left h]
theorem vJt{N M:List NodeV}{L:List Nat}(h:HeapN (ltN N) L.length L)(hl:∀ j∈L,j < N.length):HeapN (ltN (N ++ M)) L.length L:=fun k h1 h2 x y hx hy=>by
 have h3:=h k h1 h2 x y hx hy;unfold ltN at h3 ⊢;rw[zZa (hl x (lMg hx)),zZa (hl y (lMg hy))];exact h3
structure SI(n:Nat)(ops:List OpV)(goal init:List Int)(ls:List (List Int))(N:List NodeV)(L:List Nat)(C:List (List Int))(cl:List Int->Option Int)(f:Int->Option Value):Prop where
 dn:DN n ops init N
 ds:DS n ops goal init N L cl
 inl:∀ (j:Nat) (nd:NodeV),N[j]? = some nd->nd.state∈ls
 cls:∀ l,(cl l).isSome=true↔l∈C
 rc:∀ l,SetP l (n:Int)->(f (xJ0 l)).isSome=(cl l).isSome
 cnd:C.Nodup
 csub:∀ l∈C,l∈ls
 nlen:N.length<=1+40 * C.length
 llen:L.length<=N.length
 hp:HeapN (ltN N) L.length L
theorem SI.start{n:Nat}{ops:List OpV}{goal init:List Int}{ls:List (List Int)}(hC:Clos n ops init ls):SI n ops goal init ls [⟨init,0,-1,0⟩] [0] [] (fun _=>none) (fun _=>none):=by
 refine⟨⟨⟨_,rfl,rfl,rfl,rfl⟩,fun j nd hj h0=>?_⟩,⟨by simp,.inr (by simp),fun x c h=>(by cases h),fun x c h=>(by cases h)⟩,fun j nd hj=>?_,by simp,fun l _=>rfl,List.nodup_nil,by simp,by simp,by simp,fun k h1 h2=>?_⟩
 ·have:=(List.getElem?_eq_some_iff.1 hj).1;simp at this;omega
 ·have h1:=(List.getElem?_eq_some_iff.1 hj).1;simp at h1;subst h1;simp at hj;subst hj;exact hC.hst
 ·simp at h2;omega
section
variable {n:Nat}{ops:List OpV}{goal init:List Int}{ls:List (List Int)}{N:List NodeV}{L l:List Nat}{C:List (List Int)}{cl:List Int->Option Int}{f:Int->Option Value}{k:Nat}{nd:NodeV}
theorem SI.few(h:SI n ops goal init ls N L C cl f):C.length<=ls.length:=xX8 h.cnd h.csub
theorem SI.front(h:SI n ops goal init ls N L C cl f)(hp:(l ++ [k]).Perm L):DS n ops goal init N (k :: l) cl:=h.ds.perm (List.perm_append_comm.symm.trans (by simpa using hp) |>.trans (List.Perm.refl _) |> fun q=>by simpa using q)
theorem SI.least(h:SI n ops goal init ls N L C cl f)(hp:(l ++ [k]).Perm L)(hm:∀ y∈L,ltN N y k=false)(hk:N[k]? = some nd):∀ j∈l,∀ nj,N[j]? = some nj->nd.cost<=nj.cost:=fun j hj nj hn=>by
 have:=vXt (hm j (hp.mem_iff.1 (List.mem_append.2 (.inl hj))));rw[xYj hk,xYj hn] at this;exact this
theorem SI.shut(h:SI n ops goal init ls N L C cl f)(hs:SetP nd.state (n:Int)):(f (xJ0 nd.state)).isSome=true↔nd.state∈C:=by rw[h.rc _ hs];exact h.cls _
theorem SI.skip(h:SI n ops goal init ls N L C cl f)(hp:(l ++ [k]).Perm L)(hh:HeapN (ltN N) l.length l)(hk:N[k]? = some nd)(hs:SetP nd.state (n:Int))(hin:(f (xJ0 nd.state)).isSome=true):SI n ops goal init ls N l C cl f:=by
 rw[h.rc _ hs] at hin;obtain⟨c,hc⟩:=Option.isSome_iff_exists.1 hin;have hl:=hp.length_eq;rw[List.length_append] at hl;exact⟨h.dn,(h.front hp).skip h.dn.n0 hk hc,h.inl,h.cls,h.rc,h.cnd,h.csub,h.nlen,by have:=h.llen;simp at hl;omega,hh⟩
theorem SI.best(h:SI n ops goal init ls N L C cl f)(hr:∀ o∈ops,∀ q∈o.pre,0<=q/\q < (n:Int))(hc0:∀ o∈ops,0<=o.cost)(hp:(l ++ [k]).Perm L)(hm:∀ y∈L,ltN N y k=false)(hk:N[k]? = some nd)(hg:∀ q∈goal,q∈nd.state) :
  (∃ ps,Up N k ps/\Fp n ops goal init ps/\xJ6 (ops.map (·.cost)) ps=nd.cost/\ps.length<=k)/\∀ qs,Fp n ops goal init qs->nd.cost<=xJ6 (ops.map (·.cost)) qs:=by
 refine⟨?_,fun qs hq=>(h.front hp).best hr hc0 h.dn.n0 hk (h.least hp hm hk) hq⟩;obtain⟨ps,h1,h2,h3,h4⟩:=h.dn.up k k (Nat.le_refl _) nd hk;have h5:=h2.front (goal:=goal) (.nil hg);rw[List.append_nil] at h5;exact⟨ps,h1,h5,h3,h4⟩
theorem SI.none(h:SI n ops goal init ls N [] C cl f)(hr:∀ o∈ops,∀ q∈o.pre,0<=q/\q < (n:Int))(hc0:∀ o∈ops,0<=o.cost){ps:List Nat}(hf:Fp n ops goal init ps):False:=h.ds.noplan hr hc0 hf
theorem SI.expand(h:SI n ops goal init ls N L C cl f)(hC:Clos n ops init ls)(hc0:∀ o∈ops,0<=o.cost)(hp:(l ++ [k]).Perm L)(hm:∀ y∈L,ltN N y k=false)(hk:N[k]? = some nd)(hin:(f (xJ0 nd.state)).isSome=false)(v:Value)
  {S:Nat->Prop} (hS:Stub ops goal nd.state S) {outs:List Int} (ho:outs.length<=40) (h1:∀ x∈outs,∃ (q:Nat) (o:OpV),x=(q:Int)/\ops[q]? = some o/\∀ z∈o.pre,z∈nd.state) (h2:∀ (q:Nat) (o:OpV),S q->ops[q]? = some o->(∀ z∈o.pre,z∈nd.state)->(q:Int)∈outs)
  {L':List Nat} (hL:L'.Perm (l ++ xQ6 N.length outs.length)) (hh:HeapN (ltN (N ++ xKf n ops k nd outs)) L'.length L') :
  SI n ops goal init ls (N ++ xKf n ops k nd outs) L' (nd.state :: C) (vXm cl nd.state nd.cost) (upd f (xJ0 nd.state) v):=by
 have hkl:=(List.getElem?_eq_some_iff.1 hk).1;have hnd:=h.inl k nd hk;have hs:=hC.set _ hnd;have hcn:cl nd.state=Option.none:=by
  rw[h.rc _ hs] at hin
  cases e:cl nd.state with
  | none=>rfl
  | some c=>rw[e] at hin;cases hin
 have hnc:¬ nd.state∈C:=fun e=>by have:=(h.cls _).2 e;rw[hcn] at this;cases this
 have new:∀ (j:Nat) (nj:NodeV),(N ++ xKf n ops k nd outs)[j]? = some nj->N.length<=j->∃ (q:Nat) (o:OpV),outs[j - N.length]? = some (q:Int)/\ops[q]? = some o/\(∀ z∈o.pre,z∈nd.state)/\nj=⟨xJ5 n nd.state o,nd.cost+o.cost,(k:Int),(q:Int)⟩:=fun j nj hj hl=>by
  rw[List.getElem?_append_right hl] at hj;unfold xKf at hj;rw[List.getElem?_map] at hj;obtain⟨x,hx,he⟩:=Option.map_eq_some_iff.1 hj;obtain⟨q,o,rfl,ho,hz⟩:=h1 x (lMg hx);refine⟨q,o,hx,ho,hz,?_⟩;rw[<- he,xV4 (o:=o) (by rw[Int.toNat_natCast];exact ho)]
 have old:∀ {j:Nat} {nj:NodeV},(N ++ xKf n ops k nd outs)[j]? = some nj->j < N.length->N[j]? = some nj:=fun {j nj} hj hl=>by rw[List.getElem?_append_left hl] at hj;exact hj
 have oldR:∀ {j:Nat} {nj:NodeV},N[j]? = some nj->(N ++ xKf n ops k nd outs)[j]? = some nj:=fun {j nj} hj=>by rw[List.getElem?_append_left (List.getElem?_eq_some_iff.1 hj).1];exact hj
 have hnum:∀ j∈xQ6 N.length outs.length,N.length<=j/\j < (N ++ xKf n ops k nd outs).length:=fun j hj=>by
  unfold xQ6 at hj;obtain⟨i,hi,rfl⟩:=List.mem_map.1 hj;have:=List.mem_range.1 hi;rw[List.length_append,xYn];omega
 have hlen:=hp.length_eq;rw[List.length_append] at hlen;have hLl:=hL.length_eq;rw[List.length_append] at hLl;have hnl:(xQ6 N.length outs.length).length=outs.length:=by unfold xQ6;rw[List.length_map,List.length_range]
 refine⟨⟨?_,fun j nj hj h0=>?_⟩,?_,fun j nj hj=>?_,fun l'=>?_,fun l' hl'=>?_,List.nodup_cons.2 ⟨hnc,h.cnd⟩,fun l' hl'=>?_,?_,?_,hh⟩
 ·obtain⟨n0,h3,h4⟩:=h.dn.n0;exact⟨n0,oldR h3,h4⟩
 ·by_cases hl:j < N.length
  ·obtain⟨p,q,np,o,a1,a2,a3,a4⟩:=h.dn.par j nj (old hj hl) h0;exact⟨p,q,np,o,a1,a2,oldR a3,a4⟩
  ·obtain⟨q,o,_,a2,a3,rfl⟩:=new j nj hj (by omega);exact⟨k,q,nd,o,rfl,by omega,oldR hk,rfl,a2,a3,rfl,rfl⟩
 ·refine ((h.front hp).expand (M:=xKf n ops k nd outs) (new:=xQ6 N.length outs.length) h.dn.n0 hk hcn (h.least hp hm hk) hS (fun j hj=>⟨(hnum j hj).2,fun nj hn=>?_⟩) (fun q o a b c=>?_)).perm hL
  ·obtain⟨q,o,_,a2,_,rfl⟩:=new j nj hn (hnum j hj).1;have:=hc0 o (lMg a2);show nd.cost<=nd.cost+o.cost;omega
  ·obtain⟨i,hi⟩:=List.getElem?_of_mem (h2 q o a b c);have hil:=(List.getElem?_eq_some_iff.1 hi).1;have hjn:N.length+i∈xQ6 N.length outs.length:=List.mem_map.2 ⟨i,List.mem_range.2 hil,rfl⟩;have hg:(N ++ xKf n ops k nd outs)[N.length+i]? = some ((N ++ xKf n ops k nd outs)[N.length+i]'((hnum _ hjn).2)):=lGe _;obtain⟨q',o',a1,a2,a3,a4⟩:=new _ _ hg (Nat.le_add_right _ _);rw[Nat.add_sub_cancel_left,hi] at a1;have hqq:q=q':=by have:=Option.some.inj a1;omega
   subst hqq;rw[b] at a2;obtain rfl:=Option.some.inj a2;exact⟨_,hjn,_,hg,by rw[a4],by rw[a4]⟩
 ·by_cases hl:j < N.length
  ·exact h.inl j nj (old hj hl)
  ·obtain⟨q,o,_,a2,a3,rfl⟩:=new j nj hj (by omega);exact hC.closed _ hnd q o a2 a3
 ·unfold vXm
  by_cases e:l'=nd.state
  ·rw[if_pos e];simp[e]
  ·rw[if_neg e,h.cls l'];simp[e]
 ·unfold vXm upd
  by_cases e:l'=nd.state
  ·rw[if_pos e,if_pos (by rw[e])];rfl
  ·rw[if_neg e,if_neg (fun e2=>e (xJi hl' hs e2))];exact h.rc l' hl'
 ·rcases List.mem_cons.1 hl' with e | e
  ·rw[e];exact hnd
  ·exact h.csub l' e
 ·rw[List.length_append,xYn,List.length_cons];have:=h.nlen;omega
 ·rw[hLl,hnl,List.length_append,xYn];have:=h.llen;simp at hlen;omega
end
section
variable {α:Type}{P:World->Option Nat->List Value->α->Prop}{e:TypeId}{size base:Nat}{w:World}{v:Value}{els:List α}
theorem zV1(hP:Stable P)(T:TypeId)(bytes:Nat)(z:Value)(hT:Tryz.prog.underlying T=some (.slice e))(hinf:(Tryz.prog.info? e).map (fun i=>(i.zero,i.size,i.bytes))=some (some z,size,bytes))(hzs:z.cells.size=size)(hsz:0 < size)(hby:bytes<=128)
  {ops:Array Oper} {o:Oper} {a:Act} {K:Act->World->Prop} {Q:Exit->Act->World->Prop} {E:Prop} (hgd:o.guard=none) (s x:Operand)
  (ho:o.op=.call { callee:=.builtin .append,args:=#[s,x],argTypes:=#[T,T] })
  (hs:a.eval s=v) (hown:OwnEs P e size base w v els) (ad:Addr) (m:Nat) (hx:a.eval x=.slice (some ad) 1 m) (news:List Value) (y:α) (hnl:news.length=size) (hnews:∀ j u,news[j]? = some u->w.cell? (ad.add j)=some u) (h1:∀ u∈news,u.oneCell'=true) (hy:P w v.ownBlock news y)
  (hlen:els.length < 1000000000000) (hbase:base<=w.heap.size)
  (h:∀ g cap w',OwnEs P e size base w' (.slice (some ⟨g,0,none⟩) (els.length+1) cap) (els ++ [y])->w.grownBy w' v.ownBlock->(v.ownBlock=some g\/g=w.heap.size)->g < w'.heap.size->K (a.put o.dst (.slice (some ⟨g,0,none⟩) (els.length+1) cap)) w') :
  if Region.wanted o (yielded ops a.tmps)=true then Oper.wp Tryz.prog o a w K Q else E:=by
 obtain⟨i0,hi0,hz⟩:=Option.map_eq_some_iff.1 hinf;simp only[Prod.mk.injEq] at hz;obtain⟨cells,hr,hcs⟩:=hown;have hcl:=hr.1;refine step_append_lies w hgd s x T ho base e i0 z size bytes hT hi0 hz.1 hz.2.1 hz.2.2 hzs hsz v els.length cells hs hr ad 1 m news hx (by omega) hnews h1 (by decide) ?_ ?_ hbase _ rfl ?_
 ·simp only[maxLen];omega
 ·have:=Nat.mul_le_mul_left (els.length+1) hby;omega
 ·intro g cap w' h2 h3 h4 h5;refine h g cap w' ⟨cells ++ news,by rw[List.length_append];exact h2,fun i a ha=>?_⟩ h3 h4 h5;have key:∀ {cs:List Value} {a:α},P w v.ownBlock cs a->P w' (some g) cs a:=fun hp=>by
   rcases h4 with h4 | h4
   ·rw[<- h4];exact (hP.grown hp h3).1
   ·rw[h4];exact (hP.grown hp h3).2
  rcases Nat.lt_or_ge i els.length with hi | hi
  ·rw[List.getElem?_append_left hi] at ha;have hle:i * size+size<=els.length * size:=by
    have:=Nat.mul_le_mul_right size (show i+1<=els.length from hi);rw[Nat.succ_mul] at this;exact this
   have e1:((cells ++ news).drop (i * size)).take size=(cells.drop (i * size)).take size:=by
    rw[List.drop_append_of_le_length (by omega),List.take_append_of_le_length (by rw[List.length_drop];omega)]
   rw[e1];exact key (hcs i a ha)
  ·have hie:i=els.length:=by
    have:=(List.getElem?_eq_some_iff.1 ha).1;rw[List.length_append] at this;simp at this;omega
   subst hie;rw[List.getElem?_append_right (Nat.le_refl _)] at ha;simp at ha;subst ha;have e1:((cells ++ news).drop (els.length * size)).take size=news:=by
    rw[<- hcl,List.drop_left,List.take_of_length_le (by omega)]
   rw[e1];exact key hy
end
def PNd(X:Nat->Prop)(w:World)(row:Option Nat)(cs:List Value)(nd:NodeV):Prop:=
 ∃ A c,cs=[.slice A nd.state.length c,.int .i64 nd.cost,.int .i64 nd.parent,.int .i64 nd.op]/\Ints w A nd.state/\(nd.state≠[]->∀ ad,A=some ad->¬ X ad.block/\some ad.block≠row)
theorem xQh(X:Nat->Prop):Stable (PNd X):=by
 constructor
 ·rintro w w' row cs nd ⟨A,c,e,hI,ha⟩ hb;exact⟨A,c,e,hI.below hb,ha⟩
 ·rintro w w' row cs nd ⟨A,c,e,hI,ha⟩ hg;have hI':=hI.grown2 hg (fun h ad e=>(ha h ad e).2);refine⟨⟨A,c,e,hI',ha⟩,⟨A,c,e,hI',fun hr ad h=>⟨(ha hr ad h).1,fun k=>?_⟩⟩⟩;subst h;have:=xZz hI hr;injection k with k
  omega
def OwnNd(X:Nat->Prop)(B:Nat)(w:World)(v:Value)(N:List NodeV):Prop:=OwnEs (PNd X) 129 4 B w v N
theorem zW7:(Tryz.prog.info? 129).map (fun i=>(i.zero,i.size,i.bytes))=some (some (.agg #[.slice none 0 0,.int .i64 0,.int .i64 0,.int .i64 0]),4,48):=by kernel_rfl
theorem xK2(w:World):(zeroValue 3).run Tryz.prog w=.ok (.int .i64 0) w:=by kernel_rfl
section
variable {X X' Y:Nat->Prop}{B:Nat}{a w:World}{v:Value}{N:List NodeV}
theorem OwnNd.kept(h:OwnNd X B a v N)(hK:Kept Y a w)(hY:∀ k,k < a.heap.size->Y k->X k)(hX:∀ k,k < a.heap.size->X' k->X k)(hv:∀ k,v.ownBlock=some k->¬ Y k):OwnNd X' B w v N:=by
 obtain⟨cells,h1,h2⟩:=h;refine⟨cells,xWt h1 hK hv,fun i nd hi=>?_⟩;obtain⟨A,c,e,hI,ha⟩:=h2 i nd hi;refine⟨A,c,e,hI.kept hK (fun hr ad h y=>?_),fun hr ad h=>⟨fun x=>?_,(ha hr ad h).2⟩⟩
 ·subst h;exact (ha hr ad rfl).1 (hY _ (xZz hI hr) y)
 ·subst h;exact (ha hr ad rfl).1 (hX _ (xZz hI hr) x)
theorem OwnNd.rd{A:Option Addr}{m c:Nat}(h:OwnNd X B w (.slice A m c) N){j:Nat}{nd:NodeV}(hj:N[j]? = some nd):∃ g S cs,A=some ⟨g,0,none⟩/\w.cell? ⟨g,j * 4,none⟩=some (.slice S nd.state.length cs)/\w.cell? ⟨g,j * 4+1,none⟩=some (.int .i64 nd.cost)/\w.cell? ⟨g,j * 4+2,none⟩=some (.int .i64 nd.parent)/\w.cell? ⟨g,j * 4+3,none⟩=some (.int .i64 nd.op)/\Ints w S nd.state/\(nd.state≠[]->∀ ad,S=some ad->¬ X ad.block/\ad.block≠g):=by
 obtain⟨g,cs,a,rfl,_,_,ha,_,hc,A,c,rfl,hI,hX⟩:=OwnEs.at_ h (i:=j) (List.getElem?_eq_some_iff.1 hj).1;have e:a=nd:=by have:=ha.out;rw[hj] at this;exact (Option.some.inj this).symm
 subst e;exact⟨g,A,c,rfl,hc 0 _ rfl,hc 1 _ rfl,hc 2 _ rfl,hc 3 _ rfl,hI,fun hr ad e=>⟨(hX hr ad e).1,fun k=>(hX hr ad e).2 (by rw[k])⟩⟩
theorem OwnNd.own(h:OwnNd X B w v N):∃ cells,w.ownsRow B 129 4 v N.length cells:=by obtain⟨cells,h1,_⟩:=h;exact⟨cells,h1⟩
end
theorem Arr.ne_own{w:World}{g B n:Nat}{T e:TypeId}{size:Nat}{ys xs:List Value}{v:Value}(hA:Arr w g T ys)(h:w.ownsRow B e size v n xs)(hT:T≠e):v.ownBlock≠some g:=fun e1=>by
 obtain⟨cu,h1⟩:=xXe h e1;unfold Arr at hA;rw[hA] at h1;injection h1 with h1;injection h1 with _ h2;exact hT h2
theorem MapG.ne_own{w:World}{b m B n:Nat}{e:TypeId}{size:Nat}{f:Int->Option Value}{xs:List Value}{v:Value}(hM:MapG w b m f)(h:w.ownsRow B e size v n xs):v.ownBlock≠some b:=fun e1=>by
 obtain⟨cu,h1⟩:=xXe h e1;obtain⟨es,cl,h2⟩:=hM.obj;rw[h1] at h2;cases h2
theorem xVq{w:World}{B n B' n':Nat}{e e':TypeId}{size size':Nat}{xs xs':List Value}{v v':Value}(h:w.ownsRow B e size v n xs)(h':w.ownsRow B' e' size' v' n' xs')(hT:e≠e'):∀ k,v.ownBlock=some k->v'.ownBlock≠some k:=fun k hk hk'=>by
 obtain⟨cu,h1⟩:=xXe h hk;obtain⟨cu',h2⟩:=xXe h' hk';rw[h1] at h2;injection h2 with h2;injection h2 with _ h3;exact hT h3
def SX(bn bh bc bo:Nat)(vl:Value)(k:Nat):Prop:=k=bn\/k=bh\/k=bc\/k=bo\/vl.ownBlock=some k
structure SM(B bn bh bc bo:Nat)(W:World)(vN vl:Value)(N:List NodeV)(L:List Nat)(nc:Nat)(f:Int->Option Value)(x:Int):Prop where
 nrow:OwnNd (SX bn bh bc bo vl) B W vN N
 nbox:Arr W bn 130 [vN]
 lrow:OwnI B W vl (L.map Int.ofNat)
 hbox:Arr W bh 134 [.pointer (some ⟨bn,0,none⟩),vl]
 map:MapG W bc nc f
 obox:Arr W bo 32 [.bool false,.slice none 0 0,.int .i64 0,.int .i64 x]
section
variable {B bn bh bc bo:Nat}{W W':World}{vN vl:Value}{N:List NodeV}{L:List Nat}{nc:Nat}{f:Int->Option Value}{x:Int}
theorem SM.below(h:SM B bn bh bc bo W vN vl N L nc f x)(hb:Below W.heap.size W W'):SM B bn bh bc bo W' vN vl N L nc f x:=
 ⟨OwnEs.below (xQh _) h.nrow hb,h.nbox.below hb,h.lrow.below hb,h.hbox.below hb,h.map.below hb h.map.lt,h.obox.below hb⟩
theorem SM.lform(h:SM B bn bh bc bo W vN vl N L nc f x):∃ A c,vl=.slice A L.length c/\L.length<=c/\c<=9223372036854775807:=by
 obtain⟨A,c,e,_⟩:=h.lrow.ints;subst e;have h1:=h.lrow.cap_le;have h2:=h.lrow.cap_max;rw[List.length_map] at h1;exact⟨A,c,by rw[List.length_map],h1,h2⟩
theorem SM.nform(h:SM B bn bh bc bo W vN vl N L nc f x)(hN:N≠[]):∃ g c,vN=.slice (some ⟨g,0,none⟩) N.length c:=by
 obtain⟨A,c,e⟩:=OwnEs.form h.nrow;subst e
 cases N with
 | nil=>exact absurd rfl hN
 | cons nd N=>
  obtain⟨g,S,cs,e,_⟩:=OwnNd.rd h.nrow (j:=0) (nd:=nd) rfl;subst e;exact⟨g,c,rfl⟩
theorem SM.cn{gn c:Nat}(h:SM B bn bh bc bo W (.slice (some ⟨gn,0,none⟩) N.length c) vl N L nc f x)(hne:bn≠bh)(hl:N.length<=1000000000):CN bh bn gn c N vl.ownBlock W:=by
 obtain⟨cells,hr⟩:=h.nrow.own;refine⟨h.nbox,fun j nd hj=>?_,⟨hne,fun e=>Arr.ne_own h.hbox hr (by decide) (by rw[<- e];rfl),Arr.ne_own h.nbox h.lrow (by decide),xVq hr h.lrow (by decide) gn rfl⟩,hl⟩;obtain⟨g,S,cs,e,_,h1,_⟩:=OwnNd.rd h.nrow hj;injection e with e;injection e with e
 subst e;exact h1
theorem SM.ch{A:Option Addr}{c:Nat}(h:SM B bn bh bc bo W vN (.slice A L.length c) N L nc f x)(hB:B<=W.heap.size)(hj:∀ j∈L,j < N.length)(hl:L.length<=1000000000):CH B bh bn N (Value.slice A L.length c).ownBlock W W L:=
 ⟨⟨A,c,h.lrow,h.hbox,fun k hk=>.inl hk⟩,hj,⟨h.hbox.lt,hB,Arr.ne_own h.hbox h.lrow (by decide)⟩,Kept.refl _ _,hl⟩
theorem SM.heaped{L':List Nat}(h:SM B bn bh bc bo W vN vl N L nc f x)(hne:bn≠bh/\bc≠bh/\bo≠bh)(hC:CH B bh bn N vl.ownBlock W W' L'):∃ A c,SM B bn bh bc bo W' vN (.slice A L'.length c) N L' nc f x/\∀ k,(Value.slice A L'.length c).ownBlock=some k->vl.ownBlock=some k\/W.heap.size<=k:=by
 obtain⟨A,c,h1,h2,h3⟩:=hC.row;obtain⟨cells,hr⟩:=h.nrow.own;refine⟨A,c,⟨h.nrow.kept hC.fr ?_ ?_ ?_,h.nbox.kept hC.fr ?_,h1,h2,h.map.kept hC.fr ?_,h.obox.kept hC.fr ?_⟩,h3⟩
 ·rintro k _ (e | e)
  ·exact .inr (.inl e)
  ·exact .inr (.inr (.inr (.inr e)))
 ·rintro k hk (e | e | e | e | e)
  ·exact .inl e
  ·exact .inr (.inl e)
  ·exact .inr (.inr (.inl e))
  ·exact .inr (.inr (.inr (.inl e)))
  ·rcases h3 k e with e | e
   ·exact .inr (.inr (.inr (.inr e)))
   ·omega
 ·rintro k hk (e | e)
  ·subst e;exact Arr.ne_own h.hbox hr (by decide) hk
  ·exact xVq hr h.lrow (by decide) k hk e
 ·rintro (e | e)
  ·exact hne.1 e
  ·exact Arr.ne_own h.nbox h.lrow (by decide) e
 ·rintro (e | e)
  ·exact hne.2.1 e
  ·exact MapG.ne_own h.map h.lrow e
 ·rintro (e | e)
  ·exact hne.2.2 e
  ·exact Arr.ne_own h.obox h.lrow (by decide) e
theorem SM.kept1{p:Nat}(h:SM B bn bh bc bo W vN vl N L nc f x)(hK:Kept (fun k=>k=p) W W')(hp:p=bn\/p=bh\/p=bc\/p=bo) :
  OwnNd (SX bn bh bc bo vl) B W' vN N/\(p≠bn->Arr W' bn 130 [vN])/\OwnI B W' vl (L.map Int.ofNat)/\(p≠bh->Arr W' bh 134 [.pointer (some ⟨bn,0,none⟩),vl])/\(p≠bc->MapG W' bc nc f)/\(p≠bo->Arr W' bo 32 [.bool false,.slice none 0 0,.int .i64 0,.int .i64 x]):=by
 obtain⟨cells,hr⟩:=h.nrow.own;refine⟨h.nrow.kept hK ?_ (fun k _ e=>e) ?_,fun e=>h.nbox.kept hK (fun k=>e k.symm),h.lrow.kept hK ?_,fun e=>h.hbox.kept hK (fun k=>e k.symm),fun e=>h.map.kept hK (fun k=>e k.symm),fun e=>h.obox.kept hK (fun k=>e k.symm)⟩
 ·rintro k _ rfl;rcases hp with e | e | e | e
  ·exact .inl e
  ·exact .inr (.inl e)
  ·exact .inr (.inr (.inl e))
  ·exact .inr (.inr (.inr (.inl e)))
 ·rintro k hk rfl;rcases hp with e | e | e | e <;> subst e
  ·exact Arr.ne_own h.nbox hr (by decide) hk
  ·exact Arr.ne_own h.hbox hr (by decide) hk
  ·exact MapG.ne_own h.map hr hk
  ·exact Arr.ne_own h.obox hr (by decide) hk
 ·rintro k hk rfl;rcases hp with e | e | e | e <;> subst e
  ·exact Arr.ne_own h.nbox h.lrow (by decide) hk
  ·exact Arr.ne_own h.hbox h.lrow (by decide) hk
  ·exact MapG.ne_own h.map h.lrow hk
  ·exact Arr.ne_own h.obox h.lrow (by decide) hk
theorem SM.closed{nc':Nat}{f':Int->Option Value}(h:SM B bn bh bc bo W vN vl N L nc f x)(hne:bc≠bn/\bc≠bh/\bc≠bo)(hg:W.grownBy W' (some bc))(hM:MapG W' bc nc' f'):SM B bn bh bc bo W' vN vl N L nc' f' x:=by
 obtain⟨h1,h2,h3,h4,h5,h6⟩:=h.kept1 ((Kept.refl (fun k=>k=bc) W).grown hg (fun k e=>.inl (by injection e with e;exact e.symm))) (.inr (.inr (.inl rfl)));exact⟨h1,h2 hne.1,h3,h4 hne.2.1,hM,h6 hne.2.2⟩
theorem SM.counted(h:SM B bn bh bc bo W vN vl N L nc f x)(hne:bo≠bn/\bo≠bh/\bo≠bc)(y:Int):SM B bn bh bc bo (W.setCell ⟨bo,3,none⟩ (.int .i64 y)) vN vl N L nc f y:=by
 obtain⟨h1,h2,h3,h4,h5,h6⟩:=h.kept1 ((Kept.refl (fun k=>k=bo) W).set (p:=⟨bo,3,none⟩) (.inl rfl) (.int .i64 y)) (.inr (.inr (.inr rfl)));exact⟨h1,h2 hne.1,h3,h4 hne.2.1,h5 hne.2.2,h.obox.set_ 3 _⟩
theorem SM.added{vN':Value}{nd:NodeV}(h:SM B bn bh bc bo W vN vl N L nc f x)(hne:bn≠bh/\bn≠bc/\bn≠bo)(hg:W.grownBy W' vN.ownBlock)(hN:OwnNd (SX bn bh bc bo vl) B W' vN' (N ++ [nd])):SM B bn bh bc bo (W'.setCell ⟨bn,0,none⟩ vN') vN' vl (N ++ [nd]) L nc f x:=by
 obtain⟨cells,hr⟩:=h.nrow.own;obtain⟨cells',hr'⟩:=hN.own;have hK:Kept (fun k=>vN.ownBlock=some k) W W':=(Kept.refl _ W).grown hg (fun k e=>.inl e);have hb:Arr W' bn 130 [vN]:=h.nbox.kept hK (Arr.ne_own h.nbox hr (by decide));have hS:Kept (fun k=>k=bn) W' (W'.setCell ⟨bn,0,none⟩ vN'):=(Kept.refl (fun k=>k=bn) W').set (p:=⟨bn,0,none⟩) (.inl rfl) _;have hl:OwnI B W' vl (L.map Int.ofNat):=h.lrow.kept hK (fun k hk e=>xVq hr h.lrow (by decide) k e hk);refine⟨hN.kept hS (fun k _ e=>.inl e) (fun k _ e=>e) ?_,hb.set_ 0 _,hl.kept hS ?_,(h.hbox.kept hK (Arr.ne_own h.hbox hr (by decide))).kept hS (fun e=>hne.1 e.symm),(h.map.kept hK (MapG.ne_own h.map hr)).kept hS (fun e=>hne.2.1 e.symm),(h.obox.kept hK (Arr.ne_own h.obox hr (by decide))).kept hS (fun e=>hne.2.2 e.symm)⟩
 ·rintro k hk rfl;exact Arr.ne_own hb hr' (by decide) hk
 ·rintro k hk rfl;exact Arr.ne_own hb hl (by decide) hk
end
theorem SI.cost_le{n:Nat}{ops:List OpV}{goal init:List Int}{ls:List (List Int)}{N:List NodeV}{L:List Nat}{C:List (List Int)}{cl:List Int->Option Int}{f:Int->Option Value}(h:SI n ops goal init ls N L C cl f)(hc:∀ o∈ops,0<=o.cost/\o.cost<=100){k:Nat}{nd:NodeV}(hk:N[k]? = some nd):0<=nd.cost/\nd.cost<=100 * (k:Int):=by
 obtain⟨ps,_,_,h3,h4⟩:=h.dn.up k k (Nat.le_refl _) nd hk;have h5:=xV8 (fun o ho=>(hc o ho).1) ps;have h6:=zX5 (fun o ho=>(hc o ho).2) (by decide) ps;rw[h3] at h5 h6;exact⟨h5,by omega⟩
section
open Go.Shelf
attribute [local go_sem] Oper.semAt_some
def zK3{n:Nat}{ops:List OpV}{l:List Int}(x:xX4 n ops l×Value):Array Value:=#[.int .i64 (x.1.1.1:Int),x.2]
def vQb{n:Nat}{ops:List OpV}{l:List Int}(B:Nat)(x:xX4 n ops l×Value)(W:World):Prop:=OwnI B W x.2 x.1.1.2.2
def KpZ(n0:Nat)(Z:Nat->Prop)(W W':World):Prop:=Below n0 W W'/\∀ z,Z z->W'.heap[z]? = W.heap[z]?
theorem kpz_t{n0:Nat}{Z:Nat->Prop}{A B C:World}(h:KpZ n0 Z A B)(k:KpZ n0 Z B C):KpZ n0 Z A C:=⟨h.1.trans k.1,fun z hz=>(k.2 z hz).trans (h.2 z hz)⟩
theorem kpz_b{n0:Nat}{Z:Nat->Prop}{w:World}(hn:n0<=w.heap.size)(hZ:∀ z,Z z->z < w.heap.size)(W:World)(l:Nat)(o o':Obj)(hl:w.heap.size<=l)(h:W.heap[l]? = some o)(hc:o.isCells=false):KpZ n0 Z W (W.putObj l o'):=
 ⟨(Below.refl n0 W).grown (grownBy_putObj' W l o') (by have:=(Array.getElem?_eq_some_iff.1 h).1;omega) (fun k e=>by cases e;omega),fun z hz=>World.putObj_heap_other (by have:=hZ z hz;omega)⟩
theorem xV1{A B:World}(h:Below A.heap.size A B):A.grownBy B none:=⟨h.os,h.tape,h.output,h.size,fun k hk _=>h.block k hk⟩
structure ScMem(w0:World)(b1 b2:Nat)(t:TaskV)(Ai Ag Ao:Option Addr)(ci cg co:Nat)(S:Option Addr)(cs:Nat)(l:List Int)(W:World):Prop where
 low:Below w0.heap.size w0 W
 tb:Arr W b1 25 [.int .i64 t.facts,.slice Ai t.init.length ci,.slice Ag t.goal.length cg,.slice Ao t.ops.length co]
 sb:Arr W b2 22 [.slice S l.length cs]
 st:Ints W S l
def ScZ(b1 b2:Nat)(S:Option Addr)(l:List Int)(z:Nat):Prop:=z=b1\/z=b2\/(l≠[]/\∃ ad,S=some ad/\z=ad.block)
theorem ScMem.below{w0:World}{b1 b2:Nat}{t:TaskV}{Ai Ag Ao:Option Addr}{ci cg co:Nat}{S:Option Addr}{cs:Nat}{l:List Int}{W W':World}(h:ScMem w0 b1 b2 t Ai Ag Ao ci cg co S cs l W)(hb:Below W.heap.size W W'):ScMem w0 b1 b2 t Ai Ag Ao ci cg co S cs l W':=
 ⟨h.low.trans (hb.mono h.low.size),h.tb.below hb,h.sb.below hb,h.st.below hb⟩
theorem ScMem.keep{w0:World}{b1 b2:Nat}{t:TaskV}{Ai Ag Ao:Option Addr}{ci cg co:Nat}{S:Option Addr}{cs:Nat}{l:List Int}{W W':World}(h:ScMem w0 b1 b2 t Ai Ag Ao ci cg co S cs l W)(hk:KpZ w0.heap.size (ScZ b1 b2 S l) W W'):ScMem w0 b1 b2 t Ai Ag Ao ci cg co S cs l W':=by
 refine⟨h.low.trans hk.1,(hk.2 b1 (.inl rfl)).trans h.tb,(hk.2 b2 (.inr (.inl rfl))).trans h.sb,fun j u hu=>?_⟩;obtain⟨ad,e,hc⟩:=h.st j u hu;refine⟨ad,e,(World.cell?_of_block (a:=ad.add j) (by rw[xVg];exact hk.2 ad.block (.inr (.inr ⟨fun e1=>by subst e1;simp at hu,ad,e,rfl⟩)))).trans hc⟩
theorem vY3{n b1 b2 n1:Nat}{w0:World}{t:TaskV}{Ai Ag Ao:Option Addr}{ci cg co:Nat}{S:Option Addr}{cs:Nat}{l:List Int}(hT:TaskMem w0 Ai Ag Ao t)(hR:OpsRead w0 Ao t.ops)(hv:Valid t)(hn:t.facts=n)(hl:SetP l (n:Int))(y:Nat)(J:List (xX4 n t.ops l×Value)->World->Prop)(W:World)
  (hM:ScMem w0 b1 b2 t Ai Ag Ao ci cg co S cs l W) (hn1:n1<=W.heap.size) (hJ:AbidesFrom W.heap.size J)
  (hY:∀ pre x W1,J pre W1->vQb n1 x W1->YieldAt Fence.wide 3 Tryz.prog y (zK3 x) W1 fun e W'=>e=.returned (.bool true)/\J (pre ++ [x]) W'/\KpZ w0.heap.size (ScZ b1 b2 S l) W1 W') (h0:J [] W) :
  CallsIn Fence.wide 4 Tryz.prog 104 #[.func (.yield y) #[] #[],.pointer (some ⟨b1,0,none⟩),.pointer (some ⟨b2,0,none⟩)] W fun e W'=>(∃ v,e=.returned v)/\∃ xs,True/\J xs W':=by
 have HT:=lHd hT;have HR:=lHd hR;have HV:=lHd hv;have HN:=lHd hn;have HLT:Hid (SetP l t.facts):=by show SetP l t.facts;rw[hn];exact hl
 have h40:=hv.nops;have HJ:=lHd hJ;have HY:=lHd hY;have hc3:=hM.tb.cell 3;clear hT hR hv hn hl hJ hY;refine callsIn_of_wp Tryz.func104 rfl trivial ?_ rfl;simp only[Tryz.ntmps104,List.size_toArray,List.length_cons,List.length_nil,Nat.reduceAdd,Nat.reduceSub,Array.replicate_succ,Array.replicate_zero,List.push_toArray,List.append_toArray,List.nil_append,List.cons_append]
 gi_wp2
 gi_loopw [8] (fun i wr=>∃ (k:Nat) (pre:List (xX4 n t.ops l×Value)),k<=t.ops.length/\i=.int .i64 (k:Int)/\J pre wr/\ScMem w0 b1 b2 t Ai Ag Ao ci cg co S cs l wr/\n1<=wr.heap.size) (fun i _=>t.ops.length - (intOf i).toNat)
 case atStart=>exact⟨0,[],Nat.zero_le _,rfl,h0,hM,hn1⟩
 case round=>
  clear h0 hM hc3 hn1;obtain⟨k,pre,hk,rfl,hJ,hM,hn1⟩:=hrel;obtain⟨wk,rfl⟩:∃ wo:World,wo=wr:=⟨_,rfl⟩;have ht0:=hM.tb.cell 0;have ht1:=hM.tb.cell 1;have ht2:=hM.tb.cell 2;have ht3:=hM.tb.cell 3;have hs0:=hM.sb.cell 0;have HM:=lHd hM;have HJK:=lHd hJ;clear hM hJ
  by_cases hlt:k < t.ops.length
  ·by_cases hc:xWo t.ops l (k:Int)
   ·have HCV:=lHd hc;clear hc
    gi_wp2_with (fail)
    refine⟨trivial,CallsIn.mono (callsIn_wide.2 (xVw _ t Ai Ag Ao ci cg co (HT.out.below HM.out.low) S cs l HM.out.st HLT.out HV.out k hlt true ⟨fun _=>rfl,fun _=>HCV.out⟩)) ?_⟩;rintro e w1 ⟨rfl,hB1⟩;have HM1:=lHd (HM.out.below hB1);have HJ1:=lHd (HJ.out pre wk w1 none HJK.out (xV1 hB1) (fun r e=>by cases e));have hs1:=hB1.size;have hu0:=HM1.out.tb.cell 0;have hu1:=HM1.out.tb.cell 1;have hu2:=HM1.out.tb.cell 2;have hu3:=HM1.out.tb.cell 3;have hus:=HM1.out.sb.cell 0;obtain⟨o,ho,hpre⟩:∃ o,t.ops[k]? = some o/\∀ q∈o.pre,q∈l:=by obtain⟨o,h1,h2⟩:=HCV.out;exact⟨o,by rw[Int.toNat_natCast] at h1;exact h1,h2⟩
    have HMEM:Hid ((k,o,xJ5 n l o)∈xJm n t.ops l t.ops.length):=xJz.2 ⟨hlt,ho,hpre,rfl⟩;have HOP:Hid (xZ4 t.ops (k:Int)=o):=xV4 (by rw[Int.toNat_natCast];exact ho);clear ho hpre hB1
    gi_wp2_with (fail)
    refine⟨trivial,CallsIn.mono (callsIn_wide.2 (zJp _ t Ai Ag Ao ci cg co (HR.out.below HM1.out.low) S cs l HM1.out.st HLT.out n HN.out HV.out k hlt)) ?_⟩;rintro e w2 ⟨v2,rfl,hO2,hB2⟩;rw[HOP.out] at hO2;obtain⟨fn,tmps,assign,body,hy,hRR⟩:=HY.out pre (⟨(k,o,xJ5 n l o),HMEM.out⟩,v2) w2 (HJ.out pre w1 w2 none HJ1.out (xV1 hB2) (fun r e=>by cases e)) (OwnI.mono hO2 (by omega));have HM2:=lHd (HM1.out.below hB2);have hs2:=hB2.size;unfold zK3 at hy;dsimp only at hy;clear hO2 hB2
    gi_wp2
    refine hRR.mono ?_;rintro e w3 ⟨rfl,hJ3,hk3⟩;have HM3:=lHd (HM2.out.keep hk3);have hs3:=hk3.1.size;clear hk3
    gi_wp2
    go_roundw
    case rel=>exact⟨k+1,_,by omega,by go_num,hJ3,HM3.out,by omega⟩
    case measure=>simp[intOf];omega
   ·have HCV:=lHd hc;clear hc
    gi_wp2_with (fail)
    refine⟨trivial,CallsIn.mono (callsIn_wide.2 (xVw _ t Ai Ag Ao ci cg co (HT.out.below HM.out.low) S cs l HM.out.st HLT.out HV.out k hlt false ⟨fun h=>absurd h HCV.out,fun h=>by cases h⟩)) ?_⟩;rintro e w1 ⟨rfl,hB1⟩;have HM1:=lHd (HM.out.below hB1);have HJ1:=lHd (HJ.out pre wk w1 none HJK.out (xV1 hB1) (fun r e=>by cases e));have hs1:=hB1.size;clear hB1
    gi_wp2
    refine⟨trivial,?_⟩
    gi_wp2
    refine⟨fun _ h=>(by cases h),?_⟩
    gi_wp2
    go_roundw
    case rel=>exact⟨k+1,pre,by omega,by go_num,HJ1.out,HM1.out,by omega⟩
    case measure=>simp[intOf];omega
  ·gi_wp2
   go_end0
   exact⟨⟨_,rfl⟩,pre,trivial,HJK.out⟩
end
def vYi(n:Nat)(t:TaskV)(w:World)(e:Ending)(w':World):Prop:=Below w.heap.size w w' /\
 (
   (∃ x:Int,e=.returned (.agg #[.bool false,.slice none 0 0,.int .i64 0,.int .i64 x])/\∀ ps,¬ Fp n t.ops t.goal t.init ps) \/
   ∃ (v:Option Addr) (v1 v2:Nat) (c x:Int) (ps:List Nat),e=.returned (.agg #[.bool true,.slice v v1 v2,.int .i64 c,.int .i64 x])/\Fp n t.ops t.goal t.init ps/\xJ6 (t.ops.map (·.cost)) ps=c/\∀ qs,Fp n t.ops t.goal t.init qs->c<=xJ6 (t.ops.map (·.cost)) qs)
theorem Cls.lowJ{B:Nat}{W W':World}:∀ {l:List (Nat×Nat×Value)},Cls W l->Below B W W'->(∀ x∈l,x.1 < B)->Cls W' l
 | [],_,_,_=>trivial
 | (b,k,v) :: l,h,hb,hl=>⟨⟨(hb.cell (p:=⟨b,k,none⟩) (hl (b,k,v) (List.mem_cons_self ..))).trans h.1.1,(hb.frozen (p:=⟨b,k,none⟩) (hl (b,k,v) (List.mem_cons_self ..))).trans h.1.2⟩,Cls.lowJ h.2 hb (fun x hx=>hl x (List.mem_cons_of_mem _ hx))⟩
def IX(bn bh:Nat)(vN vl:Value)(z:Nat):Prop:=z=bn\/z=bh\/vN.ownBlock=some z\/vl.ownBlock=some z
theorem vXg{w:World}{g B n:Nat}{e:TypeId}{size:Nat}{cs:List Value}(hA:Arr w g e cs)(hB:B<=g)(hl:cs.length=n * size)(hn:n<=1000):w.ownsRow B e size (.slice (some ⟨g,0,none⟩) n n) n cs:=by
 refine⟨hl,Or.inr ⟨g,n,cs.toArray,rfl,hB,hA,Nat.le_refl _,by simp only[maxLen];omega,by simpa using hl,?_⟩⟩;simp[<- hl]
theorem vQo{W:World}{B:Nat}{A:Option Addr}{c:Nat}{st:List Int}(hs:W.heap.size=B+1+1+1)(ho:Arr W (B+1+1) 32 [.bool false,.slice none 0 0,.int .i64 0,.int .i64 0])(hI:Ints W A st)(hb:st≠[]->∀ ad,A=some ad->ad.block < B) :
  SM (B+1+1+1) (B+1+1+1+1) (B+1+1+1+1+1+1) (B+1+1+1+1+1+1+1) (B+1+1) (((((W.alloc (.cells #[.slice A st.length c,.int .i64 0,.int .i64 (-1),.int .i64 0] 129)).alloc (.cells #[.slice (some ⟨B+1+1+1,0,none⟩) 1 1] 130)).alloc (.cells #[.int .i64 0] 3)).alloc (.cells #[.pointer (some ⟨B+1+1+1+1,0,none⟩),.slice (some ⟨B+1+1+1+1+1,0,none⟩) 1 1] 134)).alloc (.map #[] 0))
   (.slice (some ⟨B+1+1+1,0,none⟩) 1 1) (.slice (some ⟨B+1+1+1+1+1,0,none⟩) 1 1) [⟨st,0,-1,0⟩] [0] 0 (fun _=>none) 0:=by
 have hN:=((((Arr.new_at W (B+1+1+1) hs.symm 129 [.slice A st.length c,.int .i64 0,.int .i64 (-1),.int .i64 0]).alloc (.cells #[.slice (some ⟨B+1+1+1,0,none⟩) 1 1] 130)).alloc (.cells #[.int .i64 0] 3)).alloc (.cells #[.pointer (some ⟨B+1+1+1+1,0,none⟩),.slice (some ⟨B+1+1+1+1+1,0,none⟩) 1 1] 134)).alloc (.map #[] 0);have hL:=((Arr.new_at ((W.alloc (.cells #[.slice A st.length c,.int .i64 0,.int .i64 (-1),.int .i64 0] 129)).alloc (.cells #[.slice (some ⟨B+1+1+1,0,none⟩) 1 1] 130)) (B+1+1+1+1+1) (by simp[hs]) 3 [.int .i64 0]).alloc (.cells #[.pointer (some ⟨B+1+1+1+1,0,none⟩),.slice (some ⟨B+1+1+1+1+1,0,none⟩) 1 1] 134)).alloc (.map #[] 0);have hbel:Below W.heap.size W (((((W.alloc (.cells #[.slice A st.length c,.int .i64 0,.int .i64 (-1),.int .i64 0] 129)).alloc (.cells #[.slice (some ⟨B+1+1+1,0,none⟩) 1 1] 130)).alloc (.cells #[.int .i64 0] 3)).alloc (.cells #[.pointer (some ⟨B+1+1+1+1,0,none⟩),.slice (some ⟨B+1+1+1+1+1,0,none⟩) 1 1] 134)).alloc (.map #[] 0)):=bch;refine⟨⟨_,vXg (n:=1) hN (by omega) rfl (by decide),fun i nd hi=>?_⟩,((((Arr.new_at _ _ (by simp[hs]) _ _).alloc _).alloc _).alloc _),vXg (n:=1) hL (by omega) rfl (by decide),((Arr.new_at _ _ (by simp[hs]) _ _).alloc _),?_,ho.below hbel⟩
 ·have h1:=(List.getElem?_eq_some_iff.1 hi).1;simp at h1;subst h1;simp at hi;subst hi;refine⟨A,c,rfl,hI.below hbel,fun hr ad e=>?_⟩;have:=hb hr ad e;refine⟨?_,fun e2=>?_⟩
  ·rintro (h | h | h | h | h)
   ·omega
   ·omega
   ·omega
   ·omega
   ·injection h with h
    have h:B+1+1+1+1+1=ad.block:=h;omega
  ·injection e2 with e2
   have e2:ad.block=B+1+1+1:=e2;omega
 ·have h:=MapG.made ((((W.alloc (.cells #[.slice A st.length c,.int .i64 0,.int .i64 (-1),.int .i64 0] 129)).alloc (.cells #[.slice (some ⟨B+1+1+1,0,none⟩) 1 1] 130)).alloc (.cells #[.int .i64 0] 3)).alloc (.cells #[.pointer (some ⟨B+1+1+1+1,0,none⟩),.slice (some ⟨B+1+1+1+1+1,0,none⟩) 1 1] 134));rw[show ((((W.alloc (.cells #[.slice A st.length c,.int .i64 0,.int .i64 (-1),.int .i64 0] 129)).alloc (.cells #[.slice (some ⟨B+1+1+1,0,none⟩) 1 1] 130)).alloc (.cells #[.int .i64 0] 3)).alloc (.cells #[.pointer (some ⟨B+1+1+1+1,0,none⟩),.slice (some ⟨B+1+1+1+1+1,0,none⟩) 1 1] 134)).heap.size=B+1+1+1+1+1+1+1 by simp[hs]] at h;exact h
theorem vYk(w:World)(t:TaskV)(Ai Ag Ao:Option Addr)(ci cg co:Nat)(hT:TaskMem w Ai Ag Ao t)(hR:OpsRead w Ao t.ops)(n:Nat)(hn:t.facts=n)(hv:Valid t)(ls:List (List Int))(hC:Clos n t.ops t.init ls)(hls:ls.length<=2000) :
  Calls Tryz.prog 23 #[.agg #[.int .i64 t.facts,.slice Ai t.init.length ci,.slice Ag t.goal.length cg,.slice Ao t.ops.length co]] w (vYi n t w):=by
 have HV:=lHd hv;have HC:=lHd hC;have HN:=lHd hn;have HT:=lHd hT;have HR:=lHd hR;have hn24:n<=24:=by have:=hv.f1;omega
 have HR0:Hid (∀ o∈t.ops,∀ q∈o.pre,0<=q/\q < (n:Int)):=fun o ho q hq=>by have h:=(hv.ops o ho).1.1.1 q hq;rw[hn] at h;exact h
 have HC0:Hid (∀ o∈t.ops,0<=o.cost/\o.cost<=100):=fun o ho=>(hv.ops o ho).2
 have hlg:=hT.lgoal.le;have HGS:=lHd hv.goal;have HI0:Hid (t.init≠[]->∀ ad,Ai=some ad->ad.block < w.heap.size):=fun hr ad e=>by have h:=hT.init;subst e;exact xZz h hr
 have hmm:=@run_makeMap Tryz.prog;clear hv hC hn hT hR;go_enter Tryz.func23,Tryz.ntmps23
 go_wp2_with fail
 go_loopg [7] (82042) (fun gk kv wr=>∃ (vN vl:Value) (N:List NodeV) (L:List Nat) (C:List (List Int)) (cl:List Int->Option Int) (nc:Nat) (f:Int->Option Value) (x:Int),SM (w.heap.size+1+1+1) (w.heap.size+1+1+1+1) (w.heap.size+1+1+1+1+1+1) (w.heap.size+1+1+1+1+1+1+1) (w.heap.size+1+1) wr vN vl N L nc f x/\Hid (SI n t.ops t.goal t.init ls N L C cl f)/\Hid (nc=C.length)/\Hid (gk=41 * (2001 - C.length)+L.length)/\Below w.heap.size w wr/\Cls wr [(w.heap.size,0,.int .i64 t.facts),(w.heap.size,1,.slice Ai t.init.length ci),(w.heap.size,2,.slice Ag t.goal.length cg),(w.heap.size,3,.slice Ao t.ops.length co),(w.heap.size+1,0,.bool false),(w.heap.size+1,1,.slice none 0 0),(w.heap.size+1,2,.int .i64 0),(w.heap.size+1,3,.int .i64 0)])
 case atStart=>
  refine⟨_,_,[⟨t.init,0,-1,0⟩],[0],[],(fun _=>none),0,(fun _=>none),0,vQo (by simp) (Arr.new_at _ _ (by simp) _ _) (HT.out.init.below bch) HI0.out,SI.start HC.out,rfl,rfl,bch,(by simp[Cls,go_sem])⟩
 case round=>
  obtain⟨vN,vl,N,L,C,cl,nc,f,x,hSM,hSI,hnc,hgk,hBr,hCr⟩:=hrel;obtain⟨wk,rfl⟩:∃ wo:World,wo=wr:=⟨_,rfl⟩;have Fr:=hCr;simp only[Cls,and_true] at Fr;have yrw1:w.heap.size+1 < wk.heap.size:=hCr.blk (b:=w.heap.size+1) (k:=0) (v:=.bool false) (by simp);have hNne:N≠[]:=fun e=>by obtain⟨_,h,_⟩:=hSI.out.dn.n0;subst e;cases h
  obtain⟨gn,cn,rfl⟩:=hSM.nform hNne;obtain⟨A,c,rfl,hlc1,hlc2⟩:=hSM.lform;have hfew:C.length<=2000:=Nat.le_trans hSI.out.few hls;have hNl:N.length<=80001:=by have:=hSI.out.nlen;omega
  have hLl:L.length<=80001:=by have:=hSI.out.llen;omega
  have hb0:=hSM.hbox.cell 0;have hb1:=hSM.hbox.cell 1;have ho0:=hSM.obox.cell 0;have ho1:=hSM.obox.cell 1;have ho2:=hSM.obox.cell 2;have ho3:=hSM.obox.cell 3;have HSM:=lHd hSM;have hml:=hSM.map.lt;clear hNne hSM
  by_cases h0:L.length=0
  ·have hL0:L=[]:=List.length_eq_zero_iff.1 h0;subst hL0;have hno:Hid (∀ ps,¬ Fp n t.ops t.goal t.init ps):=fun ps hf=>hSI.out.none HR0.out (fun o ho=>(HC0.out o ho).1) hf
   have hlc0:wk.cell? ⟨w.heap.size+1+1+1+1+1+1,1,none⟩=some (.slice A 0 c):=hb1;clear hSI h0
   go_wp2_with (go_at_call 66;refine (xWv _ 0 c A _ hlc0).mono ?_;rintro e w' ⟨rfl,rfl⟩)
   refine bodyPost_ret (v:=.agg #[.bool false,.slice none 0 0,.int .i64 0,.int .i64 x]) ?_ rfl ⟨bch,.inl ⟨x,rfl,hno.out⟩⟩;simp[results,Tryz.results23,go_sem,Fr,yrw1]
  ·have hL0:0 < L.length:=by omega
   have hji:Hid (∀ j∈L,j < N.length):=fun j hj=>hSI.out.ds.lt j hj
   have hpop:=vJp (HSM.out.cn (by omega) (by omega)) (HSM.out.ch (by omega) hji.out (by omega)) hL0 hSI.out.hp;have hl0:(0:Int) < (L.length:Int):=by omega
   clear h0 hL0
   go_wp2_with (go_at_call 66;refine (xWv _ L.length c A _ hb1).mono ?_;rintro e w' ⟨rfl,rfl⟩)
   go_at_call 67;refine hpop.mono ?_;rintro e w1 ⟨k,l,rfl,hCH,hkN,hheap,hperm,hmin⟩;obtain⟨A1,c1,hSM1,-⟩:=HSM.out.heaped (by omega) hCH;have hD1:=hCH.fr.toBelow (B:=(w.heap.size+1+1+1)) (by rintro k (h | h) <;> first | omega | exact (HSM.out.lrow.lt _ h).1) (by omega);have D1:Below w.heap.size w w1:=hBr.trans (hD1.mono (by omega));have hsz1:=hD1.size;have C1:Cls w1 [(w.heap.size,0,.int .i64 t.facts),(w.heap.size,1,.slice Ai t.init.length ci),(w.heap.size,2,.slice Ag t.goal.length cg),(w.heap.size,3,.slice Ao t.ops.length co),(w.heap.size+1,0,.bool false),(w.heap.size+1,1,.slice none 0 0),(w.heap.size+1,2,.int .i64 0),(w.heap.size+1,3,.int .i64 0)]:=Cls.lowJ hCr hD1 (fun x hx=>by simp at hx;rcases hx with rfl | rfl | rfl | rfl | rfl | rfl | rfl | rfl <;> (dsimp only;omega));have F1:=C1;simp only[Cls,and_true] at F1;have y1w1:w.heap.size+1 < w1.heap.size:=C1.blk (b:=w.heap.size+1) (k:=0) (v:=.bool false) (by simp);have y1w0:w.heap.size < w1.heap.size:=(by omega);obtain⟨nd,hnd⟩:∃ nd,N[k]? = some nd:=⟨_,lGe hkN⟩;obtain⟨g1,S,cs,e1,hk0,hk1,hk2,hk3,hIS,hXS⟩:=OwnNd.rd hSM1.nrow hnd;injection e1 with e1;injection e1 with e1;subst e1
   have HND:=lHd hnd;have hnl:=hSI.out.inl k nd hnd;have hss:=HC.out.set _ hnl;have HSS:=lHd hss;have hwrd:=hss.wrd hn24;have has:=fun W=>zKp (k:Int) W
   have hbn1:=hSM1.nbox.cell 0;have HSM1:=lHd hSM1;have HPERM:=lHd hperm;have HMIN:=lHd hmin;have HHEAP:=lHd hheap;have HIS:=lHd hIS;have HXS:=lHd hXS;have HSMn:Hid (SM (w.heap.size+1+1+1) (w.heap.size+1+1+1+1) (w.heap.size+1+1+1+1+1+1) (w.heap.size+1+1+1+1+1+1+1) (w.heap.size+1+1) (w1.alloc (.cells #[.slice S nd.state.length cs,.int .i64 nd.cost,.int .i64 nd.parent,.int .i64 nd.op] 129)) (.slice (some ⟨gn,0,none⟩) N.length cn) (.slice A1 l.length c1) N l nc f x):=hSM1.below bch;have hMapn:=HSMn.out.map;have hlen1:=hperm.length_eq;rw[List.length_append] at hlen1;obtain⟨vv,hvv⟩:∃ vv,Hid ((f (xJ0 nd.state)).getD (.int .i64 0)=vv):=⟨_,lHd rfl⟩;clear hCH hnd hnl hss hperm hmin hheap hIS hXS hSM1 hpop
   cases hfs:(f (xJ0 nd.state)).isSome with
   | true=>
    have HFS:=lHd hfs;have HSI2:=lHd (hSI.out.skip HPERM.out HHEAP.out HND.out HSS.out hfs);clear hfs
    go_wp2_with (first | (go_at_call 64;refine (xK1 S cs nd.state _ (HIS.out.below bch) n HSS.out hn24).mono ?_;rintro e w' ⟨rfl,rfl⟩) | (at_lookup;refine xZb rfl (.tmp 33) (.tmp 36) 125 rfl 3 Tryz.underlying125 (xK2 _) rfl hMapn (xJ0 nd.state) rfl hwrd vv true hvv.out HFS.out ?_))
    go_roundg (41 * (2001 - C.length)+l.length)
    case measure=>have:=hgk.out;simp at hlen1;omega
    case rel=>exact⟨_,_,N,l,C,cl,nc,f,x,HSMn.out,HSI2,hnc,rfl,bch,(by simp[Cls,go_sem,F1,y1w1,y1w0])⟩
   | false=>
    have HFS:=lHd hfs;clear hfs;have hC1:C.length+1<=2000:=by
     have h1:¬ nd.state∈C:=fun e=>by have h2:=(hSI.out.shut HSS.out).2 e;rw[HFS.out] at h2;cases h2
     have h3:=xX8 (List.nodup_cons.2 ⟨h1,hSI.out.cnd⟩) (b:=ls) (fun y hy=>by
      rcases List.mem_cons.1 hy with e | e
      ·rw[e];exact hSI.out.inl k nd HND.out
      ·exact hSI.out.csub y e)
     rw[List.length_cons] at h3;omega
    have hncl:=hnc.out
    by_cases hg:∀ q∈t.goal,q∈nd.state
    ·obtain⟨⟨ps,hU,hFp,hcost,hpl⟩,hbest⟩:=hSI.out.best HR0.out (fun o ho=>(HC0.out o ho).1) HPERM.out HMIN.out HND.out hg;have HU:=lHd hU;have HFP:=lHd hFp;have HCO:=lHd hcost;have HB:=lHd hbest;have HG:=lHd hg;clear hU hFp hcost hbest hg;have hsl:nd.state.length<=24:=by have:=HSS.out.length (by omega);omega
     go_wp2_with (first | (go_at_call 64;refine (xK1 S cs nd.state _ (HIS.out.below bch) n HSS.out hn24).mono ?_;rintro e w' ⟨rfl,rfl⟩) | (at_lookup;refine xZb rfl (.tmp 33) (.tmp 36) 125 rfl 3 Tryz.underlying125 (xK2 _) rfl hMapn (xJ0 nd.state) rfl hwrd vv false hvv.out HFS.out ?_) | (at_mapUpdate;refine xYe rfl (.tmp 41) (.tmp 44) (.tmp 45) 125 rfl 3 Tryz.underlying125 rfl hMapn (by omega) (xJ0 nd.state) (.int .i64 (k:Int)) rfl rfl hwrd ?_;intro w2 hM2 hg2;have HSM2:=lHd (HSMn.out.closed (by omega) hg2 hM2);have hE2:Below (w.heap.size+1+1+1) (w1.alloc (.cells #[.slice S nd.state.length cs,.int .i64 nd.cost,.int .i64 nd.parent,.int .i64 nd.op] 129)) w2:=(Below.refl _ _).grown hg2 (by simp;omega) (fun z e=>by injection e with e;omega);have D2:Below w.heap.size w w2:=Below.trans bch (hE2.mono (by omega));have d2s:=D2.size;have C2:Cls w2 [(w.heap.size,0,.int .i64 t.facts),(w.heap.size,1,.slice Ai t.init.length ci),(w.heap.size,2,.slice Ag t.goal.length cg),(w.heap.size,3,.slice Ao t.ops.length co),(w.heap.size+1,0,.bool false),(w.heap.size+1,1,.slice none 0 0),(w.heap.size+1,2,.int .i64 0),(w.heap.size+1,3,.int .i64 0)]:=Cls.lowJ (show Cls (w1.alloc (.cells #[.slice S nd.state.length cs,.int .i64 nd.cost,.int .i64 nd.parent,.int .i64 nd.op] 129)) [(w.heap.size,0,.int .i64 t.facts),(w.heap.size,1,.slice Ai t.init.length ci),(w.heap.size,2,.slice Ag t.goal.length cg),(w.heap.size,3,.slice Ao t.ops.length co),(w.heap.size+1,0,.bool false),(w.heap.size+1,1,.slice none 0 0),(w.heap.size+1,2,.int .i64 0),(w.heap.size+1,3,.int .i64 0)] from by simp[Cls,go_sem,F1,y1w1,y1w0]) hE2 (fun x hx=>by simp at hx;rcases hx with rfl | rfl | rfl | rfl | rfl | rfl | rfl | rfl <;> (dsimp only;omega));have hA2:Arr w2 w1.heap.size 129 [.slice S nd.state.length cs,.int .i64 nd.cost,.int .i64 nd.parent,.int .i64 nd.op]:=Arr.grown (Arr.new w1 129 _) hg2 (fun e=>by injection e with e;omega);have hn0:=hA2.cell 0;have hn1:=hA2.cell 1;have hbn2:=HSM2.out.nbox.cell 0;have ho23:=HSM2.out.obox.cell 3;have hf23:=HSM2.out.obox.free 3;have hIS2:Ints w2 S nd.state:=(HIS.out.below bch).grown2 hg2 (fun hr ad e e2=>(HXS.out hr ad e).1 (.inr (.inr (.inl (by injection e2)))));have F2:=C2;simp only[Cls,and_true] at F2;have y2w1:w.heap.size+1 < w2.heap.size:=C2.blk (b:=w.heap.size+1) (k:=0) (v:=.bool false) (by simp);have y2w0:w.heap.size < w2.heap.size:=(by omega);have y2wp1:w.heap.size < w2.heap.size+1:=(by omega);have y2wp2:w.heap.size < w2.heap.size+1+1:=(by omega)) | (go_at_call 68;refine (xZk S Ag cs cg nd.state t.goal _ true hIS2 (HT.out.goal.below bch) (by omega) hlg HSS.out.pairwise HGS.out.pairwise ⟨fun _=>rfl,fun _=>HG.out⟩).mono ?_;rintro e w' ⟨rfl,rfl⟩))
     have hSS0:w2.drew.cell? ⟨w.heap.size+1+1+1+1,0,none⟩=some (.slice (some ⟨gn,0,none⟩) N.length cn)/\w2.drew.cell? ⟨w1.heap.size,1,none⟩=some (.int .i64 nd.cost)/\w2.drew.cell? ⟨w.heap.size+1+1,3,none⟩=some (.int .i64 x):=⟨hbn2,hn1,ho23⟩;refine xJk (fun W=>W.cell? ⟨w.heap.size+1+1+1+1,0,none⟩=some (.slice (some ⟨gn,0,none⟩) N.length cn)/\W.cell? ⟨w1.heap.size,1,none⟩=some (.int .i64 nd.cost)/\W.cell? ⟨w.heap.size+1+1,3,none⟩=some (.int .i64 x)) [8] (by kernel_rfl) ?_;have hSS:=hSS0;refine xJ1 (i:=0) (v:=?vz10) rfl (by kernel_rfl) (by kernel_rfl) (by kernel_rfl) (by kernel_rfl) (by kernel_rfl) (fun _ _ _ h=>h) (Or.inl ⟨by rfl,?hz10⟩) (by assumption) ?rz10
     case hz10=>(intro w hSw;(try dsimp only at hSw);go_simp;(try with_reducible rfl))
     try simp only[ap]
     refine xJ1 (i:=1) (v:=?vz11) rfl (by kernel_rfl) (by kernel_rfl) (by kernel_rfl) (by kernel_rfl) (by kernel_rfl) (fun _ _ _ h=>h) (Or.inl ⟨by rfl,?hz11⟩) (by assumption) ?rz11
     case hz11=>(intro w hSw;(try dsimp only at hSw);go_simp;(try with_reducible rfl))
     try simp only[ap]
     refine xJ1 (i:=3) (v:=?vz13) rfl (by kernel_rfl) (by kernel_rfl) (by kernel_rfl) (by kernel_rfl) (by kernel_rfl) (fun _ _ _ h=>h) (Or.inl ⟨by rfl,?hz13⟩) (by assumption) ?rz13
     case hz13=>(intro w hSw;(try dsimp only at hSw);go_simp;(try with_reducible rfl))
     try simp only[ap]
     refine xJ1 (i:=4) (v:=?vz14) rfl (by kernel_rfl) (by kernel_rfl) (by kernel_rfl) (by kernel_rfl) (by kernel_rfl) (fun _ _ _ h=>h) (Or.inl ⟨by rfl,?hz14⟩) (by assumption) ?rz14
     case hz14=>(intro w hSw;(try dsimp only at hSw);go_simp;(try with_reducible rfl))
     try simp only[ap]
     refine xJ1 (i:=5) (v:=?vz15) rfl (by kernel_rfl) (by kernel_rfl) (by kernel_rfl) (by kernel_rfl) (by kernel_rfl) (fun _ _ _ h=>h) (Or.inl ⟨by rfl,?hz15⟩) (by assumption) ?rz15
     case hz15=>(intro w hSw;(try dsimp only at hSw);go_simp;(try with_reducible rfl))
     try simp only[ap]
     refine xJ1 (i:=6) (v:=?vz16) rfl (by kernel_rfl) (by kernel_rfl) (by kernel_rfl) (by kernel_rfl) (by kernel_rfl) (fun _ _ _ h=>h) (Or.inl ⟨by rfl,?hz16⟩) (by assumption) ?rz16
     case hz16=>(intro w hSw;(try dsimp only at hSw);go_simp;(try with_reducible rfl))
     try simp only[ap]
     refine xJ4 (i:=2) (by kernel_rfl) rfl (fun K hK=>?_);go_simp;refine (zW9 _ gn cn N (fun j nj hj=>by (obtain⟨g2,S2,cs2,e2,-,-,a2,a3,-⟩:=OwnNd.rd HSM2.out.nrow hj);injection e2 with e2;injection e2 with e2;subst e2;exact⟨a2,a3⟩) k ps HU.out (by omega)).mono ?_;rintro e w3 ⟨hB3,v3,rfl,hO3⟩;obtain⟨A3,c3,hv3,-,-⟩:=hO3.form;subst hv3;have D3:=xJ3 w hB3 bch;have C3:Cls w3 [(w.heap.size,0,.int .i64 t.facts),(w.heap.size,1,.slice Ai t.init.length ci),(w.heap.size,2,.slice Ag t.goal.length cg),(w.heap.size,3,.slice Ao t.ops.length co),(w.heap.size+1,0,.bool false),(w.heap.size+1,1,.slice none 0 0),(w.heap.size+1,2,.int .i64 0),(w.heap.size+1,3,.int .i64 0)]:=Cls.below (w:=w2.drew) hB3 C2;have k3:∀ {p:Addr} {u:Value},w2.cell? p=some u->w3.cell? p=some u:=fun {p u} hc=>(hB3.cell (World.block_lt_of_cell? w2 _ hc)).trans hc
     have hSS:w3.cell? ⟨w.heap.size+1+1+1+1,0,none⟩=some (.slice (some ⟨gn,0,none⟩) N.length cn)/\w3.cell? ⟨w1.heap.size,1,none⟩=some (.int .i64 nd.cost)/\w3.cell? ⟨w.heap.size+1+1,3,none⟩=some (.int .i64 x):=⟨k3 hbn2,k3 hn1,k3 ho23⟩;have F3:=C3;simp only[Cls,and_true] at F3
     go_wp2_with fail
     refine hK.out _ _ hSS ?_;clear hK K
     try simp only[ap]
     refine xJ1 (i:=7) (v:=?vz17) rfl (by kernel_rfl) (by kernel_rfl) (by kernel_rfl) (by kernel_rfl) (by kernel_rfl) (fun _ _ _ h=>h) (Or.inl ⟨by rfl,?hz17⟩) (by assumption) ?rz17
     case hz17=>(intro w hSw;(try dsimp only at hSw);go_simp;(try with_reducible rfl))
     try simp only[ap]
     refine xJd (i:=8) (by kernel_rfl) rfl (by kernel_rfl) (fun K hK=>?_);go_simp
     go_wp2_with fail
     refine hK.out _ _ ?_;clear hK K
     try simp only[ap]
     refine xJ8 (by kernel_rfl) ?_ _;go_wp2;refine bodyPost_ret (v:=.agg #[.bool true,.slice A3 (ps.map Int.ofNat).length c3,.int .i64 nd.cost,.int .i64 x]) ?_ rfl ⟨bch,.inr ⟨_,_,_,nd.cost,x,ps,rfl,HFP.out,HCO.out,HB.out⟩⟩;simp[results,Tryz.results23,go_sem,F3]
    ·have HG:=lHd hg;obtain⟨y,hy⟩:∃ y,wrap64 (x+1)=y:=⟨_,rfl⟩;have hgf:(∀ q∈t.goal,q∈nd.state)↔false=true:=⟨fun h=>absurd h hg,fun h=>by cases h⟩;have HGF:=lHd hgf;have hst2:SetP nd.state t.facts:=by rw[HN.out];exact HSS.out
     have HST2:=lHd hst2;clear hg hgf hst2;have hsl:nd.state.length<=24:=by have:=HSS.out.length (by omega);omega
     go_wp2_with (first | (go_at_call 64;refine (xK1 S cs nd.state _ (HIS.out.below bch) n HSS.out hn24).mono ?_;rintro e w' ⟨rfl,rfl⟩) | (at_lookup;refine xZb rfl (.tmp 33) (.tmp 36) 125 rfl 3 Tryz.underlying125 (xK2 _) rfl hMapn (xJ0 nd.state) rfl hwrd vv false hvv.out HFS.out ?_) | (at_mapUpdate;refine xYe rfl (.tmp 41) (.tmp 44) (.tmp 45) 125 rfl 3 Tryz.underlying125 rfl hMapn (by omega) (xJ0 nd.state) (.int .i64 (k:Int)) rfl rfl hwrd ?_;intro w2 hM2 hg2;have HSM2:=lHd (HSMn.out.closed (by omega) hg2 hM2);have hE2:Below (w.heap.size+1+1+1) (w1.alloc (.cells #[.slice S nd.state.length cs,.int .i64 nd.cost,.int .i64 nd.parent,.int .i64 nd.op] 129)) w2:=(Below.refl _ _).grown hg2 (by simp;omega) (fun z e=>by injection e with e;omega);have D2:Below w.heap.size w w2:=Below.trans bch (hE2.mono (by omega));have d2s:=D2.size;have C2:Cls w2 [(w.heap.size,0,.int .i64 t.facts),(w.heap.size,1,.slice Ai t.init.length ci),(w.heap.size,2,.slice Ag t.goal.length cg),(w.heap.size,3,.slice Ao t.ops.length co),(w.heap.size+1,0,.bool false),(w.heap.size+1,1,.slice none 0 0),(w.heap.size+1,2,.int .i64 0),(w.heap.size+1,3,.int .i64 0)]:=Cls.lowJ (show Cls (w1.alloc (.cells #[.slice S nd.state.length cs,.int .i64 nd.cost,.int .i64 nd.parent,.int .i64 nd.op] 129)) [(w.heap.size,0,.int .i64 t.facts),(w.heap.size,1,.slice Ai t.init.length ci),(w.heap.size,2,.slice Ag t.goal.length cg),(w.heap.size,3,.slice Ao t.ops.length co),(w.heap.size+1,0,.bool false),(w.heap.size+1,1,.slice none 0 0),(w.heap.size+1,2,.int .i64 0),(w.heap.size+1,3,.int .i64 0)] from by simp[Cls,go_sem,F1,y1w1,y1w0]) hE2 (fun x hx=>by simp at hx;rcases hx with rfl | rfl | rfl | rfl | rfl | rfl | rfl | rfl <;> (dsimp only;omega));have hA2:Arr w2 w1.heap.size 129 [.slice S nd.state.length cs,.int .i64 nd.cost,.int .i64 nd.parent,.int .i64 nd.op]:=Arr.grown (Arr.new w1 129 _) hg2 (fun e=>by injection e with e;omega);have hn0:=hA2.cell 0;have hn1:=hA2.cell 1;have hbn2:=HSM2.out.nbox.cell 0;have ho23:=HSM2.out.obox.cell 3;have hf23:=HSM2.out.obox.free 3;have hIS2:Ints w2 S nd.state:=(HIS.out.below bch).grown2 hg2 (fun hr ad e e2=>(HXS.out hr ad e).1 (.inr (.inr (.inl (by injection e2)))));have F2:=C2;simp only[Cls,and_true] at F2;have y2w1:w.heap.size+1 < w2.heap.size:=C2.blk (b:=w.heap.size+1) (k:=0) (v:=.bool false) (by simp);have y2w0:w.heap.size < w2.heap.size:=(by omega);have y2wp1:w.heap.size < w2.heap.size+1:=(by omega);have y2wp2:w.heap.size < w2.heap.size+1+1:=(by omega)) | (go_at_call 68;refine (xZk S Ag cs cg nd.state t.goal _ false hIS2 (HT.out.goal.below bch) (by omega) hlg HSS.out.pairwise HGS.out.pairwise HGF.out).mono ?_;rintro e w' ⟨rfl,rfl⟩))
     have HSM3:=lHd (HSM2.out.counted (by omega) y);have hIS3:Ints (w2.setCell ⟨w.heap.size+1+1,3,none⟩ (.int .i64 y)) S nd.state:=Ints.kept hIS2 ((Kept.refl (fun k=>k=w.heap.size+1+1) w2).set (p:=⟨w.heap.size+1+1,3,none⟩) (.inl rfl) _) (fun hr ad e e2=>(HXS.out hr ad e).1 (.inr (.inr (.inr (.inl e2)))));refine (zYt _ t Ai Ag Ao ci cg co (HT.out.below bch) S cs nd.state hIS3 HST2.out HV.out HG.out).mono ?_;rintro e w4 ⟨hB4,v4,outs,rfl,hO4,hol,Sx,hstub,hsnd,hall⟩;obtain⟨A4,c4,hv4,-,hI4⟩:=hO4.form;subst hv4;have hs24:=hB4.size;simp only[World.size_setCell] at hs24;have hgn1:gn < w1.heap.size:=(HSM1.out.nrow.own.choose_spec.lt gn rfl).2;have hgnb:w.heap.size+1+1+1<=gn:=(HSM1.out.nrow.own.choose_spec.lt gn rfl).1;have hl1:=HSM1.out.lrow.lt;have h12:w1.heap.size < w2.heap.size:=hA2.lt;have HIxl:Hid (∀ z,(IX (w.heap.size+1+1+1+1) (w.heap.size+1+1+1+1+1+1) (.slice (some ⟨gn,0,none⟩) N.length cn) (.slice A1 l.length c1)) z->w.heap.size+1+1+1<=z/\z < w1.heap.size):=by
      rintro z (h | h | h | h)
      ·omega
      ·omega
      ·have h:gn=z:=by injection h
       omega
      ·exact hl1 z h
     have D4:Below w.heap.size w w4:=xJ3 w hB4 bch;have HSM4:=lHd (HSM3.out.below hB4);have hA4:Arr w4 w1.heap.size 129 [.slice S nd.state.length cs,.int .i64 nd.cost,.int .i64 nd.parent,.int .i64 nd.op]:=(hA2.far (p:=⟨w.heap.size+1+1,3,none⟩) (by show ¬ w.heap.size+1+1=w1.heap.size;omega) _).below hB4;have HA4:=lHd hA4;have HIS4:=lHd (hIS3.below hB4);have HI4:=lHd hI4;have HO4:=lHd hO4.blk_;have C4:Cls w4 [(w.heap.size,0,.int .i64 t.facts),(w.heap.size,1,.slice Ai t.init.length ci),(w.heap.size,2,.slice Ag t.goal.length cg),(w.heap.size,3,.slice Ao t.ops.length co),(w.heap.size+1,0,.bool false),(w.heap.size+1,1,.slice none 0 0),(w.heap.size+1,2,.int .i64 0),(w.heap.size+1,3,.int .i64 0)]:=Cls.below hB4 (Cls.far C2 ⟨w.heap.size+1+1,3,none⟩ (.int .i64 y) (fun x hx=>by simp at hx;rcases hx with rfl | rfl | rfl | rfl | rfl | rfl | rfl | rfl <;> (dsimp only;omega)));have HSTUB:=lHd hstub;have HSND:=lHd hsnd;have HALL:=lHd hall;clear hA4 hI4 hstub hsnd hall hA2 hIS2 hIS3 HSM3 hl1 hB4 hO4 hn0 hn1 hbn2 ho23 hf23 hM2 hg2
     go_wp2_with fail
     go_loopw [68] (fun i wr=>∃ i0:Nat,i0<=outs.length/\i=.int .i64 (i0:Int)/\∃ (vN2 vl2:Value) (L2:List Nat),SM (w.heap.size+1+1+1) (w.heap.size+1+1+1+1) (w.heap.size+1+1+1+1+1+1) (w.heap.size+1+1+1+1+1+1+1) (w.heap.size+1+1) wr vN2 vl2 (N ++ xKf n t.ops k nd (outs.take i0)) L2 (up1 f (xJ0 nd.state) nc) (upd f (xJ0 nd.state) (.int .i64 (k:Int))) y/\Hid (L2.Perm (l ++ xQ6 N.length i0))/\Hid (HeapN (ltN (N ++ xKf n t.ops k nd (outs.take i0))) L2.length L2)/\Hid (Kept (IX (w.heap.size+1+1+1+1) (w.heap.size+1+1+1+1+1+1) (.slice (some ⟨gn,0,none⟩) N.length cn) (.slice A1 l.length c1)) w4 wr)/\Hid (∀ z,vN2.ownBlock=some z->(Value.slice (some ⟨gn,0,none⟩) N.length cn).ownBlock=some z\/w4.heap.size<=z)/\Hid (∀ z,vl2.ownBlock=some z->(Value.slice A1 l.length c1).ownBlock=some z\/w4.heap.size<=z)) (fun i _=>outs.length - (intOf i).toNat)
     case atStart=>exact⟨0,Nat.zero_le _,rfl,_,_,l,(by show SM _ _ _ _ _ w4 _ _ (N ++ []) _ _ _ _;rw[List.append_nil];exact HSM4.out),(by show Hid (l.Perm (l ++ []));rw[List.append_nil];exact List.Perm.refl _),(by show Hid (HeapN (ltN (N ++ [])) _ _);rw[List.append_nil];exact HHEAP.out),Kept.refl _ _,(fun z h=>.inl h),fun z h=>.inl h⟩
     case round=>
      obtain⟨i0,hi0,rfl,vN2,vl2,L2,hSMj,HP2,HH2,HKj,HVN,HVL⟩:=hrel;obtain⟨wj,rfl⟩:∃ wo:World,wo=wr:=⟨_,rfl⟩;have hE4:Below (w.heap.size+1+1+1) w4 wj:=HKj.out.toBelow (fun z h=>(HIxl.out z h).1) (by omega);have Dj:Below w.heap.size w wj:=D4.trans (hE4.mono (by omega));have hs4j:=hE4.size;have Cj:Cls wj [(w.heap.size,0,.int .i64 t.facts),(w.heap.size,1,.slice Ai t.init.length ci),(w.heap.size,2,.slice Ag t.goal.length cg),(w.heap.size,3,.slice Ao t.ops.length co),(w.heap.size+1,0,.bool false),(w.heap.size+1,1,.slice none 0 0),(w.heap.size+1,2,.int .i64 0),(w.heap.size+1,3,.int .i64 0)]:=Cls.lowJ C4 hE4 (fun x hx=>by simp at hx;rcases hx with rfl | rfl | rfl | rfl | rfl | rfl | rfl | rfl <;> (dsimp only;omega));have Fj:=Cj;simp only[Cls,and_true] at Fj;have yjw1:w.heap.size+1 < wj.heap.size:=Cj.blk (b:=w.heap.size+1) (k:=0) (v:=.bool false) (by simp)
      by_cases hlt:i0 < outs.length
      ·have hN2l:((N ++ xKf n t.ops k nd (outs.take i0))).length=N.length+i0:=by rw[List.length_append,xYn,List.length_take];omega
       have HNS:Hid (∀ xx,outs[i0]? = some xx->(N ++ xKf n t.ops k nd (outs.take (i0+1)))=(N ++ xKf n t.ops k nd (outs.take i0)) ++ [⟨xJ5 n nd.state (xZ4 t.ops xx),nd.cost+(xZ4 t.ops xx).cost,(k:Int),xx⟩]):=fun xx hx=>by rw[vJs hx,List.append_assoc]
       have HN2:Hid (∀ j∈L2,j < N.length+i0):=fun j hj=>by
        rcases List.mem_append.1 (HP2.out.mem_iff.1 hj) with h | h
        ·have:=hSI.out.ds.lt j (HPERM.out.mem_iff.1 (List.mem_append.2 (.inl h)));omega
        ·unfold xQ6 at h;obtain⟨z,hz,rfl⟩:=List.mem_map.1 h;have:=List.mem_range.1 hz;omega
       have hL2l:L2.length<=100000:=by
        have h:=HP2.out.length_eq;rw[List.length_append] at h;have h2:(xQ6 N.length i0).length=i0:=by unfold xQ6;rw[List.length_map,List.length_range]
        simp at hlen1;omega
       obtain⟨N2,hN2⟩:∃ N2,(N ++ xKf n t.ops k nd (outs.take i0))=N2:=⟨_,rfl⟩;rw[hN2] at hSMj HH2 hN2l HNS;have HL2:=lHd hN2l;have hN2b:N2.length<=100000:=by omega
       clear hN2 hN2l;have hN2n:N2≠[]:=fun e=>by (have h:=HL2.out);rw[e] at h;simp at h;omega
       obtain⟨gj,cj,rfl⟩:=hSMj.nform hN2n;obtain⟨Aj,cjl,rfl,-,-⟩:=hSMj.lform;have hgjw:w.heap.size+1+1+1<=gj/\gj < wj.heap.size:=hSMj.nrow.own.choose_spec.lt gj rfl;have hgj1:gj≠w1.heap.size:=by
        rcases HVN.out gj rfl with h | h
        ·have h:gn=gj:=by injection h
         omega
        ·omega
       have hgjb:gj≠w.heap.size+1+1+1+1:=fun e=>Arr.ne_own hSMj.nbox hSMj.nrow.own.choose_spec (by decide) (by rw[<- e];rfl)
       have hI4j:Ints wj A4 outs:=Ints.kept HI4.out HKj.out (fun hr ad e z=>by have h1:=(HO4.out ad e).1;have h2:=(HIxl.out _ z).2;simp only[World.size_setCell] at h1;omega);obtain⟨ad4,xq,rfl,hxq,hxc⟩:=hI4j.at_ hlt;obtain⟨qn,o,rfl,hoq,hpre⟩:=HSND.out xq (lMg hxq.out);have hqn:qn < t.ops.length:=(List.getElem?_eq_some_iff.1 hoq).1;have hAj:Arr wj w1.heap.size 129 [.slice S nd.state.length cs,.int .i64 nd.cost,.int .i64 nd.parent,.int .i64 nd.op]:=HA4.out.kept HKj.out (fun z=>by have:=(HIxl.out _ z).2;omega);have hISj:Ints wj S nd.state:=Ints.kept HIS4.out HKj.out (fun hr ad e z=>by
        rcases z with z | z | z | z
        ·exact (HXS.out hr ad e).1 (.inl z)
        ·exact (HXS.out hr ad e).1 (.inr (.inl z))
        ·exact (HXS.out hr ad e).2 (by injection z with z;exact z.symm)
        ·exact (HXS.out hr ad e).1 (.inr (.inr (.inr (.inr z)))))
       obtain⟨ad,o',B0,b0,B1,b1,B2,b2,rfl,hoo,hc0,hc1,hc2,hc3,hm⟩:=HT.out.ops.at2 (w':=wj) bch hqn;have hadl:(ad.add (qn * 4)).block < w.heap.size:=by
        obtain⟨ad',B0',b0',B1',b1',B2',b2',e,h0,_⟩:=HT.out.ops qn o hoq;injection e with e;subst e
        exact World.block_lt_of_cell? w _ h0
       obtain rfl:o'=o:=by have h:=hoo.out;rw[hoq] at h;exact (Option.some.inj h).symm
       have hcb:=HC0.out o' (lMg hoq);have hndc:=hSI.out.cost_le HC0.out HND.out;have hwc:IntKind.i64.wrap (nd.cost+o'.cost)=nd.cost+o'.cost:=vVf (by omega);have hop:xZ4 t.ops (qn:Int)=o':=xV4 (by rw[Int.toNat_natCast];exact hoq);have HOP:=lHd hop;have HHJ:=lHd hSMj;have HISJ:=lHd hISj;have hbnj:=hSMj.nbox.cell 0;have hn0:=hAj.cell 0;have hn1:=hAj.cell 1;have hmlj:=hSMj.map.lt;have hw1:(N2.length:Int)+1 - 1=(N2.length:Int):=by omega
       clear hI4j hSMj hISj hAj hop hN2n hoq hpre hoo hc0 hc1 hc2 hm hSI hgk hnc HSM HSMn hMapn
       go_wp2_with fail
       have hSS0:wj.drew.cell? ⟨w.heap.size+1+1+1+1,0,none⟩=some (.slice (some ⟨gj,0,none⟩) N2.length cj)/\wj.drew.cell? ⟨w.heap.size,0,none⟩=some (.int .i64 t.facts)/\wj.drew.cell? ⟨w.heap.size,1,none⟩=some (.slice Ai t.init.length ci)/\wj.drew.cell? ⟨w.heap.size,2,none⟩=some (.slice Ag t.goal.length cg)/\wj.drew.cell? ⟨w.heap.size,3,none⟩=some (.slice (some ad) t.ops.length co)/\wj.drew.cell? ⟨w1.heap.size,0,none⟩=some (.slice S nd.state.length cs)/\wj.drew.cell? ⟨w1.heap.size,1,none⟩=some (.int .i64 nd.cost)/\wj.drew.cell? ⟨(ad.add (qn * 4)).block,(ad.add (qn * 4)).off+3,none⟩=some (.int .i64 o'.cost):=⟨hbnj,Fj.1.1,Fj.2.1.1,Fj.2.2.1.1,Fj.2.2.2.1.1,hn0,hn1,hc3⟩;refine xJk (fun W=>W.cell? ⟨w.heap.size+1+1+1+1,0,none⟩=some (.slice (some ⟨gj,0,none⟩) N2.length cj)/\W.cell? ⟨w.heap.size,0,none⟩=some (.int .i64 t.facts)/\W.cell? ⟨w.heap.size,1,none⟩=some (.slice Ai t.init.length ci)/\W.cell? ⟨w.heap.size,2,none⟩=some (.slice Ag t.goal.length cg)/\W.cell? ⟨w.heap.size,3,none⟩=some (.slice (some ad) t.ops.length co)/\W.cell? ⟨w1.heap.size,0,none⟩=some (.slice S nd.state.length cs)/\W.cell? ⟨w1.heap.size,1,none⟩=some (.int .i64 nd.cost)/\W.cell? ⟨(ad.add (qn * 4)).block,(ad.add (qn * 4)).off+3,none⟩=some (.int .i64 o'.cost)) [20] (by kernel_rfl) ?_;have hSS:=hSS0;refine xJ1 (i:=0) (v:=?vz20) rfl (by kernel_rfl) (by kernel_rfl) (by kernel_rfl) (by kernel_rfl) (by kernel_rfl) (fun _ _ _ h=>h) (Or.inl ⟨by rfl,?hz20⟩) (by assumption) ?rz20
       case hz20=>(intro w hSw;(try dsimp only at hSw);go_simp;(try with_reducible rfl))
       try simp only[ap]
       refine xJ1 (i:=1) (v:=?vz21) rfl (by kernel_rfl) (by kernel_rfl) (by kernel_rfl) (by kernel_rfl) (by kernel_rfl) (fun _ _ _ h=>h) (Or.inl ⟨by rfl,?hz21⟩) (by assumption) ?rz21
       case hz21=>(intro w hSw;(try dsimp only at hSw);go_simp;(try with_reducible rfl))
       try simp only[ap]
       refine xJ1 (i:=2) (v:=?vz22) rfl (by kernel_rfl) (by kernel_rfl) (by kernel_rfl) (by kernel_rfl) (by kernel_rfl) (fun _ _ _ h=>h) (Or.inl ⟨by rfl,?hz22⟩) (by assumption) ?rz22
       case hz22=>(intro w hSw;(try dsimp only at hSw);go_simp;(try with_reducible rfl))
       try simp only[ap]
       refine xJ1 (i:=3) (v:=?vz23) rfl (by kernel_rfl) (by kernel_rfl) (by kernel_rfl) (by kernel_rfl) (by kernel_rfl) (fun _ _ _ h=>h) (Or.inl ⟨by rfl,?hz23⟩) (by assumption) ?rz23
       case hz23=>(intro w hSw;(try dsimp only at hSw);go_simp;(try with_reducible rfl))
       try simp only[ap]
       refine xJ1 (i:=4) (v:=?vz24) rfl (by kernel_rfl) (by kernel_rfl) (by kernel_rfl) (by kernel_rfl) (by kernel_rfl) (fun _ _ _ h=>h) (Or.inl ⟨by rfl,?hz24⟩) (by assumption) ?rz24
       case hz24=>(intro w hSw;(try dsimp only at hSw);go_simp;(try with_reducible rfl))
       try simp only[ap]
       refine xJ1 (i:=6) (v:=?vz26) rfl (by kernel_rfl) (by kernel_rfl) (by kernel_rfl) (by kernel_rfl) (by kernel_rfl) (fun _ _ _ h=>h) (Or.inl ⟨by rfl,?hz26⟩) (by assumption) ?rz26
       case hz26=>(intro w hSw;(try dsimp only at hSw);go_simp;(try with_reducible rfl))
       try simp only[ap]
       refine xJ1 (i:=7) (v:=?vz27) rfl (by kernel_rfl) (by kernel_rfl) (by kernel_rfl) (by kernel_rfl) (by kernel_rfl) (fun _ _ _ h=>h) (Or.inl ⟨by rfl,?hz27⟩) (by assumption) ?rz27
       case hz27=>(intro w hSw;(try dsimp only at hSw);go_simp;(try with_reducible rfl))
       try simp only[ap]
       refine xJ1 (i:=8) (v:=?vz28) rfl (by kernel_rfl) (by kernel_rfl) (by kernel_rfl) (by kernel_rfl) (by kernel_rfl) (fun _ _ _ h=>h) (Or.inl ⟨by rfl,?hz28⟩) (by assumption) ?rz28
       case hz28=>(intro w hSw;(try dsimp only at hSw);go_simp;(try with_reducible rfl))
       try simp only[ap]
       refine xJ1 (i:=9) (v:=?vz29) rfl (by kernel_rfl) (by kernel_rfl) (by kernel_rfl) (by kernel_rfl) (by kernel_rfl) (fun _ _ _ h=>h) (Or.inl ⟨by rfl,?hz29⟩) (by assumption) ?rz29
       case hz29=>(intro w hSw;(try dsimp only at hSw);go_simp;(try with_reducible rfl))
       try simp only[ap]
       refine xJ1 (i:=10) (v:=?vz210) rfl (by kernel_rfl) (by kernel_rfl) (by kernel_rfl) (by kernel_rfl) (by kernel_rfl) (fun _ _ _ h=>h) (Or.inl ⟨by rfl,?hz210⟩) (by assumption) ?rz210
       case hz210=>(intro w hSw;(try dsimp only at hSw);go_simp;(try with_reducible rfl))
       try simp only[ap]
       refine xJ1 (i:=11) (v:=?vz211) rfl (by kernel_rfl) (by kernel_rfl) (by kernel_rfl) (by kernel_rfl) (by kernel_rfl) (fun _ _ _ h=>h) (Or.inl ⟨by rfl,?hz211⟩) (by assumption) ?rz211
       case hz211=>(intro w hSw;(try dsimp only at hSw);go_simp;(try with_reducible rfl))
       try simp only[ap]
       refine xJ1 (i:=12) (v:=?vz212) rfl (by kernel_rfl) (by kernel_rfl) (by kernel_rfl) (by kernel_rfl) (by kernel_rfl) (fun _ _ _ h=>h) (Or.inl ⟨by rfl,?hz212⟩) (by assumption) ?rz212
       case hz212=>(intro w hSw;(try dsimp only at hSw);go_simp;(try with_reducible rfl))
       try simp only[ap]
       refine xJ1 (i:=13) (v:=?vz213) rfl (by kernel_rfl) (by kernel_rfl) (by kernel_rfl) (by kernel_rfl) (by kernel_rfl) (fun _ _ _ h=>h) (Or.inl ⟨by rfl,?hz213⟩) (by assumption) ?rz213
       case hz213=>(intro w hSw;(try dsimp only at hSw);go_simp;(try with_reducible rfl))
       try simp only[ap]
       refine xJ1 (i:=14) (v:=?vz214) rfl (by kernel_rfl) (by kernel_rfl) (by kernel_rfl) (by kernel_rfl) (by kernel_rfl) (fun _ _ _ h=>h) (Or.inl ⟨by rfl,?hz214⟩) (by assumption) ?rz214
       case hz214=>(intro w hSw;(try dsimp only at hSw);go_simp;(try with_reducible rfl))
       try simp only[ap]
       refine xJ1 (i:=15) (v:=?vz215) rfl (by kernel_rfl) (by kernel_rfl) (by kernel_rfl) (by kernel_rfl) (by kernel_rfl) (fun _ _ _ h=>h) (Or.inl ⟨by rfl,?hz215⟩) (by assumption) ?rz215
       case hz215=>(intro w hSw;(try dsimp only at hSw);go_simp;(try with_reducible rfl))
       try simp only[ap]
       refine xJ1 (i:=16) (v:=?vz216) rfl (by kernel_rfl) (by kernel_rfl) (by kernel_rfl) (by kernel_rfl) (by kernel_rfl) (fun _ _ _ h=>h) (Or.inl ⟨by rfl,?hz216⟩) (by assumption) ?rz216
       case hz216=>(intro w hSw;(try dsimp only at hSw);go_simp;(try with_reducible rfl))
       try simp only[ap]
       refine xJ4 (i:=5) (by kernel_rfl) rfl (fun K hK=>?_);go_simp;refine (zJp _ t Ai Ag (some ad) ci cg co (HR.out.below bch) S cs nd.state (HISJ.out.below bch) HST2.out n HN.out HV.out qn hqn).mono ?_;rintro e w5 ⟨v5,rfl,hO5,hB5⟩;obtain⟨A5,c5,hv5,-,hI5⟩:=hO5.form;subst hv5;have HB5:Hid (Below wj.heap.size wj w5):=xJ3 wj hB5 bch;have hs5:=hB5.size;have hs5:wj.heap.size<=w5.heap.size:=HB5.out.size;have HO5:Hid (∀ ad,A5=some ad->wj.heap.size<=ad.block/\ad.block < w5.heap.size):=hO5.blk_;have HI5:=lHd hI5;have k5:∀ {p:Addr} {u:Value},wj.cell? p=some u->w5.cell? p=some u:=fun {p u} hc=>(HB5.out.cell (World.block_lt_of_cell? wj _ hc)).trans hc
       have hSS5:w5.cell? ⟨w.heap.size+1+1+1+1,0,none⟩=some (.slice (some ⟨gj,0,none⟩) N2.length cj)/\w5.cell? ⟨w.heap.size,0,none⟩=some (.int .i64 t.facts)/\w5.cell? ⟨w.heap.size,1,none⟩=some (.slice Ai t.init.length ci)/\w5.cell? ⟨w.heap.size,2,none⟩=some (.slice Ag t.goal.length cg)/\w5.cell? ⟨w.heap.size,3,none⟩=some (.slice (some ad) t.ops.length co)/\w5.cell? ⟨w1.heap.size,0,none⟩=some (.slice S nd.state.length cs)/\w5.cell? ⟨w1.heap.size,1,none⟩=some (.int .i64 nd.cost)/\w5.cell? ⟨(ad.add (qn * 4)).block,(ad.add (qn * 4)).off+3,none⟩=some (.int .i64 o'.cost):=⟨k5 hbnj,k5 Fj.1.1,k5 Fj.2.1.1,k5 Fj.2.2.1.1,k5 Fj.2.2.2.1.1,k5 hn0,k5 hn1,k5 hc3⟩;have hSS:w5.cell? ⟨w.heap.size+1+1+1+1,0,none⟩=some (.slice (some ⟨gj,0,none⟩) N2.length cj)/\w5.cell? ⟨w.heap.size,0,none⟩=some (.int .i64 t.facts)/\w5.cell? ⟨w.heap.size,1,none⟩=some (.slice Ai t.init.length ci)/\w5.cell? ⟨w.heap.size,2,none⟩=some (.slice Ag t.goal.length cg)/\w5.cell? ⟨w.heap.size,3,none⟩=some (.slice (some ad) t.ops.length co)/\w5.cell? ⟨w1.heap.size,0,none⟩=some (.slice S nd.state.length cs)/\w5.cell? ⟨w1.heap.size,1,none⟩=some (.int .i64 nd.cost)/\w5.cell? ⟨(ad.add (qn * 4)).block,(ad.add (qn * 4)).off+3,none⟩=some (.int .i64 o'.cost):=hSS5;clear hB5 hO5 hI5
       go_wp2_with fail
       refine hK.out _ _ hSS ?_;clear hK K
       try simp only[ap]
       refine xJ1 (i:=17) (v:=?vz217) rfl (by kernel_rfl) (by kernel_rfl) (by kernel_rfl) (by kernel_rfl) (by kernel_rfl) (fun _ _ _ h=>h) (Or.inl ⟨by rfl,?hz217⟩) (by assumption) ?rz217
       case hz217=>(intro w hSw;(try dsimp only at hSw);go_simp;(try with_reducible rfl))
       try simp only[ap]
       refine xJ4 (i:=18) (by kernel_rfl) rfl (fun K hK=>?_);go_simp
       go_wp2_with fail
       have HOWN5:Hid (OwnEs (PNd (SX (w.heap.size+1+1+1+1) (w.heap.size+1+1+1+1+1+1) (w.heap.size+1+1+1+1+1+1+1) (w.heap.size+1+1) (.slice Aj L2.length cjl))) 129 4 (w.heap.size+1+1+1) (w5.alloc (.cells #[.slice A5 (xJ5 n nd.state (xZ4 t.ops (qn:Int))).length c5,.int .i64 (nd.cost+o'.cost),.int .i64 (k:Int),.int .i64 (qn:Int)] 129)) (.slice (some ⟨gj,0,none⟩) N2.length cj) N2):=OwnEs.below (w:=w5) (xQh _) (OwnEs.below (w:=wj) (xQh _) (show OwnEs (PNd (SX (w.heap.size+1+1+1+1) (w.heap.size+1+1+1+1+1+1) (w.heap.size+1+1+1+1+1+1+1) (w.heap.size+1+1) (.slice Aj L2.length cjl))) 129 4 (w.heap.size+1+1+1) wj (.slice (some ⟨gj,0,none⟩) N2.length cj) N2 from HHJ.out.nrow) HB5.out) bch;have k5a:∀ {p:Addr} {u:Value},w5.cell? p=some u->(w5.alloc (.cells #[.slice A5 (xJ5 n nd.state (xZ4 t.ops (qn:Int))).length c5,.int .i64 (nd.cost+o'.cost),.int .i64 (k:Int),.int .i64 (qn:Int)] 129)).cell? p=some u:=fun {p u} hq=>by rw[World.cell?_alloc_lt _ _ _ (World.block_lt_of_cell? _ _ hq)];exact hq
       have hSS:(w5.alloc (.cells #[.slice A5 (xJ5 n nd.state (xZ4 t.ops (qn:Int))).length c5,.int .i64 (nd.cost+o'.cost),.int .i64 (k:Int),.int .i64 (qn:Int)] 129)).cell? ⟨w.heap.size+1+1+1+1,0,none⟩=some (.slice (some ⟨gj,0,none⟩) N2.length cj)/\(w5.alloc (.cells #[.slice A5 (xJ5 n nd.state (xZ4 t.ops (qn:Int))).length c5,.int .i64 (nd.cost+o'.cost),.int .i64 (k:Int),.int .i64 (qn:Int)] 129)).cell? ⟨w.heap.size,0,none⟩=some (.int .i64 t.facts)/\(w5.alloc (.cells #[.slice A5 (xJ5 n nd.state (xZ4 t.ops (qn:Int))).length c5,.int .i64 (nd.cost+o'.cost),.int .i64 (k:Int),.int .i64 (qn:Int)] 129)).cell? ⟨w.heap.size,1,none⟩=some (.slice Ai t.init.length ci)/\(w5.alloc (.cells #[.slice A5 (xJ5 n nd.state (xZ4 t.ops (qn:Int))).length c5,.int .i64 (nd.cost+o'.cost),.int .i64 (k:Int),.int .i64 (qn:Int)] 129)).cell? ⟨w.heap.size,2,none⟩=some (.slice Ag t.goal.length cg)/\(w5.alloc (.cells #[.slice A5 (xJ5 n nd.state (xZ4 t.ops (qn:Int))).length c5,.int .i64 (nd.cost+o'.cost),.int .i64 (k:Int),.int .i64 (qn:Int)] 129)).cell? ⟨w.heap.size,3,none⟩=some (.slice (some ad) t.ops.length co)/\(w5.alloc (.cells #[.slice A5 (xJ5 n nd.state (xZ4 t.ops (qn:Int))).length c5,.int .i64 (nd.cost+o'.cost),.int .i64 (k:Int),.int .i64 (qn:Int)] 129)).cell? ⟨w1.heap.size,0,none⟩=some (.slice S nd.state.length cs)/\(w5.alloc (.cells #[.slice A5 (xJ5 n nd.state (xZ4 t.ops (qn:Int))).length c5,.int .i64 (nd.cost+o'.cost),.int .i64 (k:Int),.int .i64 (qn:Int)] 129)).cell? ⟨w1.heap.size,1,none⟩=some (.int .i64 nd.cost)/\(w5.alloc (.cells #[.slice A5 (xJ5 n nd.state (xZ4 t.ops (qn:Int))).length c5,.int .i64 (nd.cost+o'.cost),.int .i64 (k:Int),.int .i64 (qn:Int)] 129)).cell? ⟨(ad.add (qn * 4)).block,(ad.add (qn * 4)).off+3,none⟩=some (.int .i64 o'.cost):=⟨k5a hSS5.1,k5a hSS5.2.1,k5a hSS5.2.2.1,k5a hSS5.2.2.2.1,k5a hSS5.2.2.2.2.1,k5a hSS5.2.2.2.2.2.1,k5a hSS5.2.2.2.2.2.2.1,k5a hSS5.2.2.2.2.2.2.2⟩;refine hK.out _ _ hSS ?_;clear hK K
       try simp only[ap]
       refine xJ4 (i:=19) (by kernel_rfl) rfl (fun K hK=>?_);refine zV1 (base:=(w.heap.size+1+1+1)) (v:=.slice (some ⟨gj,0,none⟩) N2.length cj) (els:=N2) (xQh (SX (w.heap.size+1+1+1+1) (w.heap.size+1+1+1+1+1+1) (w.heap.size+1+1+1+1+1+1+1) (w.heap.size+1+1) (.slice Aj L2.length cjl))) 130 48 (.agg #[.slice none 0 0,.int .i64 0,.int .i64 0,.int .i64 0]) Tryz.underlying130 zW7 rfl (by decide) (by decide) rfl (.tmp 72) (.tmp 90) rfl rfl HOWN5.out ⟨w5.heap.size,0,none⟩ 1 rfl [.slice A5 (xJ5 n nd.state (xZ4 t.ops (qn:Int))).length c5,.int .i64 (nd.cost+o'.cost),.int .i64 (k:Int),.int .i64 (qn:Int)] (⟨xJ5 n nd.state (xZ4 t.ops (qn:Int)),nd.cost+(xZ4 t.ops (qn:Int)).cost,(k:Int),(qn:Int)⟩:NodeV) rfl ?n1 ?n2 ?n3 ?n4 ?n5 ?nn
       case n1=>(intro j u hu;rcases j with _ | _ | _ | _ | j <;> simp at hu <;> subst hu <;> simp[go_sem])
       case n2=>(intro u hu;simp at hu;rcases hu with rfl | rfl | rfl | rfl <;> rfl)
       case n3=>exact⟨A5,c5,by rw[HOP.out],HI5.out.below bch,fun hr ad' e'=>⟨by (have h5:=(HO5.out ad' e').1;rintro (h | h | h | h | h) <;> first | omega | (have:=(HHJ.out.lrow.lt _ h).2;omega)),fun e2=>by (have h5:=(HO5.out ad' e').1;injection e2 with e2;have e2:ad'.block=gj:=e2;omega)⟩⟩
       case n4=>omega
       case n5=>(simp;omega)
       intro g6 c6 w6 hO6 hg6 hat6 hg6l;have k6:∀ {p:Addr} {u:Value},w5.cell? p=some u->p.block≠gj->w6.cell? p=some u:=fun {p u} hq hne=>(hg6.cell_far p (by have:=World.block_lt_of_cell? _ _ hq;simp;omega) (fun e=>hne (by injection e))).trans (k5a hq)
       have hSS:w6.cell? ⟨w.heap.size+1+1+1+1,0,none⟩=some (.slice (some ⟨gj,0,none⟩) N2.length cj)/\w6.cell? ⟨w.heap.size,0,none⟩=some (.int .i64 t.facts)/\w6.cell? ⟨w.heap.size,1,none⟩=some (.slice Ai t.init.length ci)/\w6.cell? ⟨w.heap.size,2,none⟩=some (.slice Ag t.goal.length cg)/\w6.cell? ⟨w.heap.size,3,none⟩=some (.slice (some ad) t.ops.length co)/\w6.cell? ⟨w1.heap.size,0,none⟩=some (.slice S nd.state.length cs)/\w6.cell? ⟨w1.heap.size,1,none⟩=some (.int .i64 nd.cost)/\w6.cell? ⟨(ad.add (qn * 4)).block,(ad.add (qn * 4)).off+3,none⟩=some (.int .i64 o'.cost):=⟨k6 hSS5.1 (by show ¬ w.heap.size+1+1+1+1=gj;omega),k6 hSS5.2.1 (by show ¬ w.heap.size=gj;omega),k6 hSS5.2.2.1 (by show ¬ w.heap.size=gj;omega),k6 hSS5.2.2.2.1 (by show ¬ w.heap.size=gj;omega),k6 hSS5.2.2.2.2.1 (by show ¬ w.heap.size=gj;omega),k6 hSS5.2.2.2.2.2.1 (by show ¬ w1.heap.size=gj;omega),k6 hSS5.2.2.2.2.2.2.1 (by show ¬ w1.heap.size=gj;omega),k6 hSS5.2.2.2.2.2.2.2 (by show ¬ (ad.add (qn * 4)).block=gj;omega)⟩;have hb6:Arr w6 (w.heap.size+1+1+1+1) 130 [.slice (some ⟨gj,0,none⟩) N2.length cj]:=Arr.grown (Arr.alloc (HHJ.out.nbox.below HB5.out) _) hg6 (fun e=>hgjb (by injection e));have hf6:=hb6.free 0;refine hK.out _ _ hSS ?_;clear hK K
       try simp only[ap]
       refine xJd (i:=20) (by kernel_rfl) rfl (by kernel_rfl) (fun K hK=>?_);go_simp
       go_wp2_with fail
       refine hK.out _ _ ?_;clear hK K
       try simp only[ap]
       refine xJ8 (by kernel_rfl) ?_ _
       go_wp2_with fail
       have e7:(N2 ++ [(⟨xJ5 n nd.state (xZ4 t.ops (qn:Int)),nd.cost+(xZ4 t.ops (qn:Int)).cost,(k:Int),(qn:Int)⟩:NodeV)]).length=N2.length+1:=by simp
       have hSM7:SM (w.heap.size+1+1+1) (w.heap.size+1+1+1+1) (w.heap.size+1+1+1+1+1+1) (w.heap.size+1+1+1+1+1+1+1) (w.heap.size+1+1) (w6.setCell ⟨w.heap.size+1+1+1+1,0,none⟩ (.slice (some ⟨g6,0,none⟩) (N2.length+1) c6)) (.slice (some ⟨g6,0,none⟩) (N2.length+1) c6) (.slice Aj L2.length cjl) (N2 ++ [(⟨xJ5 n nd.state (xZ4 t.ops (qn:Int)),nd.cost+(xZ4 t.ops (qn:Int)).cost,(k:Int),(qn:Int)⟩:NodeV)]) L2 (up1 f (xJ0 nd.state) nc) (upd f (xJ0 nd.state) (.int .i64 (k:Int))) y:=SM.added (SM.below (W:=w5) (SM.below HHJ.out HB5.out) bch) (by omega) hg6 hO6;have hcn7:CN (w.heap.size+1+1+1+1+1+1) (w.heap.size+1+1+1+1) g6 c6 (N2 ++ [(⟨xJ5 n nd.state (xZ4 t.ops (qn:Int)),nd.cost+(xZ4 t.ops (qn:Int)).cost,(k:Int),(qn:Int)⟩:NodeV)]) (Value.slice Aj L2.length cjl).ownBlock (w6.setCell ⟨w.heap.size+1+1+1+1,0,none⟩ (.slice (some ⟨g6,0,none⟩) (N2.length+1) c6)):=SM.cn (by rw[e7];exact hSM7) (by omega) (by omega);have hs67:=hg6.size;simp only[World.size_alloc] at hs67;have hpush:=zK7 hcn7 (hSM7.ch (by simp only[World.size_setCell];omega) (fun j hj=>by have:=HN2.out j hj;have:=HL2.out;rw[e7];omega) (by omega)) N2.length (by omega) (by omega) (vJt HH2.out (fun j hj=>by have:=HN2.out j hj;have:=HL2.out;omega));refine hpush.mono ?_;rintro e w8 ⟨rfl,L8,hCH8,hh8,hp8⟩;obtain⟨A8,c8,hSM8,hv8⟩:=hSM7.heaped (by omega) hCH8;have HK8:Hid (Kept (IX (w.heap.size+1+1+1+1) (w.heap.size+1+1+1+1+1+1) (.slice (some ⟨gn,0,none⟩) N.length cn) (.slice A1 l.length c1)) w4 w8):=((((HKj.out.below HB5.out).alloc _).grown hg6 (fun z hz=>(HVN.out z hz).imp (fun h=>.inr (.inr (.inl h))) id)).set (p:=⟨w.heap.size+1+1+1+1,0,none⟩) (.inl (.inl rfl)) _).trans hCH8.fr (fun z hz=>by
        rintro (h | h)
        ·exact .inr (.inl h)
        ·rcases HVL.out z h with h | h
         ·exact .inr (.inr (.inr h))
         ·omega)
       have HV8:Hid (∀ z,(Value.slice (some ⟨g6,0,none⟩) (N2.length+1) c6).ownBlock=some z->(Value.slice (some ⟨gn,0,none⟩) N.length cn).ownBlock=some z\/w4.heap.size<=z):=fun z hz=>by
        have hz:g6=z:=by injection hz
        subst hz;rcases hat6 with h | h
        ·exact HVN.out g6 h
        ·right;simp at h;omega
       have HVL8:Hid (∀ z,(Value.slice A8 L8.length c8).ownBlock=some z->(Value.slice A1 l.length c1).ownBlock=some z\/w4.heap.size<=z):=fun z hz=>by
        rcases hv8 z hz with h | h
        ·exact HVL.out z h
        ·right;simp only[World.size_setCell] at h;omega
       have HP8:Hid (L8.Perm (l ++ xQ6 N.length (i0+1))):=by
        show L8.Perm _;rw[zK8,<- List.append_assoc,<- HL2.out];exact hp8.trans (HP2.out.append_right _)
       have HSM8:Hid (SM (w.heap.size+1+1+1) (w.heap.size+1+1+1+1) (w.heap.size+1+1+1+1+1+1) (w.heap.size+1+1+1+1+1+1+1) (w.heap.size+1+1) w8 (.slice (some ⟨g6,0,none⟩) (N2.length+1) c6) (.slice A8 L8.length c8) (N ++ xKf n t.ops k nd (outs.take (i0+1))) L8 (up1 f (xJ0 nd.state) nc) (upd f (xJ0 nd.state) (.int .i64 (k:Int))) y):=by
        show SM _ _ _ _ _ _ _ _ _ _ _ _ _;rw[HNS.out _ hxq.out];exact hSM8
       have HH8:Hid (HeapN (ltN (N ++ xKf n t.ops k nd (outs.take (i0+1)))) L8.length L8):=by
        show HeapN _ _ _;rw[HNS.out _ hxq.out];exact hh8
       clear hSM8 hh8 hp8 hv8 hCH8 hpush hcn7 hSM7 hO6 hg6 hat6;go_wp2
       go_roundw
       case rel=>exact⟨i0+1,by omega,by go_num,_,_,L8,HSM8.out,HP8,HH8,HK8,HV8,HVL8⟩
       case measure=>simp[intOf];omega
      ·obtain rfl:i0=outs.length:=by omega
       have htk:outs.take outs.length=outs:=List.take_of_length_le (Nat.le_refl _);rw[htk] at hSMj HH2;have HSI5:=lHd (hSI.out.expand HC.out (fun o ho=>(HC0.out o ho).1) HPERM.out HMIN.out HND.out HFS.out (.int .i64 (k:Int)) HSTUB.out hol HSND.out HALL.out HP2.out HH2.out);have hL2:=HP2.out.length_eq;rw[List.length_append] at hL2;have hnm:(xQ6 N.length outs.length).length=outs.length:=by unfold xQ6;rw[List.length_map,List.length_range]
       have HL2:Hid (L2.length=l.length+outs.length):=by show _=_;omega
       have hnc2:Hid ((up1 f (xJ0 nd.state) nc)=(nd.state :: C).length):=by show _=_;unfold up1;rw[HFS.out,List.length_cons];simp;omega
       clear hL2 hnm;go_wp2
       go_roundg (41 * (2001 - (C.length+1))+L2.length)
       case measure=>have:=hgk.out;have:=HL2.out;simp at hlen1;omega
       case rel=>exact⟨_,_,_,L2,nd.state :: C,_,_,_,y,hSMj,HSI5,hnc2,rfl,bch,(by simp[Cls,go_sem,Fj,yjw1])⟩
section
open Go.Shelf
def PStU(X:Nat->Prop)(w:World)(row:Option Nat)(cs:List Value)(st:List Int):Prop:=
 ∃ A c,cs=[.slice A st.length c]/\Ints w A st/\(st≠[]->∀ ad,A=some ad->¬ X ad.block/\some ad.block≠row)
theorem pst_stable(X:Nat->Prop):Stable (PStU X):=by
 constructor
 ·rintro w w' row cs nd ⟨A,c,e,hI,ha⟩ hb;exact⟨A,c,e,hI.below hb,ha⟩
 ·rintro w w' row cs nd ⟨A,c,e,hI,ha⟩ hg;have hI':=hI.grown2 hg (fun h ad e=>(ha h ad e).2);refine⟨⟨A,c,e,hI',ha⟩,⟨A,c,e,hI',fun hr ad h=>⟨(ha hr ad h).1,fun k=>?_⟩⟩⟩;subst h;have:=xZz hI hr;injection k with k
  omega
def OwnSt(X:Nat->Prop)(B:Nat)(w:World)(v:Value)(Ls:List (List Int)):Prop:=OwnEs (PStU X) 22 1 B w v Ls
theorem info_li:(Tryz.prog.info? 22).map (fun i=>(i.zero,i.size,i.bytes))=some (some (.slice none 0 0),1,24):=by kernel_rfl
theorem vKr{B:Nat}{W W':World}(h:Turn B W W'){p:Addr}{u:Value}(hc:W.cell? p=some u):W'.cell? p=some u:=by
 obtain⟨o,ho,hcs⟩:=cells_of_cell hc;exact (World.cell?_of_block ((h.obj ho (.inl hcs)).trans ho.symm)).trans hc
section
variable {X Y:Nat->Prop}{B:Nat}{a w:World}{v:Value}{Ls:List (List Int)}
theorem OwnSt.kept(h:OwnSt X B a v Ls)(hK:Kept Y a w)(hY:∀ k,k < a.heap.size->Y k->X k)(hv:∀ k,v.ownBlock=some k->¬ Y k):OwnSt X B w v Ls:=by
 obtain⟨cells,h1,h2⟩:=h;refine⟨cells,xWt h1 hK hv,fun i nd hi=>?_⟩;obtain⟨A,c,e,hI,ha⟩:=h2 i nd hi;refine⟨A,c,e,hI.kept hK (fun hr ad h y=>?_),ha⟩;subst h;exact (ha hr ad rfl).1 (hY _ (xZz hI hr) y)
theorem OwnSt.turn{D:Nat}(h:OwnSt X B a v Ls)(ht:Turn D a w):OwnSt X B w v Ls:=by
 obtain⟨cells,h1,h2⟩:=h;refine⟨cells,xYi h1 ht,fun i nd hi=>?_⟩;obtain⟨A,c,e,hI,ha⟩:=h2 i nd hi;exact⟨A,c,e,fun j u hu=>by obtain⟨ad,e,hc⟩:=hI j u hu;exact⟨ad,e,vKr ht hc⟩,ha⟩
theorem OwnSt.rd{A:Option Addr}{m c:Nat}(h:OwnSt X B w (.slice A m c) Ls){j:Nat}{st:List Int}(hj:Ls[j]? = some st):∃ g S cs,A=some ⟨g,0,none⟩/\w.cell? ⟨g,j,none⟩=some (.slice S st.length cs)/\Ints w S st/\(st≠[]->∀ ad,S=some ad->¬ X ad.block/\ad.block≠g):=by
 obtain⟨g,cs,a,rfl,_,_,ha,_,hc,A,c,rfl,hI,hX⟩:=OwnEs.at_ h (i:=j) (List.getElem?_eq_some_iff.1 hj).1;have e:a=st:=by have:=ha.out;rw[hj] at this;exact (Option.some.inj this).symm
 subst e;have h0:=hc 0 _ rfl;rw[Nat.mul_one] at h0;exact⟨g,A,c,rfl,h0,hI,fun hr ad e=>⟨(hX hr ad e).1,fun k=>(hX hr ad e).2 (by rw[k])⟩⟩
end
def RX(bl bm bmb:Nat)(z:Nat):Prop:=z=bl\/z=bm\/z=bmb
structure RS(B bl bm bmb n:Nat)(ls:List (List Int))(W:World)(vl:Value)(Ls:List (List Int))(f:Int->Option Value):Prop where
 row:OwnSt (RX bl bm bmb) B W vl Ls
 lbox:Arr W bl 44 [vl]
 mbox:Arr W bmb 125 [.map (some bm)]
 map:MapG W bm Ls.length f
 seen:∀ l,SetP l (n:Int)->((f (xJ0 l)).isSome=true↔l∈Ls)
 nd:Ls.Nodup
 sub:∀ l∈Ls,l∈ls
section
variable {B bl bm bmb n:Nat}{ls:List (List Int)}{W W':World}{vl:Value}{Ls:List (List Int)}{f:Int->Option Value}
theorem RS.few(h:RS B bl bm bmb n ls W vl Ls f):Ls.length<=ls.length:=xX8 h.nd h.sub
theorem RS.below(h:RS B bl bm bmb n ls W vl Ls f)(hb:Below W.heap.size W W'):RS B bl bm bmb n ls W' vl Ls f:=
 ⟨OwnEs.below (pst_stable _) h.row hb,h.lbox.below hb,h.mbox.below hb,h.map.below hb h.map.lt,h.seen,h.nd,h.sub⟩
theorem RS.turn{D:Nat}(h:RS B bl bm bmb n ls W vl Ls f)(ht:Turn D W W')(hD:bm < D):RS B bl bm bmb n ls W' vl Ls f:=by
 obtain⟨es,cl,ho⟩:=h.map.obj;exact⟨h.row.turn ht,h.lbox.turn ht,h.mbox.turn ht,h.map.of_block ((ht.obj ho (.inr hD)).trans ho.symm),h.seen,h.nd,h.sub⟩
theorem RS.form(h:RS B bl bm bmb n ls W vl Ls f):∃ A c,vl=.slice A Ls.length c:=OwnEs.form h.row
theorem RS.own(h:RS B bl bm bmb n ls W vl Ls f):∃ cells,W.ownsRow B 22 1 vl Ls.length cells:=by obtain⟨cells,h1,_⟩:=h.row;exact⟨cells,h1⟩
end
theorem range_succ{gop:Operand}{ps:Array Tmp}{assign body:Code}{Q:Exit->Act->World->Prop}{a:Act}{w w0:World}{n b1 b2:Nat}{t:TaskV}{Ai Ag Ao:Option Addr}{ci cg co:Nat}{S:Option Addr}{cs:Nat}{l:List Int}
  (hT:TaskMem w0 Ai Ag Ao t) (hR:OpsRead w0 Ao t.ops) (hv:Valid t) (hn:t.facts=n) (hl:SetP l (n:Int)) (hM:ScMem w0 b1 b2 t Ai Ag Ao ci cg co S cs l w)
  (hg:a.eval gop=.func (.func 104) #[] #[.pointer (some ⟨b1,0,none⟩),.pointer (some ⟨b2,0,none⟩)]) (hps:ps.size=2)
  (I:List (xX4 n t.ops l×Value)->World->Prop) (hI:∀ s W W',I s W->Turn w.heap.size W W'->I s W') (h0:I [] w)
  (a1:xX4 n t.ops l×Value->Act) (hassign:∀ (y:Nat) (x:xX4 n t.ops l×Value) (W:World) (K:Act->World->Prop),K (a1 x) W->assign.wpIn (Fence.wide.inRound y) 3 Tryz.prog (Exit.then K (fun _ _ _=>False)) { tmps:=(ps.zip (zK3 x)).foldl (fun t (p,v)=>t.setIfInBounds p v) a.tmps,defers:=[] } W)
  (hbody:∀ (y:Nat) (pre:List (xX4 n t.ops l×Value)) (x:xX4 n t.ops l×Value) (W:World),I pre W->vQb w.heap.size x W->body.wpIn (Fence.wide.inRound y) 3 Tryz.prog (fun e _ W'=>e=.normal/\KeepsFrom w.heap.size W W'/\KpZ w0.heap.size (ScZ b1 b2 S l) W W'/\I (pre ++ [x]) W') (a1 x) W)
  (hdone:∀ (D:Nat) (xs:List (xX4 n t.ops l×Value)) (W:World),w.heap.size<=D->I xs W->W.heap[D]? = some (.deferred (some []))->Q .normal { a with defers:=xWu D :: a.defers } W) :
  (Code.rangeFunc gop ps assign body).wp Tryz.prog Q a w:=by
 have hZ:∀ z,ScZ b1 b2 S l z->z < w.heap.size:=by
  rintro z (rfl | rfl | ⟨hne,ad,e,rfl⟩)
  ·exact hM.tb.lt
  ·exact hM.sb.lt
  ·have h:=hM.st;subst e;exact xZz h hne
 refine (wpIn_wide (n:=5)).1 (vJ3 (P:=Tryz.prog) hg (enters_of Tryz.func104 (by kernel_rfl) rfl) zK3 (fun x=>by rw[hps];rfl) (vQb w.heap.size) I (KpZ w0.heap.size (ScZ b1 b2 S l)) (fun _=>True)
  (fun s W W' row hs hg hr=>hI s W W' hs ⟨row,hg,hr⟩) (fun x s W W' row hs hg hr=>xYi (B:=w.heap.size) hs ⟨row,hg,hr⟩) kpz_t (fun W l o o' hl h hc=>kpz_b hM.low.size hZ W l o o' hl h hc) h0
  (fun y J W hB hJ hY hJ0=>vY3 hT hR hv hn hl y J W (hM.below hB) hB.size hJ hY hJ0) a1 hassign hbody (fun D xs W hD _ hi hd=>hdone D xs W hD hi hd))
theorem vKz(w:World)(t:TaskV)(Ai Ag Ao:Option Addr)(ci cg co:Nat)(S:Option Addr)(cs:Nat)(l:List Int) :
  Calls Tryz.prog 65 #[.agg #[.int .i64 t.facts,.slice Ai t.init.length ci,.slice Ag t.goal.length cg,.slice Ao t.ops.length co],.slice S l.length cs] w fun e w'=>e=.returned (.func (.func 104) #[] #[.pointer (some ⟨w.heap.size,0,none⟩),.pointer (some ⟨w.heap.size+1,0,none⟩)])/\Below w.heap.size w w'/\Arr w' w.heap.size 25 [.int .i64 t.facts,.slice Ai t.init.length ci,.slice Ag t.goal.length cg,.slice Ao t.ops.length co]/\Arr w' (w.heap.size+1) 22 [.slice S l.length cs]/\w'.heap.size=w.heap.size+1+1:=by
 go_enter Tryz.func65,Tryz.ntmps65;go_wp2;go_ret;exact⟨rfl,bch,(Arr.new w 25 [.int .i64 t.facts,.slice Ai t.init.length ci,.slice Ag t.goal.length cg,.slice Ao t.ops.length co]).alloc _,Arr.new_at _ _ (by simp) _ _,by simp⟩
end
end Go.Proofs.YtpeipeljmapkmaaGreat
