/-
  Lemmas for the law: Mu2, Mu4, Mu5, Pjc.
-/
import Derived.Test.YtpeipeljmapkmaaGreatU19
import Derived.Test.YtpeipeljmapkmaaGreatU3
set_option linter.unusedVariables false
set_option linter.unusedSimpArgs false
set_option maxRecDepth 100000
set_option maxHeartbeats 4000000
namespace Go.Proofs.YtpeipeljmapkmaaGreat
open Go.RowKit
theorem AsOk.nil(sizes:List Int):AsOk sizes []:=⟨by simp,List.Pairwise.nil⟩
theorem AsOk.succ{sizes:List Int}{l:List (Int×Int)}{k:Nat}{v x:Int}(hx:l[k]? = some (v,x))(h:AsOk sizes (l.take k))(hr:(0<=v/\v < sizes.length)/\0<=x/\x < xJ2 sizes v)(hs:0 < k->∀ v' x',l[k - 1]? = some (v',x')->v' < v):AsOk sizes (l.take (k+1)):=by
 have hk:=(List.getElem?_eq_some_iff.1 hx).1;rw[List.take_add_one,hx];refine⟨fun a ha=>?_,?_⟩
 ·rcases List.mem_append.1 ha with ha | ha
  ·exact h.rng a ha
  ·simp at ha;subst ha;exact hr
 ·show (l.take k ++ [(v,x)]).Pairwise _;rw[List.pairwise_append];refine⟨h.inc,by simp,fun a ha b hb=>?_⟩;simp at hb;subst hb;obtain⟨i,hi⟩:=List.getElem?_of_mem ha;have hil:=(List.getElem?_eq_some_iff.1 hi).1;rw[List.length_take] at hil;have hk0:0 < k:=by omega
  have hl1:k - 1 < (l.take k).length:=by rw[List.length_take];omega
  have h1:(l.take k)[k - 1]? = some (l.take k)[k - 1]:=lGe hl1;have h2:=hs hk0 (l.take k)[k - 1].1 (l.take k)[k - 1].2 (by rw[<- h1,List.getElem?_take_of_lt (by omega)]);show a.1 < v
  by_cases e:i=k - 1
  ·subst e;rw[h1] at hi;rw[<- Option.some.inj hi];exact h2
  ·have hi2:i < (l.take k).length:=by rw[List.length_take];omega
   have h3:=List.pairwise_iff_getElem.1 h.inc i (k - 1) hi2 hl1 (by omega);have h4:(l.take k)[i]=a:=by rw[lGe hi2] at hi;exact Option.some.inj hi
   rw[h4] at h3;omega
def FaultP(P:Prop)(e:Ending):Prop:=∃ c j:Int,e=.returned (.agg #[.int .i64 c,.int .i64 j])/\((c=0/\j=0/\P)\/(¬ c=0/\¬ P))
theorem FaultP.no{P:Prop}{e:Ending}(h:FaultP P e)(hp:¬ P):∃ c j:Int,e=.returned (.agg #[.int .i64 c,.int .i64 j])/\¬ c=0:=by
 obtain⟨c,j,rfl,⟨_,_,h⟩ | ⟨h,_⟩⟩:=h
 ·exact absurd h hp
 ·exact⟨c,j,rfl,h⟩
theorem VarsOk.of{sizes vars:List Int}{m:MtV}(hm:m.sizes=sizes)(hne:vars≠[]){k:Nat}(hk:¬ k < vars.length)(h:(∀ v∈vars.take k,0<=v/\v < (sizes.length:Int))/\(vars.take k).Pairwise (· < ·)):VarsOk m vars:=by
 rw[List.take_of_length_le (by omega)] at h;subst hm;exact⟨hne,h.1,h.2⟩
def vXk(sizes:List Int):Nat->List (List Int)
 | 0=>[[]]
 | k+1=>(vXk sizes k).flatMap fun s=>(List.range (xJ2 sizes (k:Int)).toNat).map fun (v:Nat)=>s ++ [(v:Int)]
def rkV(sizes s:List Int):Nat->Int
 | 0=>0
 | k+1=>rkV sizes s k * xJ2 sizes (k:Int)+xJ2 s (k:Int)
theorem vYw{α β:Type}{f:α->List β}{c:Nat}:∀ {l:List α},(∀ x∈l,(f x).length=c)->(l.flatMap f).length=l.length * c:=by
 intro l
 induction l with
 | nil=>intro _;simp
 | cons a l ih=>
  intro h;rw[List.flatMap_cons,List.length_append,ih (fun x hx=>h x (List.mem_cons_of_mem _ hx)),h a (List.mem_cons_self ..),List.length_cons,Nat.succ_mul];omega
theorem fm_at{α β:Type}{f:α->List β}{c:Nat}:∀ {l:List α},(∀ x∈l,(f x).length=c)->∀ {i j:Nat} {a:α},l[i]? = some a->j < c->(l.flatMap f)[i * c+j]? = (f a)[j]?:=by
 intro l
 induction l with
 | nil=>intro _ i j a ha;simp at ha
 | cons b l ih=>
  intro h i j a ha hj;have hb:=h b (List.mem_cons_self ..);rw[List.flatMap_cons]
  cases i with
  | zero=>
   simp at ha;subst ha;rw[Nat.zero_mul,Nat.zero_add,List.getElem?_append_left (by omega)]
  | succ i=>
   rw[List.getElem?_append_right (by rw[hb,Nat.succ_mul];omega),hb];have e:(i+1) * c+j - c=i * c+j:=by rw[Nat.succ_mul];omega
   rw[e];exact ih (fun x hx=>h x (List.mem_cons_of_mem _ hx)) (by simpa using ha) hj
theorem zKr(sizes:List Int)(k:Nat):∀ x∈vXk sizes k,((List.range (xJ2 sizes (k:Int)).toNat).map fun (v:Nat)=>x ++ [(v:Int)]).length=(xJ2 sizes (k:Int)).toNat:=fun x _=>by simp
theorem vQq{sizes s:List Int}:∀ {k:Nat},(∀ j:Nat,j < k->0<=xJ2 s (j:Int)/\xJ2 s (j:Int) < xJ2 sizes (j:Int))->0<=rkV sizes s k/\rkV sizes s k < ((vXk sizes k).length:Int):=by
 intro k
 induction k with
 | zero=>intro _;exact⟨Int.le_refl _,by simp[rkV,vXk]⟩
 | succ k ih=>
  intro h;obtain⟨i1,i2⟩:=ih (fun j hj=>h j (by omega));have hk:=h k (by omega);rw[rkV,vXk,vYw (zKr sizes k),Int.natCast_mul];have e3:((xJ2 sizes (k:Int)).toNat:Int)=xJ2 sizes (k:Int):=by omega
  rw[e3];have h1:0<=rkV sizes s k * xJ2 sizes (k:Int):=Int.mul_nonneg i1 (by omega);refine⟨by omega,?_⟩;have h2:(rkV sizes s k+1) * xJ2 sizes (k:Int)<=((vXk sizes k).length:Int) * xJ2 sizes (k:Int):=Int.mul_le_mul_of_nonneg_right (by omega) (by omega);rw[Int.add_mul,Int.one_mul] at h2;omega
theorem at_rk{sizes s:List Int}:∀ {k:Nat},(∀ j:Nat,j < k->0<=xJ2 s (j:Int)/\xJ2 s (j:Int) < xJ2 sizes (j:Int))->k<=s.length->(vXk sizes k)[(rkV sizes s k).toNat]? = some (s.take k):=by
 intro k
 induction k with
 | zero=>intro _ _;simp[rkV,vXk]
 | succ k ih=>
  intro h hl;have h1:=ih (fun j hj=>h j (by omega)) (by omega);have hk:=h k (by omega);have hr:=(vQq (sizes:=sizes) (s:=s) (k:=k) (fun j hj=>h j (by omega))).1;have h2:=fm_at (zKr sizes k) (j:=(xJ2 s (k:Int)).toNat) h1 (by omega);have e:(rkV sizes s (k+1)).toNat=(rkV sizes s k).toNat * (xJ2 sizes (k:Int)).toNat+(xJ2 s (k:Int)).toNat:=by
   have e1:rkV sizes s (k+1)=(((rkV sizes s k).toNat * (xJ2 sizes (k:Int)).toNat+(xJ2 s (k:Int)).toNat:Nat):Int):=by
    rw[rkV,Int.natCast_add,Int.natCast_mul,Int.toNat_of_nonneg hr,Int.toNat_of_nonneg (by omega),Int.toNat_of_nonneg hk.1]
   rw[e1,Int.toNat_natCast]
  rw[e,vXk,h2,List.getElem?_map,List.getElem?_range (by omega)];show some (s.take k ++ [(((xJ2 s (k:Int)).toNat:Nat):Int)])=_;rw[Int.toNat_of_nonneg hk.1,List.take_add_one];have:s[k]? = some s[k]:=lGe (by omega);rw[this];have e5:xJ2 s (k:Int)=s[k]:=xJ9 (by rw[Int.toNat_natCast];exact this);rw[e5];rfl
def vKx(sizes:List Int):List (List Int):=vXk sizes sizes.length
def rkA(sizes s:List Int):Int:=rkV sizes s sizes.length
theorem StM.rk{sizes s:List Int}(h:StM sizes s):(0<=rkA sizes s/\rkA sizes s < ((vKx sizes).length:Int))/\(vKx sizes)[(rkA sizes s).toNat]? = some s:=by
 refine⟨vQq h.rng,?_⟩;have h1:=at_rk (sizes:=sizes) (s:=s) (k:=sizes.length) h.rng (by rw[h.len];exact Nat.le_refl _);rw[List.take_of_length_le (by rw[h.len];exact Nat.le_refl _)] at h1;exact h1
structure RD(p:MtV)(out:List Int):Prop where
 len:out.length=(vKx p.sizes).length
 rng:∀ v∈out,0<=v/\v<=1000000000
 goal:∀ s,StM p.sizes s->HoldsV s p.goal->xJ2 out (rkA p.sizes s)=0
 att:∀ s,StM p.sizes s->xJ2 out (rkA p.sizes s) < 1000000000->∃ ps,MP p.goal p.ops s ps/\zJo p.ops ps=xJ2 out (rkA p.sizes s)
def StepD(p:MtV)(out:List Int)(s:List Int)(o:MopV):Prop:=HoldsV s o.pre->xJ2 out (rkA p.sizes (xQ0 s o.post))≠1000000000->xJ2 out (rkA p.sizes s)<=xJ2 out (rkA p.sizes (xQ0 s o.post))+o.cost
theorem RD.val{p:MtV}{out:List Int}(h:RD p out){s:List Int}(hs:StM p.sizes s):∃ v,out[(rkA p.sizes s).toNat]? = some v/\xJ2 out (rkA p.sizes s)=v/\0<=v/\v<=1000000000:=by
 have h1:=hs.rk;have h2:(rkA p.sizes s).toNat < out.length:=by have:=h.len;omega
 exact⟨_,lGe h2,xJ9 (lGe h2),h.rng _ (List.getElem_mem h2)⟩
theorem RD.done{p:MtV}{out:List Int}(h:RD p out)(hst:∀ s,StM p.sizes s->∀ o∈p.ops,StepD p out s o):DistOk p (fun s=>xJ2 out (rkA p.sizes s)):=
 ⟨h.goal,fun s hs=>by obtain⟨v,_,e,r⟩:=h.val hs;show 0<=xJ2 out _/\xJ2 out _<=_;rw[e];exact r,fun s hs o ho hp hne=>hst s hs o ho hp hne,h.att⟩
noncomputable def d0V(p:MtV):List Int:=(vKx p.sizes).map fun s=>@ite _ (HoldsV s p.goal) (Classical.propDecidable _) 0 1000000000
theorem RD.start{p:MtV}:RD p (d0V p):=by
 have hat:∀ s,StM p.sizes s->xJ2 (d0V p) (rkA p.sizes s)=@ite _ (HoldsV s p.goal) (Classical.propDecidable _) 0 1000000000:=fun s hs=>by
  refine xJ9 ?_;unfold d0V;rw[List.getElem?_map,hs.rk.2];rfl
 refine⟨by unfold d0V;simp,fun v hv=>?_,fun s hs hg=>?_,fun s hs hl=>?_⟩
 ·unfold d0V at hv;obtain⟨s,_,rfl⟩:=List.mem_map.1 hv
  split <;> omega
 ·rw[hat s hs,if_pos hg]
 ·rw[hat s hs] at hl ⊢
  split at hl
  ·rename_i hg
   rw[if_pos hg];exact⟨[],.nil hg,by simp[zJo]⟩
  ·omega
end Go.Proofs.YtpeipeljmapkmaaGreat
