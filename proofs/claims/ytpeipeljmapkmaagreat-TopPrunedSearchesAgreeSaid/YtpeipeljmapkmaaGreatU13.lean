/-
  Lemmas for the law: Qh.
-/
import Derived.Test.YtpeipeljmapkmaaGreatRows
set_option linter.unusedVariables false
set_option linter.unusedSimpArgs false
set_option maxRecDepth 100000
set_option maxHeartbeats 4000000
namespace Go.Proofs.YtpeipeljmapkmaaGreat
section
structure WkOrd{α:Type}(lt:α->α->Bool):Prop where
 asym:∀ x y,lt x y=true->lt y x=false
 ntr:∀ x y z,lt x y=false->lt y z=false->lt x z=false
section
variable {α:Type}{lt:α->α->Bool}
def Okp(lt:α->α->Bool)(l:List α)(k p:Nat):Prop:=∀ x y,l[k]? = some x->l[p]? = some y->lt x y=false
def HeapN(lt:α->α->Bool)(n:Nat)(l:List α):Prop:=∀ k,0 < k->k < n->Okp lt l k ((k - 1) / 2)
structure HoleD(lt:α->α->Bool)(n i:Nat)(l:List α):Prop where
 rest:∀ k,0 < k->k < n->(k - 1) / 2≠i->k≠i->Okp lt l k ((k - 1) / 2)
 over:∀ k,0 < k->k < n->(k - 1) / 2=i->0 < i->Okp lt l k ((i - 1) / 2)
structure HoleU(lt:α->α->Bool)(n i:Nat)(l:List α):Prop where
 rest:∀ k,0 < k->k < n->k≠i->Okp lt l k ((k - 1) / 2)
 over:∀ k,0 < k->k < n->(k - 1) / 2=i->0 < i->Okp lt l k ((i - 1) / 2)
def xXa(l:List α)(i j:Nat):List α:=
 match l[i]?,l[j]? with
 | some x,some y=>(l.set i y).set j x
 | _,_=>l
theorem xZf(l:List α)(i j:Nat):(xXa l i j).length=l.length:=by
 unfold xXa;split <;> simp
theorem xYo{l:List α}{i j:Nat}(hi:i < l.length)(hj:j < l.length):xXa l i j=(l.set i l[j]).set j l[i]:=by
 unfold xXa;rw[List.getElem?_eq_getElem hi,List.getElem?_eq_getElem hj]
theorem xQp{l:List α}{i j:Nat}(hi:i < l.length)(hj:j < l.length)(k:Nat):(xXa l i j)[k]? = if k=j then l[i]? else if k=i then l[j]? else l[k]?:=by
 rw[xYo hi hj,List.getElem?_set]
 by_cases h1:k=j
 ·subst h1;rw[if_pos rfl,if_pos rfl,if_pos (by simpa using hj),List.getElem?_eq_getElem hi]
 ·rw[if_neg (fun e=>h1 e.symm),if_neg h1,List.getElem?_set]
  by_cases h2:k=i
  ·subst h2;rw[if_pos rfl,if_pos rfl,if_pos hi,List.getElem?_eq_getElem hj]
  ·rw[if_neg (fun e=>h2 e.symm),if_neg h2]
theorem xXm(l:List α)(i j:Nat):(xXa l i j).Perm l:=by
 by_cases h:i < l.length/\j < l.length
 ·obtain⟨hi,hj⟩:=h;rw[xYo hi hj];exact List.set_set_perm hi hj
 ·unfold xXa;rcases Nat.lt_or_ge i l.length with hi | hi
  ·rw[List.getElem?_eq_none (by omega:l.length<=j)]
   split <;> first | exact List.Perm.refl _ | simp_all
  ·rw[List.getElem?_eq_none hi]
theorem HoleU.up{n i:Nat}{l:List α}(h:HoleU lt n i l)(W:WkOrd lt)(h0:0 < i)(hi:i < n)(hn:n<=l.length)(hl:∀ x y,l[i]? = some x->l[(i - 1) / 2]? = some y->lt x y=true):HoleU lt n ((i - 1) / 2) (xXa l ((i - 1) / 2) i):=by
 obtain⟨p,hp⟩:∃ p,p=(i - 1) / 2:=⟨_,rfl⟩;rw[<- hp] at hl ⊢;have hpi:p < i:=by omega
 have at_:=xQp (l:=l) (i:=p) (j:=i) (by omega) (by omega);constructor
 ·intro k h1 h2 h3 x y hx hy;rw[at_] at hx hy
  by_cases hk:k=i
  ·subst hk;rw[if_pos rfl] at hx;rw[<- hp,if_neg (by omega),if_pos rfl] at hy;exact W.asym _ _ (hl y x hy hx)
  ·rw[if_neg hk,if_neg h3] at hx
   by_cases hq:(k - 1) / 2=i
   ·rw[if_pos hq] at hy;exact h.over k h1 h2 hq h0 x y hx (by rw[<- hp];exact hy)
   ·rw[if_neg hq] at hy
    by_cases hq2:(k - 1) / 2=p
    ·rw[if_pos hq2] at hy;have hz:l[p]? = some l[p]:=List.getElem?_eq_getElem (by omega);exact W.ntr x l[p] y (h.rest k h1 h2 hk x _ hx (by rw[hq2];exact hz)) (W.asym _ _ (hl y _ hy hz))
    ·rw[if_neg hq2] at hy;exact h.rest k h1 h2 hk x y hx hy
 ·intro k h1 h2 h3 h4 x y hx hy;rw[at_] at hx hy;have hpp:(p - 1) / 2≠i/\(p - 1) / 2≠p:=by omega
  rw[if_neg hpp.1,if_neg hpp.2] at hy
  by_cases hk:k=i
  ·subst hk;rw[if_pos rfl] at hx;exact h.rest p h4 (by omega) (by omega) x y hx hy
  ·rw[if_neg hk,if_neg (by omega)] at hx;have hz:l[p]? = some l[p]:=List.getElem?_eq_getElem (by omega);exact W.ntr x l[p] y (h.rest k h1 h2 hk x _ hx (by rw[h3];exact hz)) (h.rest p h4 (by omega) (by omega) _ y hz hy)
theorem HoleU.done0{n:Nat}{l:List α}(h:HoleU lt n 0 l):HeapN lt n l:=fun k h1 h2=>h.rest k h1 h2 (by omega)
theorem HoleU.done{n i:Nat}{l:List α}(h:HoleU lt n i l)(hl:Okp lt l i ((i - 1) / 2)):HeapN lt n l:=fun k h1 h2=>by
 by_cases e:k=i
 ·subst e;exact hl
 ·exact h.rest k h1 h2 e
structure Sink(lt:α->α->Bool)(n i0:Nat)(l0:List α)(i:Nat)(l:List α):Prop where
 ge:i0<=i
 same:i=i0->l=l0
 rest:∀ k,0 < k->k < n->(k - 1) / 2≠i->(i=i0->k≠i)->Okp lt l k ((k - 1) / 2)
 over:∀ k,0 < k->k < n->(k - 1) / 2=i->0 < i->Okp lt l k ((i - 1) / 2)
 perm:l.Perm l0
 beyond:∀ k,n<=k->l[k]? = l0[k]?
theorem HoleD.sink{n i:Nat}{l:List α}(h:HoleD lt n i l):Sink lt n i l i l:=⟨Nat.le_refl _,fun _=>rfl,fun k h1 h2 h3 h4=>h.rest k h1 h2 h3 (h4 rfl),h.over,List.Perm.refl _,fun _ _=>rfl⟩
theorem Sink.down{n i0 i j:Nat}{l0 l:List α}(h:Sink lt n i0 l0 i l)(W:WkOrd lt)(hn:n<=l.length)(h0:0 < j)(hj:j < n)(hji:(j - 1) / 2=i)
  (hl:∀ x y,l[j]? = some x->l[i]? = some y->lt x y=true) (hmin:∀ k,0 < k->k < n->(k - 1) / 2=i->Okp lt l k j):Sink lt n i0 l0 j (xXa l i j):=by
 have hij:i < j:=by omega
 have at_:=xQp (l:=l) (i:=i) (j:=j) (by omega) (by omega);have hge:=h.ge;constructor
 ·omega
 ·intro e;omega
 ·intro k h1 h2 h3 _ x y hx hy;rw[at_] at hx hy;rw[if_neg h3] at hy
  by_cases hk:k=j
  ·subst hk;rw[if_pos rfl] at hx;rw[hji,if_pos rfl] at hy;exact W.asym _ _ (hl y x hy hx)
  ·rw[if_neg hk] at hx
   by_cases hki:k=i
   ·subst hki;rw[if_pos rfl] at hx;rw[if_neg (by omega)] at hy;exact h.over j h0 hj hji h1 x y hx hy
   ·rw[if_neg hki] at hx
    by_cases hq:(k - 1) / 2=i
    ·rw[if_pos hq] at hy;exact hmin k h1 h2 hq x y hx hy
    ·rw[if_neg hq] at hy;exact h.rest k h1 h2 hq (fun _=>hki) x y hx hy
 ·intro k h1 h2 h3 h4 x y hx hy;rw[at_] at hx hy;rw[hji,if_neg (by omega),if_pos rfl] at hy;rw[if_neg (by omega),if_neg (by omega)] at hx;exact h.rest k h1 h2 (by omega) (fun _=>by omega) x y hx (by rw[h3];exact hy)
 ·exact (xXm _ _ _).trans h.perm
 ·intro k hk;rw[at_,if_neg (by omega),if_neg (by omega)];exact h.beyond k hk
theorem Sink.done{n i0 i:Nat}{l0 l:List α}(h:Sink lt n i0 l0 i l)(hc:∀ k,0 < k->k < n->(k - 1) / 2=i->Okp lt l k i)(hne:i≠i0):HeapN lt n l:=fun k h1 h2=>by
 by_cases e:(k - 1) / 2=i
 ·rw[e];exact hc k h1 h2 e
 ·exact h.rest k h1 h2 e (fun e2=>absurd e2 hne)
theorem Sink.stay{n i0:Nat}{l0 l:List α}(h:Sink lt n i0 l0 i0 l)(hc:∀ k,0 < k->k < n->(k - 1) / 2=i0->Okp lt l k i0):l=l0/\HoleU lt n i0 l:=by
 refine⟨h.same rfl,?_,h.over⟩;intro k h1 h2 h3
 by_cases e:(k - 1) / 2=i0
 ·rw[e];exact hc k h1 h2 e
 ·exact h.rest k h1 h2 e (fun _=>h3)
theorem HeapN.least{n:Nat}{l:List α}(h:HeapN lt n l)(W:WkOrd lt)(hn:n<=l.length):∀ k,k < n->Okp lt l k 0:=by
 have irr:∀ x,lt x x=false:=fun x=>by
  cases e:lt x x with
  | false=>rfl
  | true=>have:=W.asym x x e;rw[e] at this;exact this
 intro k
 induction k using Nat.strongRecOn with
 | ind k ih=>
  intro hk x y hx hy
  by_cases h0:k=0
  ·subst h0;rw[hx] at hy;injection hy with hy;subst hy;exact irr _
  ·have hz:l[(k - 1) / 2]? = some l[(k - 1) / 2]:=List.getElem?_eq_getElem (by omega);exact W.ntr x _ y (h k (by omega) hk x _ hx hz) (ih ((k - 1) / 2) (by omega) (by omega) _ y hz hy)
theorem HeapN.snoc{n:Nat}{l:List α}(h:HeapN lt n l)(hn:n=l.length)(x:α):HoleU lt (n+1) n (l ++ [x]):=by
 subst hn;constructor
 ·intro k h1 h2 h3 a b ha hb;rw[List.getElem?_append_left (by omega)] at ha hb;exact h k h1 (by omega) a b ha hb
 ·intro k h1 h2 h3 h4;omega
theorem HeapN.pop{n:Nat}{l:List α}(h:HeapN lt (n+1) l)(hn:n+1=l.length):HoleD lt n 0 (xXa l 0 n):=by
 constructor
 ·intro k h1 h2 h3 h4 x y hx hy;rw[xQp (by omega) (by omega),if_neg (by omega),if_neg (by omega)] at hx hy;exact h k h1 (by omega) x y hx hy
 ·intro k _ _ _ h;omega
theorem HeapN.change{n i:Nat}{l:List α}(h:HeapN lt n l)(W:WkOrd lt)(hn:n<=l.length)(hi:i < n)(x:α):HoleD lt n i (l.set i x):=by
 constructor
 ·intro k h1 h2 h3 h4 a b ha hb;rw[List.getElem?_set,if_neg (fun e=>h4 e.symm)] at ha;rw[List.getElem?_set,if_neg (fun e=>h3 e.symm)] at hb;exact h k h1 h2 a b ha hb
 ·intro k h1 h2 h3 h4 a b ha hb;rw[List.getElem?_set,if_neg (by omega)] at ha;rw[List.getElem?_set,if_neg (by omega)] at hb;have hz:l[i]? = some l[i]:=List.getElem?_eq_getElem (by omega);exact W.ntr a _ b (h k h1 h2 a _ ha (by rw[h3];exact hz)) (h i h4 hi _ b hz hb)
theorem HeapN.take{n:Nat}{l:List α}(h:HeapN lt n l):HeapN lt n (l.take n):=fun k h1 h2 a b ha hb=>by
 rw[List.getElem?_take_of_lt h2] at ha;rw[List.getElem?_take_of_lt (by omega)] at hb;exact h k h1 h2 a b ha hb
end
end
end Go.Proofs.YtpeipeljmapkmaaGreat
