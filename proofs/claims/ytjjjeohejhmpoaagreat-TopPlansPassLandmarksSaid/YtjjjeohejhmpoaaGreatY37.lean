/-
  Lemmas.
-/
import Derived.Test.YtjjjeohejhmpoaaGreatY21
set_option linter.unusedVariables false
set_option linter.unusedSimpArgs false
set_option maxRecDepth 100000
set_option maxHeartbeats 4000000
namespace Go.Proofs.YtjjjeohejhmpoaaGreat
open Go.RowKit Go.Proofs.Tryz
section
def zKl(n:Nat)(f:Int->Int):List Int:=(List.range n).map fun (q:Nat)=>f (q:Int)
theorem zJm(n:Nat)(f:Int->Int):(zKl n f).length=n:=by simp[zKl]
theorem xKo{n q:Nat}{f:Int->Int}(h:q < n):(zKl n f)[q]? = some (f (q:Int)):=by simp[zKl,h]
def vVr(V:Int->Int->Int)(p q x:Int):Int->Int->Int:=fun p' q'=>if (p'=p/\q'=q)\/(p'=q/\q'=p) then x else V p' q'
def yZe(V:Int->Int->Int)(p q x:Int):Int->Int->Int:=if x < V p q then vVr V p q x else V
theorem zVb{V:Int->Int->Int}{p q x:Int}(h:¬ x < V p q):yZe V p q x=V:=if_neg h
theorem zVc{V:Int->Int->Int}{p q x:Int}(h:x < V p q):yZe V p q x=vVr V p q x:=if_pos h
structure Tbl(w:World)(g:Nat)(bs:List Nat)(n:Nat)(V:Int->Int->Int):Prop where
 arr:Arr w g 22 (bs.map fun b=>Value.slice (some ⟨b,0,none⟩) n n)
 len:bs.length=n
 rows:∀ (p b:Nat),bs[p]? = some b->IArr w b (zKl n (V (p:Int)))
 diff:∀ b∈bs,b≠g
 nodup:bs.Nodup
section
variable {w w':World}{g n:Nat}{bs:List Nat}{V:Int->Int->Int}
theorem Tbl.lt(h:Tbl w g bs n V):g < w.heap.size/\∀ b∈bs,b < w.heap.size:=⟨h.arr.lt,fun b hb=>by
 obtain⟨i,hi,rfl⟩:=List.getElem_of_mem hb;exact Arr.lt (h.rows i _ (lGe hi))⟩
theorem Tbl.same(h:Tbl w g bs n V)(hg:w'.heap[g]? = w.heap[g]?)(hb:∀ b∈bs,w'.heap[b]? = w.heap[b]?):Tbl w' g bs n V:=
 ⟨hg.trans h.arr,h.len,fun p b hp=>(hb b (lMg hp)).trans (h.rows p b hp),h.diff,h.nodup⟩
theorem Tbl.below(h:Tbl w g bs n V)(hb:Below w.heap.size w w'):Tbl w' g bs n V:=h.same (hb.block g h.lt.1) (fun b hm=>hb.block b (h.lt.2 b hm))
end
structure Wr(bs:List Nat)(w w':World):Prop where
 os:w'.os=w.os
 tape:w'.tape=w.tape
 output:w'.output=w.output
 size:w.heap.size<=w'.heap.size
 block:∀ k,k < w.heap.size->k∉bs->w'.heap[k]? = w.heap[k]?
section
variable {bs:List Nat}{a w w':World}
theorem Wr.refl(bs:List Nat)(w:World):Wr bs w w:=⟨rfl,rfl,rfl,Nat.le_refl _,fun _ _ _=>rfl⟩
theorem Wr.of(h:Below w.heap.size w w'):Wr bs w w':=⟨h.os,h.tape,h.output,h.size,fun k hk _=>h.block k hk⟩
theorem Wr.trans(h:Wr bs a w)(k:Wr bs w w'):Wr bs a w':=⟨k.os.trans h.os,k.tape.trans h.tape,k.output.trans h.output,zQd h.size k.size,fun i hi hn=>(k.block i (Nat.lt_of_lt_of_le hi h.size) hn).trans (h.block i hi hn)⟩
theorem Wr.below{B:Nat}(h:Wr bs w w')(hB:B<=w.heap.size)(hb:∀ b∈bs,B<=b):Below B w w':=⟨h.os,h.tape,h.output,h.size,fun k hk=>h.block k (by omega) (fun hm=>by have:=hb k hm;omega)⟩
theorem Wr.set_(h:Wr bs a w){p:Addr}(hp:p.block∈bs)(u:Value):Wr bs a (w.setCell p u):=
 h.trans ⟨rfl,rfl,rfl,by simp[World.setCell],fun k hk hn=>Below.heap_setCell _ _ _ _ (fun e=>hn (by rw[e];exact hp))⟩
end
def Cov(V:Int->Int->Int)(l:List Int)(k j:Nat)(o:Int):Prop:=
 0<=o/\(∀ (a b:Nat) (p q:Int),(a < k/\b<=a\/a=k/\b < j)->l[a]? = some p->l[b]? = some q->V p q<=o) /\
  ∀ z,0<=z->(∀ (a b:Nat) (p q:Int),(a < k/\b<=a\/a=k/\b < j)->l[a]? = some p->l[b]? = some q->V p q<=z)->o<=z
theorem Cov.start(V:Int->Int->Int)(l:List Int):Cov V l 0 0 0:=⟨Int.le_refl _,fun a b p q h=>by omega,fun z hz _=>hz⟩
theorem Cov.step{V:Int->Int->Int}{l:List Int}{k j:Nat}{o p q m:Int}(h:Cov V l k j o)(hp:l[k]? = some p)(hq:l[j]? = some q)(hm:m=if o < V p q then V p q else o):Cov V l k (j+1) m:=by
 obtain⟨h0,h1,h2⟩:=h;have hm1:o<=m/\V p q<=m/\(m=o\/m=V p q):=by
  rw[hm];split <;> omega
 refine⟨by omega,fun a b p' q' hab ha hb=>?_,fun z hz hall=>?_⟩
 ·by_cases e:a=k/\b=j
  ·obtain⟨rfl,rfl⟩:=e;rw[hp] at ha;rw[hq] at hb;injection ha with ha;injection hb with hb
   subst ha;subst hb;omega
  ·have:=h1 a b p' q' (by omega) ha hb;omega
 ·have h3:=h2 z hz (fun a b p' q' hab ha hb=>hall a b p' q' (by omega) ha hb);have h4:=hall k j p q (by omega) hp hq;omega
theorem Cov.row{V:Int->Int->Int}{l:List Int}{k:Nat}{o:Int}(h:Cov V l k (k+1) o):Cov V l (k+1) 0 o:=
 ⟨h.1,fun a b p q hab=>h.2.1 a b p q (by omega),fun z hz hall=>h.2.2 z hz fun a b p q hab=>hall a b p q (by omega)⟩
def sumN(l:List Nat)(f:Nat->Nat):Nat:=(l.map f).sum
theorem uXg{f g:Nat->Nat}:∀ {l:List Nat},(∀ x∈l,f x<=g x)->sumN l f<=sumN l g
 | [],_=>Nat.le_refl _
 | x :: l,h=>by
  have h1:=uXg (l:=l) (f:=f) (g:=g) (fun y hy=>h y (List.mem_cons_of_mem _ hy));have h2:=h x (zXc ..);simp only[sumN,List.map_cons,List.sum_cons] at *;omega
theorem vJo{f g:Nat->Nat}:∀ {l:List Nat},(∀ x∈l,f x<=g x)->(∃ x∈l,f x < g x)->sumN l f < sumN l g
 | [],_,h=>by obtain⟨x,hx,_⟩:=h;cases hx
 | x :: l,h,hx=>by
  obtain⟨y,hy,hlt⟩:=hx;have h2:=h x (zXc ..);have h3:=uXg (l:=l) (f:=f) (g:=g) (fun y hy=>h y (List.mem_cons_of_mem _ hy));rcases zKm.1 hy with e | e
  ·subst e;simp only[sumN,List.map_cons,List.sum_cons] at *;omega
  ·have h1:=vJo (l:=l) (f:=f) (g:=g) (fun y hy=>h y (List.mem_cons_of_mem _ hy)) ⟨y,e,hlt⟩;simp only[sumN,List.map_cons,List.sum_cons] at *;omega
def zWu(n:Nat)(V:Int->Int->Int):Nat:=sumN (List.range n) fun p=>sumN (List.range n) fun q=>(V (p:Int) (q:Int)).toNat
theorem yW1{n:Nat}{U V:Int->Int->Int}(h:∀ p q,Rng n p->Rng n q->U p q<=V p q){p q:Int}(hp:Rng n p)(hq:Rng n q)(h0:0<=U p q)(hlt:U p q < V p q):zWu n U < zWu n V:=by
 unfold Rng at *;have hr:∀ x∈List.range n,(0:Int)<=(x:Int)/\(x:Int) < (n:Int):=fun x hx=>by have:=vJp.1 hx;omega
 refine vJo (fun a ha=>uXg fun b hb=>?_) ⟨p.toNat,vJp.2 (by omega),vJo (fun b hb=>?_) ⟨q.toNat,vJp.2 (by omega),?_⟩⟩
 ·have:=h a b (hr a ha) (hr b hb);omega
 ·have e:((p.toNat:Nat):Int)=p:=by omega
  rw[e];have:=h p b hp (hr b hb);omega
 ·have e:((p.toNat:Nat):Int)=p:=by omega
  have e2:((q.toNat:Nat):Int)=q:=by omega
  rw[e,e2];omega
structure PAb(n:Nat)(st:List Int)(ops:List OpV)(V:Int->Int->Int):Prop where
 all:∀ p q,Rng n p->Rng n q->InV (V p q)
 zero:∀ p∈st,∀ q∈st,V p q=0
 sym:∀ p q,Rng n p->Rng n q->V p q=V q p
 great:∀ U,PFix n st ops U->∀ p q,Rng n p->Rng n q->U p q<=V p q
section
variable {n:Nat}{st:List Int}{ops:List OpV}{V:Int->Int->Int}
theorem yJ3{U:Int->Int->Int}(h:PFix n st ops U):PFix n st ops (fun p q=>U q p):=by
 refine⟨fun p q hp hq=>h.all q p hq hp,fun p hp q hq=>h.zero q hq p hp,fun o ho p q l hp hq ha=>?_⟩;have h1:=h.closed o ho q p l hq hp ha.symm;have h2:valP (fun p q=>U q p) l=valP U l:=Int.le_antisymm (xXw xZ5 fun p hp q hq=>xZl hq hp) (xXw xZ5 fun p hp q hq=>xZl (V:=fun p q=>U q p) hq hp);show U q p<=_;rw[h2];exact h1
theorem PAb.set_(h:PAb n st ops V){p q x:Int}(hp:Rng n p)(hq:Rng n q)(hx:InV x)(hb:∀ U,PFix n st ops U->U p q<=x):PAb n st ops (yZe V p q x):=by
 by_cases hlt:x < V p q
 ·rw[zVc hlt];refine⟨fun a b ha hb=>?_,fun a ha b hbb=>?_,fun a b ha hb=>?_,fun U hU a b ha hb2=>?_⟩
  ·unfold vVr;split
   ·exact hx
   ·exact h.all a b ha hb
  ·unfold vVr;rw[if_neg]
   ·exact h.zero a ha b hbb
   ·have hx0:0<=x:=hx.1;rintro (⟨rfl,rfl⟩ | ⟨rfl,rfl⟩)
    ·have:=h.zero a ha b hbb;omega
    ·have:=h.zero b hbb a ha;omega
  ·unfold vVr
   by_cases e:(a=p/\b=q)\/(a=q/\b=p)
   ·rw[if_pos e,if_pos (by rcases e with e | e;exact .inr ⟨e.2,e.1⟩;exact .inl ⟨e.2,e.1⟩)]
   ·rw[if_neg e,if_neg (by rintro (k | k);exact e (.inr ⟨k.2,k.1⟩);exact e (.inl ⟨k.2,k.1⟩))];exact h.sym a b ha hb
  ·unfold vVr
   split
   ·rename_i e
    rcases e with ⟨rfl,rfl⟩ | ⟨rfl,rfl⟩
    ·exact hb U hU
    ·exact hb _ (yJ3 hU)
   ·exact h.great U hU a b ha hb2
 ·rw[zVb hlt];exact h
theorem PAb.set_lt(h:PAb n st ops V){p q x:Int}(hp:Rng n p)(hq:Rng n q)(hx:InV x)(hlt:x < V p q):zWu n (yZe V p q x) < zWu n V:=by
 rw[zVc hlt];have hs:=h.sym p q hp hq;refine yW1 (p:=p) (q:=q) (fun a b ha hb=>?_) hp hq ?_ ?_
 ·unfold vVr;split
  ·rename_i e
   rcases e with ⟨rfl,rfl⟩ | ⟨rfl,rfl⟩ <;> omega
  ·exact Int.le_refl _
 ·unfold vVr;rw[if_pos (.inl ⟨rfl,rfl⟩)];exact hx.1
 ·unfold vVr;rw[if_pos (.inl ⟨rfl,rfl⟩)];exact hlt
structure Use(n:Nat)(st:List Int)(ops:List OpV)(V0 V:Int->Int->Int)(b:Bool)(P:Prop):Prop where
 ab:PAb n st ops V
 down:b=true->zWu n V < zWu n V0
 keep:b=false->V=V0/\P
theorem Use.set_{V0:Int->Int->Int}{b:Bool}{P P':Prop}(h:Use n st ops V0 V b P){p q x:Int}(hp:Rng n p)(hq:Rng n q)(hx:InV x)(hb:∀ U,PFix n st ops U->U p q<=x)(hP:V=V0->P->V0 p q<=x->P') :
  Use n st ops V0 (yZe V p q x) (decide (x < V p q) || b) P':=by
 refine⟨h.ab.set_ hp hq hx hb,fun hc=>?_,fun hc=>?_⟩
 ·by_cases hlt:x < V p q
  ·have h1:=h.ab.set_lt hp hq hx hlt
   cases b with
   | true=>have:=h.down rfl;omega
   | false=>rw[(h.keep rfl).1] at h1 ⊢;exact h1
  ·rw[zVb hlt];refine h.down ?_;simpa[hlt] using hc
 ·simp only[Bool.or_eq_false_iff,decide_eq_false_iff_not] at hc;obtain⟨h1,h2⟩:=h.keep hc.2;rw[zVb hc.1];exact⟨h1,hP h1 h2 (by rw[<- h1];omega)⟩
end
section
variable {n:Nat}{st:List Int}{ops:List OpV}{V U:Int->Int->Int}{o:OpV}{p q:Int}
end
end
section
structure TblTo(w:World)(g:Nat)(bs:List Nat)(n k:Nat)(V:Int->Int->Int):Prop where
 arr:Arr w g 22 ((bs.map fun b=>Value.slice (some ⟨b,0,none⟩) n n) ++ List.replicate (n - k) (Value.slice none 0 0))
 len:bs.length=k
 rows:∀ (p b:Nat),bs[p]? = some b->IArr w b (zKl n (V (p:Int)))
 diff:∀ b∈bs,b≠g
 nodup:bs.Nodup
section
variable {w w':World}{g n k:Nat}{bs:List Nat}{V:Int->Int->Int}
theorem TblTo.lt(h:TblTo w g bs n k V):g < w.heap.size/\∀ b∈bs,b < w.heap.size:=⟨h.arr.lt,fun b hb=>by
 obtain⟨i,hi,rfl⟩:=List.getElem_of_mem hb;exact Arr.lt (h.rows i _ (lGe hi))⟩
theorem TblTo.below(h:TblTo w g bs n k V)(hb:Below w.heap.size w w'):TblTo w' g bs n k V:=
 ⟨(hb.block g h.lt.1).trans h.arr,h.len,fun p b hp=>(hb.block b (h.lt.2 b (lMg hp))).trans (h.rows p b hp),h.diff,h.nodup⟩
theorem TblTo.add(h:TblTo w g bs n k V)(hk:k < n)(hz:∀ q:Nat,q < n->V k q=0):TblTo ((w.setCell ⟨g,k,none⟩ (.slice (some ⟨w.heap.size,0,none⟩) n n)).alloc (.cells (Array.replicate n (.int .i64 0)) 3)) g (bs ++ [w.heap.size]) n (k+1) V:=by
 have hg:=h.lt.1;have hbl:=h.lt.2;refine⟨?_,by simp[h.len],fun p b hp=>?_,fun b hb=>?_,?_⟩
 ·have h1:=(h.arr.set_ k (.slice (some ⟨w.heap.size,0,none⟩) n n)).alloc (.cells (Array.replicate n (.int .i64 0)) 3);have e:((bs.map fun b=>Value.slice (some ⟨b,0,none⟩) n n) ++ List.replicate (n - k) (Value.slice none 0 0)).set k (.slice (some ⟨w.heap.size,0,none⟩) n n)=((bs ++ [w.heap.size]).map fun b=>Value.slice (some ⟨b,0,none⟩) n n) ++ List.replicate (n - (k+1)) (Value.slice none 0 0):=by
   have hl:(bs.map fun b=>Value.slice (some ⟨b,0,none⟩) n n).length=k:=by simp[h.len]
   rw[List.set_append_right _ _ (by omega),hl,Nat.sub_self];have e2:n - k=(n - (k+1))+1:=by omega
   rw[e2,List.replicate_succ];simp
  rw[e] at h1;exact h1
 ·rcases zZ2 p bs.length with hl | hl
  ·rw[zQa hl] at hp;have h1:=(h.rows p b hp).far (p:=⟨g,k,none⟩) (fun e=>h.diff b (lMg hp) e.symm) (.slice (some ⟨w.heap.size,0,none⟩) n n);exact h1.below ((Below.refl _ _).alloc (Nat.le_refl _) _)
  ·rw[List.getElem?_append_right hl] at hp;have hp0:p=bs.length:=by
    have:=(xZn.1 hp).1;simp at this;omega
   subst hp0;simp at hp;subst hp;have h1:=IArr.made (w.setCell ⟨g,k,none⟩ (.slice (some ⟨w.heap.size,0,none⟩) n n)) n w.heap.size (by simp);have e:zKl n (V ((bs.length:Nat):Int))=List.replicate n 0:=by
    apply List.ext_getElem?;intro i
    by_cases hi:i < n
    ·rw[xKo hi,h.len,hz i hi];simp[hi]
    ·rw[xWi (by rw[zJm];omega),xWi (by simp;omega)]
   rw[e];exact h1
 ·rcases xYs.1 hb with h1 | h1
  ·exact h.diff b h1
  ·rw[zWo.1 h1];omega
 ·rw[List.nodup_append];refine⟨h.nodup,by simp,fun a ha b hb=>?_⟩;rw[zWo.1 hb];have:=hbl a ha;omega
theorem TblTo.start(w:World)(n k:Nat)(V:Int->Int->Int)(hk:k=w.heap.size):TblTo (w.alloc (.cells (Array.replicate n (Value.slice none 0 0)) 22)) k [] n 0 V:=by
 subst hk;refine⟨?_,rfl,fun p b h=>by simp at h,fun b h=>(List.not_mem_nil h).elim,List.nodup_nil⟩;have h:=Arr.new w 22 (List.replicate n (Value.slice none 0 0));rw[List.toArray_replicate] at h;simpa using h
end
def TabAt(B:Nat)(w:World)(g n:Nat)(V:Int->Int->Int):Prop:=∃ bs,B<=g/\(∀ b∈bs,B<=b)/\Tbl w g bs n V
section
variable {B:Nat}{w w':World}{g n:Nat}{V:Int->Int->Int}
theorem TabAt.below(h:TabAt B w g n V)(hb:Below w.heap.size w w'):TabAt B w' g n V:=by
 obtain⟨bs,h1,h2,h3⟩:=h;exact⟨bs,h1,h2,h3.below hb⟩
theorem TabAt.far(h:TabAt B w g n V){p:Addr}(hp:p.block < B)(u:Value):TabAt B (w.setCell p u) g n V:=by
 obtain⟨bs,h1,h2,h3⟩:=h;exact⟨bs,h1,h2,h3.same (Below.heap_setCell _ _ _ _ (by omega)) (fun b hm=>Below.heap_setCell _ _ _ _ (by have:=h2 b hm;omega))⟩
theorem TabAt.row(h:TabAt B w g n V){p:Nat}(hp:p < n) :
  ∃ b,w.cell? ⟨g,p,none⟩=some (.slice (some ⟨b,0,none⟩) n n)/\Ints w (some ⟨b,0,none⟩) (zKl n (V (p:Int))):=by
 obtain⟨bs,h1,h2,h3⟩:=h;have hl:p < bs.length:=by rw[h3.len];exact hp
 refine⟨bs[p],?_,(h3.rows p _ (lGe hl)).ints⟩;rw[h3.arr.cell];simp[hl]
end
end
theorem uVf{B:Nat}{w:World}{A:Option Addr}{c:Nat}{xs:List Int}(h:Fresh B w A c xs)(hB:B<=w.heap.size):OwnLL B (w.alloc (.cells #[.slice A xs.length c] 22)) (.slice (some ⟨w.heap.size,0,none⟩) 1 1) [xs]:=by
 refine⟨[.slice A xs.length c],⟨by simp,.inr ⟨w.heap.size,1,#[.slice A xs.length c],rfl,hB,Arr.new w _ [.slice A xs.length c],by simp,by decide,by simp,by simp⟩⟩,fun i a ha=>?_⟩
 cases i with
 | succ i=>simp at ha
 | zero=>
  simp at ha;subst ha;have h2:=(xXc B).below h (w':=w.alloc (.cells #[.slice A xs.length c] 22)) ((Below.refl _ _).alloc (Nat.le_refl _) _);obtain⟨A',c',e,h3,h4,h5,h6,h7⟩:=h2;obtain⟨A1,c1,e1,_,_,_,_,h8⟩:=h;refine⟨A',c',e,h3,h4,h5,h6,fun ad hA=>⟨?_,(h7 ad hA).2⟩⟩;have e2:=e.symm.trans e1;injection e2 with e2
  injection e2 with e2 e3 e4
  subst e2;have:=(h8 ad hA).2.1;intro hc;have hc2:ad.block=w.heap.size:=by simpa[Value.ownBlock] using hc
  omega
theorem PList.neq{B:Nat}{w:World}{row:Option Nat}{A:Option Addr}{n c:Nat}{r:List Int}(h:PList B w row [.slice A n c] r){ad:Addr}(hA:A=some ad):some ad.block≠row:=by
 obtain⟨A',c',e,_,_,_,_,h7⟩:=h;injection e with e
 injection e with e2 e3 e4
 subst e2;exact (h7 ad hA).1
theorem uV7(w:World)(t:TaskV)(Ai Ag Ao:Option Addr)(ci cg co:Nat)(hT:TaskMem w Ai Ag Ao t)(hR:OpsRead w Ao t.ops)(S:Option Addr)(cs:Nat)(st:List Int)(hS:Ints w S st)(hst:SetP st t.facts)(P:Option Addr)(cp:Nat)(plan:List Int)(hP:Ints w P plan)(n:Nat)(hn:t.facts=n)(hv:Valid t)(hok:uXm t.ops.length plan) :
  Calls prog 62 #[.agg #[.int .i64 t.facts,.slice Ai t.init.length ci,.slice Ag t.goal.length cg,.slice Ao t.ops.length co],.slice S st.length cs,.slice P plan.length cp] w fun e w'=>∃ v,e=.returned v/\(∃ B,w.heap.size<=B/\OwnLL B w' v (uXj n t.ops st plan))/\Below w.heap.size w w':=by
 have HV:=lHd hv;have HN:=lHd hn;have hl60:=hok.1;have HOK:=lHd hok.2;have hlS:st.length<=1000000000000:=by have:=SetP.length hst hv.f0;have:=hv.f1;omega
 have HST:=lHd (show SetP st (n:Int) by rw[<- hn];exact hst);clear hv hn hok hst;go_enter func62,ntmps62
 go_wp2_with fail
 refine (vW9 _ _ _ _ (hS.below bch) hlS).mono ?_;rintro e w1 ⟨A1,c1,rfl,hF1,hB1⟩;have D1:=xJ3 w hB1 bch;have hz1:=hB1.size;have hz1':w.heap.size+1<=w1.heap.size:=by simpa using hz1
 have hF1':Fresh (w.heap.size+1) w1 A1 c1 st:=by simpa using hF1
 have C1:=Cls.below (l:=[(w.heap.size,0,.int .i64 t.facts),(w.heap.size,1,.slice Ai t.init.length ci),(w.heap.size,2,.slice Ag t.goal.length cg),(w.heap.size,3,.slice Ao t.ops.length co)]) hB1 (by simp[Cls,go_sem]);have HR1:=lHd (uVf hF1' hz1');clear hF1 hF1' hz1 hB1;have F1:=C1.f;have y1w0:=C1.b 0
 go_wp2_with fail
 go_loopw [1,7,15] (fun a v i wr=>∃ (k:Nat) (S':Option Addr) (c':Nat) (s':List Int) (pre:List (List Int)),k<=plan.length/\a=.slice S' s'.length c'/\i=.int .i64 k/\Ints wr S' s'/\Hid (SetP s' (n:Int))/\OwnLL (w.heap.size+1) wr v (pre ++ [s'])/\Hid (pre.length=k)/\Hid (uXj n t.ops st plan=pre ++ uXj n t.ops s' (plan.drop k))/\Below w.heap.size w wr/\Cls wr [(w.heap.size,0,.int .i64 t.facts),(w.heap.size,1,.slice Ai t.init.length ci),(w.heap.size,2,.slice Ag t.goal.length cg),(w.heap.size,3,.slice Ao t.ops.length co)]) (fun _ _ i _=>plan.length - (intOf i).toNat)
 case atStart=>exact⟨0,S,cs,st,[],xY1 _,rfl,rfl,hS.below bch,HST,(by simpa using HR1.out),lHd rfl,lHd (by simp),bch,(by simp[Cls,go_sem,F1,y1w0])⟩
 case round=>
  obtain⟨k,S',c',s',pre,hk,rfl,rfl,hI',HS',hown,HPL,HRV,hBr,hCr⟩:=hrel;obtain⟨w2,rfl⟩:∃ wo:World,wo=wr:=⟨_,rfl⟩;have Fr:=hCr.f;have yrw0:=hCr.blk (b:=w.heap.size) (k:=0) (v:=.int .i64 t.facts) (by simp)
  by_cases hlt:k < plan.length
  ·obtain⟨ad,x,rfl,hx,hcx⟩:=(hP.below hBr).at_ hlt;have hx0:=(HOK.out x (lMg hx.out)).1;have hx1:=(HOK.out x (lMg hx.out)).2;obtain⟨kx,rfl⟩:∃ kx:Nat,x=(kx:Int):=⟨x.toNat,by omega⟩;have hkx:kx < t.ops.length:=by omega
   have HDR:=lHd (show plan.drop k=(kx:Int) :: plan.drop (k+1) by
    obtain⟨h1,h2⟩:=xZn.1 hx.out;rw[List.drop_eq_getElem_cons h1,h2])
   have HSF:=lHd (show SetP s' t.facts by rw[HN.out];exact HS'.out)
   by_cases hcan:yXc t.ops s' (kx:Int)
   ·have HC:=lHd hcan;clear hcan
    go_wp2_with fail
    refine (uQ2 _ t Ai Ag Ao ci cg co (hT.below bch) _ _ _ (hI'.below bch) HSF.out HV.out kx hkx true ⟨fun _=>rfl,fun _=>HC.out⟩).mono ?_;rintro e w3 ⟨rfl,hB3⟩;have D3:=xJ3 w hB3 bch;have Ew2_3:=xJ3 w2 hB3 bch;have C3:=Cls.below (l:=[(w.heap.size,0,.int .i64 t.facts),(w.heap.size,1,.slice Ai t.init.length ci),(w.heap.size,2,.slice Ag t.goal.length cg),(w.heap.size,3,.slice Ao t.ops.length co)]) hB3 (by simp[Cls,go_sem,Fr]);have F3:=C3.f;have y3w0:=C3.b 0
    go_wp2_with fail
    refine (uQk _ t Ai Ag Ao ci cg co (hR.below bch) _ _ _ (hI'.below bch) HSF.out n HN.out HV.out kx hkx).mono ?_;rintro e w4 ⟨v4,rfl,ho4,hB4⟩;have D4:=xJ3 w hB4 bch;have d4s:=D4.size;have Ew2_4:=xJ3 w2 hB4 bch;have C4:=Cls.below (l:=[(w.heap.size,0,.int .i64 t.facts),(w.heap.size,1,.slice Ai t.init.length ci),(w.heap.size,2,.slice Ag t.goal.length cg),(w.heap.size,3,.slice Ao t.ops.length co)]) hB4 (by simp[Cls,go_sem,F3]);have F4:=C4.f;have y4w0:=C4.b 0;obtain⟨A4,c4,rfl,hn4,hI4⟩:=ho4.form;clear hn4;have hown4:=hown.below bch;have hrow:∀ b,u7.ownBlock=some b->b < w3.heap.size:=fun b hb=>by
     have h1:=(OwnEs.lt hown b hb).2;have h2:=Ew2_3.size;omega
    have HY:=lHd (zJj (B:=w.heap.size+1) (row:=u7.ownBlock) ho4 (by omega) hrow);have hlen:(pre ++ [s']).length < 1000000000000:=by rw[List.length_append];have:=HPL.out;simp;omega
    have HRV2:=lHd (show uXj n t.ops st plan=(pre ++ [s']) ++ uXj n t.ops (xJb n s' (yYz t.ops (kx:Int))) (plan.drop (k+1)) by
     rw[HRV.out,HDR.out,uXp HC.out];simp)
    have HPL2:=lHd (show (pre ++ [s']).length=k+1 by rw[List.length_append,HPL.out];rfl);have HS4:=lHd (xJz n s' (yYz t.ops (kx:Int)))
    go_wp2_with (at_builtin;go_must (refine xVv (xXc _) 42 24 (.slice none 0 0) underlying42 xZy rfl (by decide) (by decide) rfl (.tmp 28) (.tmp 30) rfl w [(w.heap.size,0,.int .i64 t.facts),(w.heap.size,1,.slice Ai t.init.length ci),(w.heap.size,2,.slice Ag t.goal.length cg),(w.heap.size,3,.slice Ao t.ops.length co)] rfl (OwnLL.below hown4 ?p1) ⟨w4.heap.size,0,none⟩ 1 rfl [.slice A4 (xJb n s' (yYz t.ops (kx:Int))).length c4] (xJb n s' (yYz t.ops (kx:Int))) rfl (xJa ?p2) ?p8 ((xXc _).below HY.out ?p9) hlen ?p3 (by omega) ?p5 ?p6 ?p7 ?_;(case p1=>exact bch);(case p2=>simp[go_sem]);(case p3=>(first | omega | (simp <;> omega)));(case p5=>exact bch);(case p6=>simp[Cls,go_sem,F4,y4w0]);(case p7=>(simp <;> omega));(case p8=>intro u hu;simp at hu;subst hu;rfl);(case p9=>exact bch);intro v6 w6 o6 D6 C6 sz6 G6 at6;have d6s:=D6.size;have HI6:=lHd (Ints.grown (hI4.below (xVs (Below.refl _ _):Below w4.heap.size w4 (w4.alloc (.cells #[.slice A4 (xJb n s' (yYz t.ops (kx:Int))).length c4] 22)))) G6 (fun ad hA=>(HY.out.neq hA)));clear G6 at6))
    go_roundw
    case rel=>exact⟨k+1,A4,c4,xJb n s' (yYz t.ops (kx:Int)),pre ++ [s'],by omega,rfl,by go_num,HI6.out,HS4,o6,HPL2,HRV2,D6,C6⟩
    case measure=>simp[intOf];omega
   ·have HC:=lHd hcan;clear hcan
    go_wp2_with fail
    refine (uQ2 _ t Ai Ag Ao ci cg co (hT.below bch) _ _ _ (hI'.below bch) HSF.out HV.out kx hkx false ⟨fun h=>absurd h HC.out,fun h=>by cases h⟩).mono ?_;rintro e w3 ⟨rfl,hB3⟩;have D3:=xJ3 w hB3 bch;have Ew2_3:=xJ3 w2 hB3 bch;have C3:=Cls.below (l:=[(w.heap.size,0,.int .i64 t.facts),(w.heap.size,1,.slice Ai t.init.length ci),(w.heap.size,2,.slice Ag t.goal.length cg),(w.heap.size,3,.slice Ao t.ops.length co)]) hB3 (by simp[Cls,go_sem,Fr]);have F3:=C3.f;have y3w0:=C3.b 0;have HE:=lHd (show uXj n t.ops st plan=pre ++ [s'] by rw[HRV.out,HDR.out,uZ5 HC.out]);go_wp2;refine bodyPost_ret (v:=u7) ?_ rfl ⟨_,rfl,⟨w.heap.size+1,by omega,?_⟩,bch⟩
    ·simp[results,results62,go_sem]
    ·rw[HE.out];exact hown.below bch
  ·have HE:=lHd (show uXj n t.ops st plan=pre ++ [s'] by rw[HRV.out,List.drop_eq_nil_of_le (by omega),uXo]);go_wp2;refine bodyPost_ret (v:=u7) ?_ rfl ⟨_,rfl,⟨w.heap.size+1,by omega,?_⟩,bch⟩
   ·simp[results,results62,go_sem]
   ·rw[HE.out];exact hown.below bch
theorem uVg(w:World)(t:TaskV)(Ai Ag Ao:Option Addr)(ci cg co:Nat)(hT:TaskMem w Ai Ag Ao t)(hR:OpsRead w Ao t.ops)(S:Option Addr)(cs:Nat)(st:List Int)(hS:Ints w S st)(hst:SetP st t.facts)(P:Option Addr)(cp:Nat)(plan:List Int)(hP:Ints w P plan)(n:Nat)(hn:t.facts=n)(hv:Valid t)(hok:uXm t.ops.length plan)(hful:(uXj n t.ops st plan).length=plan.length+1) :
  Calls prog 20 #[.agg #[.int .i64 t.facts,.slice Ai t.init.length ci,.slice Ag t.goal.length cg,.slice Ao t.ops.length co],.slice S st.length cs,.slice P plan.length cp] w fun e w'=>∃ v,e=.returned (.tuple #[v,.agg #[.int .i64 0,.int .i64 0]])/\(∃ B,w.heap.size<=B/\OwnLL B w' v (uXj n t.ops st plan))/\Below w.heap.size w w':=by
 have HV:=lHd hv;have HN:=lHd hn;have HOK:=lHd hok;have HST:=lHd hst;have h40:t.ops.length<=1000000:=by have:=hv.nops;omega
 clear hv hn hok hst;have hls:lenOk st.length:=by have:=SetP.length HST.out HV.out.f0;have:=HV.out.f1;unfold lenOk;omega
 have hle:¬ (uXj n t.ops st plan).length<=plan.length:=by omega
 clear hful;go_enter func20,ntmps20
 go_wp2_with fail
 refine (xZw _ t Ai Ag Ao ci cg co (hT.below bch) _ _ _ (hS.below bch) hls HV.out HST.out).mono ?_;rintro e w1 ⟨rfl,hB1⟩;have D1:=xJ3 w hB1 bch;have d1s:=D1.size;have C1:=Cls.below (l:=[(w.heap.size,0,.int .i64 t.facts),(w.heap.size,1,.slice Ai t.init.length ci),(w.heap.size,2,.slice Ag t.goal.length cg),(w.heap.size,3,.slice Ao t.ops.length co),(w.heap.size+1,0,.int .i64 0),(w.heap.size+1,1,.int .i64 0)]) hB1 (by simp[Cls,go_sem]);have F1:=C1.f;have y1w1:=C1.b 4;have y1w0:w.heap.size < w1.heap.size:=(by omega)
 go_wp2_with fail
 refine (uZ7 _ _ _ _ _ (hP.below bch) h40 HOK.out).mono ?_;rintro e w2 ⟨rfl,hB2⟩;have D2:=xJ3 w hB2 bch;have C2:=Cls.below (l:=[(w.heap.size,0,.int .i64 t.facts),(w.heap.size,1,.slice Ai t.init.length ci),(w.heap.size,2,.slice Ag t.goal.length cg),(w.heap.size,3,.slice Ao t.ops.length co),(w.heap.size+1,0,.int .i64 0),(w.heap.size+1,1,.int .i64 0),(w1.heap.size,0,.int .i64 0),(w1.heap.size,1,.int .i64 0)]) hB2 (by simp[Cls,go_sem,F1,y1w1,y1w0]);have F2:=C2.f;have y2w1:=C2.b 4;have y2w10:=C2.b 6
 go_wp2_with fail
 refine (uV7 _ t Ai Ag Ao ci cg co (hT.below bch) (hR.below bch) _ _ _ (hS.below bch) HST.out _ _ _ (hP.below bch) n HN.out HV.out HOK.out).mono ?_;rintro e w3 ⟨v3,rfl,⟨bR,hbR,hoR⟩,hB3⟩;have D3:=xJ3 w hB3 bch;have C3:=Cls.below (l:=[(w.heap.size,0,.int .i64 t.facts),(w.heap.size,1,.slice Ai t.init.length ci),(w.heap.size,2,.slice Ag t.goal.length cg),(w.heap.size,3,.slice Ao t.ops.length co),(w.heap.size+1,0,.int .i64 0),(w.heap.size+1,1,.int .i64 0),(w1.heap.size,0,.int .i64 0),(w1.heap.size,1,.int .i64 0)]) hB3 (by simp[Cls,go_sem,F2]);have F3:=C3.f;have y3w1:=C3.b 4;have y3w10:=C3.b 6;obtain⟨A1,c1,rfl⟩:=OwnEs.form hoR;go_wp2;refine bodyPost_ret (v:=.tuple #[.slice A1 (uXj n t.ops st plan).length c1,.agg #[.int .i64 0,.int .i64 0]]) ?_ rfl ⟨_,rfl,⟨bR,?_,?_⟩,bch⟩
 ·simp[results,results20,go_sem,F3]
 ·(first | omega | (simp at hbR;omega))
 ·(try simp at hbR)
  repeat (first | with_reducible exact hoR | with_reducible apply OwnLL.drew | (with_reducible refine OwnLL.far ?_ ?_ _;rotate_left;(first | omega | (simp;omega))))
theorem uZr(w:World)(A:Option Addr)(cA:Nat)(x:List Int)(d k:Int)(hI:Ints w A x)(hn:x.length<=9223372036854775807) :
  Calls prog 26 #[.agg #[.slice A x.length cA,.int .i64 d],.int .i64 k] w fun e w'=>e=.returned (.int .i64 (uXl x d k))/\Below w.heap.size w w':=by
 by_cases h1:(x.length:Int)=k
 ·have H1:=lHd h1;have h1':((x.length:Int) != k)=false:=by simp[h1]
  obtain⟨l,hl⟩:∃ l,Hid (x.length=l):=⟨_,lHd rfl⟩;rw[hl.out] at h1 h1' hn ⊢;subst h1;obtain⟨din,hdin⟩:∃ b:Bool,Hid (decide (1<=d/\d<=100000000)=b):=⟨_,lHd rfl⟩;have HIN:Hid (din=true↔(1<=d/\d<=100000000)):=lHd (by rw[<- hdin.out];exact decide_eq_true_iff);have HC:Hid (∀ W:World,Calls prog 74 #[.int .i64 d,.int .i64 1,.int .i64 100000000] W fun e w'=>e=.returned (.bool din)/\W=w'):=lHd (fun W=>by
   have h:=uV1 d 1 100000000 W;rw[hdin.out] at h;exact h)
  go_enter func26,ntmps26
  go_wp2_with fail
  refine (HC.out _).mono ?_;rintro e w' ⟨rfl,rfl⟩
  go_wp2_with fail
  go_loopw [5,7] (fun g y wr=>∃ (j:Nat) (gd:Bool),j<=l/\y=.int .i64 j/\g=.bool gd/\Hid (gd=true↔din=true/\∀ a∈x.take j,-100000000<=a/\a<=100000000)/\Below w.heap.size w wr/\Cls wr [(w.heap.size,0,.slice A l cA),(w.heap.size,1,.int .i64 d)]) (fun _ y _=>l - (intOf y).toNat)
  case atStart=>exact⟨0,din,xY1 _,rfl,rfl,lHd (by simp),bch,(by simp[Cls,go_sem])⟩
  case round=>
   obtain⟨j,gd,hj,rfl,rfl,HG,hBr,hCr⟩:=hrel;obtain⟨w1,rfl⟩:∃ wo:World,wo=wr:=⟨_,rfl⟩;have Fr:=hCr.f;have yrw0:=hCr.blk (b:=w.heap.size) (k:=0) (v:=.slice A l cA) (by simp)
   by_cases hlt:j < l
   ·obtain⟨ad,y,rfl,hy,hyc⟩:=(hI.below hBr).at_ (k:=j) (by rw[hl.out];exact hlt);have HTK:Hid (∀ c,c∈x.take (j+1)↔c∈x.take j\/c=y):=lHd (fun c=>by rw[xYw,hy.out];simp)
    cases gd with
    | false=>
     have HB:Hid (¬ (din=true/\∀ a∈x.take j,-100000000<=a/\a<=100000000)):=lHd (fun h=>Bool.false_ne_true (HG.out.2 h));clear HG;go_wp2
     go_roundw
     case rel=>exact⟨j+1,false,by omega,by go_num,rfl,lHd (iff_of_false (by simp) fun h=>HB.out ⟨h.1,fun a ha=>h.2 a ((HTK.out a).2 (.inl ha))⟩),bch,by simp[Cls,go_sem,Fr]⟩
     case measure=>simp[intOf];omega
    | true=>
     have HB:=lHd (HG.out.1 rfl);clear HG;obtain⟨yin,hyin⟩:∃ b:Bool,Hid (decide (-100000000<=y/\y<=100000000)=b):=⟨_,lHd rfl⟩;have HY:Hid (yin=true↔(-100000000<=y/\y<=100000000)):=lHd (by rw[<- hyin.out];exact decide_eq_true_iff);have HC2:Hid (∀ W:World,Calls prog 74 #[.int .i64 y,.int .i64 (-100000000),.int .i64 100000000] W fun e w'=>e=.returned (.bool yin)/\W=w'):=lHd (fun W=>by
      have h:=uV1 y (-100000000) 100000000 W;rw[hyin.out] at h;exact h)
     go_wp2_with fail
     refine (HC2.out _).mono ?_;rintro e w' ⟨rfl,rfl⟩;go_wp2
     go_roundw
     case rel=>exact⟨j+1,yin,by omega,by go_num,rfl,lHd (by
      rw[HY.out];constructor
      ·intro h;exact⟨HB.out.1,fun a ha=>by
        rcases (HTK.out a).1 ha with h2 | h2
        ·exact HB.out.2 a h2
        ·rw[h2];exact h⟩
      ·intro h;exact h.2 y ((HTK.out y).2 (.inr rfl))),bch,by simp[Cls,go_sem,Fr]⟩
     case measure=>simp[intOf];omega
   ·obtain rfl:l=j:=by omega
    have hT:=xVb (by rw[hl.out];exact Nat.le_refl _);rw[hT] at HG
    cases gd with
    | false=>
     have HV:Hid (uXl x d (l:Int)=3):=lHd (by
      by_cases h2:d < 1\/100000000 < d
      ·exact uZu H1.out h2
      ·refine uZv H1.out h2 fun h3=>?_
       exact Bool.false_ne_true (HG.out.2 ⟨HIN.out.2 (by omega),h3⟩))
     clear HG;go_wp2;refine bodyPost_ret (v:=.int .i64 3) ?_ rfl ⟨by rw[HV.out],bch⟩;simp[results,results26,go_sem]
    | true=>
     have HB:=lHd (HG.out.1 rfl);clear HG;have hd3:=HIN.out.1 HB.out.1;obtain⟨hd4,hd5⟩:=hd3;have HLE:=lHd (fun k=>yWd (xs:=x.take k) (d:=d) (by omega));have HPO:=lHd (fun k=>xZo (xs:=x.take k) (d:=d) (by omega))
     go_wp2_with fail
     go_loopw [6,8] (fun g y wr=>∃ j:Nat,j<=l/\y=.int .i64 j/\g=.int .i64 (xQ2 d (x.take j))/\Below w.heap.size w wr/\Cls wr [(w.heap.size,0,.slice A l cA),(w.heap.size,1,.int .i64 d)]) (fun _ y _=>l - (intOf y).toNat)
     case atStart=>exact⟨0,xY1 _,rfl,rfl,bch,by simp[Cls,go_sem,Fr]⟩
     case round=>
      obtain⟨j,hj,rfl,rfl,hBs,hCs⟩:=hrel;obtain⟨w2,rfl⟩:∃ wo:World,wo=wr:=⟨_,rfl⟩;have Fs:=hCs.f;have ysw0:=hCs.blk (b:=w.heap.size) (k:=0) (v:=.slice A l cA) (by simp);have hg1:=HLE.out j;have hg0:=HPO.out j
      by_cases hlt:j < l
      ·obtain⟨ad,y,rfl,hy,hyc⟩:=(hI.below hBs).at_ (k:=j) (by rw[hl.out];exact hlt);have HT:=lHd (yJe (d:=d) hy.out);have hyb:=HB.out.2 y (lMg hy.out);obtain⟨hyb1,hyb2⟩:=hyb;obtain⟨g,hg⟩:∃ g,Hid (xQ2 d (x.take j)=g):=⟨_,lHd rfl⟩;rw[hg.out] at HT hg0 hg1 ⊢
       go_wp2_with fail
       refine (uZi _ _ _ (by omega) (by omega)).mono ?_;rintro e w' ⟨rfl,rfl⟩;go_wp2
       go_roundw
       case rel=>exact⟨j+1,by omega,by go_num,by rw[HT.out],bch,by simp[Cls,go_sem,Fs]⟩
       case measure=>simp[intOf];omega
      ·obtain rfl:l=j:=by omega
       rw[hT];have H2:Hid (¬ (d < 1\/100000000 < d)):=lHd (by omega)
       by_cases hone:xQ2 d x=1
       ·have HV:=lHd (uZx H1.out H2.out HB.out.2 hone);rw[hone];go_wp2;refine bodyPost_ret (v:=.int .i64 0) ?_ rfl ⟨by rw[HV.out],bch⟩;simp[results,results26,go_sem]
       ·have HV:=lHd (uZw H1.out H2.out HB.out.2 hone);obtain⟨g,hg⟩:∃ g,Hid (xQ2 d x=g):=⟨_,lHd rfl⟩;rw[hg.out] at hone ⊢;have hone':(g != 1)=true:=by simpa using hone
        go_wp2;refine bodyPost_ret (v:=.int .i64 5) ?_ rfl ⟨by rw[HV.out],bch⟩;simp[results,results26,go_sem]
 ·have HV:=lHd (uZt (d:=d) h1);have h1':((x.length:Int) != k)=true:=by simpa using h1
  go_enter func26,ntmps26;go_wp2;refine bodyPost_ret (v:=.int .i64 9) ?_ rfl ⟨by rw[HV.out],bch⟩;simp[results,results26,go_sem]
