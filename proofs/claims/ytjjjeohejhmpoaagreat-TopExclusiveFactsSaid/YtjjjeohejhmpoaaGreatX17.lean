/-
  Lemmas.
-/
import Derived.Test.YtjjjeohejhmpoaaGreatX14
import Derived.Test.YtjjjeohejhmpoaaGreatX8
set_option linter.unusedVariables false
set_option linter.unusedSimpArgs false
set_option maxRecDepth 100000
set_option maxHeartbeats 4000000
namespace Go.Proofs.YtjjjeohejhmpoaaGreat
open Go.RowKit Go.Proofs.Tryz
section
open Go.Shelf
section
variable {base q m n:Nat}{w w':World}{f:Int->Option Int}
theorem Que.keep(h:Que base q m w n f)(hs:∀(k:Nat) (o:Obj),w.heap[k]? = some o->vYe o=false\/k=m->w'.heap[k]? = some o):Que base q m w' n f:=by
 obtain⟨t,l,g,hQ,hH,hM,hr⟩:=h;refine⟨t,l,g,?_,hH,?_,hr⟩
 ·obtain⟨⟨A,c,h1,h2⟩,h3,h4,h5,h6,h7⟩:=hQ;refine⟨⟨A,c,?_,hs _ _ h2 (.inl rfl)⟩,fun i e he=>⟨hs _ _ (h3 i e he).1 (.inl rfl),(h3 i e he).2⟩,h4,h5,h6,QFr.refl _ _⟩;obtain⟨e1,e2⟩:=h1;refine⟨e1,?_⟩;rcases e2 with e2|⟨g',cap,cur,hv,hg,hh,r⟩
  ·exact Or.inl e2
  ·exact Or.inr ⟨g',cap,cur,hv,hg,hs _ _ hh (.inl rfl),r⟩
 ·obtain⟨es,cl,ho⟩:=hM.obj;exact hM.of_block ((hs m _ ho (.inr rfl)).trans ho.symm)
theorem QUp.below_of{B:Nat}(h:QUp base m w w')(hB:B<=base):Below B w w':=h.below.mono hB
theorem xWh{α:Type}[DecidableEq α]:∀ {a b:List α},a.Nodup->(∀x∈a,x∈b)->a.length<=b.length
 | [],b,_,_=>zKk _
 |x::a,b,hn,hs=>by
   obtain⟨h1,h2⟩:=List.nodup_cons.1 hn;have hx:=hs x (by simp);have h3:=xWh (a:=a) (b:=b.erase x) h2 (fun y hy=>(List.mem_erase_of_ne (fun e:y=x=>h1 (e ▸ hy))).2 (hs y (by simp[hy])));rw[List.length_erase_of_mem hx] at h3;have:0<b.length:=List.length_pos_of_mem hx;simp only[List.length_cons];omega
theorem Que.empty(h:Que base q m w 0 f):∀x,f x=none:=fun x=>by
 obtain⟨t,l,g,hQ,hH,hM,hb,hl,h1,h2,h3⟩:=h
 cases hf:f x with
 |none=>rfl
 |some k=>
  obtain⟨e,he,_⟩:=h3 x (by rw[hf];simp);rw[List.eq_nil_of_length_eq_zero hl] at he;cases he
theorem Que.count(h:Que base q m w n f){ls:List (List Int)}(hs:∀x,f x≠none->∃l∈ls,xJ0 l=x):n<=ls.length:=by
 obtain⟨t,l,g,hQ,hH,hM,hb,hl,h1,h2,h3⟩:=h;have hnd:(l.map Ent.item).Nodup:=by
  refine List.pairwise_iff_getElem.2 fun i j hi hj hij e=>?_
  rw[zQl] at hi hj;rw[List.getElem_map,List.getElem_map] at e;obtain⟨_,e1,_⟩:=h1 l[i] (List.getElem_mem hi);obtain⟨_,e2,_⟩:=h1 l[j] (List.getElem_mem hj);rw[e,e2] at e1;have e3:l[i].blk=l[j].blk:=by
   injection e1 with e1;unfold xZr at e1;injection e1 with e1;injection e1 with e1;injection e1 with e1;exact e1.symm
  have h4:=List.pairwise_iff_getElem.1 hQ.nd i j (by simpa using hi) (by simpa using hj) hij;rw[List.getElem_map,List.getElem_map] at h4;exact h4 e3
 have h4:=xWh (b:=ls.map xJ0) hnd (fun x hx=>by
  obtain⟨e,he,rfl⟩:=vWz.1 hx;obtain⟨l',h5,h6⟩:=hs e.item (by rw[(h1 e he).2.2];simp);exact vWz.2 ⟨l',h5,h6⟩)
 rw[zQl,zQl] at h4;omega
theorem Que.qlt(h:Que base q m w n f):q<w.heap.size:=by obtain⟨t,l,g,hQ,_⟩:=h;obtain⟨⟨A,c,h1,h2⟩,_⟩:=hQ;exact h2.lt
theorem Que.alloc(h:Que base q m w n f)(o:Obj):Que base q m (w.alloc o) n f:=h.keep fun k o' hk _=>(Below.heap_alloc w o k (vYs.1 hk).1).trans hk
theorem Que.drew(h:Que base q m w n f):Que base q m w.drew n f:=h.keep fun k o' hk _=>hk
theorem Que.drewN(h:Que base q m w n f)(d:Nat):Que base q m (w.drewN d) n f:=h.keep fun k o' hk _=>hk
theorem Arr.drewN{g:Nat}{e:TypeId}{xs:List Value}(h:Arr w g e xs)(d:Nat):Arr (w.drewN d) g e xs:=h
theorem MapF.drewN{b n:Nat}{f:Int->Option Value}(h:MapF w b n f)(d:Nat):MapF (w.drewN d) b n f:=h.of_block rfl
theorem zKg{B:Nat}{e:TypeId}{size n:Nat}{v:Value}{xs:List Value}(h:w.ownsRow B e size v n xs)(d:Nat):(w.drewN d).ownsRow B e size v n xs:=h
theorem MarksOk.drewN{B:Nat}{ds:List Deferred}(h:MarksOk B ds w)(d:Nat):MarksOk B ds (w.drewN d):=h
theorem Que.set_(h:Que base q m w n f){p:Addr}(u:Value){g:Nat}{T:TypeId}{xs:List Value}(hA:Arr w g T xs)(hp:p.block=g)(hT:vYe (.cells #[] T (0,0))=true):Que base q m (w.setCell p u) n f:=
 h.keep fun k o' hk ho=>by
  refine(Below.heap_setCell w p u k (fun e=>?_)).trans hk;unfold Arr at hA;rw[e,hp,hA] at hk;injection hk with hk;subst hk
  rcases ho with ho|ho
  ·unfold vYe at ho hT;dsimp only at ho hT;rw[hT] at ho;cases ho
  ·obtain⟨es,cl,h2⟩:=h.obj;rw[<- ho,e,hp,hA] at h2;cases h2
theorem Que.by_row{base' n':Nat}{e:TypeId}{size:Nat}{v:Value}{ys:List Value}(hv:w.ownsRow base' e size v n' ys)(hg:w.grownBy w' v.ownBlock)(hT:vYe (.cells #[] e (0,0))=true)(h:Que base q m w n f):Que base q m w' n f:=
 h.keep fun k o' hk ho=>by
  refine(hg.block k (vYs.1 hk).1 (fun e1=>?_)).trans hk;obtain⟨cu,h1⟩:=xZk hv e1.symm;rw[hk] at h1;injection h1 with h1;subst h1
  rcases ho with ho|ho
  ·unfold vYe at ho hT;dsimp only at ho hT;rw[hT] at ho;cases ho
  ·obtain⟨es,cl,h2⟩:=h.obj;rw[<- ho,hk] at h2;cases h2
theorem Que.by_map{b n':Nat}{f':Int->Option Value}(hM:MapF w b n' f')(hg:w.grownBy w' (some b))(hne:b≠m)(h:Que base q m w n f):Que base q m w' n f:=
 h.keep fun k o' hk ho=>by
  refine(hg.block k (vYs.1 hk).1 (fun e1=>?_)).trans hk;injection e1 with e1
  subst e1;obtain⟨es,cl,h1⟩:=hM.obj;rw[hk] at h1;injection h1 with h1;subst h1
  rcases ho with ho|ho
  ·cases ho
  ·exact hne ho
theorem Que.turn{B:Nat}(h:Que base q m w n f)(ht:Turn B w w')(hB:m<B):Que base q m w' n f:=
 h.keep fun k o' hk ho=>ht.obj hk (ho.imp (fun ho=>by cases o'<;>first|rfl|cases ho) (fun e=>by omega))
theorem MarksOk.qup{B:Nat}{ds:List Deferred}(hm:MarksOk B ds w)(hq:QUp base m w w')(hmm:∃es cl,w.heap[m]? = some (.map es cl)):MarksOk B ds w':=
 hm.keep fun D _ hD=>hq.same D _ hD rfl (fun e=>by obtain⟨es,cl,h2⟩:=hmm;rw[<- e,hD] at h2;cases h2)
end
def vJk(x:List Int×Int):List Value:=[.int .u32 (xJ0 x.1),.int .i64 x.2]
@[reducible] def OwnA(base:Nat)(w:World)(v:Value)(rs:List (List Int×Int)):Prop:=w.ownsRow base 143 2 v rs.length (rs.flatMap vJk)
theorem yKv{rs:List (List Int×Int)}:∀ {k:Nat} {x:List Int×Int},rs[k]? = some x->(rs.flatMap vJk)[k*2]? = some (.int .u32 (xJ0 x.1))/\(rs.flatMap vJk)[k*2+1]? = some (.int .i64 x.2):=by
 induction rs with
 |nil=>intro k x h;cases h
 |cons a rs ih=>
  intro k x h;rw[List.flatMap_cons]
  cases k with
  |zero=>simp at h;subst h;exact⟨rfl,rfl⟩
  |succ k=>
   obtain⟨h1,h2⟩:=ih (k:=k) (by simpa using h);have e:(k+1)*2=k*2+2:=by omega
   rw[e];exact⟨h1,h2⟩
theorem OwnA.nil(base:Nat)(w:World):OwnA base w (.slice none 0 0) []:=World.ownsRow_nil w base _ _
theorem OwnA.form{base:Nat}{w:World}{v:Value}{rs:List (List Int×Int)}(h:OwnA base w v rs):∃A c,v=.slice A rs.length c:=by
 rcases h.2 with⟨h2,h4⟩|⟨g,cap,cur,hv,r⟩
 ·exact⟨none,0,by rw[h4];exact h2⟩
 ·exact⟨_,_,hv⟩
theorem OwnA.at_{base n c k:Nat}{w:World}{A:Option Addr}{rs:List (List Int×Int)}(h:OwnA base w (.slice A n c) rs){x:List Int×Int}(hx:rs[k]? = some x) :
  ∃g,A=some ⟨g,0,none⟩/\g<w.heap.size/\w.cell? ⟨g,k*2,none⟩=some (.int .u32 (xJ0 x.1))/\w.cell? ⟨g,k*2+1,none⟩=some (.int .i64 x.2):=by
 obtain⟨h1,h2⟩:=yKv hx;have hk:=(zQ1.1 hx).1;rcases h.2 with⟨h3,h4⟩|⟨g,cap,cur,hv,r⟩
 ·omega
 ·injection hv with e1 e2 e3
  subst e1;have hc:=h.cells (g:=g) rfl;have c1:=hc _ _ h1;have c2:=hc _ _ h2;have a1:(⟨g,0,none⟩:Addr).add (k*2)=⟨g,k*2,none⟩:=by unfold Addr.add;split<;>simp_all
  have a2:(⟨g,0,none⟩:Addr).add (k*2+1)=⟨g,k*2+1,none⟩:=by unfold Addr.add;split<;>simp_all
  rw[a1] at c1;rw[a2] at c2;exact⟨g,rfl,zQ2 w ⟨g,k*2,none⟩ c1,c1,c2⟩
def Back(base:Nat)(w:World)(b n:Nat)(f:Int->Option Value)(rows:Int->List (List Int×Int)):Prop:=
 MapF w b n f/\(∀x,OwnA base w ((f x).getD (.slice none 0 0)) (rows x))/\∀x y,x≠y->Apart ((f x).getD (.slice none 0 0)) ((f y).getD (.slice none 0 0))
section
variable {base b n:Nat}{w w':World}{f:Int->Option Value}{rows:Int->List (List Int×Int)}
theorem Back.map(h:Back base w b n f rows):MapF w b n f:=h.1
theorem Back.made(base:Nat)(w:World):Back base (w.alloc (.map #[] 0)) w.heap.size 0 (fun _=>none) (fun _=>[]):=⟨MapF.made w,fun x=>OwnA.nil _ _,fun x y _ k hk=>by cases hk⟩
theorem Back.keep(h:Back base w b n f rows)(hb:w'.heap[b]? = w.heap[b]?)(hr:∀ {v:Value} {rs:List (List Int×Int)},OwnA base w v rs->OwnA base w' v rs):Back base w' b n f rows:=⟨h.1.of_block hb,fun x=>hr (h.2.1 x),h.2.2⟩
theorem Back.alloc(h:Back base w b n f rows)(o:Obj):Back base (w.alloc o) b n f rows:=h.keep (Below.heap_alloc w o b h.1.lt) (fun h=>World.ownsRow.alloc h o)
theorem Back.drew(h:Back base w b n f rows):Back base w.drew b n f rows:=h.keep rfl (fun h=>h)
theorem Back.drewN(h:Back base w b n f rows)(d:Nat):Back base (w.drewN d) b n f rows:=h.keep rfl (fun h=>h)
theorem Back.set_(h:Back base w b n f rows){p:Addr}(u:Value){g:Nat}{T:TypeId}{xs:List Value}(hA:Arr w g T xs)(hp:p.block=g)(hT:T≠143):Back base (w.setCell p u) b n f rows:=by
 refine h.keep (Below.heap_setCell w p u b (fun e=>?_)) (fun hr=>xY0 hr u hA hp hT);obtain⟨es,cl,ho⟩:=h.1.obj;unfold Arr at hA;rw[e,hp,hA] at ho;cases ho
theorem Back.by_map{b' n':Nat}{f':Int->Option Value}(hM:MapF w b' n' f')(hg:w.grownBy w' (some b'))(hne:b≠b')(h:Back base w b n f rows):Back base w' b n f rows:=
 h.keep (hg.block b h.1.lt (fun e=>by injection e with e;exact hne e)) (fun hr=>xQ9 hM hg hr)
theorem Back.by_row{base' n':Nat}{e:TypeId}{size:Nat}{v:Value}{ys:List Value}(hv:w.ownsRow base' e size v n' ys)(hg:w.grownBy w' v.ownBlock)(hT:e≠143)(h:Back base w b n f rows):Back base w' b n f rows:=by
 refine h.keep (hg.block b h.1.lt (fun e1=>?_)) (fun hr=>?_)
 ·obtain⟨cu,h1⟩:=xZk hv e1.symm;obtain⟨es,cl,ho⟩:=h.1.obj;rw[ho] at h1;cases h1
 ·refine hr.kept hg ?_
  rename_i v' rs
  cases h1:v'.ownBlock with
  |none=>exact .inl rfl
  |some k=>
   refine .inr (fun e1=>?_);obtain⟨cu,h2⟩:=xZk hv e1.symm;obtain⟨cu',h3⟩:=xZk hr h1;rw[h2] at h3;injection h3 with h3;injection h3 with _ h4;exact hT h4
theorem Back.turn{B:Nat}(h:Back base w b n f rows)(ht:Turn B w w')(hB:b<B):Back base w' b n f rows:=by
 obtain⟨es,cl,ho⟩:=h.1.obj;exact h.keep ((ht.obj ho (.inr hB)).trans ho.symm) (fun hr=>zV9 hr ht)
theorem Back.qup{base' m:Nat}(h:Back base w b n f rows)(hq:QUp base' m w w')(hm:∃es cl,w.heap[m]? = some (.map es cl))(hb:b≠m):Back base w' b n f rows:=by
 obtain⟨es,cl,ho⟩:=h.1.obj;exact h.keep ((hq.same b _ ho rfl hb).trans ho.symm) (fun hr=>vXh hr hq hm rfl)
def yKw(rows:Int->List (List Int×Int))(x:Int)(rs:List (List Int×Int)):Int->List (List Int×Int):=fun y=>if y=x then rs else rows y
theorem Back.push(h:Back base w b n f rows){x:Int}{a:List Int×Int}{v':Value}{w'':World}(hx:Wrd x)(hv:w'.ownsRow base 143 2 v' ((rows x).length+1) ((rows x).flatMap vJk++vJk a))(hg:w.grownBy w' ((f x).getD (.slice none 0 0)).ownBlock)
  (hat:v'.ownBlock=((f x).getD (.slice none 0 0)).ownBlock\/v'.ownBlock=some w.heap.size) (hM:MapF w'' b (up1 f x n) (upd f x v')) (hM1:MapF w' b n f) (hg2:w'.grownBy w'' (some b)) :
  Back base w'' b (up1 f x n) (upd f x v') (yKw rows x (rows x ++ [a])):=by
 have hne:∀y,y≠x->Apart v' ((f y).getD (.slice none 0 0)):=fun y hy k hk e1=>by
  rcases hat with h1|h1
  ·rw[h1] at hk;exact h.2.2 x y (Ne.symm hy) k hk e1
  ·rw[h1] at hk;injection hk with hk
   have:=((h.2.1 y).lt k e1).2;omega
 refine⟨hM,fun y=>?_,fun y z hyz=>?_⟩
 ·by_cases e:y=x
  ·subst e;rw[xXo];unfold yKw;rw[if_pos rfl];refine xQ9 hM1 hg2 ?_;rw[List.length_append,List.flatMap_append];exact hv
  ·rw[xJq f v' e];unfold yKw;rw[if_neg e];refine xQ9 hM1 hg2 (xXi hg (h.2.1 y) (h.2.2 x y (Ne.symm e)))
 ·by_cases e:y=x
  ·subst e;rw[xXo,xJq f v' (Ne.symm hyz)];exact hne z (Ne.symm hyz)
  ·by_cases e2:z=x
   ·subst e2;rw[xXo,xJq f v' e];exact(hne y e).symm
   ·rw[xJq f v' e,xJq f v' e2];exact h.2.2 y z hyz
end
theorem mvk{p:Prop}(h:p:=by repeat' (with_reducible first|assumption|apply Que.alloc|apply Que.drew|apply Que.drewN|(apply Que.set_;(case hp=>rfl);(case hA=>assumption);(case hT=>decide))|(apply Que.by_row;(case hg=>assumption);(case hT=>decide))|(apply Que.by_map;(case hg=>assumption);(case hne=>omega))|apply Back.alloc|apply Back.drew|apply Back.drewN|apply Arr.drewN|apply MapF.drewN|apply zKg|apply MarksOk.drewN|(apply Arr.qup;(case hq=>assumption);(case he=>decide))|(apply MapF.qup;(case hq=>assumption);(case hb=>omega))|(apply vXh;(case hq=>assumption);(case he=>decide))|(apply Back.qup;(case hq=>assumption);(case hb=>omega))|(apply MarksOk.qup;case hq=>assumption)|(refine Below.trans ?_ (QUp.below_of (by assumption) ?_);rotate_left;omega)|(apply Back.set_;(case hp=>rfl);(case hA=>assumption);(case hT=>decide))|(apply Back.by_map;(case hg=>assumption);(case hne=>omega))|(apply Back.by_row;(case hg=>assumption);(case hT=>decide))|assumption|exact Below.refl _ _|apply Arr.alloc|apply Arr.drew|(apply Arr.far;(case hp=>(first|(simp;done)|(simp;omega)|omega)))|apply World.ownsRow.alloc|apply World.ownsRow.drew|apply MapF.alloc|apply MapF.drew|(apply MapF.setCell;(case hp=>(first|(simp;done)|(simp;omega)|omega)))|apply MarksOk.alloc|apply MarksOk.drew|apply MarksOk.set_|apply xK3|apply xVr|apply xVs|(apply Below.alloc;(case hB=>(first|omega|(simp;done)|(simp;omega)|(dsimp only[World.drewN];omega))))|(apply Below.setCell;(case hp=>(first|omega|(simp;done)|(simp;omega))))|((refine Arr.by_row ?_ (by assumption) ?_ ?_);rotate_right;decide)|refine MapF.by_row ?_ (by assumption) ?_|refine MarksOk.by_row ?_ ?_ (by assumption)|(apply xY0;(case hp=>rfl);(case hA=>assumption);(case hT=>decide))|(apply Arr.by_row;case hg=>assumption)|(apply MapF.by_row;case hg=>assumption)|(apply MarksOk.by_row;case hg=>assumption)|(apply xXi;case hg=>assumption)|(apply Arr.by_map;case hg=>assumption)|(apply xQ9;case hg=>assumption)|(apply MarksOk.by_map;case hg=>assumption)|(apply MapF.by_map;(case hg=>assumption);(case hne=>omega))|(apply Below.by_map;(case hg=>assumption);(case hB=>(first|omega|(simp;done)|(simp;omega)|(dsimp only[World.drewN];omega)));(case hb=>omega))|(apply Below.by_row;(case hg=>assumption);(case hB=>(first|omega|(simp;done)|(simp;omega)|(dsimp only[World.drewN];omega)));(case hb=>exact Nat.le_refl _))|decide)):p:=h
end
def chg(o:OpV)(q:Int):Int:=if q∉o.pre/\q∈o.add then 1 else if q∈o.pre/\q∈o.del then -1 else 0
theorem vQx(w:World)(o:OpV)(A0 A1 A2:Option Addr)(c0 c1 c2:Nat)(hm:OpMem w A0 A1 A2 o)(q:Int):Calls prog 66 #[.agg #[.slice A0 o.pre.length c0,.slice A1 o.add.length c1,.slice A2 o.del.length c2,.int .i64 o.cost],.int .i64 q] w fun e w'=>e=.returned (.int .i64 (chg o q))/\Below w.heap.size w w':=by
 by_cases hp:q∈o.pre
 ·by_cases hd:q∈o.del
  ·have hv:chg o q=(-1):=by unfold chg;simp[hp,hd]
   rw[hv];clear hv;have dp:decide (q∈o.pre)=true:=by simp[hp]
   have dd:decide (q∈o.del)=true:=by simp[hd]
   clear hp;clear hd;go_enter func66,ntmps66
   go_wp2_with fail
   go_at_call 67;refine(xJ9 _ _ _ _ _ _ (hm.pre.below bl) hm.lpre.le dp).mono ?_;rintro e w' ⟨rfl,rfl⟩
   go_wp2_with fail
   go_at_call 67;refine(xJ9 _ _ _ _ _ _ (hm.del.below bl) hm.ldel.le dd).mono ?_;rintro e w' ⟨rfl,rfl⟩;go_wp2;refine bodyPost_ret ?_ rfl ⟨rfl,mvk⟩;simp[results,results66,go_sem]
  ·have hv:chg o q=0:=by unfold chg;simp[hp,hd]
   rw[hv];clear hv;have dp:decide (q∈o.pre)=true:=by simp[hp]
   have dd:decide (q∈o.del)=false:=by simp[hd]
   clear hp;clear hd;go_enter func66,ntmps66
   go_wp2_with fail
   go_at_call 67;refine(xJ9 _ _ _ _ _ _ (hm.pre.below bl) hm.lpre.le dp).mono ?_;rintro e w' ⟨rfl,rfl⟩
   go_wp2_with fail
   go_at_call 67;refine(xJ9 _ _ _ _ _ _ (hm.del.below bl) hm.ldel.le dd).mono ?_;rintro e w' ⟨rfl,rfl⟩;go_wp2;refine bodyPost_ret ?_ rfl ⟨rfl,mvk⟩;simp[results,results66,go_sem]
 ·by_cases ha:q∈o.add
  ·have hv:chg o q=1:=by unfold chg;simp[hp,ha]
   rw[hv];clear hv;have dp:decide (q∈o.pre)=false:=by simp[hp]
   have da:decide (q∈o.add)=true:=by simp[ha]
   clear hp;clear ha;go_enter func66,ntmps66
   go_wp2_with fail
   go_at_call 67;refine(xJ9 _ _ _ _ _ _ (hm.pre.below bl) hm.lpre.le dp).mono ?_;rintro e w' ⟨rfl,rfl⟩
   go_wp2_with fail
   go_at_call 67;refine(xJ9 _ _ _ _ _ _ (hm.add.below bl) hm.ladd.le da).mono ?_;rintro e w' ⟨rfl,rfl⟩;go_wp2;refine bodyPost_ret ?_ rfl ⟨rfl,mvk⟩;simp[results,results66,go_sem]
  ·have hv:chg o q=0:=by unfold chg;simp[hp,ha]
   rw[hv];clear hv;have dp:decide (q∈o.pre)=false:=by simp[hp]
   have da:decide (q∈o.add)=false:=by simp[ha]
   clear hp;clear ha;go_enter func66,ntmps66
   go_wp2_with fail
   go_at_call 67;refine(xJ9 _ _ _ _ _ _ (hm.pre.below bl) hm.lpre.le dp).mono ?_;rintro e w' ⟨rfl,rfl⟩
   go_wp2_with fail
   go_at_call 67;refine(xJ9 _ _ _ _ _ _ (hm.add.below bl) hm.ladd.le da).mono ?_;rintro e w' ⟨rfl,rfl⟩;go_wp2;refine bodyPost_ret ?_ rfl ⟨rfl,mvk⟩;simp[results,results66,go_sem]
theorem vQy(w:World)(o:OpV)(A0 A1 A2:Option Addr)(c0 c1 c2:Nat):Calls prog 65 #[.agg #[.slice A0 o.pre.length c0,.slice A1 o.add.length c1,.slice A2 o.del.length c2,.int .i64 o.cost]] w fun e w'=>e=.returned (.bool (decide (20<o.cost)))/\Below w.heap.size w w':=by
 by_cases h:20<o.cost
 ·rw[zWo h];go_enter func65,ntmps65;go_wp2;refine bodyPost_ret ?_ rfl ⟨rfl,mvk⟩;simp[results,results65,go_sem]
 ·rw[zVa h];go_enter func65,ntmps65;go_wp2;refine bodyPost_ret ?_ rfl ⟨rfl,mvk⟩;simp[results,results65,go_sem]
theorem zJ2(w:World)(ops:List OpV):vZt 65 #[] ops (fun o=>decide (20<o.cost)) w:=fun o A0 A1 A2 c0 c1 c2 wr _ _ _=>vQy wr o A0 A1 A2 c0 c1 c2
theorem xKg:Enters 65:=fun args w=>by kernel_rfl
section
open Go.Shelf
def fr(F:Array Value)(i:Nat):Value:=F.getD i undef
theorem zQv{R:Array Value->Prop}{T:Array Value}{D:List Deferred}{G:Array Value->Act}(h1:R T)(h2:({ tmps:=T,defers:=D }:Act)=G T):∃F,R F/\({ tmps:=T,defers:=D }:Act)=G F:=⟨T,h1,h2⟩
theorem Cst.prepend{n:Nat}{ops:List OpV}{s l':List Int}{p:Nat}{o:OpV}{d:Int}(ho:ops[p]? = some o)(hp:∀q∈o.pre,q∈s)(h:Cst n ops (xJb n s o) l' d):Cst n ops s l' (d+o.cost):=by
 induction h with
 |init=>exact(Cst.step Cst.init ho hp:Cst n ops s _ (0+o.cost))
 |step h1 h2 h3 ih=>
  rename_i l c p' o'
  have e:c+o'.cost+o.cost=c+o.cost+o'.cost:=by omega
  rw[e];exact .step ih h2 h3
def zZb(ls:List (List Int))(D:List Int->Int):Nat:=(ls.map fun l=>(D l).toNat).sum
def xKf(D:List Int->Int)(s:List Int)(v:Int):List Int->Int:=fun x=>if x=s then v else D x
theorem vQw{ls:List (List Int)}{D:List Int->Int}{s:List Int}{v:Int}(h:¬s∈ls):zZb ls (xKf D s v)=zZb ls D:=by
 unfold zZb;congr 1;refine List.map_congr_left fun l hl=>?_
 unfold xKf;rw[if_neg (fun e:l=s=>h (e ▸ hl))]
theorem vJ4{ls:List (List Int)}{D:List Int->Int}{s:List Int}{v:Int}(hn:ls.Nodup)(h:s∈ls)(h0:0<=v)(hv:v<D s):zZb ls (xKf D s v)<zZb ls D:=by
 induction ls with
 |nil=>cases h
 |cons a ls ih=>
  obtain⟨h1,h2⟩:=List.nodup_cons.1 hn;show(xKf D s v a).toNat+zZb ls (xKf D s v)<(D a).toNat+zZb ls D
  by_cases e:s=a
  ·subst e;rw[vQw h1];unfold xKf;rw[if_pos rfl];omega
  ·have h3:=ih h2 (by rcases yQ6.1 h with h|h;exact absurd h e;exact h);have e2:xKf D s v a=D a:=if_neg (fun h=>e h.symm);rw[e2];omega
structure LabB(n:Nat)(ops:List OpV)(goal:List Int)(ls:List (List Int))(D:List Int->Int)(fq:Int->Option Int):Prop where
 lo:∀l∈ls,0<=D l/\D l<=1000000000
 real:∀l∈ls,D l=1000000000\/∃l',Cst n ops l l' (D l)/\∀q∈goal,q∈l'
 goal:∀l∈ls,(∀q∈goal,q∈l)->D l=0
 qk:∀l∈ls,∀k,fq (xJ0 l)=some k->k=D l
 qs:∀x,fq x≠none->∃l∈ls,xJ0 l=x
def yYo(n:Nat)(ops:List OpV)(ls:List (List Int))(D:List Int->Int)(l:List Int):Prop:=∀s∈ls,∀(p:Nat) (o:OpV),ops[p]? = some o->(∀q∈o.pre,q∈s)->xJb n s o=l->D s<=D l+o.cost
structure Lab(n:Nat)(ops:List OpV)(goal:List Int)(ls:List (List Int))(D:List Int->Int)(fq:Int->Option Int):Prop extends LabB n ops goal ls D fq where
 cons:∀l∈ls,fq (xJ0 l)=none->yYo n ops ls D l
structure Lab1(n:Nat)(ops:List OpV)(goal:List Int)(ls:List (List Int))(D:List Int->Int)(fq:Int->Option Int)(l:List Int)(d:Int)(done:List (List Int×Int)):Prop extends LabB n ops goal ls D fq where
 hl:l∈ls
 cur:D l=d
 out:fq (xJ0 l)=none
 cons:∀l'∈ls,l'≠l->fq (xJ0 l')=none->yYo n ops ls D l'
 dn:∀a∈done,D a.1<=d+a.2
def vKt(n:Nat)(ops:List OpV)(ls:List (List Int))(l:List Int)(arcs:List (List Int×Int)):Prop:=
 ∀a:List Int×Int,a∈arcs↔a.1∈ls/\∃(p:Nat) (o:OpV),ops[p]? = some o/\(∀q∈o.pre,q∈a.1)/\xJb n a.1 o=l/\a.2=o.cost
section
variable {n:Nat}{ops:List OpV}{goal:List Int}{ls:List (List Int)}{D:List Int->Int}{fq:Int->Option Int}{l:List Int}{d:Int}{done:List (List Int×Int)}
theorem Lab.take(h:Lab n ops goal ls D fq)(hl:l∈ls)(hset:∀l∈ls,SetP l (n:Int))(hq:fq (xJ0 l)=some d):Lab1 n ops goal ls D (zZd fq (xJ0 l)) l d []:=by
 have hne:∀ {x k},zZd fq (xJ0 l) x=some k->fq x=some k/\x≠xJ0 l:=fun {x k} hk=>by
  unfold zZd at hk
  split at hk
  ·cases hk
  ·exact⟨hk,by assumption⟩
 refine⟨⟨h.lo,h.real,h.goal,fun l' hl' k hk=>h.qk l' hl' k (hne hk).1,fun x hx=>?_⟩,hl,(h.qk l hl d hq).symm,?_,fun l' hl' hn hk=>h.cons l' hl' ?_,by simp⟩
 ·cases hk:zZd fq (xJ0 l) x with
  |none=>exact absurd hk hx
  |some k=>exact h.qs x (by rw[(hne hk).1];simp)
 ·unfold zZd;rw[if_pos rfl]
 ·unfold zZd at hk;rw[if_neg (fun e=>hn (xJp (hset l' hl') (hset l hl) e))] at hk;exact hk
theorem Lab1.skip(h:Lab1 n ops goal ls D fq l d done){a:List Int×Int}(ha:D a.1<=d+a.2):Lab1 n ops goal ls D fq l d (done ++ [a]):=
 ⟨h.toLabB,h.hl,h.cur,h.out,h.cons,fun b hb=>by
  rcases vJn.1 hb with hb|hb
  ·exact h.dn b hb
  ·simp at hb;subst hb;exact ha⟩
theorem Lab1.relax(h:Lab1 n ops goal ls D fq l d done)(hset:∀l∈ls,SetP l (n:Int)){a:List Int×Int}(has:a.1∈ls){p:Nat}{o:OpV}(ho:ops[p]? = some o)(hp:∀q∈o.pre,q∈a.1)(hx:xJb n a.1 o=l)(hc:a.2=o.cost)(hc0:0<=o.cost)
  (hlt:d+a.2<D a.1):Lab1 n ops goal ls (xKf D a.1 (d+a.2)) (xQi fq (xJ0 a.1) (d+a.2)) l d (done ++ [a]):=by
 obtain⟨s,c⟩:=a;dsimp only at *;subst hc;have hlo:=h.lo l h.hl;rw[h.cur] at hlo;have hsl:l≠s:=fun e=>by rw[<- e,h.cur] at hlt;omega
 have hle:∀x,xKf D s (d+o.cost) x<=D x:=fun x=>by
  unfold xKf
  split
  ·rename_i e;rw[e];omega
  ·exact Int.le_refl _
 have hother:∀ {x},x≠s->xKf D s (d+o.cost) x=D x:=fun {x} e=>if_neg e
 have hself:xKf D s (d+o.cost) s=d+o.cost:=if_pos rfl;have hw:∀ {x},x∈ls->x≠s->xJ0 x≠xJ0 s:=fun {x} hx e e2=>e (xJp (hset x hx) (hset s has) e2)
 have hqo:∀ {x},x∈ls->x≠s->xQi fq (xJ0 s) (d+o.cost) (xJ0 x)=fq (xJ0 x):=fun {x} hx e=>by unfold xQi;rw[if_neg (hw hx e)]
 have hqs:xQi fq (xJ0 s) (d+o.cost) (xJ0 s)=some (d+o.cost):=by unfold xQi;rw[if_pos rfl]
 refine⟨⟨fun x hx=>?_,fun x hx=>?_,fun x hx hg=>?_,fun x hx k hk=>?_,fun x hx=>?_⟩,h.hl,by rw[hother hsl];exact h.cur,by rw[hqo h.hl hsl];exact h.out,fun l' hl' hn hk=>?_,fun b hb=>?_⟩
 ·have:=h.lo x hx;have h2:=h.lo s has
  by_cases e:x=s
  ·subst e;rw[hself];omega
  ·rw[hother e];exact this
 ·by_cases e:x=s
  ·subst e;rw[hself];right;rcases h.real l h.hl with h1|⟨l',h1,h2⟩
   ·have h2:=h.lo x has;rw[h.cur] at h1;omega
   ·rw[h.cur,<- hx] at h1;exact⟨l',h1.prepend ho hp,h2⟩
  ·rw[hother e];exact h.real x hx
 ·by_cases e:x=s
  ·subst e;have:=h.goal x has hg;omega
  ·rw[hother e];exact h.goal x hx hg
 ·by_cases e:x=s
  ·subst e;rw[hqs] at hk;rw[hself];injection hk with hk;exact hk.symm
  ·rw[hqo hx e] at hk;rw[hother e];exact h.qk x hx k hk
 ·by_cases e:x=xJ0 s
  ·exact⟨s,has,e.symm⟩
  ·unfold xQi at hx;rw[if_neg e] at hx;exact h.qs x hx
 ·have e:l'≠s:=fun e=>by rw[e,hqs] at hk;cases hk
  rw[hqo hl' e] at hk;intro s' hs' p' o' ho' hp' hx';have h1:=h.cons l' hl' hn hk s' hs' p' o' ho' hp' hx';have h2:=hle s';rw[hother e];omega
 ·rcases vJn.1 hb with hb|hb
  ·exact Int.le_trans (hle b.1) (h.dn b hb)
  ·simp at hb;subst hb;dsimp only;rw[hself];exact Int.le_refl _
theorem Lab1.fin(h:Lab1 n ops goal ls D fq l d done)(ha:vKt n ops ls l done):Lab n ops goal ls D fq:=
 ⟨h.toLabB,fun l' hl' hq=>by
  by_cases e:l'=l
  ·subst e;intro s hs p o ho hp hx;rw[h.cur];exact h.dn (s,o.cost) ((ha _).2 ⟨hs,p,o,ho,hp,hx,rfl⟩)
  ·exact h.cons l' hl' e hq⟩
theorem Lab.best(h:Lab n ops goal ls D fq)(hq:∀x,fq x=none)(hcl:∀l∈ls,∀(p:Nat) (o:OpV),ops[p]? = some o->(∀q∈o.pre,q∈l)->xJb n l o∈ls)(hl:l∈ls):RBest n ops goal l (D l):=by
 have key:∀ {l' c},Cst n ops l l' c->l'∈ls/\D l<=D l'+c:=fun {l' c} hc=>by
  induction hc with
  |init=>exact⟨hl,by omega⟩
  |step h1 h2 h3 ih=>
   rename_i l1 c1 p o
   obtain⟨i1,i2⟩:=ih;have hm:=hcl _ i1 _ _ h2 h3;refine⟨hm,?_⟩;have:=h.cons _ hm (hq _) _ i1 _ _ h2 h3 rfl;omega
 refine⟨?_,(h.lo l hl).2,fun l' c hc hg=>?_⟩
 ·exact h.real l hl
 ·obtain⟨h1,h2⟩:=key hc;have:=h.goal l' h1 hg;omega
theorem Lab.start{ls:List (List Int)}(D:List Int->Int)(fq:Int->Option Int)(hc:∀o∈ops,0<=o.cost)(h1:∀l∈ls,(∀q∈goal,q∈l)->D l=0/\fq (xJ0 l)=some 0)(h2:∀l∈ls,¬(∀q∈goal,q∈l)->D l=1000000000/\fq (xJ0 l)=none)(h3:∀x,fq x≠none->∃l∈ls,xJ0 l=x) :
  Lab n ops goal ls D fq:=by
 have hd:∀l∈ls,0<=D l/\D l<=1000000000:=fun l hl=>by
  by_cases hg:∀q∈goal,q∈l
  ·rw[(h1 l hl hg).1];omega
  ·rw[(h2 l hl hg).1];omega
 refine⟨⟨hd,fun l hl=>?_,fun l hl hg=>(h1 l hl hg).1,fun l hl k hk=>?_,h3⟩,fun l hl hq s hs p o ho hp hx=>?_⟩
 ·by_cases hg:∀q∈goal,q∈l
  ·rw[(h1 l hl hg).1];exact .inr ⟨l,.init,hg⟩
  ·exact .inl (h2 l hl hg).1
 ·by_cases hg:∀q∈goal,q∈l
  ·rw[(h1 l hl hg).2] at hk;rw[(h1 l hl hg).1];injection hk with hk;exact hk.symm
  ·rw[(h2 l hl hg).2] at hk;cases hk
 ·have h4:¬ ∀q∈goal,q∈l:=fun hg=>by rw[(h1 l hl hg).2] at hq;cases hq
  have h5:=hc o (lMg ho);have h6:=(hd s hs).2;rw[(h2 l hl h4).1];omega
end
end
section
open Go.Shelf
section
variable {P:Program}{w:World}
theorem xJ7{ops:Array Oper}{o:Oper}{a:Act}{K:Act->World->Prop}{Q:Exit->Act->World->Prop}{E:Prop}(hgd:o.guard=none)(s x:Operand)(t:TypeId)
  (ho:o.op=.call { callee:=.builtin .append,args:=#[s,x],argTypes:=#[t,t] })
  (base:Nat) (e:TypeId) (i:TypeInfo) (z:Value) (size bytes:Nat) (ht:P.underlying t=some (.slice e)) (hi:P.info? e=some i) (hz:i.zero=some z)
  (hsize:i.size=size) (hby:i.bytes=bytes) (hzs:z.cells.size=size) (hsz:0<size)
  (v:Value) (n:Nat) (xs:List Value) (hs:a.eval s=v) (hown:w.ownsRow base e size v n xs)
  (ad:Addr) (m c:Nat) (news:List Value) (hx:a.eval x=.slice (some ad) m c) (hl:news.length=m*size) (hnews:∀j u,news[j]? = some u->w.cell? (ad.add j)=some u) (h1:∀u∈news,u.oneCell'=true)
  (h63:n+m<=maxLen) (hbytes:(n+m)*bytes<=140737488355328) (hbase:base<=w.heap.size)
  (h:∀v' w',w'.ownsRow base e size v' (n+m) (xs++news)->w.grownBy w' v.ownBlock->(v'=.slice none 0 0↔v=.slice none 0 0/\m=0)->(v'.ownBlock=v.ownBlock\/v'.ownBlock=some w.heap.size)->K (a.put o.dst v') w') :
  if Region.wanted o (yielded ops a.tmps)=true then Oper.wp P o a w K Q else E:=by
 have hw:Region.wanted o (yielded ops a.tmps)=true:=by simp[Region.wanted,hgd]
 rw[if_pos hw];obtain⟨v',w',hr,h2,h3,h4,h5⟩:=run_append_own_at (P:=P) (w:=w) base t o.type e i z size bytes ht hi hz hsize hby hzs hsz v n xs hown ad m c news hl hnews h1 h63 hbytes hbase;unfold Oper.wp execOp;simp only[ho,resolve,invoke,builtin,Sem.run_bind,Sem.run_pure,Result.andThen_ok,List.map_toArray,List.map_cons,List.map_nil,hs,hx,hr];exact h _ _ h2 h3 h4 h5
end
attribute [local go_sem] Oper.semAt_some
theorem vVb{w:World}{ops:Array Oper}{o:Oper}{a:Act}{K:Act->World->Prop}{Q:Exit->Act->World->Prop}{E:Prop}{b n:Nat}{f:Int->Option Value}(hg:o.guard=none)(m x v:Operand)(t:TypeId)(hop:o.op=Op.mapUpdate t m x v)(e:TypeId)(ht:prog.underlying t=some (.map 77 e))
  (hm:a.eval m=.map (some b)) (hM:MapF w b n f) (hn:n<1000000000000) (key:Int) (val:Value) (hx:a.eval x=.int .u32 key) (hv:a.eval v=val) (hk:Wrd key)
  (hK:∀w',MapF w' b (up1 f key n) (upd f key val)->w.grownBy w' (some b)->K (a.put o.dst undef) w'):if Region.wanted o (yielded ops a.tmps)=true then Oper.wp prog o a w K Q else E:=by
 have hw:Region.wanted o (yielded ops a.tmps)=true:=by simp[Region.wanted,hg]
 rw[if_pos hw];obtain⟨D,h1,h2,h3⟩:=hM;obtain⟨w',hrun,r1,r2⟩:=h1.update xQ6 ht (by simp only[maxLen];omega) (xV8 hk) (d:=.held val) (ps:=[]) rfl;unfold Oper.wp;simp[execOp,hop,hm,hx,hv,hrun,Result.andThen];exact hK _ (MapF.put h1 h2 h3 hk r1) r2
theorem zYw(w:World):(zeroValue 141).run prog w=.ok (.slice none 0 0) w:=by kernel_rfl
theorem yQa:(prog.info? 143).map (fun i=>(i.zero,i.size,i.bytes))=some (some (.agg #[.int .u32 0,.int .i64 0]),2,16):=by kernel_rfl
def uJe(n:Nat)(t:TaskV)(ls:List (List Int))(w:World)(e:Ending)(w':World):Prop:=Below w.heap.size w w' /\
 ∃(mo N:Nat) (f:Int->Option Value) (D:List Int->Int),e=.returned (.map (some mo))/\MapF w' mo N f/\∀l∈ls,f (xJ0 l)=some (.int .i64 (D l))/\RBest n t.ops t.goal l (D l)
theorem vVc{ls:List (List Int)}(h:ls.Nodup){k:Nat}{l:List Int}(hl:ls[k]? = some l):¬l∈ls.take k:=fun hm=>by
 obtain⟨i,hi,he⟩:=List.mem_take_iff_getElem.1 hm;obtain⟨hk,hl2⟩:=zQ1.1 hl;exact(List.pairwise_iff_getElem.1 h) i k (by omega) hk (by omega) (by rw[he,hl2])
theorem zYx(f:Int->Option Value)(x:Int)(n:Nat):up1 f x n<=n+1:=by unfold up1;split<;>omega
theorem yKg(f:Int->Option Value)(x:Int)(v:Value)(n:Nat):up1 (upd f x v) x n=n:=by unfold up1;rw[xXo];rfl
def Out1(goal:List Int)(ls:List (List Int))(fO:Int->Option Value)(fq:Int->Option Int):Prop:=
 (∀l∈ls,((∀q∈goal,q∈l)->fO (xJ0 l)=some (.int .i64 0)/\fq (xJ0 l)=some 0)/\(¬(∀q∈goal,q∈l)->fO (xJ0 l)=some (.int .i64 1000000000)/\fq (xJ0 l)=none))/\∀x,fq x≠none->∃l∈ls,xJ0 l=x
theorem Out1.nil(goal:List Int):Out1 goal [] (fun _=>none) (fun _=>none):=⟨(fun l hl=>by cases hl),(fun x hx=>absurd rfl hx)⟩
theorem Out1.fresh{goal:List Int}{ls:List (List Int)}{fO:Int->Option Value}{fq:Int->Option Int}{n:Nat}(h:Out1 goal ls fO fq)(hs:∀l∈ls,SetP l (n:Int)){l:List Int}(hl:SetP l (n:Int))(hn:¬l∈ls):fq (xJ0 l)=none:=
 vXe fun hc=>by
  obtain⟨l',h1,h2⟩:=h.2 _ hc;exact hn (xJp (hs l' h1) hl h2 ▸ h1)
theorem Out1.yes{goal:List Int}{ls:List (List Int)}{fO:Int->Option Value}{fq:Int->Option Int}{n:Nat}(h:Out1 goal ls fO fq)(hs:∀l∈ls,SetP l (n:Int)){l:List Int}(hl:SetP l (n:Int))(hn:¬l∈ls)(hg:∀q∈goal,q∈l) :
  Out1 goal (ls ++ [l]) (upd (upd fO (xJ0 l) (.int .i64 1000000000)) (xJ0 l) (.int .i64 0)) (xQi fq (xJ0 l) 0):=by
 refine⟨fun l' hl'=>?_,fun x hx=>?_⟩
 ·rcases vJn.1 hl' with h1|h1
  ·have hne:xJ0 l'≠xJ0 l:=fun e=>hn (xJp (hs l' h1) hl e ▸ h1)
   rw[xJq _ _ hne,xJq _ _ hne];unfold xQi;rw[if_neg hne];exact h.1 l' h1
  ·simp at h1;subst h1;refine⟨fun _=>⟨xXo _ _ _,by unfold xQi;rw[if_pos rfl]⟩,fun h2=>absurd hg h2⟩
 ·unfold xQi at hx
  split at hx
  ·rename_i e;exact⟨l,by simp,e.symm⟩
  ·obtain⟨l',h1,h2⟩:=h.2 x hx;exact⟨l',vJn.2 (.inl h1),h2⟩
theorem Out1.no{goal:List Int}{ls:List (List Int)}{fO:Int->Option Value}{fq:Int->Option Int}{n:Nat}(h:Out1 goal ls fO fq)(hs:∀l∈ls,SetP l (n:Int)){l:List Int}(hl:SetP l (n:Int))(hn:¬l∈ls)(hg:¬ ∀q∈goal,q∈l) :
  Out1 goal (ls ++ [l]) (upd fO (xJ0 l) (.int .i64 1000000000)) fq:=by
 have hf:=h.fresh hs hl hn;refine⟨fun l' hl'=>?_,fun x hx=>?_⟩
 ·rcases vJn.1 hl' with h1|h1
  ·have hne:xJ0 l'≠xJ0 l:=fun e=>hn (xJp (hs l' h1) hl e ▸ h1)
   rw[xJq _ _ hne];exact h.1 l' h1
  ·simp at h1;subst h1;exact⟨fun h2=>absurd h2 hg,fun _=>⟨xXo _ _ _,hf⟩⟩
 ·obtain⟨l',h1,h2⟩:=h.2 x hx;exact⟨l',vJn.2 (.inl h1),h2⟩
def RowsM(n:Nat)(ops:List OpV)(done:List (List Int))(s:List Int)(pre:List (Nat×OpV×List Int))(rows:Int->List (List Int×Int)):Prop:=
 ∀(x:Int) (a:List Int×Int),a∈rows x↔(a.1∈done/\∃y∈xJy n ops a.1 ops.length,xJ0 y.2.2=x/\a.2=y.2.1.cost)\/(a.1=s/\∃y∈pre,xJ0 y.2.2=x/\a.2=y.2.1.cost)
theorem RowsM.nil(n:Nat)(ops:List OpV):RowsM n ops [] [] [] (fun _=>[]):=fun x a=>by simp
theorem RowsM.start{n:Nat}{ops:List OpV}{done:List (List Int)}{s s':List Int}{rows:Int->List (List Int×Int)}(h:RowsM n ops done s [] rows):RowsM n ops done s' [] rows:=fun x a=>by rw[h x a];simp
theorem RowsM.push{n:Nat}{ops:List OpV}{done:List (List Int)}{s:List Int}{pre:List (Nat×OpV×List Int)}{rows:Int->List (List Int×Int)}(h:RowsM n ops done s pre rows)(y:Nat×OpV×List Int) :
  RowsM n ops done s (pre ++ [y]) (yKw rows (xJ0 y.2.2) (rows (xJ0 y.2.2) ++ [(s,y.2.1.cost)])):=fun x a=>by
 unfold yKw
 by_cases e:x=xJ0 y.2.2
 ·subst e;rw[if_pos rfl,vJn,h];constructor
  ·rintro((h1|⟨h1,y',h2,h3⟩)|h1)
   ·exact .inl h1
   ·exact .inr ⟨h1,y',vJn.2 (.inl h2),h3⟩
   ·simp at h1;subst h1;exact .inr ⟨rfl,y,by simp,rfl,rfl⟩
  ·rintro(h1|⟨h1,y',h2,h3⟩)
   ·exact .inl (.inl h1)
   ·rcases vJn.1 h2 with h2|h2
    ·exact .inl (.inr ⟨h1,y',h2,h3⟩)
    ·simp at h2;subst h2;obtain⟨a1,a2⟩:=a;dsimp only at h1 h3;rw[h1,h3.2];exact .inr (by simp)
 ·rw[if_neg e,h];constructor
  ·rintro(h1|⟨h1,y',h2,h3⟩)
   ·exact .inl h1
   ·exact .inr ⟨h1,y',vJn.2 (.inl h2),h3⟩
  ·rintro(h1|⟨h1,y',h2,h3⟩)
   ·exact .inl h1
   ·rcases vJn.1 h2 with h2|h2
    ·exact .inr ⟨h1,y',h2,h3⟩
    ·simp at h2;subst h2;exact absurd h3.1.symm e
theorem RowsM.fin{n:Nat}{ops:List OpV}{done:List (List Int)}{s:List Int}{pre:List (Nat×OpV×List Int)}{rows:Int->List (List Int×Int)}(h:RowsM n ops done s pre rows)(hp:pre=xJy n ops s ops.length) :
  RowsM n ops (done ++ [s]) [] [] rows:=fun x a=>by
 rw[h x a,hp];constructor
 ·rintro(⟨h1,h2⟩|⟨h1,h2⟩)
  ·exact .inl ⟨vJn.2 (.inl h1),h2⟩
  ·exact .inl ⟨vJn.2 (.inr (by simp[h1])),h1 ▸ h2⟩
 ·rintro(⟨h1,h2⟩|⟨_,y,h2,_⟩)
  ·rcases vJn.1 h1 with h1|h1
   ·exact .inl ⟨h1,h2⟩
   ·simp at h1;exact .inr ⟨h1,h1 ▸ h2⟩
  ·cases h2
theorem RowsM.arcs{n:Nat}{ops:List OpV}{ls:List (List Int)}{rows:Int->List (List Int×Int)}(h:RowsM n ops ls [] [] rows){l:List Int}(hl:SetP l (n:Int)):vKt n ops ls l (rows (xJ0 l)):=fun a=>by
 rw[h];constructor
 ·rintro(⟨h1,y,h2,h3,h4⟩|⟨_,y,h2,_⟩)
  ·obtain⟨h5,h6,h7,h8⟩:=xXj.1 h2;exact⟨h1,y.1,y.2.1,h6,h7,by rw[<- h8];exact xJp (h8 ▸ xJz n a.1 _) hl h3,h4⟩
  ·cases h2
 ·rintro⟨h1,p,o,h2,h3,h4,h5⟩;exact .inl ⟨h1,(p,o,xJb n a.1 o),xXj.2 ⟨(zQ1.1 h2).1,h2,h3,rfl⟩,by rw[<- h4],h5⟩
noncomputable def D00(goal l:List Int):Int:=@ite _ (∀q∈goal,q∈l) (Classical.propDecidable _) 0 1000000000
theorem vW1{goal l:List Int}(h:∀q∈goal,q∈l):D00 goal l=0:=by unfold D00;rw[if_pos h]
theorem yYr{goal l:List Int}(h:¬ ∀q∈goal,q∈l):D00 goal l=1000000000:=by unfold D00;rw[if_neg h]
theorem vW2{n:Nat}{ops:List OpV}{goal:List Int}{ls:List (List Int)}{fO:Int->Option Value}{fq:Int->Option Int}(h:Out1 goal ls fO fq)(hc:∀o∈ops,0<=o.cost):Lab n ops goal ls (D00 goal) fq:=
 Lab.start (D00 goal) fq hc (fun l hl hg=>⟨vW1 hg,((h.1 l hl).1 hg).2⟩) (fun l hl hg=>⟨yYr hg,((h.1 l hl).2 hg).2⟩) h.2
theorem vVd{goal:List Int}{ls:List (List Int)}{fO:Int->Option Value}{fq:Int->Option Int}(h:Out1 goal ls fO fq):∀l∈ls,fO (xJ0 l)=some (.int .i64 (D00 goal l)):=fun l hl=>by
 by_cases hg:∀q∈goal,q∈l
 ·rw[vW1 hg];exact((h.1 l hl).1 hg).1
 ·rw[yYr hg];exact((h.1 l hl).2 hg).1
def ICost(n:Nat)(t:TaskV)(w:World)(b9 nq nO b2:Nat)(ds:List Deferred)(fO:Int->Option Value)(fq:Int->Option Int)(done:List (List Int))(s:List Int)(k:Nat)(pre:List (xQk n t.ops s))(W:World):Prop:=
 ∃(nb:Nat) (fb:Int->Option Value) (rows:Int->List (List Int×Int)),Back w.heap.size W w.heap.size nb fb rows/\nb<=40*k+pre.length/\Hid (∀x,(rows x).length<=40*k+pre.length)/\Arr W (w.heap.size+1) 131 [.map (some w.heap.size)]/\MapF W (w.heap.size+1+1) nO fO/\Que (w.heap.size+1+1+1) (w.heap.size+1+1+1+1) (w.heap.size+1+1+1) W nq fq/\Hid (RowsM n t.ops done s (pre.map (·.1)) rows)/\Below w.heap.size w W/\MarksOk w.heap.size ds W/\Arr W b9 77 [.int .u32 (xJ0 s)]/\Arr W b2 77 [.int .u32 (xJ0 s)]/\b2+1<=W.heap.size
theorem ICost.turn{n b9 nq nO b2 k:Nat}{t:TaskV}{w W0:World}{ds:List Deferred}{fO:Int->Option Value}{fq:Int->Option Int}{done:List (List Int)}{s:List Int}(h0:MarksOk w.heap.size ds W0)(hM0:(w.heap.size+1+1+1)<W0.heap.size)(hw:w.heap.size<=W0.heap.size){pre:List (xQk n t.ops s)}{W W':World}
  (h:ICost n t w b9 nq nO b2 ds fO fq done s k pre W) (ht:Turn W0.heap.size W W'):ICost n t w b9 nq nO b2 ds fO fq done s k pre W':=by
 obtain⟨nb,fb,rows,h1,h2,h3,h4,h5,h6,h7,h8,h9,h10,h11,h12⟩:=h;have hsz:W.heap.size<=W'.heap.size:=by obtain⟨row,hg,_⟩:=ht;exact hg.size
 exact⟨nb,fb,rows,h1.turn ht (by omega),h2,h3,h4.turn ht,h5.turn ht (by omega),h6.turn ht hM0,h7,xWg h8 ht hw (by have:=h8.size;omega),h9.turn h0 (Nat.le_refl _) ht,h10.turn ht,h11.turn ht,yJ1 h12 hsz⟩
theorem vVe{base g n B c:Nat}{w:World}{t:TaskV}{A:Option Addr}{ls:List (List Int)}(hM:WMem base w g t)(hv:TSets n t)(hO:OwnU B w (.slice A ls.length c) ls)(hC:Clos n t.ops t.init ls)(hl:ls.length<=2000) :
  Calls prog 30 #[.pointer (some ⟨g,0,none⟩),.slice A ls.length c] w (uJe n t ls w):=by
 have hn24:=hv.n24;have h40:=hv.nops;have HV:=lHd hv;have HC:=lHd hC;have hmm:=@run_makeMap prog;clear hv hC;refine xQq func30 rfl ?_;simp only[ntmps30,List.size_toArray,List.length_cons,List.length_nil,Nat.reduceAdd,Nat.reduceSub,Array.replicate_succ,Array.replicate_zero,List.push_toArray,List.append_toArray,List.nil_append,List.cons_append]
 go_wp2_with (go_at_call 79;(refine(vQh _).mono ?_);rintro e w1 ⟨rfl,hQ0,hB1⟩)
 have hz1:w1.heap.size=w1.heap.size:=rfl;have hs1:=hB1.size;simp only[World.size_alloc] at hs1 hQ0;have hB1':Below w.heap.size w w1:=Below.trans (b:=((w.alloc (.map #[] 0)).alloc (.cells #[.map (some w.heap.size)] 131)).alloc (.map #[] 0)) mvk (hB1.mono (by simp;omega));have hk0:=(((Back.made w.heap.size w).alloc _).alloc _).keep (hB1.block _ (by simp;omega)) (fun h=>xZx h hB1);have hA0:Arr w1 (w.heap.size+1) 131 [.map (some w.heap.size)]:=((Arr.new_at (w.alloc (.map #[] 0)) _ (by simp) _ _).alloc _).below hB1;have hM0:MapF w1 (w.heap.size+1+1) 0 (fun _=>none):=(MapF.made_at ((w.alloc (.map #[] 0)).alloc (.cells #[.map (some w.heap.size)] 131)) _ (by simp)).below hB1 (by simp);clear hB1 hz1;refine wp_loop_ghost_k (fun gk a wr=>∃(ds:List Deferred) (vi:Value) (F:Array Value),(∃(k nb nO nq:Nat) (fb fO:Int->Option Value) (fq:Int->Option Int) (rows:Int->List (List Int×Int)),k<=ls.length/\vi=.int .i64 (k:Int)/\Back w.heap.size wr w.heap.size nb fb rows/\nb<=40*k/\Hid (∀x,(rows x).length<=40*k)/\Arr wr (w.heap.size+1) 131 [.map (some w.heap.size)]/\MapF wr (w.heap.size+1+1) nO fO/\nO<=k/\Que (w.heap.size+1+1+1) (w.heap.size+1+1+1+1) (w.heap.size+1+1+1) wr nq fq/\nq<=k/\Hid (Out1 t.goal (ls.take k) fO fq)/\Hid (RowsM n t.ops (ls.take k) [] [] rows)/\Below w.heap.size w wr/\MarksOk w.heap.size ds wr/\Hid (gk=ls.length-k))/\a={ tmps:=#[.pointer (some ⟨g,0,none⟩),.slice A ls.length c,fr F 2,fr F 3,.map none,.pointer (some ⟨(w.heap.size+1),0,none⟩),.map (some (w.heap.size+1+1)),.pointer (some ⟨(w.heap.size+1+1+1+1),0,none⟩),fr F 8,fr F 9,fr F 10,fr F 11,fr F 12,fr F 13,fr F 14,fr F 15,fr F 16,fr F 17,fr F 18,.slice A ls.length c,.int .i64 (ls.length:Int),vi,fr F 22,fr F 23,fr F 24,fr F 25,fr F 26,fr F 27,fr F 28,fr F 29,fr F 30,fr F 31,fr F 32,fr F 33,fr F 34,fr F 35,fr F 36,fr F 37,fr F 38,fr F 39,fr F 40,fr F 41,fr F 42,fr F 43,fr F 44,fr F 45,fr F 46,fr F 47,fr F 48,fr F 49,fr F 50,fr F 51,fr F 52,fr F 53,fr F 54,fr F 55,fr F 56,fr F 57,fr F 58,fr F 59,fr F 60,fr F 61,fr F 62,fr F 63,fr F 64,fr F 65,fr F 66,fr F 67,fr F 68,fr F 69,fr F 70,fr F 71,fr F 72,fr F 73,fr F 74,fr F 75,fr F 76,fr F 77,fr F 78,fr F 79,fr F 80,fr F 81,fr F 82,fr F 83,fr F 84,fr F 85,fr F 86,fr F 87,fr F 88,fr F 89,fr F 90,fr F 91,fr F 92,fr F 93,fr F 94,fr F 95],defers:=ds }) ls.length ?start ?round
 case start=>
  refine⟨[],.int .i64 0,zQv ?rel rfl⟩;exact⟨0,0,0,0,_,_,_,_,zKk _,rfl,hk0,zKk _,(fun _=>zKk _),hA0,hM0,Nat.le_refl _,hQ0,Nat.le_refl _,Out1.nil _,RowsM.nil _ _,hB1',MarksOk.nil _ _,rfl⟩
 case round=>
  clear hk0 hA0 hM0 hQ0 hB1';intro gk a wr hinv;obtain⟨ds,vi,F,⟨k,nb,nO,nq,fb,fO,fq,rows,hk,rfl,hBk,hnb,hrl,hA,hMo,hnO,hQ,hnq,hO1,hR,hB,hmk,hgk⟩,rfl⟩:=hinv;intro J K hJ hK
  by_cases hlt:k<ls.length
  ·obtain⟨l,hlk⟩:∃l,ls[k]? = some l:=⟨_,lGe hlt⟩;have hlm:=lMg hlk;have hSl:=HC.out.set l hlm;have hwl:=hSl.wrd hn24;obtain⟨g1,rfl,hg1,hg2,hcs⟩:=hO.at_ rfl hlk;have hcr:=(hB.cell (p:=⟨g1,k,none⟩) hg2).trans hcs;have htk:ls.take (k+1)=ls.take k ++ [l]:=by rw[vXd,hlk];rfl
   have hnm:=vVc HC.out.nd hlk;have hst:∀x∈ls.take k,SetP x (n:Int):=fun x hx=>HC.out.set x (List.mem_of_mem_take hx)
   have hfr:=hO1.out.fresh hst hSl hnm;have hwm:=hM;have hbl:=hA.lt;have HO1:=lHd hO1;have HR:=lHd hR;have HRL:=lHd hrl;have HG:=lHd hgk;have hqm:=hQ.obj;clear hO1 hR hrl hgk
   by_cases hg:∀q∈t.goal,q∈l
   case' pos=>
    have HO2:Hid (Out1 t.goal (ls.take (k+1)) (upd (upd fO (xJ0 l) (.int .i64 1000000000)) (xJ0 l) (.int .i64 0)) (xQi fq (xJ0 l) 0)):=by rw[htk];exact HO1.out.out.yes hst hSl hnm hg
    have HGO:=lHd hg;clear hg
    go_wp2_with (first|(at_mapUpdate;refine xXs rfl (.tmp 25) (.tmp 26) (.const (.int .i64 1000000000)) 75 rfl 3 underlying75 rfl (hMo.alloc _) (by omega) (xJ0 l) (.int .i64 1000000000) rfl rfl hwl ?_;intro w2 hM2 hg2';have hu:=zYx fO (xJ0 l) nO;have hMa:=hMo.alloc (.cells #[.int .u32 (xJ0 l)] 77);have hx2:Arr w2 wr.heap.size 77 [.int .u32 (xJ0 l)]:=(by have h0:=Arr.new wr 77 [.int .u32 (xJ0 l)];exact Arr.by_map hMa hg2' h0);have hxc:=hx2.cell 0;have hB2:Below w.heap.size w w2:=mvk;have hs2:=hB2.size)|(go_at_call 80;refine(zWq (WMem.below hwm hB2) HV.out hSl HGO.out).mono ?_;rintro e w' ⟨rfl,d,rfl⟩)|(at_mapUpdate;refine xXs rfl (.tmp 30) (.tmp 31) (.const (.int .i64 0)) 75 rfl 3 underlying75 rfl (hM2.drewN d) (by omega) (xJ0 l) (.int .i64 0) rfl rfl hwl ?_;intro w3 hM3 hg3;have hMd:=hM2.drewN d;have hx3:Arr w3 wr.heap.size 77 [.int .u32 (xJ0 l)]:=mvk;have hxc3:=hx3.cell 0;have hQ3:Que (w.heap.size+1+1+1) (w.heap.size+1+1+1+1) (w.heap.size+1+1+1) w3 nq fq:=mvk)|(go_at_call 81;refine(zV4 hQ3 (xJ0 l) 0 hwl hfr (by omega)).mono ?_;rintro e w4 ⟨rfl,hQ4,hU4⟩;have hqm3:=hQ3.obj;have hx4:Arr w4 wr.heap.size 77 [.int .u32 (xJ0 l)]:=mvk;have hxc4:w4.cell? ⟨wr.heap.size,0,none⟩=some (.int .u32 (xJ0 l)):=hx4.cell 0;clear hx4)|(go_at_call 82;refine(xYn _ _ _).mono ?_;rintro e w' ⟨rfl,rfl⟩))
    have hBw:Below w.heap.size w w4:=mvk;have hA4:Arr w4 (w.heap.size+1) 131 [.map (some w.heap.size)]:=mvk;have hBk4:Back w.heap.size w4 w.heap.size nb fb rows:=mvk;have hm4:MarksOk w.heap.size ds w4:=mvk;have hMO4:MapF w4 (w.heap.size+1+1) (up1 fO (xJ0 l) nO) (upd (upd fO (xJ0 l) (.int .i64 1000000000)) (xJ0 l) (.int .i64 0)):=(by rw[yKg] at hM3;exact mvk);have hx4:Arr w4 wr.heap.size 77 [.int .u32 (xJ0 l)]:=mvk;obtain⟨fO2,hfO2⟩:∃x,x=(upd (upd fO (xJ0 l) (.int .i64 1000000000)) (xJ0 l) (.int .i64 0)):=⟨_,rfl⟩;obtain⟨fq2,hfq2⟩:∃x,x=xQi fq (xJ0 l) 0:=⟨_,rfl⟩;obtain⟨nq2,hnq2⟩:∃x,x=nq+1:=⟨_,rfl⟩;rw[<- hfO2] at hMO4 HO2;rw[<- hfq2] at hQ4 HO2;rw[<- hnq2] at hQ4;have hnq3:nq2<=k+1:=by omega
    clear hfO2 hfq2 hnq2 hM2 hg2' hu hMa hx2 hxc hM3 hg3 hMd hx3 hxc3 hQ3 hU4 hqm3 hxc4 hB2 hfr hnq HGO
   case' neg=>
    have HO2:Hid (Out1 t.goal (ls.take (k+1)) (upd fO (xJ0 l) (.int .i64 1000000000)) fq):=by rw[htk];exact HO1.out.out.no hst hSl hnm hg
    have HGO:=lHd hg;clear hg
    go_wp2_with (first|(at_mapUpdate;refine xXs rfl (.tmp 25) (.tmp 26) (.const (.int .i64 1000000000)) 75 rfl 3 underlying75 rfl (hMo.alloc _) (by omega) (xJ0 l) (.int .i64 1000000000) rfl rfl hwl ?_;intro w2 hM2 hg2';have hu:=zYx fO (xJ0 l) nO;have hMa:=hMo.alloc (.cells #[.int .u32 (xJ0 l)] 77);have hx2:Arr w2 wr.heap.size 77 [.int .u32 (xJ0 l)]:=(by have h0:=Arr.new wr 77 [.int .u32 (xJ0 l)];exact Arr.by_map hMa hg2' h0);have hxc:=hx2.cell 0;have hB2:Below w.heap.size w w2:=mvk;have hs2:=hB2.size)|(go_at_call 80;refine(vQe (WMem.below hwm hB2) HV.out hSl HGO.out).mono ?_;rintro e w' ⟨rfl,d,rfl⟩;obtain⟨w4,hw4⟩:∃x,Hid (x=w2.drewN d):=⟨_,rfl⟩;rw[<- hw4.out];have hxc4:w4.cell? ⟨wr.heap.size,0,none⟩=some (.int .u32 (xJ0 l)):=(by rw[hw4.out];exact hx2.cell 0))|(go_at_call 82;refine(xYn _ _ _).mono ?_;rintro e w' ⟨rfl,rfl⟩))
    have hBw:Below w.heap.size w w4:=(by rw[hw4.out];exact mvk);have hA4:Arr w4 (w.heap.size+1) 131 [.map (some w.heap.size)]:=(by rw[hw4.out];exact mvk);have hBk4:Back w.heap.size w4 w.heap.size nb fb rows:=(by rw[hw4.out];exact mvk);have hm4:MarksOk w.heap.size ds w4:=(by rw[hw4.out];exact mvk);have hMO4:MapF w4 (w.heap.size+1+1) (up1 fO (xJ0 l) nO) (upd fO (xJ0 l) (.int .i64 1000000000)):=(by rw[hw4.out];exact mvk);have hx4:Arr w4 wr.heap.size 77 [.int .u32 (xJ0 l)]:=(by rw[hw4.out];exact mvk);have hQ4:Que (w.heap.size+1+1+1) (w.heap.size+1+1+1+1) (w.heap.size+1+1+1) w4 nq fq:=(by rw[hw4.out];exact mvk);obtain⟨fO2,hfO2⟩:∃x,x=(upd fO (xJ0 l) (.int .i64 1000000000)):=⟨_,rfl⟩;obtain⟨fq2,hfq2⟩:∃x,x=fq:=⟨_,rfl⟩;obtain⟨nq2,hnq2⟩:∃x,x=nq:=⟨_,rfl⟩;rw[<- hfO2] at hMO4 HO2;rw[<- hfq2] at hQ4 HO2;rw[<- hnq2] at hQ4;have hnq3:nq2<=k+1:=by omega
    clear hfO2 hfq2 hnq2 hM2 hg2' hu hMa hx2 hxc hxc4 hB2 hfr hnq HGO hw4
   all_goals
    have hA40:=hA4;have hsz5:w.heap.size+1+1+1+1<w4.heap.size:=by have:=hQ4.qlt;omega
    refine xVz (b1:=w4.heap.size) (b2:=w4.heap.size+1) (es:=10) hM HV.out hSl ?hB ?hc1 ?hc2 ?hb2 rfl rfl (ICost n t w wr.heap.size nq2 (up1 fO (xJ0 l) nO) (w4.heap.size+1) ds fO2 fq2 (ls.take k) l k) ?hI ?hIs ?h0 ?hassign ?hbody ?hdone
    case hB=>exact mvk
    case hc1=>exact((Arr.new_at w4 _ rfl _ _).alloc _).cell 0
    case hc2=>exact(Arr.new_at (w4.alloc _) _ (by simp) _ [.int .u32 (xJ0 l)]).cell 0
    case hb2=>omega
    case hI=>exact fun pre W W' h ht=>h.turn ((hm4.alloc _).alloc _) (by simp;omega) (by simp;omega) ht
    case hIs=>rintro pre W ⟨_,_,_,_,_,_,_,_,_,_,_,_,_,_,h⟩;simpa using h
    case h0=>exact⟨nb,fb,rows,mvk,by simp;omega,(fun x=>by simp;exact HRL.out.out x),mvk,mvk,mvk,HR.out.out.start,mvk,mvk,mvk,Arr.new_at (w4.alloc _) _ (by simp) _ _,by simp⟩
    case hassign=>
     intro y x W K hK;simp only[xXl,List.setIfInBounds_toArray,List.set_cons_succ,List.set_cons_zero] at hK ⊢
     gi_wp2
     rfl
    case hbody=>
     clear hBk hBk4 hA hA4 hA40 hMo hMO4 hQ hQ4 hqm hx4 hBw hm4 hwm HO2 hcs hcr hst hnm hB hmk HRL HR HO1;intro y pre x Bx W hlt hi hx hBx a' ha';obtain⟨⟨p,o,l2⟩,hmem⟩:=x;obtain⟨nb',fb',rows',h1,h2,h3,h4,h5,h6,h7,h8,h9,h10,h11,h12⟩:=hi;have hps:=xV2 (n:=n) (ops:=t.ops) (l:=l) t.ops.length;have hSl2:SetP l2 (n:Int):=by obtain⟨_,_,_,e1⟩:=xXj.1 hmem;dsimp only at e1;rw[e1];exact xJz n l _
     have hwl2:=hSl2.wrd hn24;have h3':=h3.out;simp only[xXl,List.setIfInBounds_toArray,List.set_cons_succ,List.set_cons_zero] at ha';subst ha';obtain⟨vv,hvv⟩:∃x,Hid (x=(fb' (xJ0 l2)).getD (.slice none 0 0)):=⟨_,rfl⟩;have hrow:OwnA w.heap.size W vv (rows' (xJ0 l2)):=by rw[hvv.out];exact h1.2.1 _
     have hlook:∀ {W':World},MapF W' w.heap.size nb' fb'->(Instr.lookup 131 (.map (some w.heap.size)) (.int .u32 (xJ0 l2)) false).run prog W'=.ok vv W':=fun {W'} h=>by rw[hvv.out];exact h.look underlying131 (zYw _) hwl2
     have hSS0:W.drew.cell? ⟨(w.heap.size+1),0,none⟩=some (.map (some w.heap.size))/\W.drew.cell? ⟨Bx,2,none⟩=some (.int .u32 (xJ0 l2))/\W.drew.cell? ⟨Bx,1,none⟩=some (.int .i64 o.cost)/\W.drew.cell? ⟨wr.heap.size,0,none⟩=some (.int .u32 (xJ0 l))/\(Instr.lookup 131 (.map (some w.heap.size)) (.int .u32 (xJ0 l2)) false).run prog W.drew=.ok vv W.drew:=⟨h4.cell 0,hx.cell 2,hx.cell 1,h10.cell 0,hlook h1.1.drew⟩
     gi_wp2
     have hrow1:(W.alloc (.cells #[.int .u32 (xJ0 l),.int .i64 o.cost] 143)).drew.ownsRow w.heap.size 143 2 vv (rows' (xJ0 l2)).length ((rows' (xJ0 l2)).flatMap vJk):=(hrow.alloc _).drew;obtain⟨i0,hi0,hq0⟩:=vYt.1 yQa;simp only[Prod.mk.injEq] at hq0;have hlen2:(rows' (xJ0 l2)).length<=100000:=by have:=h3' (xJ0 l2);omega
     have hsW:=h8.size;have hb2W:W.heap[w4.heap.size+1]? = some (.cells #[.int .u32 (xJ0 l)] 77 (0,0)):=h11;refine zQh (fun W=>W.cell? ⟨(w.heap.size+1),0,none⟩=some (.map (some w.heap.size))/\W.cell? ⟨Bx,2,none⟩=some (.int .u32 (xJ0 l2))/\W.cell? ⟨Bx,1,none⟩=some (.int .i64 o.cost)/\W.cell? ⟨wr.heap.size,0,none⟩=some (.int .u32 (xJ0 l))/\(Instr.lookup 131 (.map (some w.heap.size)) (.int .u32 (xJ0 l2)) false).run prog W=.ok vv W) [13] (by kernel_rfl) (by kernel_rfl) (fun _ _ h=>h) ?_;have hSS:=hSS0;refine tkK 0 ?_;refine tkK 1 ?_;refine tkK 2 ?_;refine tkK 3 ?_;refine tkK 4 ?_;refine tkK 5 ?_;refine tkK 6 ?_;refine tkK 7 ?_;refine tkK 8 ?_;refine tkK 9 ?_;refine tkK 10 ?_;refine kdo 11 (fun K hK=>?_);go_simp
     gi_wp2
     have hSS:(W.alloc (.cells #[.int .u32 (xJ0 l),.int .i64 o.cost] 143)).drew.cell? ⟨(w.heap.size+1),0,none⟩=some (.map (some w.heap.size))/\(W.alloc (.cells #[.int .u32 (xJ0 l),.int .i64 o.cost] 143)).drew.cell? ⟨Bx,2,none⟩=some (.int .u32 (xJ0 l2))/\(W.alloc (.cells #[.int .u32 (xJ0 l),.int .i64 o.cost] 143)).drew.cell? ⟨Bx,1,none⟩=some (.int .i64 o.cost)/\(W.alloc (.cells #[.int .u32 (xJ0 l),.int .i64 o.cost] 143)).drew.cell? ⟨wr.heap.size,0,none⟩=some (.int .u32 (xJ0 l))/\(Instr.lookup 131 (.map (some w.heap.size)) (.int .u32 (xJ0 l2)) false).run prog (W.alloc (.cells #[.int .u32 (xJ0 l),.int .i64 o.cost] 143)).drew=.ok vv (W.alloc (.cells #[.int .u32 (xJ0 l),.int .i64 o.cost] 143)).drew:=⟨(h4.alloc _).cell 0,(hx.alloc _).cell 2,(hx.alloc _).cell 1,(h10.alloc _).cell 0,hlook ((h1.1.alloc _).drew)⟩;refine hK.out _ _ hSS ?_;clear hK K
     try simp only[ap]
     refine kdo 12 (fun K hK=>?_);refine xJ7 (w:=(W.alloc (.cells #[.int .u32 (xJ0 l),.int .i64 o.cost] 143)).drew) rfl (.tmp 45) (.tmp 50) 141 rfl w.heap.size 143 i0 (.agg #[.int .u32 0,.int .i64 0]) 2 16 underlying141 hi0 hq0.1 hq0.2.1 hq0.2.2 rfl (by decide) vv (rows' (xJ0 l2)).length ((rows' (xJ0 l2)).flatMap vJk) rfl hrow1 ⟨W.heap.size,0,none⟩ 1 1 [.int .u32 (xJ0 l),.int .i64 o.cost] rfl rfl (zJ5 W _ rfl _ _) (by simp[Value.oneCell']) (by simp only[maxLen];omega) (by omega) (by simp;omega) ?_;intro v5 w5 hr5 hg5 _ hat5;have hA5:Arr w5 (w.heap.size+1) 131 [.map (some w.heap.size)]:=mvk;have hx5:Arr w5 Bx 140 [.int .i64 (p:Int),.int .i64 o.cost,.int .u32 (xJ0 l2)]:=mvk;have hb5:Arr w5 wr.heap.size 77 [.int .u32 (xJ0 l)]:=mvk;have hM5:MapF w5 w.heap.size nb' fb':=(by have h:=h1.1;exact mvk);have hSS:w5.cell? ⟨(w.heap.size+1),0,none⟩=some (.map (some w.heap.size))/\w5.cell? ⟨Bx,2,none⟩=some (.int .u32 (xJ0 l2))/\w5.cell? ⟨Bx,1,none⟩=some (.int .i64 o.cost)/\w5.cell? ⟨wr.heap.size,0,none⟩=some (.int .u32 (xJ0 l))/\(Instr.lookup 131 (.map (some w.heap.size)) (.int .u32 (xJ0 l2)) false).run prog w5=.ok vv w5:=⟨hA5.cell 0,hx5.cell 2,hx5.cell 1,hb5.cell 0,hlook hM5⟩;refine hK.out _ _ hSS ?_;clear hK K
     try simp only[ap]
     refine kla 13 (fun K hK=>?_);refine vVb (w:=w5) rfl (.tmp 39) (.tmp 41) (.tmp 51) 131 rfl 141 underlying131 rfl hM5 (by omega) (xJ0 l2) v5 rfl rfl hwl2 ?_;intro w6 hM6 hg6;refine hK.out _ _ ?_;clear hK K
     try simp only[ap]
     refine kdn ?_ _;have hz5:=hg5.size;have hz6:=hg6.size;have hz1:W.heap.size+1<=w5.heap.size:=by simpa using hz5
     have hkf:∀B',w.heap.size<B'->KeepsFrom B' W w6:=fun B' hB'=>
      (((((KeepsOthers.alloc W _).trans (KeepsOthers.drew _)).trans (KeepsOthers.of_grownBy hg5 (fun j o e1 e2=>by obtain⟨cu,h⟩:=xZk hrow1 e1;rw[h] at e2;injection e2 with e2;rw[<- e2];rfl))).from _).trans (KeepsFrom.of_grownBy hg6 (fun j e=>by injection e with e;omega)))
     have hb6:w6.heap[w4.heap.size+1]? = W.heap[w4.heap.size+1]?:=by
      refine(hg6.block _ (by omega) (fun e=>by injection e with e;omega)).trans ((hg5.block _ (by simp;omega) (fun e=>?_)).trans (Below.heap_alloc W _ _ (by omega)));obtain⟨cu,h⟩:=xZk hrow e.symm;rw[hb2W] at h;injection h with h;injection h with _ h;exact absurd h (by decide)
     have hB5:Below w.heap.size W w5:=by
      have hb0:Below w.heap.size W (W.alloc (.cells #[.int .u32 (xJ0 l),.int .i64 o.cost] 143)):=(Below.refl _ W).alloc hsW _;exact mvk
     have hB6:Below w.heap.size W w6:=mvk;have hBk6:Back w.heap.size w6 w.heap.size (up1 fb' (xJ0 l2) nb') (upd fb' (xJ0 l2) v5) (yKw rows' (xJ0 l2) (rows' (xJ0 l2) ++ [(l,o.cost)])):=by
      have h0:Back w.heap.size (W.alloc (.cells #[.int .u32 (xJ0 l),.int .i64 o.cost] 143)).drew w.heap.size nb' fb' rows':=mvk;refine h0.push (w':=w5) hwl2 ?_ (by rw[<- hvv.out];exact hg5) (by rw[<- hvv.out];exact hat5) hM6 hM5 hg6;exact hr5
     have hun:=zYx fb' (xJ0 l2) nb';have h9':=h9;have hQ5:=Que.by_row hrow1 hg5 rfl ((h6.alloc _).drew);have hQ6:Que (w.heap.size+1+1+1) (w.heap.size+1+1+1+1) (w.heap.size+1+1+1) w6 nq2 fq2:=mvk;have hMO6:MapF w6 (w.heap.size+1+1) (up1 fO (xJ0 l) nO) fO2:=mvk;have hb11:Arr w5 (w4.heap.size+1) 77 [.int .u32 (xJ0 l)]:=mvk;have hmk5:MarksOk w.heap.size ds w5:=mvk;refine⟨hkf _ (by simp;omega),⟨hB6,hb6⟩,_,_,_,hBk6,by rw[List.length_append];simp;omega,?_,mvk,hMO6,hQ6,?_,h8.trans hB6,mvk,mvk,mvk,by omega⟩
     ·intro x;unfold yKw;have h:=h3' x
      split
      ·rename_i e
       subst e;rw[List.length_append,List.length_append];simp;omega
      ·rw[List.length_append];omega
     ·rw[vQu];exact h7.out.push (p,o,l2)
    case hdone=>
     intro D xs W hD hxs hi hDh;obtain⟨nb',fb',rows',h1,h2,h3,h4,h5,h6,h7,h8,h9,h10,h11,h12⟩:=hi;have hlx:xs.length<=40:=by
      have e1:=congrArg List.length hxs;rw[zQl] at e1;have:=xV2 (n:=n) (ops:=t.ops) (l:=l) t.ops.length;omega
     have HMK:=lHd (h9.cons hDh (by simp at hD;omega) (((hm4.alloc _).alloc _).lt hD));have HR2:=lHd (h7.out.fin hxs);have HRL2:=lHd (fun x=>yJ1 (h3.out x) (show 40*k+xs.length<=40*(k+1) by omega));have hu:=zYx fO (xJ0 l) nO;clear h7 h9 h3 hDh hm4 hwm hBk hBk4 hA hA4 hA40 hMo hMO4 hQ hQ4 hqm hx4 hBw;go_wp2;refine Handed.intro (ls.length-(k+1)) ?measure (hJ _ _ _ ⟨vZ5 D::ds,.int .i64 ((k:Int)+1),zQv ?rel1 rfl⟩)
     case measure=>
      have h:=HG.out.out;omega
     case rel1=>exact⟨k+1,nb',_,nq2,fb',fO2,fq2,rows',by omega,by go_num,h1,by omega,HRL2.out,h4,h5,by omega,h6,hnq3,HO2.out,by rw[htk];exact HR2.out,h8,HMK.out,rfl⟩
  ·have hke:k=ls.length:=by omega
   subst hke;rw[yQ7] at hO1 hR;have hqm:=hQ.obj;have HD0:=lHd (vW2 (n:=n) hO1.out (fun o ho=>(HV.out.ops o ho).2.2.2.1));have HV0:=lHd (vVd hO1.out);have HR:=lHd (hR.out);have HM:=lHd hmk;clear hO1 hR hgk hlt hJ;go_wp2;refine wp_loop_ghost_k (fun gk a wr=>∃F:Array Value,(∃(nq:Nat) (fO:Int->Option Value) (fq:Int->Option Int) (D:List Int->Int),Back w.heap.size wr w.heap.size nb fb rows/\Arr wr (w.heap.size+1) 131 [.map (some w.heap.size)]/\MapF wr (w.heap.size+1+1) nO fO/\Que (w.heap.size+1+1+1) (w.heap.size+1+1+1+1) (w.heap.size+1+1+1) wr nq fq/\Hid (Lab n t.ops t.goal ls D fq)/\Hid (∀l∈ls,fO (xJ0 l)=some (.int .i64 (D l)))/\Below w.heap.size w wr/\MarksOk w.heap.size ds wr/\Hid (gk=2*zZb ls D+nq))/\a={ tmps:=#[.pointer (some ⟨g,0,none⟩),.slice A ls.length c,fr F 2,fr F 3,.map none,.pointer (some ⟨(w.heap.size+1),0,none⟩),.map (some (w.heap.size+1+1)),.pointer (some ⟨(w.heap.size+1+1+1+1),0,none⟩),fr F 8,fr F 9,fr F 10,fr F 11,fr F 12,fr F 13,fr F 14,fr F 15,fr F 16,fr F 17,fr F 18,fr F 19,fr F 20,fr F 21,fr F 22,fr F 23,fr F 24,fr F 25,fr F 26,fr F 27,fr F 28,fr F 29,fr F 30,fr F 31,fr F 32,fr F 33,fr F 34,fr F 35,fr F 36,fr F 37,fr F 38,fr F 39,fr F 40,fr F 41,fr F 42,fr F 43,fr F 44,fr F 45,fr F 46,fr F 47,fr F 48,fr F 49,fr F 50,fr F 51,fr F 52,fr F 53,fr F 54,fr F 55,fr F 56,fr F 57,fr F 58,fr F 59,fr F 60,fr F 61,fr F 62,fr F 63,fr F 64,fr F 65,fr F 66,fr F 67,fr F 68,fr F 69,fr F 70,fr F 71,fr F 72,fr F 73,fr F 74,fr F 75,fr F 76,fr F 77,fr F 78,fr F 79,fr F 80,fr F 81,fr F 82,fr F 83,fr F 84,fr F 85,fr F 86,fr F 87,fr F 88,fr F 89,fr F 90,fr F 91,fr F 92,fr F 93,fr F 94,fr F 95],defers:=ds }) (2*zZb ls (D00 t.goal)+nq) ?start2 ?round2
   case start2=>exact zQv ⟨nq,fO,fq,D00 t.goal,hBk,hA,hMo,hQ,HD0.out,HV0.out,hB,HM.out,rfl⟩ rfl
   case round2=>
    clear HD0 HV0 HM hBk hA hMo hQ hB hmk hqm hnq;intro gk a wr hinv;obtain⟨F,⟨nq,fO,fq,D,hBk,hA,hMo,hQ,hL,hVal,hB,hmk,hgk⟩,rfl⟩:=hinv;intro J K hJ hK;have hcnt:=hQ.count hL.out.qs
    by_cases h0:nq=0
    ·subst h0;have hemp:=hQ.empty;have HB:=lHd (fun(l:List Int) (hl:l∈ls)=>hL.out.best hemp HC.out.closed hl);have HM:=lHd hmk;clear hL hemp hmk hgk
     go_wp2_with (go_at_call 83;(refine(zJv hQ).mono ?_);rintro e w9 ⟨rfl,rfl⟩)
     (try simp only[Exit.inBlock,Exit.then])
     refine vJg rfl HM.out ?_;intro W' hW';exact⟨hB.trans hW'.below,_,_,fO,D,rfl,hMo.mturn hW',fun l hl=>⟨hVal.out l hl,HB.out l hl⟩⟩
    ·have hqm:=hQ.obj;have hnn:0<nq:=by omega
     go_wp2_with (first|(go_at_call 83;(refine(zJv hQ).mono ?_);rintro e w9 ⟨rfl,rfl⟩)|(go_at_call 84;(refine(zW1 hQ hnn).mono ?_);rintro e w2 ⟨x,d,hx,hfx,_,rfl,hQ2,hU2⟩;have hA2:Arr w2 (w.heap.size+1) 131 [.map (some w.heap.size)]:=mvk;have hc2:=hA2.cell 0;have hBk2:Back w.heap.size w2 w.heap.size nb fb rows:=mvk;have hlk:=hBk2.1.look underlying131 (zYw w2) hx;obtain⟨Ab,cb,hvf⟩:=(hBk2.2.1 x).form;have hrow:=hBk2.2.1 x;rw[hvf] at hlk hrow;have hvb:=lHd hvf;clear hvf;obtain⟨l,hlm,rfl⟩:=hL.out.qs x (by rw[hfx];simp)))
     have hL1:=lHd (hL.out.take hlm HC.out.set hfx);have hMo2:MapF w2 (w.heap.size+1+1) nO fO:=mvk;have hB2:Below w.heap.size w w2:=mvk;have hm2:MarksOk w.heap.size ds w2:=mvk;have hHJ:=lHd hJ;have hlen:=hrl.out (xJ0 l);have HAR:=lHd (HR.out.arcs (HC.out.set l hlm));have hdl : -1000000000<=d/\d<=1000000000:=by have h1:=hL.out.qk l hlm d hfx;have h2:=hL.out.lo l hlm;omega
     clear hA hBk hMo hQ hL hB hmk hU2 hc2 hlk hfx hqm hJ hcnt;refine wp_loop_ghost_k (fun gk a wr=>∃(vi:Value) (F:Array Value),(∃(j nq3:Nat) (fO3:Int->Option Value) (fq3:Int->Option Int) (D3:List Int->Int),j<=(rows (xJ0 l)).length/\vi=.int .i64 (j:Int)/\Back w.heap.size wr w.heap.size nb fb rows/\Arr wr (w.heap.size+1) 131 [.map (some w.heap.size)]/\MapF wr (w.heap.size+1+1) nO fO3/\Que (w.heap.size+1+1+1) (w.heap.size+1+1+1+1) (w.heap.size+1+1+1) wr nq3 fq3/\Hid (Lab1 n t.ops t.goal ls D3 fq3 l d ((rows (xJ0 l)).take j))/\Hid (∀l∈ls,fO3 (xJ0 l)=some (.int .i64 (D3 l)))/\Below w.heap.size w wr/\MarksOk w.heap.size ds wr/\Hid (2*zZb ls D3+nq3<=2*zZb ls D+(nq-1))/\Hid (gk=(rows (xJ0 l)).length-j))/\a={ tmps:=#[.pointer (some ⟨g,0,none⟩),.slice A ls.length c,fr F 2,fr F 3,.map none,.pointer (some ⟨(w.heap.size+1),0,none⟩),.map (some (w.heap.size+1+1)),.pointer (some ⟨(w.heap.size+1+1+1+1),0,none⟩),fr F 8,fr F 9,fr F 10,.int .u32 (xJ0 l),.int .i64 d,fr F 13,fr F 14,fr F 15,fr F 16,fr F 17,fr F 18,fr F 19,fr F 20,fr F 21,fr F 22,fr F 23,fr F 24,fr F 25,fr F 26,fr F 27,fr F 28,fr F 29,fr F 30,fr F 31,fr F 32,fr F 33,fr F 34,fr F 35,fr F 36,fr F 37,fr F 38,fr F 39,fr F 40,fr F 41,fr F 42,fr F 43,fr F 44,fr F 45,fr F 46,fr F 47,fr F 48,fr F 49,fr F 50,fr F 51,fr F 52,fr F 53,fr F 54,fr F 55,fr F 56,fr F 57,fr F 58,fr F 59,fr F 60,fr F 61,fr F 62,fr F 63,.slice Ab (rows (xJ0 l)).length cb,.int .i64 ((rows (xJ0 l)).length:Int),vi,fr F 67,fr F 68,fr F 69,fr F 70,fr F 71,fr F 72,fr F 73,fr F 74,fr F 75,fr F 76,fr F 77,fr F 78,fr F 79,fr F 80,fr F 81,fr F 82,fr F 83,fr F 84,fr F 85,fr F 86,fr F 87,fr F 88,fr F 89,fr F 90,fr F 91,fr F 92,fr F 93,fr F 94,fr F 95],defers:=ds }) (rows (xJ0 l)).length ?start3 ?round3
     case start3=>exact⟨.int .i64 0,zQv ⟨0,nq-1,fO,zZd fq (xJ0 l),D,zKk _,rfl,hBk2,hA2,hMo2,hQ2,hL1.out,hVal.out,hB2,hm2,Nat.le_refl _,rfl⟩ rfl⟩
     case round3=>
      clear hBk2 hA2 hMo2 hQ2 hL1 hVal hB2 hm2;intro gk3 a wr3 hinv;obtain⟨vi,F3,⟨j,nq3,fO3,fq3,D3,hj,rfl,hBk,hA,hMo,hQ,hL,hVal,hB,hmk,hsum,hg3⟩,rfl⟩:=hinv;intro J3 K3 hJ3 hK3
      by_cases hlt:j<(rows (xJ0 l)).length
      ·obtain⟨⟨s,c3⟩,har⟩:∃x,(rows (xJ0 l))[j]? = some x:=⟨_,lGe hlt⟩;obtain⟨gr,rfl,hgr,hc0,hc1⟩:=(hBk.2.1 (xJ0 l) |> fun h=>(by rw[hvb.out] at h;exact h:OwnA w.heap.size wr3 (.slice Ab (rows (xJ0 l)).length cb) (rows (xJ0 l)))).at_ har;dsimp only at hc0 hc1;obtain⟨hsm,p,o,ho,hpre,hnx,hce⟩:=(HAR.out (s,c3)).1 (lMg har);dsimp only at hsm hpre hnx hce;have hoc:=HV.out.ops o (lMg ho);have hc3:0<=c3/\c3<=100:=by rw[hce];exact⟨hoc.2.2.2.1,hoc.2.2.2.2.1⟩
       have hws:=(HC.out.set s hsm).wrd hn24;have hDs:=hL.out.lo s hsm;have hlk:=(hMo.alloc (.cells #[.int .u32 (xJ0 s),.int .i64 c3] 143)).look underlying75 (xXu _) hws;rw[hVal.out s hsm] at hlk;have htk:(rows (xJ0 l)).take (j+1)=(rows (xJ0 l)).take j ++ [(s,c3)]:=by rw[vXd,har];rfl
       have hbl:=hA.lt;have hqm:=hQ.obj
       by_cases hrel:d+c3<D3 s
       ·have HSET:∀W:World,Que (w.heap.size+1+1+1) (w.heap.size+1+1+1+1) (w.heap.size+1+1+1) W nq3 fq3->Calls prog 81 #[.pointer (some ⟨(w.heap.size+1+1+1+1),0,none⟩),.int .u32 (xJ0 s),.int .i64 (d+c3)] W (uXd (w.heap.size+1+1+1) (w.heap.size+1+1+1+1) (w.heap.size+1+1+1) W (upN fq3 (xJ0 s) nq3) (xQi fq3 (xJ0 s) (d+c3))):=fun W hW=>by
         have hn3:=hW.count hL.out.qs
         cases hf:fq3 (xJ0 s) with
         |none=>
          have h:=zV4 hW (xJ0 s) (d+c3) hws hf (by omega);unfold upN;rw[hf];exact h
         |some k0=>
          have h:=vZ0 hW (xJ0 s) (d+c3) hws (by rw[hf];rfl);unfold upN;rw[hf];exact h
        have HL2:=lHd (hL.out.relax HC.out.set (a:=(s,c3)) hsm ho hpre hnx hce hoc.2.2.2.1 hrel);have HV2:Hid (∀l'∈ls,upd fO3 (xJ0 s) (.int .i64 (d+c3)) (xJ0 l')=some (.int .i64 (xKf D3 s (d+c3) l'))):=fun l' hl'=>by
         unfold xKf
         by_cases e:l'=s
         ·subst e;rw[xXo,if_pos rfl]
         ·rw[xJq _ _ (fun e1=>e (xJp (HC.out.set l' hl') (HC.out.set s hsm) e1)),if_neg e];exact hVal.out l' hl'
        have hu1:up1 fO3 (xJ0 s) nO=nO:=by unfold up1;rw[hVal.out s hsm];rfl
        have hsl:=vJ4 HC.out.nd hsm (by have:=hL.out.lo l hlm;have h2:=hL.out.cur;omega) hrel;have hup:upN fq3 (xJ0 s) nq3<=nq3+1:=by unfold upN;split<;>omega
        have HS2:Hid (2*zZb ls (xKf D3 s (d+c3))+upN fq3 (xJ0 s) nq3<=2*zZb ls D+(nq-1)):=by
         have h1:=hsum.out;show _<=_;omega
        have hnO2:nO<=2000:=by omega
        clear hL hVal hsum hsl hup hpre hnx hce hoc ho
        go_wp2_with (first|(at_mapUpdate;refine xXs rfl (.tmp 79) (.tmp 81) (.tmp 85) 75 rfl 3 underlying75 rfl (hMo.alloc _) (by omega) (xJ0 s) (.int .i64 (d+c3)) rfl rfl hws ?_;intro w5 hM5 hg5;have hMa:=hMo.alloc (.cells #[.int .u32 (xJ0 s),.int .i64 c3] 143);rw[hu1] at hM5;have hx5:Arr w5 wr3.heap.size 143 [.int .u32 (xJ0 s),.int .i64 c3]:=Arr.by_map hMa hg5 (Arr.new wr3 143 _);have hx50:w5.cell? ⟨wr3.heap.size,0,none⟩=some (.int .u32 (xJ0 s)):=hx5.cell 0;have hx51:w5.cell? ⟨wr3.heap.size,1,none⟩=some (.int .i64 c3):=hx5.cell 1;have hQ5:Que (w.heap.size+1+1+1) (w.heap.size+1+1+1+1) (w.heap.size+1+1+1) w5 nq3 fq3:=mvk)|(go_at_call 81;(refine(HSET _ hQ5).mono ?_);rintro e w6 ⟨rfl,hQ6,hU6⟩))
        have hqm5:=hQ5.obj;refine Handed.intro ((rows (xJ0 l)).length-(j+1)) ?measure5 (hJ3 _ _ _ ⟨.int .i64 ((j:Int)+1),zQv ⟨j+1,upN fq3 (xJ0 s) nq3,upd fO3 (xJ0 s) (.int .i64 (d+c3)),xQi fq3 (xJ0 s) (d+c3),xKf D3 s (d+c3),by omega,by go_num,mvk,mvk,mvk,hQ6,(by rw[htk];exact HL2.out),HV2.out,mvk,mvk,HS2.out,rfl⟩ rfl⟩)
        case measure5=>
         have h1:=hg3.out;omega
       ·have HL2:=lHd (hL.out.skip (a:=(s,c3)) (by dsimp only;omega));clear hL hpre hnx hce hoc ho;go_wp2;refine Handed.intro ((rows (xJ0 l)).length-(j+1)) ?measure4 (hJ3 _ _ _ ⟨.int .i64 ((j:Int)+1),zQv ⟨j+1,nq3,fO3,fq3,D3,by omega,by go_num,mvk,mvk,mvk,mvk,(by rw[htk];exact HL2.out),hVal.out,mvk,mvk,hsum.out,rfl⟩ rfl⟩)
        case measure4=>
         have h1:=hg3.out;omega
      ·have hje:j=(rows (xJ0 l)).length:=by omega
       subst hje;have HL:=lHd (by have h:=hL.out;rw[yQ7] at h;exact h.fin HAR.out:Lab n t.ops t.goal ls D3 fq3);have HM:=lHd hmk;clear hL hlt hmk hJ3;go_wp2;refine Handed.intro (2*zZb ls D3+nq3) ?measure3 (hHJ.out _ _ _ (zQv ⟨nq3,fO3,fq3,D3,hBk,hA,hMo,hQ,HL.out,hVal.out,hB,HM.out,rfl⟩ rfl))
       case measure3=>
        have h1:=hgk.out;have h2:=hsum.out;omega
end
def yZu(n:Nat)(t:TaskV)(w:World)(e:Ending)(w':World):Prop:=Below w.heap.size w w' /\
 (
   (e=.returned (.tuple #[.int .i64 0,.agg #[.int .i64 10,.int .i64 (-7)]])/\∃ls:List (List Int),ls.Nodup/\ls.length=2001/\∀l∈ls,∃c,Cst n t.ops t.init l c) \/
   (∃d,e=.returned (.tuple #[.int .i64 d,.agg #[.int .i64 0,.int .i64 0]])/\RBest n t.ops t.goal t.init d/\∃ls,Clos n t.ops t.init ls/\ls.length<=2000))
theorem zZr(w:World)(t:TaskV)(Ai Ag Ao:Option Addr)(ci cg co:Nat)(hT:TaskMem w Ai Ag Ao t)(n:Nat)(hn:t.facts=n)(hv:Valid t) :
  Calls prog 8 #[.agg #[.int .i64 t.facts,.slice Ai t.init.length ci,.slice Ag t.goal.length cg,.slice Ao t.ops.length co]] w ((yZu n t w)):=by
 have HS:=lHd (zY6 hv hn);have hn24:=HS.out.n24;have HCK:=fun w0 h=>zQ7 w0 t Ai Ag Ao ci cg co h n hn hv
 have hk0:=HS.out.init.wrd hn24;clear hv hn;go_enter func8,ntmps8
 go_wp2_with fail
 refine(HCK _ (hT.below bch)).mono ?_;rintro e w1 ⟨hB1,hR1⟩;have D1:=xJ3 w hB1 bch;have C1:=Cls.below (l:=[(w.heap.size,0,.int .i64 t.facts),(w.heap.size,1,.slice Ai t.init.length ci),(w.heap.size,2,.slice Ag t.goal.length cg),(w.heap.size,3,.slice Ao t.ops.length co),(w.heap.size+1,0,.int .i64 0),(w.heap.size+1,1,.int .i64 0)]) hB1 (by simp[Cls,go_sem]);have F1:=C1.f;have y1w1:=C1.b 4;have y1w0:w.heap.size<w1.heap.size:=(by omega);rcases hR1 with⟨rfl,HTOO⟩|⟨g,v,ls,rfl,hW,hO,hC,hl⟩
 ·have HT1:=lHd HTOO;clear HTOO
  go_wp2_with fail
  refine xJ5 2 (by kernel_rfl) (by kernel_rfl) ?_;simp only[yJx,List.take_zero,List.drop_succ_cons,List.drop_zero]
  repeat still_step
  try refine wpStill_nil ?_
  go_wp2;refine bodyPost_ret (v:=.tuple #[.int .i64 0,.agg #[.int .i64 10,.int .i64 (-7)]]) ?_ rfl ⟨?_,.inl ⟨rfl,HT1.out⟩⟩
  ·simp[results,results8,go_sem,F1,y1w1]
  ·exact mvk
 ·obtain⟨A,c,rfl⟩:=hO.form;have HC:=lHd hC;clear hC
  go_wp2_with fail
  go_at_call 30;refine(vVe (hW.below bl) HS.out (xZx hO bl) HC.out hl).mono ?_;rintro e w2 ⟨hB2,mo,N,f,D,rfl,hM2,hD2⟩;have D2:=xJ3 w hB2 bch;have C2:=C1.sn hB2 [(w1.heap.size,0,.int .i64 0),(w1.heap.size,1,.int .i64 0)];have F2:=C2.f;have y2w1:=C2.b 4;have y2w10:=C2.b 6;have hv0:=hD2 t.init HC.out.hst;have HRB:=lHd hv0.2;have hlk:=hM2.look underlying75 (xXu _) hk0;rw[hv0.1] at hlk;clear hv0 hD2
  go_wp2_with (go_at_call 31;refine(xWx ((hW.below bl).below hB2)).mono ?_;rintro e w' ⟨rfl,rfl⟩)
  refine bodyPost_ret (v:=.tuple #[.int .i64 (D t.init),.agg #[.int .i64 0,.int .i64 0]]) ?_ rfl ⟨?_,.inr ⟨D t.init,rfl,HRB.out,ls,HC.out,hl⟩⟩
  ·simp[results,results8,go_sem,F2]
  ·exact mvk
section
open Go.Shelf
theorem Cls.low2{B:Nat}{W W':World}:∀ {l:List (Nat×Nat×Value)},Cls W l->Below B W W'->(∀x∈l,x.1<B)->Cls W' l
 | [],_,_,_=>trivial
 |(b,k,v)::r,h,hb,hl=>by
  obtain⟨⟨h1,h2⟩,h3⟩:=h;have hl1:b<B:=hl (b,k,v) (vVp ..);exact⟨⟨(hb.cell (p:=⟨b,k,none⟩) hl1).trans h1,(hb.frozen (p:=⟨b,k,none⟩) hl1).trans h2⟩,Cls.low2 h3 hb (fun x hx=>hl x (List.mem_cons_of_mem _ hx))⟩
def IV(xs:List Int):List Value:=xs.map (Value.int .i64)
def Elts(W:World)(B:Nat)(vb:Value)(cells:List Value)(rows:List (List Int)):Prop:=
 ∀(i:Nat) (r:List Int),rows[i]? = some r->∃(g c:Nat),cells[i]? = some (.slice (some ⟨g,0,none⟩) r.length c)/\B<=g/\Arr W g 3 (IV r)/\vb.ownBlock≠some g/\r.length<=c/\c<=1000000000000
structure LPR(B:Nat)(W:World)(vr vb vo:Value)(rows:List (List Int))(bnds obj:List Int):Prop where
 rs:∃cells,W.ownsRow B 22 1 vr rows.length cells/\Elts W B vb cells rows
 bs:W.ownsRow B 3 1 vb bnds.length (IV bnds)
 os:W.ownsRow B 3 1 vo obj.length (IV obj)
 ap:Apart vb vo
section
variable {B:Nat}{W W':World}{vr vb vo:Value}{rows:List (List Int)}{bnds obj:List Int}
theorem hlp{B:Nat}{w x:World}{a b c:Value}{k l m}(h:Hid (w=x))(p:LPR B x a b c k l m):LPR B w a b c k l m:=by rw[h.out];exact p
theorem Elts.keep{cells:List Value}(h:Elts W B vb cells rows)(hk:∀(g:Nat) (xs:List Value),Arr W g 3 xs->vb.ownBlock≠some g->Arr W' g 3 xs):Elts W' B vb cells rows:=fun i r hr=>by
 obtain⟨g,c,h1,h2,h3,h4,h5⟩:=h i r hr;exact⟨g,c,h1,h2,hk g _ h3 h4,h4,h5⟩
theorem LPR.nil(B:Nat)(W:World):LPR B W (.slice none 0 0) (.slice none 0 0) (.slice none 0 0) [] [] []:=
 ⟨⟨[],World.ownsRow_nil W B _ _,fun i r h=>by simp at h⟩,World.ownsRow_nil W B _ _,World.ownsRow_nil W B _ _,Apart.nil _⟩
theorem LPR.alloc(h:LPR B W vr vb vo rows bnds obj)(o:Obj):LPR B (W.alloc o) vr vb vo rows bnds obj:=by
 obtain⟨⟨cells,h1,h2⟩,h3,h4,h5⟩:=h;exact⟨⟨cells,h1.alloc o,h2.keep (fun g xs h _=>h.alloc o)⟩,h3.alloc o,h4.alloc o,h5⟩
theorem LPR.drew(h:LPR B W vr vb vo rows bnds obj):LPR B W.drew vr vb vo rows bnds obj:=by
 obtain⟨⟨cells,h1,h2⟩,h3,h4,h5⟩:=h;exact⟨⟨cells,h1.drew,h2.keep (fun g xs h _=>h.drew)⟩,h3.drew,h4.drew,h5⟩
theorem LPR.below(h:LPR B W vr vb vo rows bnds obj)(hb:Below W.heap.size W W'):LPR B W' vr vb vo rows bnds obj:=by
 obtain⟨⟨cells,h1,h2⟩,h3,h4,h5⟩:=h;exact⟨⟨cells,xZx h1 hb,h2.keep (fun g xs h _=>h.below hb)⟩,xZx h3 hb,xZx h4 hb,h5⟩
theorem LPR.set_(h:LPR B W vr vb vo rows bnds obj){p:Addr}(u:Value){g:Nat}{T:TypeId}{xs:List Value}(hA:Arr W g T xs)(hp:p.block=g)(h1:T≠22)(h2:T≠3):LPR B (W.setCell p u) vr vb vo rows bnds obj:=by
 obtain⟨⟨cells,e1,e2⟩,e3,e4,e5⟩:=h;exact⟨⟨cells,xY0 e1 u hA hp h1,e2.keep (fun g' xs' h _=>h.far2 u hA hp h2)⟩,xY0 e3 u hA hp h2,xY0 e4 u hA hp h2,e5⟩
theorem xK8{e e':TypeId}{n n':Nat}{v u:Value}{xs ys:List Value}{s s':Nat}(h:W.ownsRow B e s v n xs)(h':W.ownsRow B e' s' u n' ys)(hne:e≠e'):Apart v u:=fun k hk hu=>by
 obtain⟨c1,e1⟩:=xZk h hk;obtain⟨c2,e2⟩:=xZk h' hu;rw[e1] at e2;injection e2 with e2
 injection e2 with _ e2
 exact hne e2
theorem LPR.pushR{cells:List Value}(h1:W.ownsRow B 22 1 vr rows.length cells)(h2:Elts W B vb cells rows)(h3:W.ownsRow B 3 1 vb bnds.length (IV bnds))(h4:W.ownsRow B 3 1 vo obj.length (IV obj))(h5:Apart vb vo)
  {vr':Value} {g c:Nat} {r:List Int} (hr:W'.ownsRow B 22 1 vr' (rows.length+1) (cells ++ [.slice (some ⟨g,0,none⟩) r.length c])) (hg:W.grownBy W' vr.ownBlock) (hA:Arr W g 3 (IV r)) (hgB:B<=g) (hne:vb.ownBlock≠some g) (hc:r.length<=c/\c<=1000000000000) :
  LPR B W' vr' vb vo (rows ++ [r]) bnds obj:=by
 have hcl:=h1.1;refine⟨⟨cells ++ [.slice (some ⟨g,0,none⟩) r.length c],by rw[List.length_append];exact hr,fun i x hx=>?_⟩,xXi hg h3 (xK8 h1 h3 (by decide)),xXi hg h4 (xK8 h1 h4 (by decide)),h5⟩;rcases vVq i rows.length with hi|hi
 ·rw[yJ0 hi] at hx;obtain⟨g',c',e1,e2,e3,e4,e5⟩:=h2 i x hx;exact⟨g',c',by rw[yJ0 (by omega)];exact e1,e2,Arr.by_row h1 hg e3 (by decide),e4,e5⟩
 ·have hie:i=rows.length:=by
   have:=(zQ1.1 hx).1;rw[List.length_append] at this;simp at this;omega
  subst hie;rw[List.getElem?_append_right (Nat.le_refl _)] at hx;simp at hx;subst hx;exact⟨g,c,by rw[List.getElem?_append_right (by omega),hcl];simp,hgB,Arr.by_row h1 hg hA (by decide),hne,hc⟩
theorem LPR.pushB{b:Int}(h:LPR B W vr vb vo rows bnds obj){vb':Value}(hb:W'.ownsRow B 3 1 vb' (bnds.length+1) (IV bnds ++ [.int .i64 b]))(hg:W.grownBy W' vb.ownBlock)(hat:vb'.ownBlock=vb.ownBlock\/vb'.ownBlock=some W.heap.size):LPR B W' vr vb' vo rows (bnds ++ [b]) obj:=by
 obtain⟨⟨cells,h1,h2⟩,h3,h4,h5⟩:=h;have hkeep:∀(g:Nat) (xs:List Value),Arr W g 3 xs->vb.ownBlock≠some g->Arr W' g 3 xs:=fun g xs hA hne=>(hg.block g hA.lt (fun e=>hne e.symm)).trans hA
 refine⟨⟨cells,xXi hg h1 (xK8 h3 h1 (by decide)),fun i r hr=>?_⟩,by unfold IV at hb ⊢;rw[vQu,List.length_append];exact hb,xXi hg h4 h5,fun k hk=>?_⟩
 ·obtain⟨g,c,e1,e2,e3,e4,e5⟩:=h2 i r hr;refine⟨g,c,e1,e2,hkeep g _ e3 e4,fun e=>?_,e5⟩;rcases hat with hat|hat
  ·rw[hat] at e;exact e4 e
  ·rw[hat] at e;injection e with e;have:=e3.lt;omega
 ·rcases hat with hat|hat
  ·rw[hat] at hk;exact h5 k hk
  ·rw[hat] at hk;injection hk with hk;subst hk
   intro e;have:=(h4.lt _ e).2;omega
theorem LPR.pushO{cost:Int}(h:LPR B W (.slice none 0 0) (.slice none 0 0) vo [] [] obj){vo':Value}(ho:W'.ownsRow B 3 1 vo' (obj.length+1) (IV obj ++ [.int .i64 cost])):LPR B W' (.slice none 0 0) (.slice none 0 0) vo' [] [] (obj ++ [cost]):=
 ⟨⟨[],World.ownsRow_nil W' B _ _,fun i r h=>by simp at h⟩,World.ownsRow_nil W' B _ _,by unfold IV at ho ⊢;rw[vQu,List.length_append];exact ho,Apart.nil _⟩
theorem LPR.blk(h:LPR B W vr vb vo rows bnds obj):∀k,vb.ownBlock=some k->k<W.heap.size:=fun k hk=>(h.bs.lt k hk).2
theorem vZp{base n c:Nat}{A:Option Addr}{xs:List Int}(h:W.ownsRow base 3 1 (.slice A n c) xs.length (IV xs)):Ints W A xs:=by
 have h':OwnI base W (.slice A n c) xs:=h;obtain⟨A',c',e,_,hI⟩:=h'.form;injection e with e1 e2 e3
 rw[e1];exact hI
end
def Mid(lo hi:Nat)(W W':World):Prop:=∀b,lo<=b->b<hi->W'.heap[b]? = W.heap[b]?
def OutR(lo hi:Nat)(v:Value):Prop:=∀k,v.ownBlock=some k->k<lo\/hi<=k
section
variable {lo hi:Nat}{W W' W'':World}
theorem Mid.refl(lo hi:Nat)(W:World):Mid lo hi W W:=fun _ _ _=>rfl
theorem Mid.alloc(h:Mid lo hi W W')(hs:hi<=W'.heap.size)(o:Obj):Mid lo hi W (W'.alloc o):=fun b h1 h2=>(Below.heap_alloc W' o b (by omega)).trans (h b h1 h2)
theorem Mid.drew(h:Mid lo hi W W'):Mid lo hi W W'.drew:=h
theorem Mid.grown{v:Value}(h:Mid lo hi W W')(hg:W'.grownBy W'' v.ownBlock)(hr:OutR lo hi v)(hs:hi<=W'.heap.size):Mid lo hi W W'':=fun b h1 h2=>(hg.block b (by omega) (fun e=>by have:=hr b e.symm;omega)).trans (h b h1 h2)
theorem Mid.set_(h:Mid lo hi W W'){p:Addr}(hp:p.block<lo\/hi<=p.block)(u:Value):Mid lo hi W (W'.setCell p u):=fun b h1 h2=>(Below.heap_setCell W' p u b (fun e=>by omega)).trans (h b h1 h2)
theorem Mid.below{B:Nat}(h:Mid lo hi W W')(hb:Below B W' W'')(hB:hi<=B):Mid lo hi W W'':=fun b h1 h2=>(hb.block b (by omega)).trans (h b h1 h2)
theorem Mid.cell(h:Mid lo hi W W'){p:Addr}(h1:lo<=p.block)(h2:p.block<hi):W'.cell? p=W.cell? p:=World.cell?_of_block (h p.block h1 h2)
theorem Mid.ints(h:Mid lo hi W W'){A:Option Addr}{xs:List Int}(hI:Ints W A xs)(ha:∀ad,A=some ad->lo<=ad.block/\ad.block<hi):Ints W' A xs:=fun j u hu=>by
 obtain⟨ad,e,hc⟩:=hI j u hu;have hb:=xVt ad j;exact⟨ad,e,(h.cell (by rw[hb];exact(ha ad e).1) (by rw[hb];exact(ha ad e).2)).trans hc⟩
theorem OutR.pushed{v v':Value}(h:OutR lo hi v)(hat:v'.ownBlock=v.ownBlock\/v'.ownBlock=some W.heap.size)(hs:hi<=W.heap.size):OutR lo hi v':=fun k hk=>by
 rcases hat with hat|hat
 ·exact h k (hat ▸ hk)
 ·rw[hat] at hk;injection hk with hk;omega
theorem OutR.low{v:Value}(h:∀k,v.ownBlock=some k->k<lo):OutR lo hi v:=fun k hk=>.inl (h k hk)
def ReadM(lo hi:Nat)(W:World)(A:Option Addr)(rows:List (List Int)):Prop:=∀(i:Nat) (r:List Int),rows[i]? = some r->∃(g:Nat) (B:Option Addr) (c:Nat),A=some ⟨g,0,none⟩/\lo<=g/\g<hi/\W.cell? ⟨g,i,none⟩=some (.slice B r.length c)/\Ints W B r/\∀ad,B=some ad->lo<=ad.block/\ad.block<hi
theorem yVp{base n c:Nat}{A:Option Addr}{rows:List (List Int)}(h:OwnLL base W (.slice A n c) rows)(hl:lo<=base)(hh:W.heap.size<=hi):ReadM lo hi W A rows:=fun i r hr=>by
 obtain⟨g,cs,a,e,h1,h2,ha,hcl,hcs,A',c',e2,hI,_,_,_,hb⟩:=OwnEs.at_ h (zQ1.1 hr).1;have e3:a=r:=by have:=ha.out;rw[hr] at this;injection this with this;exact this.symm
 subst e3;subst e2;refine⟨g,A',c',e,by omega,by omega,?_,hI,fun ad had=>?_⟩
 ·have:=hcs 0 (.slice A' a.length c') rfl;simpa using this
 ·have:=hb ad had;exact⟨by omega,by omega⟩
theorem ReadM.mono{lo':Nat}{A:Option Addr}{rows:List (List Int)}(h:ReadM lo hi W A rows)(hl:lo'<=lo):ReadM lo' hi W A rows:=fun i r hr=>by
 obtain⟨g,B,c,h1,h2,h3,h4,h5,h6⟩:=h i r hr;exact⟨g,B,c,h1,by omega,h3,h4,h5,fun ad e=>by have:=h6 ad e;omega⟩
theorem ReadM.mid{A:Option Addr}{rows:List (List Int)}(h:ReadM lo hi W A rows)(hm:Mid lo hi W W'):ReadM lo hi W' A rows:=fun i r hr=>by
 obtain⟨g,B,c,h1,h2,h3,h4,h5,h6⟩:=h i r hr;exact⟨g,B,c,h1,h2,h3,(hm.cell (p:=⟨g,i,none⟩) h2 h3).trans h4,hm.ints h5 h6,h6⟩
end
end
section
variable {y n:Nat}{P:Program}{ops:Array Oper}{Q:Exit->Act->World->Prop}{md:Region.Mode}
def zW7(o:Oper):Bool:=match o.op with | .defer _=>false|_=>true
theorem vYi{o:Oper}{a:Act}{K:Act->World->Prop}{r:Result Next}(h:o.upon P a K Q r):o.uponIn (Fence.wide.inRound y) n P a K Q r:=by
 cases r with
 |ok x w'=>
  cases x with
  |value v=>exact h
  |skip=>exact h
  |defer d=>exact h
  |enter f args=>exact⟨(fun h0=>by cases h0),CallsIn.inRound y (callsIn_wide.2 h)⟩
  |row row args=>exact⟨(fun h0=>by cases h0),fun c cs _=>by obtain⟨v,w'',r,s⟩:=h c cs;exact⟨v,w'',r,stepsIn_wide.2 s⟩⟩
  |_=>exact h.elim
 |halt x w'=>cases x<;>first|exact h|exact h.elim
theorem yWp{o:Oper}(hp:zW7 o=true){a:Act}{w:World}{K:Act->World->Prop}(h:Oper.wp P o a w K Q):Oper.wpIn (Fence.wide.inRound y) n P o a w K Q:=by
 unfold Oper.wp at h;unfold Oper.wpIn;rw[Oper.semAt_plain _ a.eval _ (fun c hc=>by unfold zW7 at hp;rw[hc] at hp;cases hp)];exact⟨fun f _=>trivial,vYi h⟩
theorem zW8(hL:¬LetsOut Q){i:Nat}{K:Act->World->Prop}{a:Act}{w:World}(hp:∀o,ops[i]? = some o->zW7 o=true)(h:wpOp P ops Q i K a w):wpOpIn (Fence.wide.inRound y) n P ops Q i K a w:=by
 unfold wpOp at h;unfold wpOpIn
 cases ho:ops[i]? with
 |none=>rw[ho] at h;exact h
 |some o=>
  rw[ho] at h;dsimp only at h ⊢
  by_cases hw:Region.wanted o (yielded ops a.tmps)=true
  ·rw[if_pos hw] at h ⊢;rcases h with h|h
   ·exact yWp (hp o ho) h
   ·exact absurd h.2 hL
  ·rw[if_neg hw] at h ⊢;exact⟨fun f _=>trivial,h⟩
theorem zW9(hL:¬LetsOut Q)(hp:∀(i:Nat) (o:Oper),ops[i]? = some o->zW7 o=true):∀(fuel:Nat) (listed:Array Bool) (a:Act) (w:World),wpAny P md ops Q fuel listed a w->wpAnyIn (Fence.wide.inRound y) n P md ops Q fuel listed a w
 |0,_,_,_,h=>h
 |fuel+1,_,_,_,h=>⟨h.1,fun i hi=>zW8 hL (hp i) (wpOp_mono (fun a' w' h'=>zW9 hL hp fuel _ a' w' h') (h.2 i hi))⟩
theorem xVe{id:Nat}{a:Act}{w:World}(S:World->Prop)(X:List Nat)(hm:P.follows .mixedOrders=true)(hp:ops.all zW7=true)(hL:∀a w,Q .outgrown a w->False)
  (h:xJv P .any ops Q S X ops.size (Array.replicate ops.size false) a w.drew):(Code.region id ops true).wpIn (Fence.wide.inRound y) n P Q a w:=
 wpIn_region_any hm (zW9 (fun⟨a,w,h⟩=>hL a w h) (fun i o ho=>Array.all_eq_true'.1 hp o (Array.mem_of_getElem? ho)) _ _ _ _ (xYj _ _ _ _ h))
end
section
variable {P:Program}{ops:Array Oper}{Q:Exit->Act->World->Prop}
def zVt(Q:Exit->Act->World->Prop):Exit->Act->World->Prop
 | .normal,a,w=>Q .normal a w
 |_,_,_=>False
theorem yY2:∀e a w,zVt Q e a w->Q e a w:=fun e a w h=>by cases e<;>first|exact h|exact h.elim
theorem xZ4{id:Nat}{a:Act}{w:World}(S:World->Prop)(X:List Nat)(hm:P.follows .mixedOrders=true)
  (h:xJv P .any ops (zVt Q) S X ops.size (Array.replicate ops.size false) a w.drew):(Code.region id ops true).wp P Q a w:=
 Code.wp_mono yY2 (xZ3 S X hm h)
end
section
open Go
section
variable {P:Program}{ops:Array Oper}{Q:Exit->Act->World->Prop}{md:Region.Mode}{S:World->Prop}{X:List Nat}
theorem xQ7{i j:Nat}{oi oj:Oper}{fuel:Nat}{listed:Array Bool}{a:Act}{w:World}(hr:Region.ready md ops listed=[i,j])(hi:ops[i]? = some oi)(hj:ops[j]? = some oj)
  (h1:∀K':Act->World->Prop,Shut (∀a w,S w->xJv P md ops Q S X fuel (listed.setIfInBounds i true) a w->K' a w)->if Region.wanted oi (yielded ops a.tmps)=true then Oper.wp P oi a w K' Q else K' (a.put oi.dst undef) w)
  (h2:∀K':Act->World->Prop,Shut (∀a w,S w->xJv P md ops Q S X fuel (listed.setIfInBounds j true) a w->K' a w)->if Region.wanted oj (yielded ops a.tmps)=true then Oper.wp P oj a w K' Q else K' (a.put oj.dst undef) w) :
  xJv P md ops Q S X (fuel+1) listed a w:=by
 refine⟨fun h0=>absurd (hr ▸ h0) (by simp),fun k hk=>?_⟩;rw[hr] at hk;rcases yQ6.1 hk with rfl|hk
 ·exact wpOp_step hi (fun K' hK=>h1 K' (fun a w hS hW=>hK a w ⟨fun _=>hS,hW⟩))
 ·obtain rfl:=yY9.1 hk;exact wpOp_step hj (fun K' hK=>h2 K' (fun a w hS hW=>hK a w ⟨fun _=>hS,hW⟩))
theorem xJt{i:Nat}{oi:Oper}{v:Value}{fuel:Nat}{listed:Array Bool}{a:Act}{w:World}(hi:ops[i]? = some oi)
  (hs:Region.noSelect ops=true) (hf:Region.free md ops listed i=true) (hr:(Region.ready md ops listed).contains i=true)
  (hw:(!X.contains i)=true) (hc:xVd md ops X listed=true)
  (hQ:∀c a w,Q (.panic c) (a.put oi.dst v) w->Q (.panic c) a w) (hy:YieldsIf P ops (fun _=>True) oi v a) (hX:vYh X listed=true)
  (h:xJv P md ops Q S X fuel (listed.setIfInBounds i true) (a.put oi.dst v) w):xJv P md ops Q S X (fuel+1) listed a w:=by
 simp only[Bool.not_eq_true'] at hw;exact xY3 hi (Region.noSelect_spec hs) hQ (fun hm=>by have:=List.contains_iff_mem.2 hm;rw[hw] at this;cases this) (.inl fun _=>trivial) fuel listed a w (Region.free_spec hi hf) (xWo hc) (by simpa using hr) hy (fun h1=>by rw[hX] at h1;cases h1) h
end
end
section
open Go.Shelf
theorem vJl(w:World)(c:Nat):Calls prog 69 #[.slice none 0 c] w fun e w'=>∃v',e=.returned v'/\w'.ownsRow w.heap.size 22 1 v' 0 []/\Below w.heap.size w w':=by
 have hq:=fun(w:World) (a:Option Addr) (n c n' c':Nat)=>Lib.run_eql_slice_nil (P:=prog) w 42 22 a n c n' c' underlying42
 go_enter func69,ntmps69;go_wp2;go_ret;exact⟨_,rfl,World.ownsRow_nil _ _ _ _,Below.refl _ _⟩
theorem zKj(w:World)(ad:Addr)(n c:Nat)(cells:List Value)(hI:Row w (some ad) cells)(hn:cells.length=n)(hl:n<=1000000)(h1c:∀u∈cells,u.oneCell'=true) :
  Calls prog 69 #[.slice (some ad) n c] w fun e w'=>∃v',e=.returned v'/\w'.ownsRow w.heap.size 22 1 v' n cells/\Below w.heap.size w w':=by
 obtain⟨i0,hi0,hz⟩:=vYt.1 xZy;simp only[Prod.mk.injEq] at hz;have HN:=lHd hn;have H1:=lHd h1c;have hq:=fun(w:World) (a:Option Addr) (n c n' c':Nat)=>Lib.run_eql_slice_nil (P:=prog) w 42 22 a n c n' c' underlying42
 clear hn h1c;go_enter func69,ntmps69;have hII:=lHd (Row.below (w':=w.alloc (.cells #[] 22)) hI bch);clear hI
 go_wp2_with (at_builtin;go_must (refine wpList_append_own _ rfl (.tmp 5) (.tmp 6) 42 rfl w.heap.size 22 i0 (.slice none 0 0) 1 24 underlying42 hi0 hz.1 hz.2.1 hz.2.2 rfl (by decide) (.slice (some ⟨w.heap.size,0,none⟩) 0 0) 0 [] rfl (World.ownsRow_made w #[] 0 (Nat.le_refl _) (by decide) rfl) ad n c cells rfl (by rw[HN.out];omega) ?p1 ?p2 ?p3 ?p4 ?p5 ?_;(case p1=>intro j u hu;obtain⟨ad',e,hc⟩:=hII.out j u hu;injection e with e;subst e;exact hc);(case p2=>exact H1.out);(case p3=>(simp only[maxLen];omega));(case p4=>omega);(case p5=>(simp<;>omega));intro v1 w1 h1 h2 h3))
 have h4:w1.ownsRow w.heap.size 22 1 v1 n cells:=by
  rw[Nat.zero_add,List.nil_append] at h1;exact h1
 have hB1:Below w.heap.size w w1:=xQc (base:=w.heap.size) (w:=w.alloc (.cells #[] 22)) bch (World.ownsRow_made w #[] 0 (Nat.le_refl _) (by decide) rfl:(w.alloc (.cells #[] 22)).ownsRow w.heap.size 22 1 (.slice (some ⟨w.heap.size,0,none⟩) 0 0) 0 []) h2 (by simp);go_wp2;go_ret;exact⟨v1,rfl,h4,hB1⟩
theorem xKn{B:Nat}{w:World}{e:TypeId}{v:Value}{n:Nat}{xs:List Value}(h:w.ownsRow B e 1 v n xs):∃A c,v=.slice A n c/\n<=c/\c<=9223372036854775807/\Row w A xs/\(A=none->n=0/\c=0)/\xs.length=n:=by
 have h0:=h;have hl:=h.1;rcases h.2 with⟨h2,h3⟩|⟨g,cap,cur,hv,h4,h5,h6,h7,_⟩
 ·subst h2;have hx:xs=[]:=List.eq_nil_of_length_eq_zero (by omega);exact⟨none,0,by rw[h3],by omega,by omega,by subst hx;exact Row.nil _ _,fun _=>⟨h3,rfl⟩,by omega⟩
 ·subst hv;refine⟨_,cap,rfl,h6,by simp only[maxLen] at h7;omega,fun j u hu=>⟨_,rfl,?_⟩,(fun e=>by cases e),by omega⟩;have hj:=(zQ1.1 hu).1;have hc:=World.ownsRow.cellAt h0 j (by omega);have ha:(⟨g,0,none⟩:Addr).add j=⟨g,j,none⟩:=by
   unfold Addr.add
   split
   ·rename_i e;rw[e]
   ·simp
  rw[ha,hc];exact hu
theorem vJm(w:World)(A:Option Addr)(n c:Nat)(cells:List Value)(hI:Row w A cells)(hn:cells.length=n)(hl:n<=1000000)(h1c:∀u∈cells,u.oneCell'=true) :
  Calls prog 69 #[.slice A n c] w fun e w'=>∃v',e=.returned v'/\w'.ownsRow w.heap.size 22 1 v' n cells/\Below w.heap.size w w':=by
 cases A with
 |some ad=>exact zKj w ad n c cells hI hn hl h1c
 |none=>
  have hc:cells=[]:=by
   cases cells with
   |nil=>rfl
   |cons u us=>obtain⟨ad,e,_⟩:=hI 0 u rfl;cases e
  subst hc;subst hn;exact vJl w c
theorem uJq(A:Option Addr)(n c k:Nat)(hk:k<=c)(hc2:c<=9223372036854775807) :
  ∀(i:Int),i=(k:Int)->∀(w:World),(Instr.slice 42 (.slice A n c) none (some (.int .i64 i)) none).run prog w=.ok (.slice A k c) w:=by
 rintro i rfl w;have h0:(0:Int)<=k:=by omega
 have h1:(k:Int)<=c:=by omega
 simp[go_sem,underlying42,h0,h1]
 try omega
theorem uJr(A:Option Addr)(n c k:Nat)(hk:k<=c)(hc2:c<=9223372036854775807) :
  ∀(i:Int),i=(k:Int)->∀(w:World),(Instr.slice 22 (.slice A n c) none (some (.int .i64 i)) none).run prog w=.ok (.slice A k c) w:=by
 rintro i rfl w;have h0:(0:Int)<=k:=by omega
 have h1:(k:Int)<=c:=by omega
 simp[go_sem,underlying22,h0,h1]
 try omega
theorem Mid.ints2{lo:Nat}{W W':World}(h:Mid lo W.heap.size W W'){A:Option Addr}{xs:List Int}(hI:Ints W A xs)(ha:∀ad,A=some ad->lo<=ad.block):Ints W' A xs:=fun j u hu=>by
 obtain⟨ad,e,hc⟩:=hI j u hu;have hb:=xVt ad j;have hl:=zQ2 W _ hc;exact⟨ad,e,(h.cell (by rw[hb];exact ha ad e) hl).trans hc⟩
theorem vZ9{W:World}{A:Option Addr}{xs:List Value}(h:Row W A xs)(k:Nat):Row W A (xs.take k):=fun j u hu=>by
 refine h j u ?_;rw[List.getElem?_take] at hu
 split at hu
 ·exact hu
 ·cases hu
theorem yV2{W:World}{B:Nat}{vb:Value}{cells:List Value}{rows:List (List Int)}(h:Elts W B vb cells rows)(hl:cells.length=rows.length):∀u∈cells,u.oneCell'=true:=fun u hu=>by
 obtain⟨i,hi⟩:=List.getElem?_of_mem hu;have hlt:=(zQ1.1 hi).1;obtain⟨g,c,h1,_⟩:=h i _ (lGe (by omega));rw[hi] at h1;injection h1 with h1
 subst h1;rfl
theorem vWy{B:Nat}{W WF:World}(hm:Mid B W.heap.size W WF){vb:Value}{cells:List Value}{rows:List (List Int)}(hE:Elts W B vb cells rows){A1 A2 A3:Option Addr}{nn:Nat}{bn ob:List Int}(hv:Row W A1 (cells.take nn))(hA1:∀ad,A1=some ad->B<=ad.block)
  (hb:Ints W A2 bn) (hA2:∀ad,A2=some ad->B<=ad.block) (ho:Ints W A3 ob) (hA3:∀ad,A3=some ad->B<=ad.block) (h1:rows.length<=1000000) (h2:bn.length<=1000000) (h3:ob.length<=1000000):LpMem WF A1 A2 A3 ⟨rows.take nn,bn,ob⟩:=by
 refine⟨fun i r hr=>?_,hm.ints2 hb hA2,hm.ints2 ho hA3,by dsimp only;rw[List.length_take];omega,by dsimp only;omega,by dsimp only;omega⟩;dsimp only at hr;rw[List.getElem?_take] at hr
 split at hr
 ·rename_i hi
  obtain⟨g,c,e1,e2,e3,e4,e5,e6⟩:=hE i r hr;obtain⟨ad,e7,e8⟩:=hv i _ (by rw[List.getElem?_take,if_pos hi];exact e1);have hb:=xVt ad i;have hl:=zQ2 W _ e8;refine⟨ad,some ⟨g,0,none⟩,c,e7,(hm.cell (by rw[hb];exact hA1 ad e7) hl).trans e8,?_,(fun e=>by cases e),e5,by omega⟩;have hA:Arr WF g 3 (IV r):=(hm g e2 e3.lt).trans e3;exact Arr.row hA
 ·cases hr
end
theorem xY2(w:World)  :
  Calls prog 27 #[] w fun e w'=>∃g h,e=.returned (.agg #[.int .i64 2,.slice none 0 0,.slice (some ⟨g,0,none⟩) 1 1,.slice (some ⟨h,0,none⟩) 2 2])/\TaskMem w' none (some ⟨g,0,none⟩) (some ⟨h,0,none⟩) xJ1/\Below w.heap.size w w':=by
 go_enter func27,ntmps27;go_wp2;refine bodyPost_ret (v:=.agg #[.int .i64 2,.slice none 0 0,.slice (some ⟨w.heap.size+1,0,none⟩) 1 1,.slice (some ⟨w.heap.size+1+1+1+1+1,0,none⟩) 2 2]) ?_ rfl ⟨_,_,rfl,?_,bch⟩
 ·simp[results,results27,go_sem]
 ·refine⟨Ints.nil _ _,zJp ?_,yWh (A0:=none) (c0:=0) (A1:=some ⟨w.heap.size+1+1,0,none⟩) (c1:=1) (A2:=none) (c2:=0) (B0:=some ⟨w.heap.size+1+1+1,0,none⟩) (d0:=1) (B1:=some ⟨w.heap.size+1+1+1+1,0,none⟩) (d1:=1) (B2:=none) (d2:=0) ?_ ?_ ?_ ?_ ⟨Ints.nil _ _,zJp ?_,Ints.nil _ _,by simp[lenOk],by simp[lenOk],by simp[lenOk]⟩ ?_ ?_ ?_ ?_ ⟨zJp ?_,zJp ?_,Ints.nil _ _,by simp[lenOk],by simp[lenOk],by simp[lenOk]⟩,by simp[lenOk,xJ1],by simp[lenOk,xJ1],by simp[lenOk,xJ1]⟩
  all_goals simp[go_sem]
theorem xX7:Valid xJ1:=by
 refine⟨by decide,by decide,SetP.nil _,?_,by decide,?_⟩
 ·exact SetP.of_pairwise (by simp[xJ1]) (by simp[xJ1])
 ·intro o ho;simp only[xJ1,yQ6,List.not_mem_nil,or_false] at ho;rcases ho with rfl|rfl
  ·exact⟨⟨SetP.nil _,SetP.of_pairwise (by simp[xJ1]) (by simp),SetP.nil _,by simp⟩,by decide,by decide⟩
  ·exact⟨⟨SetP.of_pairwise (by simp[xJ1]) (by simp),SetP.of_pairwise (by simp[xJ1]) (by simp),SetP.nil _,by simp⟩,by decide,by decide⟩
theorem xWn{d:Int}(h:RBest 2 xJ1.ops xJ1.goal xJ1.init d):d=5:=by
 have hs0:xJb 2 [] (⟨[],[0],[],2⟩:OpV)=[0]:=by decide
 have hs1:xJb 2 [0] (⟨[0],[1],[],3⟩:OpV)=[0,1]:=by decide
 have hc:Cst 2 xJ1.ops xJ1.init [0,1] (0+2+3):=by
  have h1:Cst 2 xJ1.ops xJ1.init (xJb 2 [] ⟨[],[0],[],2⟩) (0+2):=.step (p:=0) .init rfl (by simp);rw[hs0] at h1;have h2:Cst 2 xJ1.ops xJ1.init (xJb 2 [0] ⟨[0],[1],[],3⟩) (0+2+3):=.step (p:=1) h1 rfl (by simp)
  rwa [hs1] at h2
 have hle:=h.2.2 _ _ hc (by simp[xJ1]);have key:∀ {l:List Int} {c:Int},Cst 2 xJ1.ops xJ1.init l c->(0<=c)/\(0∈l->2<=c)/\(1∈l->5<=c):=fun {l c} hc=>by
  induction hc with
  |init=>exact⟨by omega,fun h=>by simp[xJ1] at h,fun h=>by simp[xJ1] at h⟩
  |step h1 h2 h3 ih=>
   rename_i l c p o
   obtain⟨i0,i1,i2⟩:=ih
   match p,h2 with
   |0,h2=>
    cases h2
    dsimp only;refine⟨by omega,fun _=>by omega,fun h=>?_⟩;have h4:(1:Int)∈l:=by rcases (xXa.1 h).2 with h5|h5;simp at h5;exact h5.1
    have:=i2 h4;omega
   |1,h2=>
    cases h2
    have h5:=i1 (h3 0 (by simp));dsimp only;exact⟨by omega,fun _=>by omega,fun _=>by omega⟩
 rcases h.1 with h1|⟨l,h1,h2⟩
 ·rw[h1] at hle;omega
 ·have h3:=(key h1).2.2 (h2 1 (by simp[xJ1]));omega
