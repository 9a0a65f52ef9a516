/-
  Lemmas for the law: Sj, Sk, Sl, Sm, Sn, Tar, Tp0, Tre, Tac, Tad, Vk.
-/
import Derived.Test.YtpeipeljmapkmaaGreatU12
import Derived.OrdersIn
import Derived.Test.YtpeipeljmapkmaaGreatU14
import Derived.Test.YtpeipeljmapkmaaGreatU2
import Derived.Test.YtpeipeljmapkmaaGreatU9
set_option linter.unusedVariables false
set_option linter.unusedSimpArgs false
set_option maxRecDepth 100000
set_option maxHeartbeats 4000000
namespace Go.Proofs.YtpeipeljmapkmaaGreat
open Go.RowKit
section
open Go
section
variable {F:Fence}{n:Nat}{P:Program}{ops:Array Oper}{Q:Exit->Act->World->Prop}{md:Region.Mode}
def zJg(o:Oper):Bool:=
 match o.op with
 | .move _ | .assign _ | .alloc _ | .build _ _ | .buildSlice _ _ _ | .load _ _ | .store _ _ _ | .binOp _ _ _ _ _ | .unOp _ _ _ | .fieldAddr _ _ _ | .field _ _ _ | .indexAddr _ _ _ | .lookup _ _ _ _ | .mapUpdate _ _ _ _ | .extract _ _=>true
 | .call c=>match c.callee with | .builtin .append=>true | .builtin .len=>true | _=>false
 | _=>false
theorem vQw{o:Oper}{a:Act}{K:Act->World->Prop}(s:Sem Value)(w:World)(h:o.upon P a K Q ((do pure (.value (<- s)):Sem Next).run P w)):o.uponIn F n P a K Q ((do pure (.value (<- s)):Sem Next).run P w):=by
 simp only[Sem.run_bind,Sem.run_pure] at h ⊢
 cases hr:s.run P w with
 | ok v w'=>rw[hr] at h;exact h
 | halt x w'=>rw[hr] at h;cases x <;> first | exact h | exact h.elim
theorem vVv{o:Oper}{a:Act}{K:Act->World->Prop}(s:Sem Unit)(w:World)(h:o.upon P a K Q ((do s;pure .skip:Sem Next).run P w)):o.uponIn F n P a K Q ((do s;pure .skip:Sem Next).run P w):=by
 simp only[Sem.run_bind,Sem.run_pure] at h ⊢
 cases hr:s.run P w with
 | ok v w'=>rw[hr] at h;exact h
 | halt x w'=>rw[hr] at h;cases x <;> first | exact h | exact h.elim
theorem vQ1{o:Oper}(hp:zJg o=true){a:Act}{w:World}{K:Act->World->Prop}(h:Oper.wp P o a w K Q):Oper.wpIn F n P o a w K Q:=by
 obtain⟨dst,op,ty,pos,after,guard⟩:=o;unfold Oper.wp at h;unfold Oper.wpIn;rw[Oper.semAt_plain F a.eval _ (fun c hc=>by (have hc:op=Op.defer c:=hc);subst hc;cases hp)]
 cases op <;> first
  | (cases hp;done)
  | (refine⟨fun f hf=>by simp[Oper.about] at hf,?_⟩;exact vQw _ w h)
  | (refine⟨fun f hf=>by simp[Oper.about] at hf,?_⟩;exact vVv _ w h)
  | (refine⟨fun f hf=>by simp[Oper.about] at hf,?_⟩;exact h)
  | skip
 case call c=>
  obtain⟨callee,args,argTypes⟩:=c
  cases callee with
  | builtin b=>
   have hab:∀ f,Oper.about P w a.eval { dst:=dst,op:=.call ⟨.builtin b,args,argTypes⟩,type:=ty,pos:=pos,after:=after,guard:=guard }=some f->F.fn f:=fun f hf=>by
    simp[Oper.about,resolve,Sem.run_pure,Target.leads] at hf
   cases b <;> first
    | (cases hp;done)
    | (
      refine⟨hab,?_⟩;exact vQw _ w h)
  | _=>cases hp
theorem zWz(hL:¬ LetsOut Q){i:Nat}{K:Act->World->Prop}{a:Act}{w:World}(hp:∀ o,ops[i]? = some o->zJg o=true)(h:wpOp P ops Q i K a w):wpOpIn F n P ops Q i K a w:=by
 unfold wpOp at h;unfold wpOpIn
 cases ho:ops[i]? with
 | none=>rw[ho] at h;exact h
 | some o=>
  rw[ho] at h;dsimp only at h ⊢
  by_cases hw:Region.wanted o (yielded ops a.tmps)=true
  ·rw[if_pos hw] at h ⊢;rcases h with h | h
   ·exact vQ1 (hp o ho) h
   ·exact absurd h.2 hL
  ·rw[if_neg hw] at h ⊢;refine⟨fun f hf=>?_,h⟩;have hpo:=hp o ho;obtain⟨dst,op,ty,pos,after,guard⟩:=o
   cases op <;> first
    | (cases hpo;done)
    | (simp[Oper.about] at hf;done)
    | skip
   case call c=>
    obtain⟨callee,args,argTypes⟩:=c
    cases callee with
    | builtin b=>simp[Oper.about,resolve,Sem.run_pure,Target.leads] at hf
    | _=>cases hpo
theorem vQx(hL:¬ LetsOut Q)(hp:∀ (i:Nat) (o:Oper),ops[i]? = some o->zJg o=true):∀ (fuel:Nat) (listed:Array Bool) (a:Act) (w:World),wpAny P md ops Q fuel listed a w->wpAnyIn F n P md ops Q fuel listed a w
 | 0,_,_,_,h=>h
 | fuel+1,_,_,_,h=>⟨h.1,fun i hi=>zWz hL (hp i) (wpOp_mono (fun a' w' h'=>vQx hL hp fuel _ a' w' h') (h.2 i hi))⟩
theorem zJh{id:Nat}{a:Act}{w:World}(S:World->Prop)(X:List Nat)(hm:P.follows .mixedOrders=true)(hp:ops.all zJg=true)(hL:∀ a w,Q .outgrown a w->False)
  (h:xJx P .any ops Q S X ops.size (Array.replicate ops.size false) a w.drew):(Code.region id ops true).wpIn F n P Q a w:=
 wpIn_region_any hm (vQx (fun ⟨a,w,h⟩=>hL a w h) (fun i o ho=>Array.all_eq_true'.1 hp o (Array.mem_of_getElem? ho)) _ _ _ _ (xQl _ _ _ _ h))
end
end
section
open Go.Shelf
section
variable {base q m n:Nat}{w w':World}{f:Int->Option Int}
theorem Que.keep(h:Que base q m w n f)(hs:∀ (k:Nat) (o:Obj),w.heap[k]? = some o->zYb o=false\/k=m->w'.heap[k]? = some o):Que base q m w' n f:=by
 obtain⟨t,l,g,hQ,hH,hM,hr⟩:=h;refine⟨t,l,g,?_,hH,?_,hr⟩
 ·obtain⟨⟨A,c,h1,h2⟩,h3,h4,h5,h6,h7⟩:=hQ;refine⟨⟨A,c,?_,hs _ _ h2 (.inl rfl)⟩,fun i e he=>⟨hs _ _ (h3 i e he).1 (.inl rfl),(h3 i e he).2⟩,h4,h5,h6,QFr.refl _ _⟩;obtain⟨e1,e2⟩:=h1;refine⟨e1,?_⟩;rcases e2 with e2 | ⟨g',cap,cur,hv,hg,hh,r⟩
  ·exact Or.inl e2
  ·exact Or.inr ⟨g',cap,cur,hv,hg,hs _ _ hh (.inl rfl),r⟩
 ·obtain⟨es,cl,ho⟩:=hM.obj;exact hM.of_block ((hs m _ ho (.inr rfl)).trans ho.symm)
theorem QUp.below_of{B:Nat}(h:QUp base m w w')(hB:B<=base):Below B w w':=h.below.mono hB
theorem xX8{α:Type}[DecidableEq α]:∀ {a b:List α},a.Nodup->(∀ x∈a,x∈b)->a.length<=b.length
 | [],b,_,_=>Nat.zero_le _
 | x :: a,b,hn,hs=>by
   obtain⟨h1,h2⟩:=List.nodup_cons.1 hn;have hx:=hs x (by simp);have h3:=xX8 (a:=a) (b:=b.erase x) h2 (fun y hy=>(List.mem_erase_of_ne (fun e:y=x=>h1 (e ▸ hy))).2 (hs y (by simp[hy])));rw[List.length_erase_of_mem hx] at h3;have:0 < b.length:=List.length_pos_of_mem hx;simp only[List.length_cons];omega
theorem Que.empty(h:Que base q m w 0 f):∀ x,f x=none:=fun x=>by
 obtain⟨t,l,g,hQ,hH,hM,hb,hl,h1,h2,h3⟩:=h
 cases hf:f x with
 | none=>rfl
 | some k=>
  obtain⟨e,he,_⟩:=h3 x (by rw[hf];simp);rw[List.eq_nil_of_length_eq_zero hl] at he;cases he
theorem Que.count(h:Que base q m w n f){ls:List (List Int)}(hs:∀ x,f x≠none->∃ l∈ls,xJ0 l=x):n<=ls.length:=by
 obtain⟨t,l,g,hQ,hH,hM,hb,hl,h1,h2,h3⟩:=h;have hnd:(l.map Ent.item).Nodup:=by
  refine List.pairwise_iff_getElem.2 fun i j hi hj hij e=>?_
  rw[List.length_map] at hi hj;rw[List.getElem_map,List.getElem_map] at e;obtain⟨_,e1,_⟩:=h1 l[i] (List.getElem_mem hi);obtain⟨_,e2,_⟩:=h1 l[j] (List.getElem_mem hj);rw[e,e2] at e1;have e3:l[i].blk=l[j].blk:=by
   injection e1 with e1;unfold xXn at e1;injection e1 with e1;injection e1 with e1;injection e1 with e1;exact e1.symm
  have h4:=List.pairwise_iff_getElem.1 hQ.nd i j (by simpa using hi) (by simpa using hj) hij;rw[List.getElem_map,List.getElem_map] at h4;exact h4 e3
 have h4:=xX8 (b:=ls.map xJ0) hnd (fun x hx=>by
  obtain⟨e,he,rfl⟩:=List.mem_map.1 hx;obtain⟨l',h5,h6⟩:=hs e.item (by rw[(h1 e he).2.2];simp);exact List.mem_map.2 ⟨l',h5,h6⟩)
 rw[List.length_map,List.length_map] at h4;omega
theorem Que.qlt(h:Que base q m w n f):q < w.heap.size:=by obtain⟨t,l,g,hQ,_⟩:=h;obtain⟨⟨A,c,h1,h2⟩,_⟩:=hQ;exact h2.lt
theorem Que.alloc(h:Que base q m w n f)(o:Obj):Que base q m (w.alloc o) n f:=h.keep fun k o' hk _=>(Below.heap_alloc w o k (Array.getElem?_eq_some_iff.1 hk).1).trans hk
theorem Que.drew(h:Que base q m w n f):Que base q m w.drew n f:=h.keep fun k o' hk _=>hk
theorem Que.drewN(h:Que base q m w n f)(d:Nat):Que base q m (w.drewN d) n f:=h.keep fun k o' hk _=>hk
theorem Arr.drewN{g:Nat}{e:TypeId}{xs:List Value}(h:Arr w g e xs)(d:Nat):Arr (w.drewN d) g e xs:=h
theorem MapF.drewN{b n:Nat}{f:Int->Option Value}(h:MapF w b n f)(d:Nat):MapF (w.drewN d) b n f:=h.of_block rfl
theorem zXg{B:Nat}{e:TypeId}{size n:Nat}{v:Value}{xs:List Value}(h:w.ownsRow B e size v n xs)(d:Nat):(w.drewN d).ownsRow B e size v n xs:=h
theorem MarksOk.drewN{B:Nat}{ds:List Deferred}(h:MarksOk B ds w)(d:Nat):MarksOk B ds (w.drewN d):=h
theorem Que.set_(h:Que base q m w n f){p:Addr}(u:Value){g:Nat}{T:TypeId}{xs:List Value}(hA:Arr w g T xs)(hp:p.block=g)(hT:zYb (.cells #[] T (0,0))=true):Que base q m (w.setCell p u) n f:=
 h.keep fun k o' hk ho=>by
  refine (Below.heap_setCell w p u k (fun e=>?_)).trans hk;unfold Arr at hA;rw[e,hp,hA] at hk;injection hk with hk;subst hk
  rcases ho with ho | ho
  ·unfold zYb at ho hT;dsimp only at ho hT;rw[hT] at ho;cases ho
  ·obtain⟨es,cl,h2⟩:=h.obj;rw[<- ho,e,hp,hA] at h2;cases h2
theorem Que.by_row{base' n':Nat}{e:TypeId}{size:Nat}{v:Value}{ys:List Value}(hv:w.ownsRow base' e size v n' ys)(hg:w.grownBy w' v.ownBlock)(hT:zYb (.cells #[] e (0,0))=true)(h:Que base q m w n f):Que base q m w' n f:=
 h.keep fun k o' hk ho=>by
  refine (hg.block k (Array.getElem?_eq_some_iff.1 hk).1 (fun e1=>?_)).trans hk;obtain⟨cu,h1⟩:=xXe hv e1.symm;rw[hk] at h1;injection h1 with h1;subst h1
  rcases ho with ho | ho
  ·unfold zYb at ho hT;dsimp only at ho hT;rw[hT] at ho;cases ho
  ·obtain⟨es,cl,h2⟩:=h.obj;rw[<- ho,hk] at h2;cases h2
theorem Que.by_map{b n':Nat}{f':Int->Option Value}(hM:MapF w b n' f')(hg:w.grownBy w' (some b))(hne:b≠m)(h:Que base q m w n f):Que base q m w' n f:=
 h.keep fun k o' hk ho=>by
  refine (hg.block k (Array.getElem?_eq_some_iff.1 hk).1 (fun e1=>?_)).trans hk;injection e1 with e1
  subst e1;obtain⟨es,cl,h1⟩:=hM.obj;rw[hk] at h1;injection h1 with h1;subst h1
  rcases ho with ho | ho
  ·cases ho
  ·exact hne ho
theorem Que.turn{B:Nat}(h:Que base q m w n f)(ht:Turn B w w')(hB:m < B):Que base q m w' n f:=
 h.keep fun k o' hk ho=>ht.obj hk (ho.imp (fun ho=>by cases o' <;> first | rfl | cases ho) (fun e=>by omega))
theorem MarksOk.qup{B:Nat}{ds:List Deferred}(hm:MarksOk B ds w)(hq:QUp base m w w')(hmm:∃ es cl,w.heap[m]? = some (.map es cl)):MarksOk B ds w':=
 hm.keep fun D _ hD=>hq.same D _ hD rfl (fun e=>by obtain⟨es,cl,h2⟩:=hmm;rw[<- e,hD] at h2;cases h2)
end
def zQ7(x:List Int×Int):List Value:=[.int .u32 (xJ0 x.1),.int .i64 x.2]
@[reducible] def OwnA(base:Nat)(w:World)(v:Value)(rs:List (List Int×Int)):Prop:=w.ownsRow base 113 2 v rs.length (rs.flatMap zQ7)
theorem vVm{rs:List (List Int×Int)}:∀ {k:Nat} {x:List Int×Int},rs[k]? = some x->(rs.flatMap zQ7)[k * 2]? = some (.int .u32 (xJ0 x.1))/\(rs.flatMap zQ7)[k * 2+1]? = some (.int .i64 x.2):=by
 induction rs with
 | nil=>intro k x h;cases h
 | cons a rs ih=>
  intro k x h;rw[List.flatMap_cons]
  cases k with
  | zero=>simp at h;subst h;exact⟨rfl,rfl⟩
  | succ k=>
   obtain⟨h1,h2⟩:=ih (k:=k) (by simpa using h);have e:(k+1) * 2=k * 2+2:=by omega
   rw[e];exact⟨h1,h2⟩
theorem OwnA.nil(base:Nat)(w:World):OwnA base w (.slice none 0 0) []:=World.ownsRow_nil w base _ _
theorem OwnA.form{base:Nat}{w:World}{v:Value}{rs:List (List Int×Int)}(h:OwnA base w v rs):∃ A c,v=.slice A rs.length c:=by
 rcases h.2 with ⟨h2,h4⟩ | ⟨g,cap,cur,hv,r⟩
 ·exact⟨none,0,by rw[h4];exact h2⟩
 ·exact⟨_,_,hv⟩
theorem OwnA.at_{base n c k:Nat}{w:World}{A:Option Addr}{rs:List (List Int×Int)}(h:OwnA base w (.slice A n c) rs){x:List Int×Int}(hx:rs[k]? = some x) :
  ∃ g,A=some ⟨g,0,none⟩/\g < w.heap.size/\w.cell? ⟨g,k * 2,none⟩=some (.int .u32 (xJ0 x.1))/\w.cell? ⟨g,k * 2+1,none⟩=some (.int .i64 x.2):=by
 obtain⟨h1,h2⟩:=vVm hx;have hk:=(List.getElem?_eq_some_iff.1 hx).1;rcases h.2 with ⟨h3,h4⟩ | ⟨g,cap,cur,hv,r⟩
 ·omega
 ·injection hv with e1 e2 e3
  subst e1;have hc:=h.cells (g:=g) rfl;have c1:=hc _ _ h1;have c2:=hc _ _ h2;have a1:(⟨g,0,none⟩:Addr).add (k * 2)=⟨g,k * 2,none⟩:=by unfold Addr.add;split <;> simp_all
  have a2:(⟨g,0,none⟩:Addr).add (k * 2+1)=⟨g,k * 2+1,none⟩:=by unfold Addr.add;split <;> simp_all
  rw[a1] at c1;rw[a2] at c2;exact⟨g,rfl,World.block_lt_of_cell? w ⟨g,k * 2,none⟩ c1,c1,c2⟩
def Back(base:Nat)(w:World)(b n:Nat)(f:Int->Option Value)(rows:Int->List (List Int×Int)):Prop:=
 MapF w b n f/\(∀ x,OwnA base w ((f x).getD (.slice none 0 0)) (rows x))/\∀ x y,x≠y->Apart ((f x).getD (.slice none 0 0)) ((f y).getD (.slice none 0 0))
section
variable {base b n:Nat}{w w':World}{f:Int->Option Value}{rows:Int->List (List Int×Int)}
theorem Back.map(h:Back base w b n f rows):MapF w b n f:=h.1
theorem Back.made(base:Nat)(w:World):Back base (w.alloc (.map #[] 0)) w.heap.size 0 (fun _=>none) (fun _=>[]):=⟨MapF.made w,fun x=>OwnA.nil _ _,fun x y _ k hk=>by cases hk⟩
theorem Back.keep(h:Back base w b n f rows)(hb:w'.heap[b]? = w.heap[b]?)(hr:∀ {v:Value} {rs:List (List Int×Int)},OwnA base w v rs->OwnA base w' v rs):Back base w' b n f rows:=⟨h.1.of_block hb,fun x=>hr (h.2.1 x),h.2.2⟩
theorem Back.alloc(h:Back base w b n f rows)(o:Obj):Back base (w.alloc o) b n f rows:=h.keep (Below.heap_alloc w o b h.1.lt) (fun h=>World.ownsRow.alloc h o)
theorem Back.drew(h:Back base w b n f rows):Back base w.drew b n f rows:=h.keep rfl (fun h=>h)
theorem Back.drewN(h:Back base w b n f rows)(d:Nat):Back base (w.drewN d) b n f rows:=h.keep rfl (fun h=>h)
theorem Back.set_(h:Back base w b n f rows){p:Addr}(u:Value){g:Nat}{T:TypeId}{xs:List Value}(hA:Arr w g T xs)(hp:p.block=g)(hT:T≠113):Back base (w.setCell p u) b n f rows:=by
 refine h.keep (Below.heap_setCell w p u b (fun e=>?_)) (fun hr=>zJr hr u hA hp hT);obtain⟨es,cl,ho⟩:=h.1.obj;unfold Arr at hA;rw[e,hp,hA] at ho;cases ho
theorem Back.by_map{b' n':Nat}{f':Int->Option Value}(hM:MapF w b' n' f')(hg:w.grownBy w' (some b'))(hne:b≠b')(h:Back base w b n f rows):Back base w' b n f rows:=
 h.keep (hg.block b h.1.lt (fun e=>by injection e with e;exact hne e)) (fun hr=>xXy hM hg hr)
theorem Back.by_row{base' n':Nat}{e:TypeId}{size:Nat}{v:Value}{ys:List Value}(hv:w.ownsRow base' e size v n' ys)(hg:w.grownBy w' v.ownBlock)(hT:e≠113)(h:Back base w b n f rows):Back base w' b n f rows:=by
 refine h.keep (hg.block b h.1.lt (fun e1=>?_)) (fun hr=>?_)
 ·obtain⟨cu,h1⟩:=xXe hv e1.symm;obtain⟨es,cl,ho⟩:=h.1.obj;rw[ho] at h1;cases h1
 ·refine hr.kept hg ?_
  rename_i v' rs
  cases h1:v'.ownBlock with
  | none=>exact .inl rfl
  | some k=>
   refine .inr (fun e1=>?_);obtain⟨cu,h2⟩:=xXe hv e1.symm;obtain⟨cu',h3⟩:=xXe hr h1;rw[h2] at h3;injection h3 with h3;injection h3 with _ h4;exact hT h4
theorem Back.turn{B:Nat}(h:Back base w b n f rows)(ht:Turn B w w')(hB:b < B):Back base w' b n f rows:=by
 obtain⟨es,cl,ho⟩:=h.1.obj;exact h.keep ((ht.obj ho (.inr hB)).trans ho.symm) (fun hr=>xYi hr ht)
theorem Back.qup{base' m:Nat}(h:Back base w b n f rows)(hq:QUp base' m w w')(hm:∃ es cl,w.heap[m]? = some (.map es cl))(hb:b≠m):Back base w' b n f rows:=by
 obtain⟨es,cl,ho⟩:=h.1.obj;exact h.keep ((hq.same b _ ho rfl hb).trans ho.symm) (fun hr=>zQd hr hq hm rfl)
def vVn(rows:Int->List (List Int×Int))(x:Int)(rs:List (List Int×Int)):Int->List (List Int×Int):=fun y=>if y=x then rs else rows y
theorem Back.push(h:Back base w b n f rows){x:Int}{a:List Int×Int}{v':Value}{w'':World}(hx:Wrd x)(hv:w'.ownsRow base 113 2 v' ((rows x).length+1) ((rows x).flatMap zQ7 ++ zQ7 a))(hg:w.grownBy w' ((f x).getD (.slice none 0 0)).ownBlock)
  (hat:v'.ownBlock=((f x).getD (.slice none 0 0)).ownBlock\/v'.ownBlock=some w.heap.size) (hM:MapF w'' b (up1 f x n) (upd f x v')) (hM1:MapF w' b n f) (hg2:w'.grownBy w'' (some b)) :
  Back base w'' b (up1 f x n) (upd f x v') (vVn rows x (rows x ++ [a])):=by
 have hne:∀ y,y≠x->Apart v' ((f y).getD (.slice none 0 0)):=fun y hy k hk e1=>by
  rcases hat with h1 | h1
  ·rw[h1] at hk;exact h.2.2 x y (Ne.symm hy) k hk e1
  ·rw[h1] at hk;injection hk with hk
   have:=((h.2.1 y).lt k e1).2;omega
 refine⟨hM,fun y=>?_,fun y z hyz=>?_⟩
 ·by_cases e:y=x
  ·subst e;rw[xX1];unfold vVn;rw[if_pos rfl];refine xXy hM1 hg2 ?_;rw[List.length_append,List.flatMap_append];exact hv
  ·rw[xJe f v' e];unfold vVn;rw[if_neg e];refine xXy hM1 hg2 (xXx hg (h.2.1 y) (h.2.2 x y (Ne.symm e)))
 ·by_cases e:y=x
  ·subst e;rw[xX1,xJe f v' (Ne.symm hyz)];exact hne z (Ne.symm hyz)
  ·by_cases e2:z=x
   ·subst e2;rw[xX1,xJe f v' e];exact (hne y e).symm
   ·rw[xJe f v' e,xJe f v' e2];exact h.2.2 y z hyz
end
theorem mvk{p:Prop}(h:p:=by repeat' (with_reducible first  | assumption | apply Que.alloc | apply Que.drew | apply Que.drewN | (apply Que.set_;(case hp=>rfl);(case hA=>assumption);(case hT=>decide)) | (apply Que.by_row;(case hg=>assumption);(case hT=>decide)) | (apply Que.by_map;(case hg=>assumption);(case hne=>omega)) | apply Back.alloc | apply Back.drew | apply Back.drewN | apply Arr.drewN | apply MapF.drewN | apply zXg | apply MarksOk.drewN | (apply Arr.qup;(case hq=>assumption);(case he=>decide)) | (apply MapF.qup;(case hq=>assumption);(case hb=>omega)) | (apply zQd;(case hq=>assumption);(case he=>decide)) | (apply Back.qup;(case hq=>assumption);(case hb=>omega)) | (apply MarksOk.qup;case hq=>assumption) | (refine Below.trans ?_ (QUp.below_of (by assumption) ?_);rotate_left;omega) | (apply Back.set_;(case hp=>rfl);(case hA=>assumption);(case hT=>decide)) | (apply Back.by_map;(case hg=>assumption);(case hne=>omega)) | (apply Back.by_row;(case hg=>assumption);(case hT=>decide))  | assumption | exact Below.refl _ _ | apply Arr.alloc | apply Arr.drew | (apply Arr.far;(case hp=>(first | (simp;done) | (simp;omega) | omega))) | apply World.ownsRow.alloc | apply World.ownsRow.drew | apply MapF.alloc | apply MapF.drew | (apply MapF.setCell;(case hp=>(first | (simp;done) | (simp;omega) | omega))) | apply MarksOk.alloc | apply MarksOk.drew | apply MarksOk.set_ | apply xKh | apply xYd | apply xVf | (apply Below.alloc;(case hB=>(first | omega | (simp;done) | (simp;omega) | (dsimp only[World.drewN];omega)))) | (apply Below.setCell;(case hp=>(first | omega | (simp;done) | (simp;omega)))) | ((refine Arr.by_row ?_ (by assumption) ?_ ?_);rotate_right;decide) | refine MapF.by_row ?_ (by assumption) ?_ | refine MarksOk.by_row ?_ ?_ (by assumption) | (apply zJr;(case hp=>rfl);(case hA=>assumption);(case hT=>decide)) | (apply Arr.by_row;case hg=>assumption) | (apply MapF.by_row;case hg=>assumption) | (apply MarksOk.by_row;case hg=>assumption) | (apply xXx;case hg=>assumption) | (apply Arr.by_map;case hg=>assumption) | (apply xXy;case hg=>assumption) | (apply MarksOk.by_map;case hg=>assumption) | (apply MapF.by_map;(case hg=>assumption);(case hne=>omega)) | (apply Below.by_map;(case hg=>assumption);(case hB=>(first | omega | (simp;done) | (simp;omega) | (dsimp only[World.drewN];omega)));(case hb=>omega)) | (apply Below.by_row;(case hg=>assumption);(case hB=>(first | omega | (simp;done) | (simp;omega) | (dsimp only[World.drewN];omega)));(case hb=>exact Nat.le_refl _)) | decide)):p:=h
end
section
open Go.Shelf
def fr(F:Array Value)(i:Nat):Value:=F.getD i undef
theorem zJ7{R:Array Value->Prop}{T:Array Value}{D:List Deferred}{G:Array Value->Act}(h1:R T)(h2:({ tmps:=T,defers:=D }:Act)=G T):∃ F,R F/\({ tmps:=T,defers:=D }:Act)=G F:=⟨T,h1,h2⟩
theorem Cst.prepend{n:Nat}{ops:List OpV}{s l':List Int}{p:Nat}{o:OpV}{d:Int}(ho:ops[p]? = some o)(hp:∀ q∈o.pre,q∈s)(h:Cst n ops (xJ5 n s o) l' d):Cst n ops s l' (d+o.cost):=by
 induction h with
 | init=>exact (Cst.step Cst.init ho hp:Cst n ops s _ (0+o.cost))
 | step h1 h2 h3 ih=>
  rename_i l c p' o'
  have e:c+o'.cost+o.cost=c+o.cost+o'.cost:=by omega
  rw[e];exact .step ih h2 h3
def xKt(ls:List (List Int))(D:List Int->Int):Nat:=(ls.map fun l=>(D l).toNat).sum
def xV9(D:List Int->Int)(s:List Int)(v:Int):List Int->Int:=fun x=>if x=s then v else D x
theorem zYh{ls:List (List Int)}{D:List Int->Int}{s:List Int}{v:Int}(h:¬ s∈ls):xKt ls (xV9 D s v)=xKt ls D:=by
 unfold xKt;congr 1;refine List.map_congr_left fun l hl=>?_
 unfold xV9;rw[if_neg (fun e:l=s=>h (e ▸ hl))]
theorem zQ6{ls:List (List Int)}{D:List Int->Int}{s:List Int}{v:Int}(hn:ls.Nodup)(h:s∈ls)(h0:0<=v)(hv:v < D s):xKt ls (xV9 D s v) < xKt ls D:=by
 induction ls with
 | nil=>cases h
 | cons a ls ih=>
  obtain⟨h1,h2⟩:=List.nodup_cons.1 hn;show (xV9 D s v a).toNat+xKt ls (xV9 D s v) < (D a).toNat+xKt ls D
  by_cases e:s=a
  ·subst e;rw[zYh h1];unfold xV9;rw[if_pos rfl];omega
  ·have h3:=ih h2 (by rcases List.mem_cons.1 h with h | h;exact absurd h e;exact h);have e2:xV9 D s v a=D a:=if_neg (fun h=>e h.symm);rw[e2];omega
structure LabB(n:Nat)(ops:List OpV)(goal:List Int)(ls:List (List Int))(D:List Int->Int)(fq:Int->Option Int):Prop where
 lo:∀ l∈ls,0<=D l/\D l<=1000000000
 real:∀ l∈ls,D l=1000000000\/∃ l',Cst n ops l l' (D l)/\∀ q∈goal,q∈l'
 goal:∀ l∈ls,(∀ q∈goal,q∈l)->D l=0
 qk:∀ l∈ls,∀ k,fq (xJ0 l)=some k->k=D l
 qs:∀ x,fq x≠none->∃ l∈ls,xJ0 l=x
def vQu(n:Nat)(ops:List OpV)(ls:List (List Int))(D:List Int->Int)(l:List Int):Prop:=∀ s∈ls,∀ (p:Nat) (o:OpV),ops[p]? = some o->(∀ q∈o.pre,q∈s)->xJ5 n s o=l->D s<=D l+o.cost
structure Lab(n:Nat)(ops:List OpV)(goal:List Int)(ls:List (List Int))(D:List Int->Int)(fq:Int->Option Int):Prop extends LabB n ops goal ls D fq where
 cons:∀ l∈ls,fq (xJ0 l)=none->vQu n ops ls D l
structure Lab1(n:Nat)(ops:List OpV)(goal:List Int)(ls:List (List Int))(D:List Int->Int)(fq:Int->Option Int)(l:List Int)(d:Int)(done:List (List Int×Int)):Prop extends LabB n ops goal ls D fq where
 hl:l∈ls
 cur:D l=d
 out:fq (xJ0 l)=none
 cons:∀ l'∈ls,l'≠l->fq (xJ0 l')=none->vQu n ops ls D l'
 dn:∀ a∈done,D a.1<=d+a.2
def zWh(n:Nat)(ops:List OpV)(ls:List (List Int))(l:List Int)(arcs:List (List Int×Int)):Prop:=
 ∀ a:List Int×Int,a∈arcs↔a.1∈ls/\∃ (p:Nat) (o:OpV),ops[p]? = some o/\(∀ q∈o.pre,q∈a.1)/\xJ5 n a.1 o=l/\a.2=o.cost
section
variable {n:Nat}{ops:List OpV}{goal:List Int}{ls:List (List Int)}{D:List Int->Int}{fq:Int->Option Int}{l:List Int}{d:Int}{done:List (List Int×Int)}
theorem Lab.take(h:Lab n ops goal ls D fq)(hl:l∈ls)(hset:∀ l∈ls,SetP l (n:Int))(hq:fq (xJ0 l)=some d):Lab1 n ops goal ls D (xKu fq (xJ0 l)) l d []:=by
 have hne:∀ {x k},xKu fq (xJ0 l) x=some k->fq x=some k/\x≠xJ0 l:=fun {x k} hk=>by
  unfold xKu at hk
  split at hk
  ·cases hk
  ·exact⟨hk,by assumption⟩
 refine⟨⟨h.lo,h.real,h.goal,fun l' hl' k hk=>h.qk l' hl' k (hne hk).1,fun x hx=>?_⟩,hl,(h.qk l hl d hq).symm,?_,fun l' hl' hn hk=>h.cons l' hl' ?_,by simp⟩
 ·cases hk:xKu fq (xJ0 l) x with
  | none=>exact absurd hk hx
  | some k=>exact h.qs x (by rw[(hne hk).1];simp)
 ·unfold xKu;rw[if_pos rfl]
 ·unfold xKu at hk;rw[if_neg (fun e=>hn (xJi (hset l' hl') (hset l hl) e))] at hk;exact hk
theorem Lab1.skip(h:Lab1 n ops goal ls D fq l d done){a:List Int×Int}(ha:D a.1<=d+a.2):Lab1 n ops goal ls D fq l d (done ++ [a]):=
 ⟨h.toLabB,h.hl,h.cur,h.out,h.cons,fun b hb=>by
  rcases List.mem_append.1 hb with hb | hb
  ·exact h.dn b hb
  ·simp at hb;subst hb;exact ha⟩
theorem Lab1.relax(h:Lab1 n ops goal ls D fq l d done)(hset:∀ l∈ls,SetP l (n:Int)){a:List Int×Int}(has:a.1∈ls){p:Nat}{o:OpV}(ho:ops[p]? = some o)(hp:∀ q∈o.pre,q∈a.1)(hx:xJ5 n a.1 o=l)(hc:a.2=o.cost)(hc0:0<=o.cost)
  (hlt:d+a.2 < D a.1):Lab1 n ops goal ls (xV9 D a.1 (d+a.2)) (xZ1 fq (xJ0 a.1) (d+a.2)) l d (done ++ [a]):=by
 obtain⟨s,c⟩:=a;dsimp only at *;subst hc;have hlo:=h.lo l h.hl;rw[h.cur] at hlo;have hsl:l≠s:=fun e=>by rw[<- e,h.cur] at hlt;omega
 have hle:∀ x,xV9 D s (d+o.cost) x<=D x:=fun x=>by
  unfold xV9
  split
  ·rename_i e;rw[e];omega
  ·exact Int.le_refl _
 have hother:∀ {x},x≠s->xV9 D s (d+o.cost) x=D x:=fun {x} e=>if_neg e
 have hself:xV9 D s (d+o.cost) s=d+o.cost:=if_pos rfl;have hw:∀ {x},x∈ls->x≠s->xJ0 x≠xJ0 s:=fun {x} hx e e2=>e (xJi (hset x hx) (hset s has) e2)
 have hqo:∀ {x},x∈ls->x≠s->xZ1 fq (xJ0 s) (d+o.cost) (xJ0 x)=fq (xJ0 x):=fun {x} hx e=>by unfold xZ1;rw[if_neg (hw hx e)]
 have hqs:xZ1 fq (xJ0 s) (d+o.cost) (xJ0 s)=some (d+o.cost):=by unfold xZ1;rw[if_pos rfl]
 refine⟨⟨fun x hx=>?_,fun x hx=>?_,fun x hx hg=>?_,fun x hx k hk=>?_,fun x hx=>?_⟩,h.hl,by rw[hother hsl];exact h.cur,by rw[hqo h.hl hsl];exact h.out,fun l' hl' hn hk=>?_,fun b hb=>?_⟩
 ·have:=h.lo x hx;have h2:=h.lo s has
  by_cases e:x=s
  ·subst e;rw[hself];omega
  ·rw[hother e];exact this
 ·by_cases e:x=s
  ·subst e;rw[hself];right;rcases h.real l h.hl with h1 | ⟨l',h1,h2⟩
   ·have h2:=h.lo x has;rw[h.cur] at h1;omega
   ·rw[h.cur,<- hx] at h1;exact⟨l',h1.prepend ho hp,h2⟩
  ·rw[hother e];exact h.real x hx
 ·by_cases e:x=s
  ·subst e;have:=h.goal x has hg;omega
  ·rw[hother e];exact h.goal x hx hg
 ·by_cases e:x=s
  ·subst e;rw[hqs] at hk;rw[hself];injection hk with hk;exact hk.symm
  ·rw[hqo hx e] at hk;rw[hother e];exact h.qk x hx k hk
 ·by_cases e:x=xJ0 s
  ·exact⟨s,has,e.symm⟩
  ·unfold xZ1 at hx;rw[if_neg e] at hx;exact h.qs x hx
 ·have e:l'≠s:=fun e=>by rw[e,hqs] at hk;cases hk
  rw[hqo hl' e] at hk;intro s' hs' p' o' ho' hp' hx';have h1:=h.cons l' hl' hn hk s' hs' p' o' ho' hp' hx';have h2:=hle s';rw[hother e];omega
 ·rcases List.mem_append.1 hb with hb | hb
  ·exact Int.le_trans (hle b.1) (h.dn b hb)
  ·simp at hb;subst hb;dsimp only;rw[hself];exact Int.le_refl _
theorem Lab1.fin(h:Lab1 n ops goal ls D fq l d done)(ha:zWh n ops ls l done):Lab n ops goal ls D fq:=
 ⟨h.toLabB,fun l' hl' hq=>by
  by_cases e:l'=l
  ·subst e;intro s hs p o ho hp hx;rw[h.cur];exact h.dn (s,o.cost) ((ha _).2 ⟨hs,p,o,ho,hp,hx,rfl⟩)
  ·exact h.cons l' hl' e hq⟩
theorem Lab.best(h:Lab n ops goal ls D fq)(hq:∀ x,fq x=none)(hcl:∀ l∈ls,∀ (p:Nat) (o:OpV),ops[p]? = some o->(∀ q∈o.pre,q∈l)->xJ5 n l o∈ls)(hl:l∈ls):RBest n ops goal l (D l):=by
 have key:∀ {l' c},Cst n ops l l' c->l'∈ls/\D l<=D l'+c:=fun {l' c} hc=>by
  induction hc with
  | init=>exact⟨hl,by omega⟩
  | step h1 h2 h3 ih=>
   rename_i l1 c1 p o
   obtain⟨i1,i2⟩:=ih;have hm:=hcl _ i1 _ _ h2 h3;refine⟨hm,?_⟩;have:=h.cons _ hm (hq _) _ i1 _ _ h2 h3 rfl;omega
 refine⟨?_,(h.lo l hl).2,fun l' c hc hg=>?_⟩
 ·exact h.real l hl
 ·obtain⟨h1,h2⟩:=key hc;have:=h.goal l' h1 hg;omega
theorem Lab.start{ls:List (List Int)}(D:List Int->Int)(fq:Int->Option Int)(hc:∀ o∈ops,0<=o.cost)(h1:∀ l∈ls,(∀ q∈goal,q∈l)->D l=0/\fq (xJ0 l)=some 0)(h2:∀ l∈ls,¬ (∀ q∈goal,q∈l)->D l=1000000000/\fq (xJ0 l)=none)(h3:∀ x,fq x≠none->∃ l∈ls,xJ0 l=x) :
  Lab n ops goal ls D fq:=by
 have hd:∀ l∈ls,0<=D l/\D l<=1000000000:=fun l hl=>by
  by_cases hg:∀ q∈goal,q∈l
  ·rw[(h1 l hl hg).1];omega
  ·rw[(h2 l hl hg).1];omega
 refine⟨⟨hd,fun l hl=>?_,fun l hl hg=>(h1 l hl hg).1,fun l hl k hk=>?_,h3⟩,fun l hl hq s hs p o ho hp hx=>?_⟩
 ·by_cases hg:∀ q∈goal,q∈l
  ·rw[(h1 l hl hg).1];exact .inr ⟨l,.init,hg⟩
  ·exact .inl (h2 l hl hg).1
 ·by_cases hg:∀ q∈goal,q∈l
  ·rw[(h1 l hl hg).2] at hk;rw[(h1 l hl hg).1];injection hk with hk;exact hk.symm
  ·rw[(h2 l hl hg).2] at hk;cases hk
 ·have h4:¬ ∀ q∈goal,q∈l:=fun hg=>by rw[(h1 l hl hg).2] at hq;cases hq
  have h5:=hc o (lMg ho);have h6:=(hd s hs).2;rw[(h2 l hl h4).1];omega
end
end
section
open Go.Shelf
section
variable {P:Program}{w:World}
theorem zZ2{ops:Array Oper}{o:Oper}{a:Act}{K:Act->World->Prop}{Q:Exit->Act->World->Prop}{E:Prop}(hgd:o.guard=none)(s x:Operand)(t:TypeId)
  (ho:o.op=.call { callee:=.builtin .append,args:=#[s,x],argTypes:=#[t,t] })
  (base:Nat) (e:TypeId) (i:TypeInfo) (z:Value) (size bytes:Nat) (ht:P.underlying t=some (.slice e)) (hi:P.info? e=some i) (hz:i.zero=some z)
  (hsize:i.size=size) (hby:i.bytes=bytes) (hzs:z.cells.size=size) (hsz:0 < size)
  (v:Value) (n:Nat) (xs:List Value) (hs:a.eval s=v) (hown:w.ownsRow base e size v n xs)
  (ad:Addr) (m c:Nat) (news:List Value) (hx:a.eval x=.slice (some ad) m c) (hl:news.length=m * size) (hnews:∀ j u,news[j]? = some u->w.cell? (ad.add j)=some u) (h1:∀ u∈news,u.oneCell'=true)
  (h63:n+m<=maxLen) (hbytes:(n+m) * bytes<=140737488355328) (hbase:base<=w.heap.size)
  (h:∀ v' w',w'.ownsRow base e size v' (n+m) (xs ++ news)->w.grownBy w' v.ownBlock->(v'=.slice none 0 0↔v=.slice none 0 0/\m=0)->(v'.ownBlock=v.ownBlock\/v'.ownBlock=some w.heap.size)->K (a.put o.dst v') w') :
  if Region.wanted o (yielded ops a.tmps)=true then Oper.wp P o a w K Q else E:=by
 have hw:Region.wanted o (yielded ops a.tmps)=true:=by simp[Region.wanted,hgd]
 rw[if_pos hw];obtain⟨v',w',hr,h2,h3,h4,h5⟩:=run_append_own_at (P:=P) (w:=w) base t o.type e i z size bytes ht hi hz hsize hby hzs hsz v n xs hown ad m c news hl hnews h1 h63 hbytes hbase;unfold Oper.wp execOp;simp only[ho,resolve,invoke,builtin,Sem.run_bind,Sem.run_pure,Result.andThen_ok,List.map_toArray,List.map_cons,List.map_nil,hs,hx,hr];exact h _ _ h2 h3 h4 h5
end
attribute [local go_sem] Oper.semAt_some
theorem zYz{w:World}{ops:Array Oper}{o:Oper}{a:Act}{K:Act->World->Prop}{Q:Exit->Act->World->Prop}{E:Prop}{b n:Nat}{f:Int->Option Value}(hg:o.guard=none)(m x v:Operand)(t:TypeId)(hop:o.op=Op.mapUpdate t m x v)(e:TypeId)(ht:Tryz.prog.underlying t=some (.map 56 e))
  (hm:a.eval m=.map (some b)) (hM:MapF w b n f) (hn:n < 1000000000000) (key:Int) (val:Value) (hx:a.eval x=.int .u32 key) (hv:a.eval v=val) (hk:Wrd key)
  (hK:∀ w',MapF w' b (up1 f key n) (upd f key val)->w.grownBy w' (some b)->K (a.put o.dst undef) w'):if Region.wanted o (yielded ops a.tmps)=true then Oper.wp Tryz.prog o a w K Q else E:=by
 have hw:Region.wanted o (yielded ops a.tmps)=true:=by simp[Region.wanted,hg]
 rw[if_pos hw];obtain⟨D,h1,h2,h3⟩:=hM;obtain⟨w',hrun,r1,r2⟩:=h1.update xXv ht (by simp only[maxLen];omega) (xZm hk) (d:=.held val) (ps:=[]) rfl;unfold Oper.wp;simp[execOp,hop,hm,hx,hv,hrun,Result.andThen];exact hK _ (MapF.put h1 h2 h3 hk r1) r2
theorem zZ3(w:World):(zeroValue 111).run Tryz.prog w=.ok (.slice none 0 0) w:=by kernel_rfl
theorem vQa:(Tryz.prog.info? 113).map (fun i=>(i.zero,i.size,i.bytes))=some (some (.agg #[.int .u32 0,.int .i64 0]),2,16):=by kernel_rfl
def vKq(n:Nat)(t:TaskV)(ls:List (List Int))(w:World)(e:Ending)(w':World):Prop:=Below w.heap.size w w' /\
 ∃ (mo N:Nat) (f:Int->Option Value) (D:List Int->Int),e=.returned (.map (some mo))/\MapF w' mo N f/\∀ l∈ls,f (xJ0 l)=some (.int .i64 (D l))/\RBest n t.ops t.goal l (D l)
theorem zK0{ls:List (List Int)}(h:ls.Nodup){k:Nat}{l:List Int}(hl:ls[k]? = some l):¬ l∈ls.take k:=fun hm=>by
 obtain⟨i,hi,he⟩:=List.mem_take_iff_getElem.1 hm;obtain⟨hk,hl2⟩:=List.getElem?_eq_some_iff.1 hl;exact (List.pairwise_iff_getElem.1 h) i k (by omega) hk (by omega) (by rw[he,hl2])
theorem zZ4(f:Int->Option Value)(x:Int)(n:Nat):up1 f x n<=n+1:=by unfold up1;split <;> omega
theorem vY2(f:Int->Option Value)(x:Int)(v:Value)(n:Nat):up1 (upd f x v) x n=n:=by unfold up1;rw[xX1];rfl
def Out1(goal:List Int)(ls:List (List Int))(fO:Int->Option Value)(fq:Int->Option Int):Prop:=
 (∀ l∈ls,((∀ q∈goal,q∈l)->fO (xJ0 l)=some (.int .i64 0)/\fq (xJ0 l)=some 0)/\(¬ (∀ q∈goal,q∈l)->fO (xJ0 l)=some (.int .i64 1000000000)/\fq (xJ0 l)=none))/\∀ x,fq x≠none->∃ l∈ls,xJ0 l=x
theorem Out1.nil(goal:List Int):Out1 goal [] (fun _=>none) (fun _=>none):=⟨(fun l hl=>by cases hl),(fun x hx=>absurd rfl hx)⟩
theorem Out1.fresh{goal:List Int}{ls:List (List Int)}{fO:Int->Option Value}{fq:Int->Option Int}{n:Nat}(h:Out1 goal ls fO fq)(hs:∀ l∈ls,SetP l (n:Int)){l:List Int}(hl:SetP l (n:Int))(hn:¬ l∈ls):fq (xJ0 l)=none:=
 Classical.byContradiction fun hc=>by
  obtain⟨l',h1,h2⟩:=h.2 _ hc;exact hn (xJi (hs l' h1) hl h2 ▸ h1)
theorem Out1.yes{goal:List Int}{ls:List (List Int)}{fO:Int->Option Value}{fq:Int->Option Int}{n:Nat}(h:Out1 goal ls fO fq)(hs:∀ l∈ls,SetP l (n:Int)){l:List Int}(hl:SetP l (n:Int))(hn:¬ l∈ls)(hg:∀ q∈goal,q∈l) :
  Out1 goal (ls ++ [l]) (upd (upd fO (xJ0 l) (.int .i64 1000000000)) (xJ0 l) (.int .i64 0)) (xZ1 fq (xJ0 l) 0):=by
 refine⟨fun l' hl'=>?_,fun x hx=>?_⟩
 ·rcases List.mem_append.1 hl' with h1 | h1
  ·have hne:xJ0 l'≠xJ0 l:=fun e=>hn (xJi (hs l' h1) hl e ▸ h1)
   rw[xJe _ _ hne,xJe _ _ hne];unfold xZ1;rw[if_neg hne];exact h.1 l' h1
  ·simp at h1;subst h1;refine⟨fun _=>⟨xX1 _ _ _,by unfold xZ1;rw[if_pos rfl]⟩,fun h2=>absurd hg h2⟩
 ·unfold xZ1 at hx
  split at hx
  ·rename_i e;exact⟨l,by simp,e.symm⟩
  ·obtain⟨l',h1,h2⟩:=h.2 x hx;exact⟨l',List.mem_append.2 (.inl h1),h2⟩
theorem Out1.no{goal:List Int}{ls:List (List Int)}{fO:Int->Option Value}{fq:Int->Option Int}{n:Nat}(h:Out1 goal ls fO fq)(hs:∀ l∈ls,SetP l (n:Int)){l:List Int}(hl:SetP l (n:Int))(hn:¬ l∈ls)(hg:¬ ∀ q∈goal,q∈l) :
  Out1 goal (ls ++ [l]) (upd fO (xJ0 l) (.int .i64 1000000000)) fq:=by
 have hf:=h.fresh hs hl hn;refine⟨fun l' hl'=>?_,fun x hx=>?_⟩
 ·rcases List.mem_append.1 hl' with h1 | h1
  ·have hne:xJ0 l'≠xJ0 l:=fun e=>hn (xJi (hs l' h1) hl e ▸ h1)
   rw[xJe _ _ hne];exact h.1 l' h1
  ·simp at h1;subst h1;exact⟨fun h2=>absurd h2 hg,fun _=>⟨xX1 _ _ _,hf⟩⟩
 ·obtain⟨l',h1,h2⟩:=h.2 x hx;exact⟨l',List.mem_append.2 (.inl h1),h2⟩
def RowsM(n:Nat)(ops:List OpV)(done:List (List Int))(s:List Int)(pre:List (Nat×OpV×List Int))(rows:Int->List (List Int×Int)):Prop:=
 ∀ (x:Int) (a:List Int×Int),a∈rows x↔(a.1∈done/\∃ y∈xJm n ops a.1 ops.length,xJ0 y.2.2=x/\a.2=y.2.1.cost)\/(a.1=s/\∃ y∈pre,xJ0 y.2.2=x/\a.2=y.2.1.cost)
theorem RowsM.nil(n:Nat)(ops:List OpV):RowsM n ops [] [] [] (fun _=>[]):=fun x a=>by simp
theorem RowsM.start{n:Nat}{ops:List OpV}{done:List (List Int)}{s s':List Int}{rows:Int->List (List Int×Int)}(h:RowsM n ops done s [] rows):RowsM n ops done s' [] rows:=fun x a=>by rw[h x a];simp
theorem RowsM.push{n:Nat}{ops:List OpV}{done:List (List Int)}{s:List Int}{pre:List (Nat×OpV×List Int)}{rows:Int->List (List Int×Int)}(h:RowsM n ops done s pre rows)(y:Nat×OpV×List Int) :
  RowsM n ops done s (pre ++ [y]) (vVn rows (xJ0 y.2.2) (rows (xJ0 y.2.2) ++ [(s,y.2.1.cost)])):=fun x a=>by
 unfold vVn
 by_cases e:x=xJ0 y.2.2
 ·subst e;rw[if_pos rfl,List.mem_append,h];constructor
  ·rintro ((h1 | ⟨h1,y',h2,h3⟩) | h1)
   ·exact .inl h1
   ·exact .inr ⟨h1,y',List.mem_append.2 (.inl h2),h3⟩
   ·simp at h1;subst h1;exact .inr ⟨rfl,y,by simp,rfl,rfl⟩
  ·rintro (h1 | ⟨h1,y',h2,h3⟩)
   ·exact .inl (.inl h1)
   ·rcases List.mem_append.1 h2 with h2 | h2
    ·exact .inl (.inr ⟨h1,y',h2,h3⟩)
    ·simp at h2;subst h2;obtain⟨a1,a2⟩:=a;dsimp only at h1 h3;rw[h1,h3.2];exact .inr (by simp)
 ·rw[if_neg e,h];constructor
  ·rintro (h1 | ⟨h1,y',h2,h3⟩)
   ·exact .inl h1
   ·exact .inr ⟨h1,y',List.mem_append.2 (.inl h2),h3⟩
  ·rintro (h1 | ⟨h1,y',h2,h3⟩)
   ·exact .inl h1
   ·rcases List.mem_append.1 h2 with h2 | h2
    ·exact .inr ⟨h1,y',h2,h3⟩
    ·simp at h2;subst h2;exact absurd h3.1.symm e
theorem RowsM.fin{n:Nat}{ops:List OpV}{done:List (List Int)}{s:List Int}{pre:List (Nat×OpV×List Int)}{rows:Int->List (List Int×Int)}(h:RowsM n ops done s pre rows)(hp:pre=xJm n ops s ops.length) :
  RowsM n ops (done ++ [s]) [] [] rows:=fun x a=>by
 rw[h x a,hp];constructor
 ·rintro (⟨h1,h2⟩ | ⟨h1,h2⟩)
  ·exact .inl ⟨List.mem_append.2 (.inl h1),h2⟩
  ·exact .inl ⟨List.mem_append.2 (.inr (by simp[h1])),h1 ▸ h2⟩
 ·rintro (⟨h1,h2⟩ | ⟨_,y,h2,_⟩)
  ·rcases List.mem_append.1 h1 with h1 | h1
   ·exact .inl ⟨h1,h2⟩
   ·simp at h1;exact .inr ⟨h1,h1 ▸ h2⟩
  ·cases h2
theorem RowsM.arcs{n:Nat}{ops:List OpV}{ls:List (List Int)}{rows:Int->List (List Int×Int)}(h:RowsM n ops ls [] [] rows){l:List Int}(hl:SetP l (n:Int)):zWh n ops ls l (rows (xJ0 l)):=fun a=>by
 rw[h];constructor
 ·rintro (⟨h1,y,h2,h3,h4⟩ | ⟨_,y,h2,_⟩)
  ·obtain⟨h5,h6,h7,h8⟩:=xJz.1 h2;exact⟨h1,y.1,y.2.1,h6,h7,by rw[<- h8];exact xJi (h8 ▸ xJj n a.1 _) hl h3,h4⟩
  ·cases h2
 ·rintro ⟨h1,p,o,h2,h3,h4,h5⟩;exact .inl ⟨h1,(p,o,xJ5 n a.1 o),xJz.2 ⟨(List.getElem?_eq_some_iff.1 h2).1,h2,h3,rfl⟩,by rw[<- h4],h5⟩
noncomputable def D00(goal l:List Int):Int:=@ite _ (∀ q∈goal,q∈l) (Classical.propDecidable _) 0 1000000000
theorem vJi{goal l:List Int}(h:∀ q∈goal,q∈l):D00 goal l=0:=by unfold D00;rw[if_pos h]
theorem vQy{goal l:List Int}(h:¬ ∀ q∈goal,q∈l):D00 goal l=1000000000:=by unfold D00;rw[if_neg h]
theorem vJj{n:Nat}{ops:List OpV}{goal:List Int}{ls:List (List Int)}{fO:Int->Option Value}{fq:Int->Option Int}(h:Out1 goal ls fO fq)(hc:∀ o∈ops,0<=o.cost):Lab n ops goal ls (D00 goal) fq:=
 Lab.start (D00 goal) fq hc (fun l hl hg=>⟨vJi hg,((h.1 l hl).1 hg).2⟩) (fun l hl hg=>⟨vQy hg,((h.1 l hl).2 hg).2⟩) h.2
theorem zK1{goal:List Int}{ls:List (List Int)}{fO:Int->Option Value}{fq:Int->Option Int}(h:Out1 goal ls fO fq):∀ l∈ls,fO (xJ0 l)=some (.int .i64 (D00 goal l)):=fun l hl=>by
 by_cases hg:∀ q∈goal,q∈l
 ·rw[vJi hg];exact ((h.1 l hl).1 hg).1
 ·rw[vQy hg];exact ((h.1 l hl).2 hg).1
def ICost(n:Nat)(t:TaskV)(w:World)(b9 nq nO b2:Nat)(ds:List Deferred)(fO:Int->Option Value)(fq:Int->Option Int)(done:List (List Int))(s:List Int)(k:Nat)(pre:List (xX4 n t.ops s))(W:World):Prop:=
 ∃ (nb:Nat) (fb:Int->Option Value) (rows:Int->List (List Int×Int)),Back w.heap.size W w.heap.size nb fb rows/\nb<=40 * k+pre.length/\Hid (∀ x,(rows x).length<=40 * k+pre.length)/\Arr W (w.heap.size+1) 101 [.map (some w.heap.size)]/\MapF W (w.heap.size+1+1) nO fO/\Que (w.heap.size+1+1+1) (w.heap.size+1+1+1+1) (w.heap.size+1+1+1) W nq fq/\Hid (RowsM n t.ops done s (pre.map (·.1)) rows)/\Below w.heap.size w W/\MarksOk w.heap.size ds W/\Arr W b9 56 [.int .u32 (xJ0 s)]/\Arr W b2 56 [.int .u32 (xJ0 s)]/\b2+1<=W.heap.size
theorem ICost.turn{n b9 nq nO b2 k:Nat}{t:TaskV}{w W0:World}{ds:List Deferred}{fO:Int->Option Value}{fq:Int->Option Int}{done:List (List Int)}{s:List Int}(h0:MarksOk w.heap.size ds W0)(hM0:(w.heap.size+1+1+1) < W0.heap.size)(hw:w.heap.size<=W0.heap.size){pre:List (xX4 n t.ops s)}{W W':World}
  (h:ICost n t w b9 nq nO b2 ds fO fq done s k pre W) (ht:Turn W0.heap.size W W'):ICost n t w b9 nq nO b2 ds fO fq done s k pre W':=by
 obtain⟨nb,fb,rows,h1,h2,h3,h4,h5,h6,h7,h8,h9,h10,h11,h12⟩:=h;have hsz:W.heap.size<=W'.heap.size:=by obtain⟨row,hg,_⟩:=ht;exact hg.size
 exact⟨nb,fb,rows,h1.turn ht (by omega),h2,h3,h4.turn ht,h5.turn ht (by omega),h6.turn ht hM0,h7,xVm h8 ht hw (by have:=h8.size;omega),h9.turn h0 (Nat.le_refl _) ht,h10.turn ht,h11.turn ht,Nat.le_trans h12 hsz⟩
theorem zK2{base g n B c:Nat}{w:World}{t:TaskV}{A:Option Addr}{ls:List (List Int)}(hM:WMem base w g t)(hv:TSets n t)(hO:OwnU B w (.slice A ls.length c) ls)(hC:Clos n t.ops t.init ls)(hl:ls.length<=2000) :
  Calls Tryz.prog 17 #[.pointer (some ⟨g,0,none⟩),.slice A ls.length c] w (vKq n t ls w):=by
 have hn24:=hv.n24;have h40:=hv.nops;have HV:=lHd hv;have HC:=lHd hC;have hmm:=@run_makeMap Tryz.prog;clear hv hC;refine xZ9 Tryz.func17 rfl ?_;simp only[Tryz.ntmps17,List.size_toArray,List.length_cons,List.length_nil,Nat.reduceAdd,Nat.reduceSub,Array.replicate_succ,Array.replicate_zero,List.push_toArray,List.append_toArray,List.nil_append,List.cons_append]
 go_wp2_with (go_at_call 54;(refine (zVd _).mono ?_);rintro e w1 ⟨rfl,hQ0,hB1⟩)
 have hz1:w1.heap.size=w1.heap.size:=rfl;have hs1:=hB1.size;simp only[World.size_alloc] at hs1 hQ0;have hB1':Below w.heap.size w w1:=Below.trans (b:=((w.alloc (.map #[] 0)).alloc (.cells #[.map (some w.heap.size)] 101)).alloc (.map #[] 0)) mvk (hB1.mono (by simp;omega));have hk0:Back w.heap.size w1 w.heap.size 0 (fun _=>none) (fun _=>[]):=(((Back.made w.heap.size w).alloc _).alloc _).keep (hB1.block _ (by simp;omega)) (fun h=>xQ7 h hB1);have hA0:Arr w1 (w.heap.size+1) 101 [.map (some w.heap.size)]:=((Arr.new_at (w.alloc (.map #[] 0)) _ (by simp) _ _).alloc _).below hB1;have hM0:MapF w1 (w.heap.size+1+1) 0 (fun _=>none):=(MapF.made_at ((w.alloc (.map #[] 0)).alloc (.cells #[.map (some w.heap.size)] 101)) _ (by simp)).below hB1 (by simp);clear hB1 hz1;refine wp_loop_ghost_k (fun gk a wr=>∃ (ds:List Deferred) (vi:Value) (F:Array Value),(∃ (k nb nO nq:Nat) (fb fO:Int->Option Value) (fq:Int->Option Int) (rows:Int->List (List Int×Int)),k<=ls.length/\vi=.int .i64 (k:Int)/\Back w.heap.size wr w.heap.size nb fb rows/\nb<=40 * k/\Hid (∀ x,(rows x).length<=40 * k)/\Arr wr (w.heap.size+1) 101 [.map (some w.heap.size)]/\MapF wr (w.heap.size+1+1) nO fO/\nO<=k/\Que (w.heap.size+1+1+1) (w.heap.size+1+1+1+1) (w.heap.size+1+1+1) wr nq fq/\nq<=k/\Hid (Out1 t.goal (ls.take k) fO fq)/\Hid (RowsM n t.ops (ls.take k) [] [] rows)/\Below w.heap.size w wr/\MarksOk w.heap.size ds wr/\Hid (gk=ls.length - k))/\a={ tmps:=#[.pointer (some ⟨g,0,none⟩),.slice A ls.length c,fr F 2,fr F 3,.map none,.pointer (some ⟨(w.heap.size+1),0,none⟩),.map (some (w.heap.size+1+1)),.pointer (some ⟨(w.heap.size+1+1+1+1),0,none⟩),fr F 8,fr F 9,fr F 10,fr F 11,fr F 12,fr F 13,fr F 14,fr F 15,fr F 16,fr F 17,fr F 18,.slice A ls.length c,.int .i64 (ls.length:Int),vi,fr F 22,fr F 23,fr F 24,fr F 25,fr F 26,fr F 27,fr F 28,fr F 29,fr F 30,fr F 31,fr F 32,fr F 33,fr F 34,fr F 35,fr F 36,fr F 37,fr F 38,fr F 39,fr F 40,fr F 41,fr F 42,fr F 43,fr F 44,fr F 45,fr F 46,fr F 47,fr F 48,fr F 49,fr F 50,fr F 51,fr F 52,fr F 53,fr F 54,fr F 55,fr F 56,fr F 57,fr F 58,fr F 59,fr F 60,fr F 61,fr F 62,fr F 63,fr F 64,fr F 65,fr F 66,fr F 67,fr F 68,fr F 69,fr F 70,fr F 71,fr F 72,fr F 73,fr F 74,fr F 75,fr F 76,fr F 77,fr F 78,fr F 79,fr F 80,fr F 81,fr F 82,fr F 83,fr F 84,fr F 85,fr F 86,fr F 87,fr F 88,fr F 89,fr F 90,fr F 91,fr F 92,fr F 93,fr F 94,fr F 95],defers:=ds }) ls.length ?start ?round
 case start=>
  refine⟨[],.int .i64 0,zJ7 ?rel rfl⟩;exact⟨0,0,0,0,_,_,_,_,Nat.zero_le _,rfl,hk0,Nat.zero_le _,(fun _=>Nat.zero_le _),hA0,hM0,Nat.le_refl _,hQ0,Nat.le_refl _,Out1.nil _,RowsM.nil _ _,hB1',MarksOk.nil _ _,rfl⟩
 case round=>
  clear hk0 hA0 hM0 hQ0 hB1';intro gk a wr hinv;obtain⟨ds,vi,F,⟨k,nb,nO,nq,fb,fO,fq,rows,hk,rfl,hBk,hnb,hrl,hA,hMo,hnO,hQ,hnq,hO1,hR,hB,hmk,hgk⟩,rfl⟩:=hinv;intro J K hJ hK
  by_cases hlt:k < ls.length
  ·obtain⟨l,hlk⟩:∃ l,ls[k]? = some l:=⟨_,lGe hlt⟩;have hlm:=lMg hlk;have hSl:=HC.out.set l hlm;have hwl:=hSl.wrd hn24;obtain⟨g1,rfl,hg1,hg2,hcs⟩:=hO.at_ rfl hlk;have hcr:wr.cell? ⟨g1,k,none⟩=some (.int .u32 (xJ0 l)):=(hB.cell (p:=⟨g1,k,none⟩) hg2).trans hcs;have htk:ls.take (k+1)=ls.take k ++ [l]:=by rw[List.take_add_one,hlk];rfl
   have hnm:¬ l∈ls.take k:=zK0 HC.out.nd hlk;have hst:∀ x∈ls.take k,SetP x (n:Int):=fun x hx=>HC.out.set x (List.mem_of_mem_take hx)
   have hfr:=hO1.out.fresh hst hSl hnm;have hwm:WMem base w g t:=hM;have hbl:=hA.lt;have HO1:=lHd hO1;have HR:=lHd hR;have HRL:=lHd hrl;have HG:=lHd hgk;have hqm:=hQ.obj;clear hO1 hR hrl hgk
   by_cases hg:∀ q∈t.goal,q∈l
   case' pos=>
    have HO2:Hid (Out1 t.goal (ls.take (k+1)) (upd (upd fO (xJ0 l) (.int .i64 1000000000)) (xJ0 l) (.int .i64 0)) (xZ1 fq (xJ0 l) 0)):=by rw[htk];exact HO1.out.out.yes hst hSl hnm hg
    have HGO:=lHd hg;clear hg
    go_wp2_with (first | (at_mapUpdate;refine xX7 rfl (.tmp 25) (.tmp 26) (.const (.int .i64 1000000000)) 54 rfl 3 Tryz.underlying54 rfl (hMo.alloc _) (by omega) (xJ0 l) (.int .i64 1000000000) rfl rfl hwl ?_;intro w2 hM2 hg2';have hu:=zZ4 fO (xJ0 l) nO;have hMa:=hMo.alloc (.cells #[.int .u32 (xJ0 l)] 56);have hx2:Arr w2 wr.heap.size 56 [.int .u32 (xJ0 l)]:=(by have h0:=Arr.new wr 56 [.int .u32 (xJ0 l)];exact Arr.by_map hMa hg2' h0);have hxc:=hx2.cell 0;have hB2:Below w.heap.size w w2:=mvk;have hs2:=hB2.size) | (go_at_call 55;refine (zZo (WMem.below hwm hB2) HV.out hSl HGO.out).mono ?_;rintro e w' ⟨rfl,d,rfl⟩) | (at_mapUpdate;refine xX7 rfl (.tmp 30) (.tmp 31) (.const (.int .i64 0)) 54 rfl 3 Tryz.underlying54 rfl (hM2.drewN d) (by omega) (xJ0 l) (.int .i64 0) rfl rfl hwl ?_;intro w3 hM3 hg3;have hMd:=hM2.drewN d;have hx3:Arr w3 wr.heap.size 56 [.int .u32 (xJ0 l)]:=mvk;have hxc3:=hx3.cell 0;have hQ3:Que (w.heap.size+1+1+1) (w.heap.size+1+1+1+1) (w.heap.size+1+1+1) w3 nq fq:=mvk) | (go_at_call 56;refine (xWw hQ3 (xJ0 l) 0 hwl hfr (by omega)).mono ?_;rintro e w4 ⟨rfl,hQ4,hU4⟩;have hqm3:=hQ3.obj;have hx4:Arr w4 wr.heap.size 56 [.int .u32 (xJ0 l)]:=mvk;have hxc4:w4.cell? ⟨wr.heap.size,0,none⟩=some (.int .u32 (xJ0 l)):=hx4.cell 0;clear hx4) | (go_at_call 57;refine (xQr _ _ _).mono ?_;rintro e w' ⟨rfl,rfl⟩))
    have hBw:Below w.heap.size w w4:=mvk;have hA4:Arr w4 (w.heap.size+1) 101 [.map (some w.heap.size)]:=mvk;have hBk4:Back w.heap.size w4 w.heap.size nb fb rows:=mvk;have hm4:MarksOk w.heap.size ds w4:=mvk;have hMO4:MapF w4 (w.heap.size+1+1) (up1 fO (xJ0 l) nO) (upd (upd fO (xJ0 l) (.int .i64 1000000000)) (xJ0 l) (.int .i64 0)):=(by rw[vY2] at hM3;exact mvk);have hx4:Arr w4 wr.heap.size 56 [.int .u32 (xJ0 l)]:=mvk;obtain⟨fO2,hfO2⟩:∃ x,x=(upd (upd fO (xJ0 l) (.int .i64 1000000000)) (xJ0 l) (.int .i64 0)):=⟨_,rfl⟩;obtain⟨fq2,hfq2⟩:∃ x,x=xZ1 fq (xJ0 l) 0:=⟨_,rfl⟩;obtain⟨nq2,hnq2⟩:∃ x,x=nq+1:=⟨_,rfl⟩;rw[<- hfO2] at hMO4 HO2;rw[<- hfq2] at hQ4 HO2;rw[<- hnq2] at hQ4;have hnq3:nq2<=k+1:=by omega
    clear hfO2 hfq2 hnq2 hM2 hg2' hu hMa hx2 hxc hM3 hg3 hMd hx3 hxc3 hQ3 hU4 hqm3 hxc4 hB2 hfr hnq HGO
   case' neg=>
    have HO2:Hid (Out1 t.goal (ls.take (k+1)) (upd fO (xJ0 l) (.int .i64 1000000000)) fq):=by rw[htk];exact HO1.out.out.no hst hSl hnm hg
    have HGO:=lHd hg;clear hg
    go_wp2_with (first | (at_mapUpdate;refine xX7 rfl (.tmp 25) (.tmp 26) (.const (.int .i64 1000000000)) 54 rfl 3 Tryz.underlying54 rfl (hMo.alloc _) (by omega) (xJ0 l) (.int .i64 1000000000) rfl rfl hwl ?_;intro w2 hM2 hg2';have hu:=zZ4 fO (xJ0 l) nO;have hMa:=hMo.alloc (.cells #[.int .u32 (xJ0 l)] 56);have hx2:Arr w2 wr.heap.size 56 [.int .u32 (xJ0 l)]:=(by have h0:=Arr.new wr 56 [.int .u32 (xJ0 l)];exact Arr.by_map hMa hg2' h0);have hxc:=hx2.cell 0;have hB2:Below w.heap.size w w2:=mvk;have hs2:=hB2.size) | (go_at_call 55;refine (zVq (WMem.below hwm hB2) HV.out hSl HGO.out).mono ?_;rintro e w' ⟨rfl,d,rfl⟩;obtain⟨w4,hw4⟩:∃ x,Hid (x=w2.drewN d):=⟨_,rfl⟩;rw[<- hw4.out];have hxc4:w4.cell? ⟨wr.heap.size,0,none⟩=some (.int .u32 (xJ0 l)):=(by rw[hw4.out];exact hx2.cell 0)) | (go_at_call 57;refine (xQr _ _ _).mono ?_;rintro e w' ⟨rfl,rfl⟩))
    have hBw:Below w.heap.size w w4:=(by rw[hw4.out];exact mvk);have hA4:Arr w4 (w.heap.size+1) 101 [.map (some w.heap.size)]:=(by rw[hw4.out];exact mvk);have hBk4:Back w.heap.size w4 w.heap.size nb fb rows:=(by rw[hw4.out];exact mvk);have hm4:MarksOk w.heap.size ds w4:=(by rw[hw4.out];exact mvk);have hMO4:MapF w4 (w.heap.size+1+1) (up1 fO (xJ0 l) nO) (upd fO (xJ0 l) (.int .i64 1000000000)):=(by rw[hw4.out];exact mvk);have hx4:Arr w4 wr.heap.size 56 [.int .u32 (xJ0 l)]:=(by rw[hw4.out];exact mvk);have hQ4:Que (w.heap.size+1+1+1) (w.heap.size+1+1+1+1) (w.heap.size+1+1+1) w4 nq fq:=(by rw[hw4.out];exact mvk);obtain⟨fO2,hfO2⟩:∃ x,x=(upd fO (xJ0 l) (.int .i64 1000000000)):=⟨_,rfl⟩;obtain⟨fq2,hfq2⟩:∃ x,x=fq:=⟨_,rfl⟩;obtain⟨nq2,hnq2⟩:∃ x,x=nq:=⟨_,rfl⟩;rw[<- hfO2] at hMO4 HO2;rw[<- hfq2] at hQ4 HO2;rw[<- hnq2] at hQ4;have hnq3:nq2<=k+1:=by omega
    clear hfO2 hfq2 hnq2 hM2 hg2' hu hMa hx2 hxc hxc4 hB2 hfr hnq HGO hw4
   all_goals
    have hA40:=hA4;have hsz5:w.heap.size+1+1+1+1 < w4.heap.size:=by have:=hQ4.qlt;omega
    refine xZt (b1:=w4.heap.size) (b2:=w4.heap.size+1) (es:=10) hM HV.out hSl ?hB ?hc1 ?hc2 ?hb2 rfl rfl (ICost n t w wr.heap.size nq2 (up1 fO (xJ0 l) nO) (w4.heap.size+1) ds fO2 fq2 (ls.take k) l k) ?hI ?hIs ?h0 ?hassign ?hbody ?hdone
    case hB=>exact mvk
    case hc1=>exact ((Arr.new_at w4 _ rfl _ _).alloc _).cell 0
    case hc2=>exact (Arr.new_at (w4.alloc _) _ (by simp) _ [.int .u32 (xJ0 l)]).cell 0
    case hb2=>omega
    case hI=>exact fun pre W W' h ht=>h.turn ((hm4.alloc _).alloc _) (by simp;omega) (by simp;omega) ht
    case hIs=>rintro pre W ⟨_,_,_,_,_,_,_,_,_,_,_,_,_,_,h⟩;simpa using h
    case h0=>exact⟨nb,fb,rows,mvk,by simp;omega,(fun x=>by simp;exact HRL.out.out x),mvk,mvk,mvk,HR.out.out.start,mvk,mvk,mvk,Arr.new_at (w4.alloc _) _ (by simp) _ _,by simp⟩
    case hassign=>
     intro y x W K hK;simp only[xX5,List.setIfInBounds_toArray,List.set_cons_succ,List.set_cons_zero] at hK ⊢
     gi_wp2
     rfl
    case hbody=>
     clear hBk hBk4 hA hA4 hA40 hMo hMO4 hQ hQ4 hqm hx4 hBw hm4 hwm HO2 hcs hcr hst hnm hB hmk HRL HR HO1;intro y pre x Bx W hlt hi hx hBx a' ha';obtain⟨⟨p,o,l2⟩,hmem⟩:=x;obtain⟨nb',fb',rows',h1,h2,h3,h4,h5,h6,h7,h8,h9,h10,h11,h12⟩:=hi;have hps:=xZh (n:=n) (ops:=t.ops) (l:=l) t.ops.length;have hSl2:SetP l2 (n:Int):=by obtain⟨_,_,_,e1⟩:=xJz.1 hmem;dsimp only at e1;rw[e1];exact xJj n l _
     have hwl2:=hSl2.wrd hn24;have h3':=h3.out;simp only[xX5,List.setIfInBounds_toArray,List.set_cons_succ,List.set_cons_zero] at ha';subst ha';obtain⟨vv,hvv⟩:∃ x,Hid (x=(fb' (xJ0 l2)).getD (.slice none 0 0)):=⟨_,rfl⟩;have hrow:OwnA w.heap.size W vv (rows' (xJ0 l2)):=by rw[hvv.out];exact h1.2.1 _
     have hlook:∀ {W':World},MapF W' w.heap.size nb' fb'->(Instr.lookup 101 (.map (some w.heap.size)) (.int .u32 (xJ0 l2)) false).run Tryz.prog W'=.ok vv W':=fun {W'} h=>by rw[hvv.out];exact h.look Tryz.underlying101 (zZ3 _) hwl2
     have hSS0:W.drew.cell? ⟨(w.heap.size+1),0,none⟩=some (.map (some w.heap.size))/\W.drew.cell? ⟨Bx,2,none⟩=some (.int .u32 (xJ0 l2))/\W.drew.cell? ⟨Bx,1,none⟩=some (.int .i64 o.cost)/\W.drew.cell? ⟨wr.heap.size,0,none⟩=some (.int .u32 (xJ0 l))/\(Instr.lookup 101 (.map (some w.heap.size)) (.int .u32 (xJ0 l2)) false).run Tryz.prog W.drew=.ok vv W.drew:=⟨h4.cell 0,hx.cell 2,hx.cell 1,h10.cell 0,hlook h1.1.drew⟩
     gi_wp2
     have hrow1:(W.alloc (.cells #[.int .u32 (xJ0 l),.int .i64 o.cost] 113)).drew.ownsRow w.heap.size 113 2 vv (rows' (xJ0 l2)).length ((rows' (xJ0 l2)).flatMap zQ7):=(hrow.alloc _).drew;obtain⟨i0,hi0,hq0⟩:=Option.map_eq_some_iff.1 vQa;simp only[Prod.mk.injEq] at hq0;have hlen2:(rows' (xJ0 l2)).length<=100000:=by have:=h3' (xJ0 l2);omega
     have hsW:=h8.size;have hb2W:W.heap[w4.heap.size+1]? = some (.cells #[.int .u32 (xJ0 l)] 56 (0,0)):=h11;refine zJh (fun W=>W.cell? ⟨(w.heap.size+1),0,none⟩=some (.map (some w.heap.size))/\W.cell? ⟨Bx,2,none⟩=some (.int .u32 (xJ0 l2))/\W.cell? ⟨Bx,1,none⟩=some (.int .i64 o.cost)/\W.cell? ⟨wr.heap.size,0,none⟩=some (.int .u32 (xJ0 l))/\(Instr.lookup 101 (.map (some w.heap.size)) (.int .u32 (xJ0 l2)) false).run Tryz.prog W=.ok vv W) [13] (by kernel_rfl) (by kernel_rfl) (fun _ _ h=>h) ?_;have hSS:=hSS0;refine xJ1 (i:=0) (v:=?_) rfl (by kernel_rfl) (by kernel_rfl) (by kernel_rfl) (by kernel_rfl) (by kernel_rfl) (fun _ _ _ h=>h) (Or.inl ⟨by rfl,?_⟩) (by assumption) ?_;rotate_left
     ·(intro w hSw;(try dsimp only at hSw);go_simp;(try with_reducible rfl))
     try simp only[ap]
     refine xJ1 (i:=1) (v:=?_) rfl (by kernel_rfl) (by kernel_rfl) (by kernel_rfl) (by kernel_rfl) (by kernel_rfl) (fun _ _ _ h=>h) (Or.inl ⟨by rfl,?_⟩) (by assumption) ?_;rotate_left
     ·(intro w hSw;(try dsimp only at hSw);go_simp;(try with_reducible rfl))
     try simp only[ap]
     refine xJ1 (i:=2) (v:=?_) rfl (by kernel_rfl) (by kernel_rfl) (by kernel_rfl) (by kernel_rfl) (by kernel_rfl) (fun _ _ _ h=>h) (Or.inl ⟨by rfl,?_⟩) (by assumption) ?_;rotate_left
     ·(intro w hSw;(try dsimp only at hSw);go_simp;(try with_reducible rfl))
     try simp only[ap]
     refine xJ1 (i:=3) (v:=?_) rfl (by kernel_rfl) (by kernel_rfl) (by kernel_rfl) (by kernel_rfl) (by kernel_rfl) (fun _ _ _ h=>h) (Or.inl ⟨by rfl,?_⟩) (by assumption) ?_;rotate_left
     ·(intro w hSw;(try dsimp only at hSw);go_simp;(try with_reducible rfl))
     try simp only[ap]
     refine xJ1 (i:=4) (v:=?_) rfl (by kernel_rfl) (by kernel_rfl) (by kernel_rfl) (by kernel_rfl) (by kernel_rfl) (fun _ _ _ h=>h) (Or.inl ⟨by rfl,?_⟩) (by assumption) ?_;rotate_left
     ·(intro w hSw;(try dsimp only at hSw);go_simp;(try with_reducible rfl))
     try simp only[ap]
     refine xJ1 (i:=5) (v:=?_) rfl (by kernel_rfl) (by kernel_rfl) (by kernel_rfl) (by kernel_rfl) (by kernel_rfl) (fun _ _ _ h=>h) (Or.inl ⟨by rfl,?_⟩) (by assumption) ?_;rotate_left
     ·(intro w hSw;(try dsimp only at hSw);go_simp;(try with_reducible rfl))
     try simp only[ap]
     refine xJ1 (i:=6) (v:=?_) rfl (by kernel_rfl) (by kernel_rfl) (by kernel_rfl) (by kernel_rfl) (by kernel_rfl) (fun _ _ _ h=>h) (Or.inl ⟨by rfl,?_⟩) (by assumption) ?_;rotate_left
     ·(intro w hSw;(try dsimp only at hSw);go_simp;(try with_reducible rfl))
     try simp only[ap]
     refine xJ1 (i:=7) (v:=?_) rfl (by kernel_rfl) (by kernel_rfl) (by kernel_rfl) (by kernel_rfl) (by kernel_rfl) (fun _ _ _ h=>h) (Or.inl ⟨by rfl,?_⟩) (by assumption) ?_;rotate_left
     ·(intro w hSw;(try dsimp only at hSw);go_simp;(try with_reducible rfl))
     try simp only[ap]
     refine xJ1 (i:=8) (v:=?_) rfl (by kernel_rfl) (by kernel_rfl) (by kernel_rfl) (by kernel_rfl) (by kernel_rfl) (fun _ _ _ h=>h) (Or.inl ⟨by rfl,?_⟩) (by assumption) ?_;rotate_left
     ·(intro w hSw;(try dsimp only at hSw);go_simp;(try with_reducible rfl))
     try simp only[ap]
     refine xJ1 (i:=9) (v:=?_) rfl (by kernel_rfl) (by kernel_rfl) (by kernel_rfl) (by kernel_rfl) (by kernel_rfl) (fun _ _ _ h=>h) (Or.inl ⟨by rfl,?_⟩) (by assumption) ?_;rotate_left
     ·(intro w hSw;(try dsimp only at hSw);go_simp;(try with_reducible rfl))
     try simp only[ap]
     refine xJ1 (i:=10) (v:=?_) rfl (by kernel_rfl) (by kernel_rfl) (by kernel_rfl) (by kernel_rfl) (by kernel_rfl) (fun _ _ _ h=>h) (Or.inl ⟨by rfl,?_⟩) (by assumption) ?_;rotate_left
     ·(intro w hSw;(try dsimp only at hSw);go_simp;(try with_reducible rfl))
     try simp only[ap]
     refine xJ4 (i:=11) (by kernel_rfl) rfl (fun K hK=>?_);go_simp
     gi_wp2
     have hSS:(W.alloc (.cells #[.int .u32 (xJ0 l),.int .i64 o.cost] 113)).drew.cell? ⟨(w.heap.size+1),0,none⟩=some (.map (some w.heap.size))/\(W.alloc (.cells #[.int .u32 (xJ0 l),.int .i64 o.cost] 113)).drew.cell? ⟨Bx,2,none⟩=some (.int .u32 (xJ0 l2))/\(W.alloc (.cells #[.int .u32 (xJ0 l),.int .i64 o.cost] 113)).drew.cell? ⟨Bx,1,none⟩=some (.int .i64 o.cost)/\(W.alloc (.cells #[.int .u32 (xJ0 l),.int .i64 o.cost] 113)).drew.cell? ⟨wr.heap.size,0,none⟩=some (.int .u32 (xJ0 l))/\(Instr.lookup 101 (.map (some w.heap.size)) (.int .u32 (xJ0 l2)) false).run Tryz.prog (W.alloc (.cells #[.int .u32 (xJ0 l),.int .i64 o.cost] 113)).drew=.ok vv (W.alloc (.cells #[.int .u32 (xJ0 l),.int .i64 o.cost] 113)).drew:=⟨(h4.alloc _).cell 0,(hx.alloc _).cell 2,(hx.alloc _).cell 1,(h10.alloc _).cell 0,hlook ((h1.1.alloc _).drew)⟩;refine hK.out _ _ hSS ?_;clear hK K
     try simp only[ap]
     refine xJ4 (i:=12) (by kernel_rfl) rfl (fun K hK=>?_);refine zZ2 (w:=(W.alloc (.cells #[.int .u32 (xJ0 l),.int .i64 o.cost] 113)).drew) rfl (.tmp 45) (.tmp 50) 111 rfl w.heap.size 113 i0 (.agg #[.int .u32 0,.int .i64 0]) 2 16 Tryz.underlying111 hi0 hq0.1 hq0.2.1 hq0.2.2 rfl (by decide) vv (rows' (xJ0 l2)).length ((rows' (xJ0 l2)).flatMap zQ7) rfl hrow1 ⟨W.heap.size,0,none⟩ 1 1 [.int .u32 (xJ0 l),.int .i64 o.cost] rfl rfl (xYc W _ rfl _ _) (by simp[Value.oneCell']) (by simp only[maxLen];omega) (by omega) (by simp;omega) ?_;intro v5 w5 hr5 hg5 _ hat5;have hA5:Arr w5 (w.heap.size+1) 101 [.map (some w.heap.size)]:=mvk;have hx5:Arr w5 Bx 110 [.int .i64 (p:Int),.int .i64 o.cost,.int .u32 (xJ0 l2)]:=mvk;have hb5:Arr w5 wr.heap.size 56 [.int .u32 (xJ0 l)]:=mvk;have hM5:MapF w5 w.heap.size nb' fb':=(by have h:=h1.1;exact mvk);have hSS:w5.cell? ⟨(w.heap.size+1),0,none⟩=some (.map (some w.heap.size))/\w5.cell? ⟨Bx,2,none⟩=some (.int .u32 (xJ0 l2))/\w5.cell? ⟨Bx,1,none⟩=some (.int .i64 o.cost)/\w5.cell? ⟨wr.heap.size,0,none⟩=some (.int .u32 (xJ0 l))/\(Instr.lookup 101 (.map (some w.heap.size)) (.int .u32 (xJ0 l2)) false).run Tryz.prog w5=.ok vv w5:=⟨hA5.cell 0,hx5.cell 2,hx5.cell 1,hb5.cell 0,hlook hM5⟩;refine hK.out _ _ hSS ?_;clear hK K
     try simp only[ap]
     refine xJd (i:=13) (by kernel_rfl) rfl (by kernel_rfl) (fun K hK=>?_);refine zYz (w:=w5) rfl (.tmp 39) (.tmp 41) (.tmp 51) 101 rfl 111 Tryz.underlying101 rfl hM5 (by omega) (xJ0 l2) v5 rfl rfl hwl2 ?_;intro w6 hM6 hg6;refine hK.out _ _ ?_;clear hK K
     try simp only[ap]
     refine xJ8 (by kernel_rfl) ?_ _;have hz5:=hg5.size;have hz6:=hg6.size;have hz1:W.heap.size+1<=w5.heap.size:=by simpa using hz5
     have hkf:∀ B',w.heap.size < B'->KeepsFrom B' W w6:=fun B' hB'=>
      (((((KeepsOthers.alloc W _).trans (KeepsOthers.drew _)).trans (KeepsOthers.of_grownBy hg5 (fun j o e1 e2=>by obtain⟨cu,h⟩:=xXe hrow1 e1;rw[h] at e2;injection e2 with e2;rw[<- e2];rfl))).from _).trans (KeepsFrom.of_grownBy hg6 (fun j e=>by injection e with e;omega)))
     have hb6:w6.heap[w4.heap.size+1]? = W.heap[w4.heap.size+1]?:=by
      refine (hg6.block _ (by omega) (fun e=>by injection e with e;omega)).trans ((hg5.block _ (by simp;omega) (fun e=>?_)).trans (Below.heap_alloc W _ _ (by omega)));obtain⟨cu,h⟩:=xXe hrow e.symm;rw[hb2W] at h;injection h with h;injection h with _ h;exact absurd h (by decide)
     have hB5:Below w.heap.size W w5:=by
      have hb0:Below w.heap.size W (W.alloc (.cells #[.int .u32 (xJ0 l),.int .i64 o.cost] 113)):=(Below.refl _ W).alloc hsW _;exact mvk
     have hB6:Below w.heap.size W w6:=mvk;have hBk6:Back w.heap.size w6 w.heap.size (up1 fb' (xJ0 l2) nb') (upd fb' (xJ0 l2) v5) (vVn rows' (xJ0 l2) (rows' (xJ0 l2) ++ [(l,o.cost)])):=by
      have h0:Back w.heap.size (W.alloc (.cells #[.int .u32 (xJ0 l),.int .i64 o.cost] 113)).drew w.heap.size nb' fb' rows':=mvk;refine h0.push (w':=w5) hwl2 ?_ (by rw[<- hvv.out];exact hg5) (by rw[<- hvv.out];exact hat5) hM6 hM5 hg6;exact hr5
     have hun:=zZ4 fb' (xJ0 l2) nb';have h9':=h9;have hQ5:Que (w.heap.size+1+1+1) (w.heap.size+1+1+1+1) (w.heap.size+1+1+1) w5 nq2 fq2:=Que.by_row hrow1 hg5 rfl ((h6.alloc _).drew);have hQ6:Que (w.heap.size+1+1+1) (w.heap.size+1+1+1+1) (w.heap.size+1+1+1) w6 nq2 fq2:=mvk;have hMO6:MapF w6 (w.heap.size+1+1) (up1 fO (xJ0 l) nO) fO2:=mvk;have hb11:Arr w5 (w4.heap.size+1) 56 [.int .u32 (xJ0 l)]:=mvk;have hmk5:MarksOk w.heap.size ds w5:=mvk;refine⟨hkf _ (by simp;omega),⟨hB6,hb6⟩,_,_,_,hBk6,by rw[List.length_append];simp;omega,?_,mvk,hMO6,hQ6,?_,h8.trans hB6,mvk,mvk,mvk,by omega⟩
     ·intro x;unfold vVn;have h:=h3' x
      split
      ·rename_i e
       subst e;rw[List.length_append,List.length_append];simp;omega
      ·rw[List.length_append];omega
     ·rw[List.map_append];exact h7.out.push (p,o,l2)
    case hdone=>
     intro D xs W hD hxs hi hDh;obtain⟨nb',fb',rows',h1,h2,h3,h4,h5,h6,h7,h8,h9,h10,h11,h12⟩:=hi;have hlx:xs.length<=40:=by
      have e1:=congrArg List.length hxs;rw[List.length_map] at e1;have:=xZh (n:=n) (ops:=t.ops) (l:=l) t.ops.length;omega
     have HMK:=lHd (h9.cons hDh (by simp at hD;omega) (((hm4.alloc _).alloc _).lt hD));have HR2:=lHd (h7.out.fin hxs);have HRL2:=lHd (fun x=>Nat.le_trans (h3.out x) (show 40 * k+xs.length<=40 * (k+1) by omega));have hu:=zZ4 fO (xJ0 l) nO;clear h7 h9 h3 hDh hm4 hwm hBk hBk4 hA hA4 hA40 hMo hMO4 hQ hQ4 hqm hx4 hBw;go_wp2;refine Handed.intro (ls.length - (k+1)) ?measure (hJ _ _ _ ⟨xWu D :: ds,.int .i64 ((k:Int)+1),zJ7 ?rel1 rfl⟩)
     case measure=>
      have h:=HG.out.out;omega
     case rel1=>exact⟨k+1,nb',_,nq2,fb',fO2,fq2,rows',by omega,by go_num,h1,by omega,HRL2.out,h4,h5,by omega,h6,hnq3,HO2.out,by rw[htk];exact HR2.out,h8,HMK.out,rfl⟩
  ·have hke:k=ls.length:=by omega
   subst hke;rw[List.take_length] at hO1 hR;have hqm:=hQ.obj;have HD0:=lHd (vJj (n:=n) hO1.out (fun o ho=>(HV.out.ops o ho).2.2.2.1));have HV0:=lHd (zK1 hO1.out);have HR:=lHd (hR.out);have HM:=lHd hmk;clear hO1 hR hgk hlt hJ;go_wp2;refine wp_loop_ghost_k (fun gk a wr=>∃ F:Array Value,(∃ (nq:Nat) (fO:Int->Option Value) (fq:Int->Option Int) (D:List Int->Int),Back w.heap.size wr w.heap.size nb fb rows/\Arr wr (w.heap.size+1) 101 [.map (some w.heap.size)]/\MapF wr (w.heap.size+1+1) nO fO/\Que (w.heap.size+1+1+1) (w.heap.size+1+1+1+1) (w.heap.size+1+1+1) wr nq fq/\Hid (Lab n t.ops t.goal ls D fq)/\Hid (∀ l∈ls,fO (xJ0 l)=some (.int .i64 (D l)))/\Below w.heap.size w wr/\MarksOk w.heap.size ds wr/\Hid (gk=2 * xKt ls D+nq))/\a={ tmps:=#[.pointer (some ⟨g,0,none⟩),.slice A ls.length c,fr F 2,fr F 3,.map none,.pointer (some ⟨(w.heap.size+1),0,none⟩),.map (some (w.heap.size+1+1)),.pointer (some ⟨(w.heap.size+1+1+1+1),0,none⟩),fr F 8,fr F 9,fr F 10,fr F 11,fr F 12,fr F 13,fr F 14,fr F 15,fr F 16,fr F 17,fr F 18,fr F 19,fr F 20,fr F 21,fr F 22,fr F 23,fr F 24,fr F 25,fr F 26,fr F 27,fr F 28,fr F 29,fr F 30,fr F 31,fr F 32,fr F 33,fr F 34,fr F 35,fr F 36,fr F 37,fr F 38,fr F 39,fr F 40,fr F 41,fr F 42,fr F 43,fr F 44,fr F 45,fr F 46,fr F 47,fr F 48,fr F 49,fr F 50,fr F 51,fr F 52,fr F 53,fr F 54,fr F 55,fr F 56,fr F 57,fr F 58,fr F 59,fr F 60,fr F 61,fr F 62,fr F 63,fr F 64,fr F 65,fr F 66,fr F 67,fr F 68,fr F 69,fr F 70,fr F 71,fr F 72,fr F 73,fr F 74,fr F 75,fr F 76,fr F 77,fr F 78,fr F 79,fr F 80,fr F 81,fr F 82,fr F 83,fr F 84,fr F 85,fr F 86,fr F 87,fr F 88,fr F 89,fr F 90,fr F 91,fr F 92,fr F 93,fr F 94,fr F 95],defers:=ds }) (2 * xKt ls (D00 t.goal)+nq) ?start2 ?round2
   case start2=>exact zJ7 ⟨nq,fO,fq,D00 t.goal,hBk,hA,hMo,hQ,HD0.out,HV0.out,hB,HM.out,rfl⟩ rfl
   case round2=>
    clear HD0 HV0 HM hBk hA hMo hQ hB hmk hqm hnq;intro gk a wr hinv;obtain⟨F,⟨nq,fO,fq,D,hBk,hA,hMo,hQ,hL,hVal,hB,hmk,hgk⟩,rfl⟩:=hinv;intro J K hJ hK;have hcnt:=hQ.count hL.out.qs
    by_cases h0:nq=0
    ·subst h0;have hemp:=hQ.empty;have HB:=lHd (fun (l:List Int) (hl:l∈ls)=>hL.out.best hemp HC.out.closed hl);have HM:=lHd hmk;clear hL hemp hmk hgk
     go_wp2_with (go_at_call 58;(refine (xYl hQ).mono ?_);rintro e w9 ⟨rfl,rfl⟩)
     (try simp only[Exit.inBlock,Exit.then])
     refine zZu rfl HM.out ?_;intro W' hW';exact⟨hB.trans hW'.below,_,_,fO,D,rfl,hMo.mturn hW',fun l hl=>⟨hVal.out l hl,HB.out l hl⟩⟩
    ·have hqm:=hQ.obj;have hnn:0 < nq:=by omega
     go_wp2_with (first | (go_at_call 58;(refine (xYl hQ).mono ?_);rintro e w9 ⟨rfl,rfl⟩) | (go_at_call 59;(refine (zXl hQ hnn).mono ?_);rintro e w2 ⟨x,d,hx,hfx,_,rfl,hQ2,hU2⟩;have hA2:Arr w2 (w.heap.size+1) 101 [.map (some w.heap.size)]:=mvk;have hc2:=hA2.cell 0;have hBk2:Back w.heap.size w2 w.heap.size nb fb rows:=mvk;have hlk:=hBk2.1.look Tryz.underlying101 (zZ3 w2) hx;obtain⟨Ab,cb,hvf⟩:=(hBk2.2.1 x).form;have hrow:=hBk2.2.1 x;rw[hvf] at hlk hrow;have hvb:=lHd hvf;clear hvf;obtain⟨l,hlm,rfl⟩:=hL.out.qs x (by rw[hfx];simp)))
     have hL1:=lHd (hL.out.take hlm HC.out.set hfx);have hMo2:MapF w2 (w.heap.size+1+1) nO fO:=mvk;have hB2:Below w.heap.size w w2:=mvk;have hm2:MarksOk w.heap.size ds w2:=mvk;have hHJ:=lHd hJ;have hlen:=hrl.out (xJ0 l);have HAR:=lHd (HR.out.arcs (HC.out.set l hlm));have hdl : -1000000000<=d/\d<=1000000000:=by have h1:=hL.out.qk l hlm d hfx;have h2:=hL.out.lo l hlm;omega
     clear hA hBk hMo hQ hL hB hmk hU2 hc2 hlk hfx hqm hJ hcnt;refine wp_loop_ghost_k (fun gk a wr=>∃ (vi:Value) (F:Array Value),(∃ (j nq3:Nat) (fO3:Int->Option Value) (fq3:Int->Option Int) (D3:List Int->Int),j<=(rows (xJ0 l)).length/\vi=.int .i64 (j:Int)/\Back w.heap.size wr w.heap.size nb fb rows/\Arr wr (w.heap.size+1) 101 [.map (some w.heap.size)]/\MapF wr (w.heap.size+1+1) nO fO3/\Que (w.heap.size+1+1+1) (w.heap.size+1+1+1+1) (w.heap.size+1+1+1) wr nq3 fq3/\Hid (Lab1 n t.ops t.goal ls D3 fq3 l d ((rows (xJ0 l)).take j))/\Hid (∀ l∈ls,fO3 (xJ0 l)=some (.int .i64 (D3 l)))/\Below w.heap.size w wr/\MarksOk w.heap.size ds wr/\Hid (2 * xKt ls D3+nq3<=2 * xKt ls D+(nq - 1))/\Hid (gk=(rows (xJ0 l)).length - j))/\a={ tmps:=#[.pointer (some ⟨g,0,none⟩),.slice A ls.length c,fr F 2,fr F 3,.map none,.pointer (some ⟨(w.heap.size+1),0,none⟩),.map (some (w.heap.size+1+1)),.pointer (some ⟨(w.heap.size+1+1+1+1),0,none⟩),fr F 8,fr F 9,fr F 10,.int .u32 (xJ0 l),.int .i64 d,fr F 13,fr F 14,fr F 15,fr F 16,fr F 17,fr F 18,fr F 19,fr F 20,fr F 21,fr F 22,fr F 23,fr F 24,fr F 25,fr F 26,fr F 27,fr F 28,fr F 29,fr F 30,fr F 31,fr F 32,fr F 33,fr F 34,fr F 35,fr F 36,fr F 37,fr F 38,fr F 39,fr F 40,fr F 41,fr F 42,fr F 43,fr F 44,fr F 45,fr F 46,fr F 47,fr F 48,fr F 49,fr F 50,fr F 51,fr F 52,fr F 53,fr F 54,fr F 55,fr F 56,fr F 57,fr F 58,fr F 59,fr F 60,fr F 61,fr F 62,fr F 63,.slice Ab (rows (xJ0 l)).length cb,.int .i64 ((rows (xJ0 l)).length:Int),vi,fr F 67,fr F 68,fr F 69,fr F 70,fr F 71,fr F 72,fr F 73,fr F 74,fr F 75,fr F 76,fr F 77,fr F 78,fr F 79,fr F 80,fr F 81,fr F 82,fr F 83,fr F 84,fr F 85,fr F 86,fr F 87,fr F 88,fr F 89,fr F 90,fr F 91,fr F 92,fr F 93,fr F 94,fr F 95],defers:=ds }) (rows (xJ0 l)).length ?start3 ?round3
     case start3=>exact⟨.int .i64 0,zJ7 ⟨0,nq - 1,fO,xKu fq (xJ0 l),D,Nat.zero_le _,rfl,hBk2,hA2,hMo2,hQ2,hL1.out,hVal.out,hB2,hm2,Nat.le_refl _,rfl⟩ rfl⟩
     case round3=>
      clear hBk2 hA2 hMo2 hQ2 hL1 hVal hB2 hm2;intro gk3 a wr3 hinv;obtain⟨vi,F3,⟨j,nq3,fO3,fq3,D3,hj,rfl,hBk,hA,hMo,hQ,hL,hVal,hB,hmk,hsum,hg3⟩,rfl⟩:=hinv;intro J3 K3 hJ3 hK3
      by_cases hlt:j < (rows (xJ0 l)).length
      ·obtain⟨⟨s,c3⟩,har⟩:∃ x,(rows (xJ0 l))[j]? = some x:=⟨_,lGe hlt⟩;obtain⟨gr,rfl,hgr,hc0,hc1⟩:=(hBk.2.1 (xJ0 l) |> fun h=>(by rw[hvb.out] at h;exact h:OwnA w.heap.size wr3 (.slice Ab (rows (xJ0 l)).length cb) (rows (xJ0 l)))).at_ har;dsimp only at hc0 hc1;obtain⟨hsm,p,o,ho,hpre,hnx,hce⟩:=(HAR.out (s,c3)).1 (lMg har);dsimp only at hsm hpre hnx hce;have hoc:=HV.out.ops o (lMg ho);have hc3:0<=c3/\c3<=100:=by rw[hce];exact⟨hoc.2.2.2.1,hoc.2.2.2.2.1⟩
       have hws:=(HC.out.set s hsm).wrd hn24;have hDs:=hL.out.lo s hsm;have hlk:=(hMo.alloc (.cells #[.int .u32 (xJ0 s),.int .i64 c3] 113)).look Tryz.underlying54 (xQq _) hws;rw[hVal.out s hsm] at hlk;have htk:(rows (xJ0 l)).take (j+1)=(rows (xJ0 l)).take j ++ [(s,c3)]:=by rw[List.take_add_one,har];rfl
       have hbl:=hA.lt;have hqm:=hQ.obj
       by_cases hrel:d+c3 < D3 s
       ·have HSET:∀ W:World,Que (w.heap.size+1+1+1) (w.heap.size+1+1+1+1) (w.heap.size+1+1+1) W nq3 fq3->Calls Tryz.prog 56 #[.pointer (some ⟨(w.heap.size+1+1+1+1),0,none⟩),.int .u32 (xJ0 s),.int .i64 (d+c3)] W (vKy (w.heap.size+1+1+1) (w.heap.size+1+1+1+1) (w.heap.size+1+1+1) W (upN fq3 (xJ0 s) nq3) (xZ1 fq3 (xJ0 s) (d+c3))):=fun W hW=>by
         have hn3:=hW.count hL.out.qs
         cases hf:fq3 (xJ0 s) with
         | none=>
          have h:=xWw hW (xJ0 s) (d+c3) hws hf (by omega);unfold upN;rw[hf];exact h
         | some k0=>
          have h:=zQw hW (xJ0 s) (d+c3) hws (by rw[hf];rfl);unfold upN;rw[hf];exact h
        have HL2:=lHd (hL.out.relax HC.out.set (a:=(s,c3)) hsm ho hpre hnx hce hoc.2.2.2.1 hrel);have HV2:Hid (∀ l'∈ls,upd fO3 (xJ0 s) (.int .i64 (d+c3)) (xJ0 l')=some (.int .i64 (xV9 D3 s (d+c3) l'))):=fun l' hl'=>by
         unfold xV9
         by_cases e:l'=s
         ·subst e;rw[xX1,if_pos rfl]
         ·rw[xJe _ _ (fun e1=>e (xJi (HC.out.set l' hl') (HC.out.set s hsm) e1)),if_neg e];exact hVal.out l' hl'
        have hu1:up1 fO3 (xJ0 s) nO=nO:=by unfold up1;rw[hVal.out s hsm];rfl
        have hsl:=zQ6 HC.out.nd hsm (by have:=hL.out.lo l hlm;have h2:=hL.out.cur;omega) hrel;have hup:upN fq3 (xJ0 s) nq3<=nq3+1:=by unfold upN;split <;> omega
        have HS2:Hid (2 * xKt ls (xV9 D3 s (d+c3))+upN fq3 (xJ0 s) nq3<=2 * xKt ls D+(nq - 1)):=by
         have h1:=hsum.out;show _<=_;omega
        have hnO2:nO<=2000:=by omega
        clear hL hVal hsum hsl hup hpre hnx hce hoc ho
        go_wp2_with (first | (at_mapUpdate;refine xX7 rfl (.tmp 79) (.tmp 81) (.tmp 85) 54 rfl 3 Tryz.underlying54 rfl (hMo.alloc _) (by omega) (xJ0 s) (.int .i64 (d+c3)) rfl rfl hws ?_;intro w5 hM5 hg5;have hMa:=hMo.alloc (.cells #[.int .u32 (xJ0 s),.int .i64 c3] 113);rw[hu1] at hM5;have hx5:Arr w5 wr3.heap.size 113 [.int .u32 (xJ0 s),.int .i64 c3]:=Arr.by_map hMa hg5 (Arr.new wr3 113 _);have hx50:w5.cell? ⟨wr3.heap.size,0,none⟩=some (.int .u32 (xJ0 s)):=hx5.cell 0;have hx51:w5.cell? ⟨wr3.heap.size,1,none⟩=some (.int .i64 c3):=hx5.cell 1;have hQ5:Que (w.heap.size+1+1+1) (w.heap.size+1+1+1+1) (w.heap.size+1+1+1) w5 nq3 fq3:=mvk) | (go_at_call 56;(refine (HSET _ hQ5).mono ?_);rintro e w6 ⟨rfl,hQ6,hU6⟩))
        have hqm5:=hQ5.obj;refine Handed.intro ((rows (xJ0 l)).length - (j+1)) ?measure5 (hJ3 _ _ _ ⟨.int .i64 ((j:Int)+1),zJ7 ⟨j+1,upN fq3 (xJ0 s) nq3,upd fO3 (xJ0 s) (.int .i64 (d+c3)),xZ1 fq3 (xJ0 s) (d+c3),xV9 D3 s (d+c3),by omega,by go_num,mvk,mvk,mvk,hQ6,(by rw[htk];exact HL2.out),HV2.out,mvk,mvk,HS2.out,rfl⟩ rfl⟩)
        case measure5=>
         have h1:=hg3.out;omega
       ·have HL2:=lHd (hL.out.skip (a:=(s,c3)) (by dsimp only;omega));clear hL hpre hnx hce hoc ho;go_wp2;refine Handed.intro ((rows (xJ0 l)).length - (j+1)) ?measure4 (hJ3 _ _ _ ⟨.int .i64 ((j:Int)+1),zJ7 ⟨j+1,nq3,fO3,fq3,D3,by omega,by go_num,mvk,mvk,mvk,mvk,(by rw[htk];exact HL2.out),hVal.out,mvk,mvk,hsum.out,rfl⟩ rfl⟩)
        case measure4=>
         have h1:=hg3.out;omega
      ·have hje:j=(rows (xJ0 l)).length:=by omega
       subst hje;have HL:=lHd (by have h:=hL.out;rw[List.take_length] at h;exact h.fin HAR.out:Lab n t.ops t.goal ls D3 fq3);have HM:=lHd hmk;clear hL hlt hmk hJ3;go_wp2;refine Handed.intro (2 * xKt ls D3+nq3) ?measure3 (hHJ.out _ _ _ (zJ7 ⟨nq3,fO3,fq3,D3,hBk,hA,hMo,hQ,HL.out,hVal.out,hB,HM.out,rfl⟩ rfl))
       case measure3=>
        have h1:=hgk.out;have h2:=hsum.out;omega
end
theorem zY1(w:World)(t:TaskV)(Ai Ag Ao:Option Addr)(ci cg co:Nat)(hT:TaskMem w Ai Ag Ao t)(h:¬ (xJn t).1=0) :
  Calls Tryz.prog 5 #[.agg #[.int .i64 t.facts,.slice Ai t.init.length ci,.slice Ag t.goal.length cg,.slice Ao t.ops.length co]] w fun e w'=>e=.returned (.tuple #[.int .i64 0,.agg #[.int .i64 (xJn t).1,.int .i64 (xJn t).2]])/\Below w.heap.size w w':=by
 have N:=vYl h;have N':=vQp h;go_enter Tryz.func5,Tryz.ntmps5
 go_wp2_with fail
 refine (zYe _ _ _ _ _ _ _ _ (hT.below bch) h).mono ?_;rintro e w1 ⟨rfl,hB1⟩;have D1:=xJ3 w hB1 bch;have C1:=Cls.below (l:=[(w.heap.size,0,.int .i64 t.facts),(w.heap.size,1,.slice Ai t.init.length ci),(w.heap.size,2,.slice Ag t.goal.length cg),(w.heap.size,3,.slice Ao t.ops.length co),(w.heap.size+1,0,.int .i64 0),(w.heap.size+1,1,.int .i64 0)]) hB1 (by simp[Cls,go_sem]);have F1:=C1;simp only[Cls,and_true] at F1;have y1w1:w.heap.size+1 < w1.heap.size:=C1.blk (b:=w.heap.size+1) (k:=0) (v:=.int .i64 0) (by simp)
 go_wp2_with fail
 refine xJa 2 (by kernel_rfl) (by kernel_rfl) ?_;simp only[List.take_succ_cons,List.take_zero,List.drop_succ_cons,List.drop_zero]
 repeat still_step
 try refine wpStill_nil ?_
 go_wp2;refine bodyPost_ret (v:=.tuple #[.int .i64 0,.agg #[.int .i64 (xJn t).1,.int .i64 (xJn t).2]]) ?_ rfl ⟨rfl,bch⟩;simp[results,Tryz.results5,go_sem,F1,y1w1]
def zQx(n:Nat)(t:TaskV)(w:World)(e:Ending)(w':World):Prop:=Below w.heap.size w w' /\
 (
   (e=.returned (.tuple #[.int .i64 0,.agg #[.int .i64 10,.int .i64 (-7)]])/\∃ ls:List (List Int),ls.Nodup/\ls.length=2001/\∀ l∈ls,∃ c,Cst n t.ops t.init l c) \/
   (∃ d,e=.returned (.tuple #[.int .i64 d,.agg #[.int .i64 0,.int .i64 0]])/\RBest n t.ops t.goal t.init d/\∃ ls,Clos n t.ops t.init ls/\ls.length<=2000))
theorem xW2(w:World)(t:TaskV)(Ai Ag Ao:Option Addr)(ci cg co:Nat)(hT:TaskMem w Ai Ag Ao t)(n:Nat)(hn:t.facts=n)(hv:Valid t) :
  Calls Tryz.prog 5 #[.agg #[.int .i64 t.facts,.slice Ai t.init.length ci,.slice Ag t.goal.length cg,.slice Ao t.ops.length co]] w ((zQx n t w)):=by
 have HS:=lHd (zJq hv hn);have hn24:n<=24:=HS.out.n24;have HCK:∀ w0:World,TaskMem w0 Ai Ag Ao t->Calls Tryz.prog 16 #[.agg #[.int .i64 t.facts,.slice Ai t.init.length ci,.slice Ag t.goal.length cg,.slice Ao t.ops.length co]] w0 (CheckedP n t w0):=fun w0 h=>xW5 w0 t Ai Ag Ao ci cg co h n hn hv
 have hk0:Wrd (xJ0 t.init):=HS.out.init.wrd hn24;clear hv hn;go_enter Tryz.func5,Tryz.ntmps5
 go_wp2_with fail
 refine (HCK _ (hT.below bch)).mono ?_;rintro e w1 ⟨hB1,hR1⟩;have D1:=xJ3 w hB1 bch;have C1:=Cls.below (l:=[(w.heap.size,0,.int .i64 t.facts),(w.heap.size,1,.slice Ai t.init.length ci),(w.heap.size,2,.slice Ag t.goal.length cg),(w.heap.size,3,.slice Ao t.ops.length co),(w.heap.size+1,0,.int .i64 0),(w.heap.size+1,1,.int .i64 0)]) hB1 (by simp[Cls,go_sem]);have F1:=C1;simp only[Cls,and_true] at F1;have y1w1:w.heap.size+1 < w1.heap.size:=C1.blk (b:=w.heap.size+1) (k:=0) (v:=.int .i64 0) (by simp);have y1w0:w.heap.size < w1.heap.size:=(by omega);rcases hR1 with ⟨rfl,HTOO⟩ | ⟨g,v,ls,rfl,hW,hO,hC,hl⟩
 ·have HT1:=lHd HTOO;clear HTOO
  go_wp2_with fail
  refine xJa 2 (by kernel_rfl) (by kernel_rfl) ?_;simp only[List.take_succ_cons,List.take_zero,List.drop_succ_cons,List.drop_zero]
  repeat still_step
  try refine wpStill_nil ?_
  go_wp2;refine bodyPost_ret (v:=.tuple #[.int .i64 0,.agg #[.int .i64 10,.int .i64 (-7)]]) ?_ rfl ⟨?_,.inl ⟨rfl,HT1.out⟩⟩
  ·simp[results,Tryz.results5,go_sem,F1,y1w1,y1w0]
  ·exact mvk
 ·obtain⟨A,c,rfl⟩:=hO.form;have HC:=lHd hC;clear hC
  go_wp2_with fail
  go_at_call 17;refine (zK2 (hW.below bl) HS.out (xQ7 hO bl) HC.out hl).mono ?_;rintro e w2 ⟨hB2,mo,N,f,D,rfl,hM2,hD2⟩;have D2:=xJ3 w hB2 bch;have C2:=Cls.below (l:=[(w.heap.size,0,.int .i64 t.facts),(w.heap.size,1,.slice Ai t.init.length ci),(w.heap.size,2,.slice Ag t.goal.length cg),(w.heap.size,3,.slice Ao t.ops.length co),(w.heap.size+1,0,.int .i64 0),(w.heap.size+1,1,.int .i64 0),(w1.heap.size,0,.int .i64 0),(w1.heap.size,1,.int .i64 0)]) hB2 (by simp[Cls,go_sem,F1,y1w1,y1w0]);have F2:=C2;simp only[Cls,and_true] at F2;have y2w1:w.heap.size+1 < w2.heap.size:=C2.blk (b:=w.heap.size+1) (k:=0) (v:=.int .i64 0) (by simp);have y2w10:w1.heap.size < w2.heap.size:=C2.blk (b:=w1.heap.size) (k:=0) (v:=.int .i64 0) (by simp);have hv0:=hD2 t.init HC.out.hst;have HRB:=lHd hv0.2;have hlk:=hM2.look Tryz.underlying54 (xQq _) hk0;rw[hv0.1] at hlk;clear hv0 hD2
  go_wp2_with (go_at_call 18;refine (xVz ((hW.below bl).below hB2)).mono ?_;rintro e w' ⟨rfl,rfl⟩)
  refine bodyPost_ret (v:=.tuple #[.int .i64 (D t.init),.agg #[.int .i64 0,.int .i64 0]]) ?_ rfl ⟨?_,.inr ⟨D t.init,rfl,HRB.out,ls,HC.out,hl⟩⟩
  ·simp[results,Tryz.results5,go_sem,F2,y2w1,y2w10]
  ·exact mvk
section
variable {y n:Nat}{P:Program}{ops:Array Oper}{Q:Exit->Act->World->Prop}{md:Region.Mode}
def zZ5(o:Oper):Bool:=match o.op with | .defer _=>false | _=>true
theorem zK4{o:Oper}{a:Act}{K:Act->World->Prop}{r:Result Next}(h:o.upon P a K Q r):o.uponIn (Fence.wide.inRound y) n P a K Q r:=by
 cases r with
 | ok x w'=>
  cases x with
  | value v=>exact h
  | skip=>exact h
  | defer d=>exact h
  | enter f args=>exact⟨(fun h0=>by cases h0),CallsIn.inRound y (callsIn_wide.2 h)⟩
  | row row args=>exact⟨(fun h0=>by cases h0),fun c cs _=>by obtain⟨v,w'',r,s⟩:=h c cs;exact⟨v,w'',r,stepsIn_wide.2 s⟩⟩
  | _=>exact h.elim
 | halt x w'=>cases x <;> first | exact h | exact h.elim
theorem vY5{o:Oper}(hp:zZ5 o=true){a:Act}{w:World}{K:Act->World->Prop}(h:Oper.wp P o a w K Q):Oper.wpIn (Fence.wide.inRound y) n P o a w K Q:=by
 unfold Oper.wp at h;unfold Oper.wpIn;rw[Oper.semAt_plain _ a.eval _ (fun c hc=>by unfold zZ5 at hp;rw[hc] at hp;cases hp)];exact⟨fun f _=>trivial,zK4 h⟩
theorem zZ6(hL:¬ LetsOut Q){i:Nat}{K:Act->World->Prop}{a:Act}{w:World}(hp:∀ o,ops[i]? = some o->zZ5 o=true)(h:wpOp P ops Q i K a w):wpOpIn (Fence.wide.inRound y) n P ops Q i K a w:=by
 unfold wpOp at h;unfold wpOpIn
 cases ho:ops[i]? with
 | none=>rw[ho] at h;exact h
 | some o=>
  rw[ho] at h;dsimp only at h ⊢
  by_cases hw:Region.wanted o (yielded ops a.tmps)=true
  ·rw[if_pos hw] at h ⊢;rcases h with h | h
   ·exact vY5 (hp o ho) h
   ·exact absurd h.2 hL
  ·rw[if_neg hw] at h ⊢;exact⟨fun f _=>trivial,h⟩
theorem zZ7(hL:¬ LetsOut Q)(hp:∀ (i:Nat) (o:Oper),ops[i]? = some o->zZ5 o=true):∀ (fuel:Nat) (listed:Array Bool) (a:Act) (w:World),wpAny P md ops Q fuel listed a w->wpAnyIn (Fence.wide.inRound y) n P md ops Q fuel listed a w
 | 0,_,_,_,h=>h
 | fuel+1,_,_,_,h=>⟨h.1,fun i hi=>zZ6 hL (hp i) (wpOp_mono (fun a' w' h'=>zZ7 hL hp fuel _ a' w' h') (h.2 i hi))⟩
theorem xZl{id:Nat}{a:Act}{w:World}(S:World->Prop)(X:List Nat)(hm:P.follows .mixedOrders=true)(hp:ops.all zZ5=true)(hL:∀ a w,Q .outgrown a w->False)
  (h:xJx P .any ops Q S X ops.size (Array.replicate ops.size false) a w.drew):(Code.region id ops true).wpIn (Fence.wide.inRound y) n P Q a w:=
 wpIn_region_any hm (zZ7 (fun ⟨a,w,h⟩=>hL a w h) (fun i o ho=>Array.all_eq_true'.1 hp o (Array.mem_of_getElem? ho)) _ _ _ _ (xQl _ _ _ _ h))
end
section
variable {P:Program}{ops:Array Oper}{Q:Exit->Act->World->Prop}
def vQd(Q:Exit->Act->World->Prop):Exit->Act->World->Prop
 | .normal,a,w=>Q .normal a w
 | _,_,_=>False
theorem vQe:∀ e a w,vQd Q e a w->Q e a w:=fun e a w h=>by cases e <;> first | exact h | exact h.elim
theorem xKc{id:Nat}{a:Act}{w:World}(S:World->Prop)(X:List Nat)(hm:P.follows .mixedOrders=true)
  (h:xJx P .any ops (vQd Q) S X ops.size (Array.replicate ops.size false) a w.drew):(Code.region id ops true).wp P Q a w:=
 Code.wp_mono vQe (xJk S X hm h)
end
theorem zYx(c:Int)(h:0<=c/\c<=100)(w:World):Calls Tryz.prog 80 #[.int .i64 c] w fun e w'=>e=.returned (.int .i64 (c * 4096+1))/\w=w':=by
 go_enter Tryz.func80,Tryz.ntmps80;go_wp2;go_ret;exact⟨rfl,rfl⟩
theorem zYq{ops:List OpV}{pl:List Int}{k op:Nat}{o:OpV}(h:pl[k]? = some (op:Int))(ho:ops[op]? = some o):(pl.take (k+1)).map (fun x=>xJ2 (ops.map (·.cost)) x)=(pl.take k).map (fun x=>xJ2 (ops.map (·.cost)) x) ++ [o.cost]:=by
 rw[List.take_add_one,h];have:xJ2 (ops.map (·.cost)) (op:Int)=o.cost:=xJ9 (by simp[ho]);simp[this]
def xZx(ops:List OpV)(pl:List Int):Int:=(pl.map fun x=>xJ2 (ops.map (·.cost)) x).sum
theorem zYr{ops:List OpV}{pl:List Int}{k op:Nat}{o:OpV}(h:pl[k]? = some (op:Int))(ho:ops[op]? = some o):xZx ops (pl.take (k+1))=xZx ops (pl.take k)+o.cost:=by
 unfold xZx;rw[zYq h ho,List.sum_append];simp
theorem zVc{ops:List OpV}(hc:∀ o∈ops,0<=o.cost/\o.cost<=100):∀ (pl:List Int),(∀ x∈pl,0<=x/\x < (ops.length:Int))->0<=xZx ops pl/\xZx ops pl<=100 * pl.length
 | [],_=>by simp[xZx]
 | x :: pl,hx=>by
  have ih:=zVc hc pl (fun y hy=>hx y (List.mem_cons_of_mem _ hy));obtain⟨h0,h1⟩:=hx x (List.mem_cons_self ..);obtain⟨op,rfl⟩:=Int.eq_ofNat_of_zero_le h0;have ho:ops[op]? = some ops[op]:=lGe (by omega);have hv:xJ2 (ops.map (·.cost)) (op:Int)=ops[op].cost:=xJ9 (by simp[ho]);have hc':=hc _ (lMg ho);have e:xZx ops ((op:Int) :: pl)=ops[op].cost+xZx ops pl:=by unfold xZx;rw[List.map_cons,List.sum_cons,hv]
  rw[e];simp only[List.length_cons];omega
theorem vJ2(w:World)(t:TaskV)(Ai Ag Ao:Option Addr)(ci cg co:Nat)(hT:TaskMem w Ai Ag Ao t)(A:Option Addr)(c:Nat)(xs:List Int)(hS:Ints w A xs)(fnd:Bool)(ne:Int)(hl:xs.length < 1000000000)(h60:60 < xs.length) :
  Calls Tryz.prog 30 #[.agg #[.int .i64 t.facts,.slice Ai t.init.length ci,.slice Ag t.goal.length cg,.slice Ao t.ops.length co],.slice A xs.length c,.bool fnd,.int .i64 ne] w fun e w'=>e=.returned (.tuple #[.agg #[.bool false,.slice none 0 0,.int .i64 0,.int .i64 0],.agg #[.int .i64 10,.int .i64 (-9)]])/\Below w.heap.size w w':=by
 go_enter Tryz.func30,Tryz.ntmps30;go_wp2;refine bodyPost_ret (v:=.tuple #[.agg #[.bool false,.slice none 0 0,.int .i64 0,.int .i64 0],.agg #[.int .i64 10,.int .i64 (-9)]]) ?_ rfl ⟨rfl,bch⟩;simp[results,Tryz.results30,go_sem]
theorem zXu(w:World)(t:TaskV)(Ai Ag Ao:Option Addr)(ci cg co:Nat)(hT:TaskMem w Ai Ag Ao t)(A:Option Addr)(c:Nat)(xs:List Int)(hS:Ints w A xs)(fnd:Bool)(ne:Int)(hl:xs.length < 1000000000)(h60:xs.length<=60)(hx:∀ x∈xs,0<=x/\x < (t.ops.length:Int))(hco:∀ o∈t.ops,0<=o.cost/\o.cost<=100) :
  Calls Tryz.prog 30 #[.agg #[.int .i64 t.facts,.slice Ai t.init.length ci,.slice Ag t.goal.length cg,.slice Ao t.ops.length co],.slice A xs.length c,.bool fnd,.int .i64 ne] w fun e w'=>e=.returned (.tuple #[.agg #[.bool fnd,.slice A xs.length c,.int .i64 (xZx t.ops xs),.int .i64 ne],.agg #[.int .i64 0,.int .i64 0]])/\Below w.heap.size w w':=by
 have HXS:=lHd hx;have HCO:=lHd hco;clear hx hco;go_enter Tryz.func30,Tryz.ntmps30;go_wp2
 go_loopw [24] (fun i wr=>∃ k:Nat,k<=xs.length/\i=.int .i64 k/\Arr wr (w.heap.size+1+1+1) 32 [.bool fnd,.slice A xs.length c,.int .i64 (xZx t.ops (xs.take k)),.int .i64 ne]/\Below w.heap.size w wr/\Cls wr [(w.heap.size,0,.int .i64 t.facts),(w.heap.size,1,.slice Ai t.init.length ci),(w.heap.size,2,.slice Ag t.goal.length cg),(w.heap.size,3,.slice Ao t.ops.length co),(w.heap.size+1,0,.bool false),(w.heap.size+1,1,.slice none 0 0),(w.heap.size+1,2,.int .i64 0),(w.heap.size+1,3,.int .i64 0),(w.heap.size+1+1,0,.int .i64 0),(w.heap.size+1+1,1,.int .i64 0)]) (fun i _=>xs.length - (intOf i).toNat)
 case atStart=>exact⟨0,Nat.zero_le _,rfl,Arr.new_at _ _ (by simp) _ _,bch,(by simp[Cls,go_sem])⟩
 case round=>
  obtain⟨k,hk,rfl,hA,hBr,hCr⟩:=hrel;have hcA:=hA.cell 2;have hfA:=hA.free 2;have hlA:=hA.lt;have Fr:=hCr;simp only[Cls,and_true] at Fr
  by_cases hlt:k < xs.length
  ·obtain⟨pd,x,rfl,hx,hxc⟩:=(hS.below hBr).at_ hlt;obtain⟨hx0,hx1⟩:=HXS.out x (lMg hx.out);obtain⟨op,rfl⟩:=Int.eq_ofNat_of_zero_le hx0;have hol:op < t.ops.length:=by omega
   obtain⟨ad,o,A0,c0,A2,c2,A4,c4,rfl,ho,hc0,hc1,hc2,hc3,hm⟩:=hT.ops.at2 hBr hol;have HSN:=lHd (zYr hx.out ho.out);have hoc:=HCO.out o (lMg ho.out);have hsr:=zVc HCO.out (xs.take k) (fun x hx=>HXS.out x (List.mem_of_mem_take hx));rw[List.length_take] at hsr;obtain⟨s,hs⟩:∃ s,Hid (s=xZx t.ops (xs.take k)):=⟨_,rfl⟩;rw[<- hs.out] at hcA hsr;have hadw:(ad.add (op * 4)).block < w.heap.size:=by
    obtain⟨ad',_,_,_,_,_,_,_,e1,_,hc0',_⟩:=hT.ops.at2 (Below.refl _ w) hol;injection e1 with e1;subst e1
    exact World.block_lt_of_cell? w _ hc0'
   clear hm hc0 hc1 hc2
   go_wp2_with fail
   have hSS0:wr.drew.cell? ⟨w.heap.size+1+1+1,2,none⟩=some (.int .i64 s)/\wr.drew.cell? ⟨w.heap.size,3,none⟩=some (.slice (some ad) t.ops.length co)/\wr.drew.cell? ⟨(ad.add (op * 4)).block,(ad.add (op * 4)).off+3,none⟩=some (.int .i64 o.cost):=⟨hcA,Fr.2.2.2.1.1,hc3⟩;refine xJk (fun W=>W.cell? ⟨w.heap.size+1+1+1,2,none⟩=some (.int .i64 s)/\W.cell? ⟨w.heap.size,3,none⟩=some (.slice (some ad) t.ops.length co)/\W.cell? ⟨(ad.add (op * 4)).block,(ad.add (op * 4)).off+3,none⟩=some (.int .i64 o.cost)) [10] (by kernel_rfl) ?_;have hSS:=hSS0;refine xJ1 (i:=0) (v:=?vz10) rfl (by kernel_rfl) (by kernel_rfl) (by kernel_rfl) (by kernel_rfl) (by kernel_rfl) (fun _ _ _ h=>h) (Or.inl ⟨by rfl,?hz10⟩) (by assumption) ?rz10
   case hz10=>(intro w hSw;(try dsimp only at hSw);go_simp;(try with_reducible rfl))
   try simp only[ap]
   refine xJ1 (i:=1) (v:=?vz11) rfl (by kernel_rfl) (by kernel_rfl) (by kernel_rfl) (by kernel_rfl) (by kernel_rfl) (fun _ _ _ h=>h) (Or.inl ⟨by rfl,?hz11⟩) (by assumption) ?rz11
   case hz11=>(intro w hSw;(try dsimp only at hSw);go_simp;(try with_reducible rfl))
   try simp only[ap]
   refine xJ1 (i:=2) (v:=?vz12) rfl (by kernel_rfl) (by kernel_rfl) (by kernel_rfl) (by kernel_rfl) (by kernel_rfl) (fun _ _ _ h=>h) (Or.inl ⟨by rfl,?hz12⟩) (by assumption) ?rz12
   case hz12=>(intro w hSw;(try dsimp only at hSw);go_simp;(try with_reducible rfl))
   try simp only[ap]
   refine xJ1 (i:=3) (v:=?vz13) rfl (by kernel_rfl) (by kernel_rfl) (by kernel_rfl) (by kernel_rfl) (by kernel_rfl) (fun _ _ _ h=>h) (Or.inl ⟨by rfl,?hz13⟩) (by assumption) ?rz13
   case hz13=>(intro w hSw;(try dsimp only at hSw);go_simp;(try with_reducible rfl))
   try simp only[ap]
   refine xJ1 (i:=4) (v:=?vz14) rfl (by kernel_rfl) (by kernel_rfl) (by kernel_rfl) (by kernel_rfl) (by kernel_rfl) (fun _ _ _ h=>h) (Or.inl ⟨by rfl,?hz14⟩) (by assumption) ?rz14
   case hz14=>(intro w hSw;(try dsimp only at hSw);go_simp;(try with_reducible rfl))
   try simp only[ap]
   refine xJ1 (i:=5) (v:=?vz15) rfl (by kernel_rfl) (by kernel_rfl) (by kernel_rfl) (by kernel_rfl) (by kernel_rfl) (fun _ _ _ h=>h) (Or.inl ⟨by rfl,?hz15⟩) (by assumption) ?rz15
   case hz15=>(intro w hSw;(try dsimp only at hSw);go_simp;(try with_reducible rfl))
   try simp only[ap]
   refine xJ1 (i:=6) (v:=?vz16) rfl (by kernel_rfl) (by kernel_rfl) (by kernel_rfl) (by kernel_rfl) (by kernel_rfl) (fun _ _ _ h=>h) (Or.inl ⟨by rfl,?hz16⟩) (by assumption) ?rz16
   case hz16=>(intro w hSw;(try dsimp only at hSw);go_simp;(try with_reducible rfl))
   try simp only[ap]
   refine xJ1 (i:=7) (v:=?vz17) rfl (by kernel_rfl) (by kernel_rfl) (by kernel_rfl) (by kernel_rfl) (by kernel_rfl) (fun _ _ _ h=>h) (Or.inl ⟨by rfl,?hz17⟩) (by assumption) ?rz17
   case hz17=>(intro w hSw;(try dsimp only at hSw);go_simp;(try with_reducible rfl))
   try simp only[ap]
   refine xJ1 (i:=8) (v:=?vz18) rfl (by kernel_rfl) (by kernel_rfl) (by kernel_rfl) (by kernel_rfl) (by kernel_rfl) (fun _ _ _ h=>h) (Or.inl ⟨by rfl,?hz18⟩) (by assumption) ?rz18
   case hz18=>(intro w hSw;(try dsimp only at hSw);go_simp;(try with_reducible rfl))
   try simp only[ap]
   refine xJ1 (i:=9) (v:=?vz19) rfl (by kernel_rfl) (by kernel_rfl) (by kernel_rfl) (by kernel_rfl) (by kernel_rfl) (fun _ _ _ h=>h) (Or.inl ⟨by rfl,?hz19⟩) (by assumption) ?rz19
   case hz19=>(intro w hSw;(try dsimp only at hSw);go_simp;(try with_reducible rfl))
   try simp only[ap]
   refine xJd (i:=10) (by kernel_rfl) rfl (by kernel_rfl) (fun K hK=>?_);go_simp
   go_wp2_with fail
   refine hK.out _ _ ?_;clear hK K
   try simp only[ap]
   refine xJ8 (by kernel_rfl) ?_ _;go_wp2
   go_roundw
   case rel=>exact⟨k+1,by omega,by go_num,by rw[HSN.out,<- hs.out];exact hA.drew.set_ 2 _,bch,(by simp[Cls,go_sem,Fr])⟩
   case measure=>simp[intOf];omega
  ·have HTK:=lHd (show xs.take k=xs from List.take_of_length_le (by omega));rw[HTK.out] at hcA hA;have hc0:=hA.cell 0;have hc1:=hA.cell 1;have hc3:=hA.cell 3;go_wp2;refine bodyPost_ret (v:=.tuple #[.agg #[.bool fnd,.slice A xs.length c,.int .i64 (xZx t.ops xs),.int .i64 ne],.agg #[.int .i64 0,.int .i64 0]]) ?_ rfl ⟨rfl,?_⟩
   ·simp[results,Tryz.results30,go_sem,Fr]
   ·exact mvk
theorem zKe(w:World)(t:TaskV)(Ai Ag Ao:Option Addr)(ci cg co:Nat)(hT:TaskMem w Ai Ag Ao t)(n:Nat)(hn:t.facts=n)(hv:Valid t) :
  Calls Tryz.prog 26 #[.agg #[.int .i64 t.facts,.slice Ai t.init.length ci,.slice Ag t.goal.length cg,.slice Ao t.ops.length co],.bool true] w ((CheckedP n t w)):=by
 have HCK:∀ w0:World,TaskMem w0 Ai Ag Ao t->Calls Tryz.prog 16 #[.agg #[.int .i64 t.facts,.slice Ai t.init.length ci,.slice Ag t.goal.length cg,.slice Ao t.ops.length co]] w0 (CheckedP n t w0):=fun w0 h=>xW5 w0 t Ai Ag Ao ci cg co h n hn hv
 clear hv hn;go_enter Tryz.func26,Tryz.ntmps26
 go_wp2_with fail
 refine (HCK _ (hT.below bch)).mono ?_;rintro e w1 ⟨hB1,hR1⟩;have D1:=xJ3 w hB1 bch;have C1:=Cls.below (l:=[(w.heap.size,0,.int .i64 t.facts),(w.heap.size,1,.slice Ai t.init.length ci),(w.heap.size,2,.slice Ag t.goal.length cg),(w.heap.size,3,.slice Ao t.ops.length co),(w.heap.size+1,0,.int .i64 0),(w.heap.size+1,1,.int .i64 0)]) hB1 (by simp[Cls,go_sem]);have F1:=C1;simp only[Cls,and_true] at F1;have y1w1:w.heap.size+1 < w1.heap.size:=C1.blk (b:=w.heap.size+1) (k:=0) (v:=.int .i64 0) (by simp);rcases hR1 with ⟨rfl,HTOO⟩ | ⟨g,v,ls,rfl,hW,hO,hC,hl⟩
 ·have HT1:=lHd HTOO;clear HTOO
  go_wp2_with fail
  refine xJa 5 (by kernel_rfl) (by kernel_rfl) ?_;simp only[List.take_succ_cons,List.take_zero,List.drop_succ_cons,List.drop_zero]
  repeat still_step
  try refine wpStill_nil ?_
  go_wp2;refine bodyPost_ret (v:=.tuple #[.pointer none,.slice none 0 0,.agg #[.int .i64 10,.int .i64 (-7)]]) ?_ rfl ⟨?_,.inl ⟨rfl,HT1.out⟩⟩
  ·simp[results,Tryz.results26,go_sem,F1,y1w1]
  ·exact mvk
 ·have HC:=lHd hC;clear hC
  go_wp2_with fail
  refine xJa 5 (by kernel_rfl) (by kernel_rfl) ?_;simp only[List.take_succ_cons,List.take_zero,List.drop_succ_cons,List.drop_zero]
  repeat still_step
  try refine wpStill_nil ?_
  go_wp2;refine bodyPost_ret (v:=.tuple #[.pointer (some ⟨g,0,none⟩),v,.agg #[.int .i64 0,.int .i64 0]]) ?_ rfl ⟨?_,.inr ⟨g,v,ls,rfl,?_,?_,HC.out,hl⟩⟩
  ·simp[results,Tryz.results26,go_sem,F1,y1w1]
  ·exact mvk
  ·exact (((hW.set_low (p:=⟨w.heap.size+1,0,none⟩) (by simp) _).set_low (p:=⟨w.heap.size+1,1,none⟩) (by simp) _).mono (by simp;omega)).below bl
  ·exact xQ7 (zXc (ownsRow_setCell_below (ownsRow_setCell_below hO (a:=⟨w.heap.size+1,0,none⟩) (by simp) _) (a:=⟨w.heap.size+1,1,none⟩) (by simp) _) (by simp;omega)) bl
theorem zZ0(w:World):Calls Tryz.prog 27 #[.int .i64 4] w fun e w'=>e=.returned (.bool true)/\w=w':=by
 go_enter Tryz.func27,Tryz.ntmps27;go_wp2;go_ret;exact⟨rfl,rfl⟩
section
open Go.Shelf
structure Kept(X:Nat->Prop)(a w:World):Prop where
 os:w.os=a.os
 tape:w.tape=a.tape
 output:w.output=a.output
 size:a.heap.size<=w.heap.size
 block:∀ k,k < a.heap.size->¬ X k->w.heap[k]? = a.heap[k]?
section
variable {X Y:Nat->Prop}{a w w':World}
theorem Kept.refl(X:Nat->Prop)(a:World):Kept X a a:=⟨rfl,rfl,rfl,Nat.le_refl _,fun _ _ _=>rfl⟩
theorem Kept.trans(h:Kept X a w)(k:Kept Y w w')(hY:∀ i,i < a.heap.size->Y i->X i):Kept X a w':=
 ⟨k.os.trans h.os,k.tape.trans h.tape,k.output.trans h.output,Nat.le_trans h.size k.size,fun i hi hx=>(k.block i (Nat.lt_of_lt_of_le hi h.size) (fun e=>hx (hY i hi e))).trans (h.block i hi hx)⟩
theorem Kept.below(h:Kept X a w)(k:Below w.heap.size w w'):Kept X a w':=
 ⟨k.os.trans h.os,k.tape.trans h.tape,k.output.trans h.output,Nat.le_trans h.size k.size,fun i hi hx=>(k.block i (Nat.lt_of_lt_of_le hi h.size)).trans (h.block i hi hx)⟩
theorem Kept.drew(h:Kept X a w):Kept X a w.drew:=⟨h.os,h.tape,h.output,h.size,h.block⟩
theorem Kept.drewN(h:Kept X a w)(n:Nat):Kept X a (w.drewN n):=⟨h.os,h.tape,h.output,h.size,h.block⟩
theorem Kept.alloc(h:Kept X a w)(o:Obj):Kept X a (w.alloc o):=h.below ((Below.refl _ _).alloc (Nat.le_refl _) o)
theorem Kept.set(h:Kept X a w){p:Addr}(hp:X p.block\/a.heap.size<=p.block)(u:Value):Kept X a (w.setCell p u):=
 ⟨h.os,h.tape,h.output,by simpa[World.setCell] using h.size,fun k hk hx=>(Below.heap_setCell w p u k (fun e=>by subst e;rcases hp with hp | hp;exact hx hp;omega)).trans (h.block k hk hx)⟩
theorem Kept.grown(h:Kept X a w){row:Option Nat}(hg:w.grownBy w' row)(hr:∀ k,row=some k->X k\/a.heap.size<=k):Kept X a w':=
 ⟨hg.os.trans h.os,hg.tape.trans h.tape,hg.output.trans h.output,Nat.le_trans h.size hg.size,fun k hk hx=>(hg.block k (Nat.lt_of_lt_of_le hk h.size) (fun e=>by rcases hr k e.symm with h1 | h1;exact hx h1;omega)).trans (h.block k hk hx)⟩
theorem Kept.toBelow{B:Nat}(h:Kept X a w)(hX:∀ k,X k->B<=k)(hB:B<=a.heap.size):Below B a w:=
 ⟨h.os,h.tape,h.output,h.size,fun k hk=>h.block k (by omega) (fun e=>by have:=hX k e;omega)⟩
theorem Below.kept(h:Below a.heap.size a w):Kept X a w:=(Kept.refl X a).below h
theorem Kept.mono(h:Kept X a w)(hY:∀ k,k < a.heap.size->X k->Y k):Kept Y a w:=⟨h.os,h.tape,h.output,h.size,fun k hk hx=>h.block k hk (fun e=>hx (hY k hk e))⟩
theorem Kept.cell(h:Kept X a w){p:Addr}{u:Value}(hc:a.cell? p=some u)(hn:¬ X p.block):w.cell? p=some u:=
 (World.cell?_of_block (h.block p.block (World.block_lt_of_cell? a p hc) hn)).trans hc
theorem Arr.kept{g:Nat}{e:TypeId}{xs:List Value}(hA:Arr a g e xs)(h:Kept X a w)(hn:¬ X g):Arr w g e xs:=(h.block g hA.lt hn).trans hA
theorem BArr.kept{g:Nat}{xs:List Bool}(hA:BArr a g xs)(h:Kept X a w)(hn:¬ X g):BArr w g xs:=Arr.kept hA h hn
theorem Row.kept{A:Option Addr}{xs:List Value}(hI:Row a A xs)(h:Kept X a w)(hn:xs≠[]->∀ ad,A=some ad->¬ X ad.block):Row w A xs:=fun j u hu=>by
 obtain⟨ad,e,hc⟩:=hI j u hu;exact⟨ad,e,h.cell hc (by rw[xVg];exact hn (fun e1=>by subst e1;simp at hu) ad e)⟩
theorem Ints.kept{A:Option Addr}{xs:List Int}(hI:Ints a A xs)(h:Kept X a w)(hn:xs≠[]->∀ ad,A=some ad->¬ X ad.block):Ints w A xs:=
 Row.kept hI h (fun e=>hn (fun e1=>e (by rw[e1];rfl)))
theorem xWt{base n:Nat}{e:TypeId}{size:Nat}{v:Value}{xs:List Value}(hO:a.ownsRow base e size v n xs)(h:Kept X a w)(hn:∀ k,v.ownBlock=some k->¬ X k):w.ownsRow base e size v n xs:=by
 have hlt:=hO.lt;obtain⟨h1,h2⟩:=hO;refine⟨h1,?_⟩;rcases h2 with h2 | ⟨g,cap,cur,hv,hg,hh,r⟩
 ·exact Or.inl h2
 ·have hb:v.ownBlock=some g:=by rw[hv];rfl
  exact Or.inr ⟨g,cap,cur,hv,hg,(h.block g (hlt g hb).2 (hn g hb)).trans hh,r⟩
theorem OwnI.kept{base:Nat}{v:Value}{xs:List Int}(hO:OwnI base a v xs)(h:Kept X a w)(hn:∀ k,v.ownBlock=some k->¬ X k):OwnI base w v xs:=xWt hO h hn
theorem MapG.kept{b n:Nat}{f:Int->Option Value}(hM:MapG a b n f)(h:Kept X a w)(hn:¬ X b):MapG w b n f:=hM.of_block (h.block b hM.lt hn)
theorem Cls.kept{l:List (Nat×Nat×Value)}(hC:Cls a l)(h:Kept X a w)(hn:∀ x∈l,¬ X x.1):Cls w l:=by
 induction l with
 | nil=>trivial
 | cons x r ih=>
  have h1:=hn x (List.mem_cons_self ..);have hlt:=World.block_lt_of_cell? a ⟨x.1,x.2.1,none⟩ hC.1.1;exact⟨⟨h.cell hC.1.1 h1,(World.frozen?_of_block (a:=⟨x.1,x.2.1,none⟩) (h.block x.1 hlt h1)).trans hC.1.2⟩,ih hC.2 (fun y hy=>hn y (List.mem_cons_of_mem _ hy))⟩
theorem OwnI.lt{base:Nat}{v:Value}{xs:List Int}(hO:OwnI base a v xs):∀ k,v.ownBlock=some k->base<=k/\k < a.heap.size:=World.ownsRow.lt hO
end
section
variable {w w':World}
theorem MapG.grown{b n:Nat}{f:Int->Option Value}{row:Option Nat}(h:MapG w b n f)(hg:w.grownBy w' row)(hn:row≠some b):MapG w' b n f:=h.of_block (hg.block b h.lt (fun e=>hn e.symm))
end
end
end Go.Proofs.YtpeipeljmapkmaaGreat
