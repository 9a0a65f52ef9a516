/-
  Lemmas for the law: MA, Qo, Rx0, Qw, Hp.
-/
import Derived.Test.YtpeipeljmapkmaaGreatRows
import Derived.WalkKit
import Derived.WalkSpells
import Derived.WalkLawsBesides
import Derived.Lib.Hide
import Derived.Deep.QuietTactic
import Derived.BigQuiet
import Derived.IntWalk
import Derived.Deep.RegionWith
import Derived.StillTailTactics
import Derived.Deep.RegionHeld3
import Derived.Deep.DeepCutAuto
import Derived.Deep.OwnRows
import Derived.Deep.LoopGhost
import Derived.Deep.DeepMust
import Derived.Laws.AppendOwnNone
import Derived.ProofKit
import Derived.OpenShut
import Derived.Deep.Slices
import Derived.Deep.Fields
import Derived.Lib.SmallJoins
import Derived.ChangeSlices
import Derived.DataShut
import Derived.OwnWalk
import Derived.Maps.AppendAt
import Derived.StillTail
import Derived.Test.YtpeipeljmapkmaaGreatU13
set_option linter.unusedVariables false
set_option linter.unusedSimpArgs false
set_option maxRecDepth 100000
set_option maxHeartbeats 4000000
namespace Go.Proofs.YtpeipeljmapkmaaGreat
open Go.RowKit
section
theorem xKg{k:IntKind}{a b:Int}(h:a=b):Ending.returned (.int k a)=.returned (.int k b):=by rw[h]
theorem xX2{a b:Bool}(h:a=b):Ending.returned (.bool a)=.returned (.bool b):=by rw[h]
def Cls(w:World):List (Nat×Nat×Value)->Prop
 | []=>True
 | (b,k,v) :: r=>(w.cell? ⟨b,k,none⟩=some v/\w.frozen? ⟨b,k,none⟩=false)/\Cls w r
theorem Cls.below{w w':World}{l:List (Nat×Nat×Value)}(hb:Below w.heap.size w w')(h:Cls w l):Cls w' l:=by
 induction l with
 | nil=>trivial
 | cons x r ih=>
  obtain⟨b,k,v⟩:=x;obtain⟨⟨h1,h2⟩,h3⟩:=h;have hl:=World.block_lt_of_cell? w ⟨b,k,none⟩ h1;exact⟨⟨(hb.cell hl).trans h1,(hb.frozen hl).trans h2⟩,ih h3⟩
theorem Cls.blk{w:World}{l:List (Nat×Nat×Value)}(h:Cls w l){b k:Nat}{v:Value}(hm:(b,k,v)∈l):b < w.heap.size:=by
 induction l with
 | nil=>cases hm
 | cons x r ih=>
  obtain⟨b',k',v'⟩:=x;rcases List.mem_cons.1 hm with e | e
  ·injection e with e1 e2
   injection e2 with e2 e3
   subst e1;subst e2;subst e3;exact World.block_lt_of_cell? w ⟨b,k,none⟩ h.1.1
  ·exact ih h.2 e
theorem Cls.first{w w':World}{l:List (Nat×Nat×Value)}(hb:Below w.heap.size w w')(h:Cls w l):Cls w l/\Cls w' l:=⟨h,h.below hb⟩
theorem xJ3{X w1:World}(w:World)(hB:Below X.heap.size X w1)(h:Below w.heap.size w X):Below w.heap.size w w1:=h.trans (hB.mono h.size)
theorem xKh{B:Nat}{a w:World}(h:Below B a w):Below B a w.drew:=h.drew
theorem xYd{B:Nat}{a w:World}{n:Nat}(h:Below B a w):Below B a (w.drewN n):=below_drewN h n
theorem xVf{a w:World}{o:Obj}(h:Below a.heap.size a w):Below a.heap.size a (w.alloc o):=h.alloc h.size o
theorem vKu{B:Nat}{a w:World}{p:Addr}(h:Below B a w)(hp:B<=p.block)(u:Value):Below B a (w.setCell p u):=h.setCell hp u
theorem lHd{p:Prop}(h:p):Hid p:=Lib.hid h
theorem lGe{α:Type}{l:List α}{i:Nat}(h:i < l.length):l[i]? = some l[i]:=List.getElem?_eq_getElem h
theorem lMg{α:Type}{l:List α}{i:Nat}{a:α}(h:l[i]? = some a):a∈l:=List.mem_of_getElem? h
theorem bch{B:Nat}{a w:World}(h:Below B a w:=by repeat (first | with_reducible assumption | with_reducible exact Below.refl _ _ | with_reducible apply xKh | with_reducible apply xYd | with_reducible apply xVf | ((with_reducible refine vKu ?_ ?_ _);rotate_left;(first | omega | (simp <;> omega))))):Below B a w:=h
theorem ap:(∀ (a:Act) (d:Option Tmp) (v:Value),a.put d v=(match d with | some t=>{ a with tmps:=a.tmps.setIfInBounds t v } | none=>a))/\(∀ (α:Type) (l:List α) (i:Nat) (h:i < l.toArray.size),l.toArray[i]'h=l[i]'(by simpa using h))/\(∀ (α:Type) (a:α) (l:List α) (i:Nat) (h:i+1 < (a :: l).length),(a :: l)[i+1]'h=l[i]'(by simpa using h))/\(∀ (α:Type) (a:α) (l:List α) (h:0 < (a :: l).length),(a :: l)[0]'h=a)/\(∀ (α:Type) (l:List α) (i:Nat) (v:α),l.toArray.setIfInBounds i v=(l.set i v).toArray)/\(∀ (α:Type) (a b:α) (l:List α),(a :: l).set 0 b=b :: l)/\(∀ (α:Type) (a b:α) (l:List α) (i:Nat),(a :: l).set (i+1) b=a :: l.set i b):=
 ⟨fun _ _ _=>rfl,fun _ _ _ _=>rfl,fun _ _ _ _ _=>rfl,fun _ _ _ _=>rfl,fun _ _ _ _=>by simp,fun _ _ _ _=>rfl,fun _ _ _ _ _=>rfl⟩
section
variable {P:Program}{md:Region.Mode}{ops:Array Oper}{Q:Exit->Act->World->Prop}{S:World->Prop}
theorem tkH(i:Nat){oi:Oper}{v:Value}{fuel:Nat}{listed:Array Bool}{a a':Act}{w:World}(h:wpAnyH P md ops Q S fuel (listed.setIfInBounds i true) a' w)(hi:ops[i]? = some oi:=by rfl)(hs:Region.noSelect ops=true:=by kernel_rfl)(hf:Region.free md ops listed i=true:=by kernel_rfl)(hr:(Region.ready md ops listed).contains i=true:=by kernel_rfl)(hw:Region.wanted oi (yielded ops a.tmps)=true:=by rfl)(hy:∀ w,S w->(execOp a.eval oi).run P w=.ok (.value v) w:=by (intro w hSw;(try dsimp only at hSw);go_simp;(try with_reducible rfl)))(hS:S w:=by assumption)(he:a.put oi.dst v=a':=by ((try simp only[ap]);(try rfl)))(hQ:∀ c a w,Q (.panic c) (a.put oi.dst v) w->Q (.panic c) a w:=by exact fun _ _ _ h=>h):wpAnyH P md ops Q S (fuel+1) listed a w:=by
 subst he;exact wpAnyH_take hi hs hf hr hQ (Or.inl ⟨hw,hy⟩) hS h
theorem tkS(i:Nat){oi:Oper}{v:Value}{fuel:Nat}{listed:Array Bool}{a a':Act}{w:World}(h:wpAnyH P md ops Q S fuel (listed.setIfInBounds i true) a' w)(hi:ops[i]? = some oi:=by rfl)(hs:Region.noSelect ops=true:=by kernel_rfl)(hf:Region.free md ops listed i=true:=by kernel_rfl)(hr:(Region.ready md ops listed).contains i=true:=by kernel_rfl)(hw:Region.wanted oi (yielded ops a.tmps)=true:=by simp[Region.wanted,yielded])(hy:∀ w,S w->(execOp a.eval oi).run P w=.ok (.value v) w:=by (intro w hSw;(try dsimp only at hSw);go_simp;(try with_reducible rfl)))(hS:S w:=by assumption)(he:a.put oi.dst v=a':=by ((try simp only[ap]);(try rfl)))(hQ:∀ c a w,Q (.panic c) (a.put oi.dst v) w->Q (.panic c) a w:=by exact fun _ _ _ h=>h):wpAnyH P md ops Q S (fuel+1) listed a w:=by
 subst he;exact wpAnyH_take hi hs hf hr hQ (Or.inl ⟨hw,hy⟩) hS h
end
theorem xJa{P:Program}{id:Nat}{Q:Exit->Act->World->Prop}{a:Act}{w:World}{l:List Oper}(n:Nat)(hm:P.follows .mixedOrders=true)(hB:Region.lexTailB .any l.toArray n=true)
  (h:wpStill P l.toArray w.drew (fun a'=>wpList P l.toArray Q (l.drop n) a' w.drew) (l.take n) a):(Code.region id l.toArray true).wp P Q a w:=wp_region_still_tail n hm hB h
theorem zZb{P:Program}{id:Nat}{Q:Exit->Act->World->Prop}{a:Act}{w:World}{l:List Oper}(hm:P.follows .mixedOrders=true)(hB:Region.lexB .any l.toArray=true)
  (h:wpStill P l.toArray w.drew (fun a'=>Q .normal a' w.drew) l a):(Code.region id l.toArray true).wp P Q a w:=wp_region_still_lit hm hB h
theorem add_zero(a:Addr):a.add 0=a:=rfl
theorem xVg(a:Addr)(n:Nat):(a.add n).block=a.block:=by unfold Addr.add;split <;> rfl
def Row(w:World)(A:Option Addr)(xs:List Value):Prop:=∀ j u,xs[j]? = some u->∃ ad,A=some ad/\w.cell? (ad.add j)=some u
theorem Row.nil(w:World)(A:Option Addr):Row w A []:=fun j u h=>by simp at h
theorem Row.at_{w:World}{A:Option Addr}{xs:List Value}{k:Nat}(h:Row w A xs)(hk:k < xs.length):∃ ad,A=some ad/\w.cell? (ad.add k)=some xs[k]:=h k _ (lGe hk)
theorem Row.below{w w':World}{A:Option Addr}{xs:List Value}(h:Row w A xs)(hb:Below w.heap.size w w'):Row w' A xs:=fun j u hu=>by
 obtain⟨ad,e,hc⟩:=h j u hu;exact⟨ad,e,(hb.cell (World.block_lt_of_cell? w _ hc)).trans hc⟩
def Ints(w:World)(A:Option Addr)(xs:List Int):Prop:=Row w A (xs.map (Value.int .i64))
theorem Ints.nil(w:World)(A:Option Addr):Ints w A []:=Row.nil w A
theorem Ints.below{w w':World}{A:Option Addr}{xs:List Int}(h:Ints w A xs)(hb:Below w.heap.size w w'):Ints w' A xs:=Row.below h hb
theorem Ints.at_{w:World}{A:Option Addr}{xs:List Int}{k:Nat}(h:Ints w A xs)(hk:k < xs.length):∃ ad x,A=some ad/\Hid (xs[k]? = some x)/\w.cell? (ad.add k)=some (.int .i64 x):=by
 obtain⟨ad,e,hc⟩:=Row.at_ (xs:=xs.map (Value.int .i64)) h (by simpa using hk);exact⟨ad,xs[k],e,lHd (lGe hk),by simpa using hc⟩
def Bools(w:World)(A:Option Addr)(xs:List Bool):Prop:=Row w A (xs.map Value.bool)
theorem Bools.below{w w':World}{A:Option Addr}{xs:List Bool}(h:Bools w A xs)(hb:Below w.heap.size w w'):Bools w' A xs:=Row.below h hb
theorem Bools.at_{w:World}{A:Option Addr}{xs:List Bool}{k:Nat}(h:Bools w A xs)(hk:k < xs.length):∃ ad x,A=some ad/\Hid (xs[k]? = some x)/\w.cell? (ad.add k)=some (.bool x):=by
 obtain⟨ad,e,hc⟩:=Row.at_ (xs:=xs.map Value.bool) h (by simpa using hk);exact⟨ad,xs[k],e,lHd (lGe hk),by simpa using hc⟩
def Arr(w:World)(g:Nat)(e:TypeId)(xs:List Value):Prop:=w.heap[g]? = some (.cells xs.toArray e (0,0))
section
variable {w w':World}{g:Nat}{e:TypeId}{xs:List Value}
theorem Arr.lt(h:Arr w g e xs):g < w.heap.size:=by
 rcases Nat.lt_or_ge g w.heap.size with hlt | hge
 ·exact hlt
 ·unfold Arr at h;rw[Array.getElem?_eq_none hge] at h;cases h
theorem Arr.cell(h:Arr w g e xs)(i:Nat):w.cell? ⟨g,i,none⟩=xs[i]?:=by
 unfold Arr at h;simp[World.cell?,h]
theorem Arr.free(h:Arr w g e xs)(i:Nat):w.frozen? ⟨g,i,none⟩=false:=by
 unfold Arr at h;simp[World.frozen?,h]
theorem Arr.new(w:World)(e:TypeId)(xs:List Value):Arr (w.alloc (.cells xs.toArray e)) w.heap.size e xs:=by
 show (w.heap.push _)[w.heap.size]? = _;simp
theorem Arr.below(h:Arr w g e xs)(hb:Below w.heap.size w w'):Arr w' g e xs:=(hb.block g h.lt).trans h
theorem Arr.set_(h:Arr w g e xs)(i:Nat)(u:Value):Arr (w.setCell ⟨g,i,none⟩ u) g e (xs.set i u):=by
 unfold Arr at h ⊢;simp[World.setCell,Array.getElem?_modify,h]
theorem Arr.far(h:Arr w g e xs){p:Addr}(hp:p.block≠g)(u:Value):Arr (w.setCell p u) g e xs:=(Below.heap_setCell w p u g (fun e=>hp e.symm)).trans h
theorem Arr.drew(h:Arr w g e xs):Arr w.drew g e xs:=h
theorem Arr.alloc(h:Arr w g e xs)(o:Obj):Arr (w.alloc o) g e xs:=(Below.heap_alloc w o g h.lt).trans h
theorem Arr.row(h:Arr w g e xs):Row w (some ⟨g,0,none⟩) xs:=fun j u hu=>⟨_,rfl,by
 have:((⟨g,0,none⟩:Addr).add j)=⟨g,j,none⟩:=by
  unfold Addr.add
  split
  ·rename_i hj;subst hj;rfl
  ·simp
 rw[this,h.cell];exact hu⟩
end
theorem Cls.far{w:World}{l:List (Nat×Nat×Value)}(h:Cls w l)(p:Addr)(u:Value)(hp:∀ x∈l,x.1≠p.block):Cls (w.setCell p u) l:=by
 induction l with
 | nil=>trivial
 | cons x r ih=>
  obtain⟨b,k,v⟩:=x;obtain⟨⟨h1,h2⟩,h3⟩:=h;have hne:b≠p.block:=hp (b,k,v) (by simp);refine⟨⟨?_,?_⟩,ih h3 (fun x hx=>hp x (by simp[hx]))⟩
  ·rw[World.cell?_setCell_other w p ⟨b,k,none⟩ u (fun e=>hne (by rw[e]))];exact h1
  ·rw[World.frozen?_setCell];exact h2
def IArr(w:World)(g:Nat)(xs:List Int):Prop:=Arr w g 3 (xs.map (Value.int .i64))
theorem IArr.ints{w:World}{g:Nat}{xs:List Int}(h:IArr w g xs):Ints w (some ⟨g,0,none⟩) xs:=Arr.row h
theorem IArr.below{w w':World}{g:Nat}{xs:List Int}(h:IArr w g xs)(hb:Below w.heap.size w w'):IArr w' g xs:=Arr.below h hb
theorem IArr.cell{w:World}{g:Nat}{xs:List Int}(h:IArr w g xs){i:Nat}(hi:i < xs.length):∃ x,Hid (xs[i]? = some x)/\w.cell? ⟨g,i,none⟩=some (.int .i64 x)/\w.frozen? ⟨g,i,none⟩=false:=by
 refine⟨xs[i],lHd (lGe hi),?_,Arr.free h i⟩;rw[Arr.cell h i];simp[hi]
theorem IArr.set_{w:World}{g:Nat}{xs:List Int}(h:IArr w g xs)(i:Nat)(x:Int):IArr (w.setCell ⟨g,i,none⟩ (.int .i64 x)) g (xs.set i x):=by
 unfold IArr;rw[List.map_set];exact Arr.set_ h i _
theorem IArr.far{w:World}{g:Nat}{xs:List Int}(h:IArr w g xs){p:Addr}(hp:p.block≠g)(u:Value):IArr (w.setCell p u) g xs:=Arr.far h hp u
def BArr(w:World)(g:Nat)(xs:List Bool):Prop:=Arr w g 4 (xs.map Value.bool)
theorem BArr.bools{w:World}{g:Nat}{xs:List Bool}(h:BArr w g xs):Bools w (some ⟨g,0,none⟩) xs:=Arr.row h
theorem BArr.below{w w':World}{g:Nat}{xs:List Bool}(h:BArr w g xs)(hb:Below w.heap.size w w'):BArr w' g xs:=Arr.below h hb
theorem BArr.cell{w:World}{g:Nat}{xs:List Bool}(h:BArr w g xs){i:Nat}(hi:i < xs.length):∃ x,Hid (xs[i]? = some x)/\w.cell? ⟨g,i,none⟩=some (.bool x)/\w.frozen? ⟨g,i,none⟩=false:=by
 refine⟨xs[i],lHd (lGe hi),?_,Arr.free h i⟩;rw[Arr.cell h i];simp[hi]
theorem BArr.set_{w:World}{g:Nat}{xs:List Bool}(h:BArr w g xs)(i:Nat)(x:Bool):BArr (w.setCell ⟨g,i,none⟩ (.bool x)) g (xs.set i x):=by
 unfold BArr;rw[List.map_set];exact Arr.set_ h i _
theorem IArr.made(w:World)(n g:Nat)(hg:g=w.heap.size):IArr (w.alloc (.cells (Array.replicate n (.int .i64 0)) 3)) g (List.replicate n 0):=by
 subst hg;have h:=Arr.new w 3 (List.replicate n (Value.int .i64 0));unfold IArr;rw[List.map_replicate];rw[List.toArray_replicate] at h;exact h
theorem BArr.made(w:World)(n g:Nat)(hg:g=w.heap.size):BArr (w.alloc (.cells (Array.replicate n (.bool false)) 4)) g (List.replicate n false):=by
 subst hg;have h:=Arr.new w 4 (List.replicate n (Value.bool false));unfold BArr;rw[List.map_replicate];rw[List.toArray_replicate] at h;exact h
theorem xVh(z:Value)(n:Nat):madeCells #[z] n=(List.replicate n z).toArray:=by
 apply Array.ext';apply List.ext_getElem?;intro i;unfold madeCells
 by_cases h:i < n
 ·simp[h,Nat.mod_one]
 ·simp[h]
theorem xXo:(Tryz.prog.info? 3).map (fun i=>(i.zero,i.size,i.bytes))=some (some (.int .i64 0),1,8):=by kernel_rfl
theorem vJu:(Tryz.prog.info? 4).map (fun i=>(i.zero,i.size,i.bytes))=some (some (.bool false),1,1):=by kernel_rfl
theorem vJv(n:Nat)(hn:n<=1000000000000)(w:World) :
  (Instr.makeSlice 22 (.int .i64 (n:Int)) (.int .i64 (n:Int))).run Tryz.prog w=.ok (.slice (some ⟨w.heap.size,0,none⟩) n n) (w.alloc (.cells (List.replicate n (Value.int .i64 0)).toArray 3)):=by
 rw[<- xVh];exact run_make_row' 22 3 (.int .i64 0) 8 Tryz.underlying22 xXo rfl .i64 .i64 n (by omega) (by omega) w
theorem xWk(n:Nat)(hn:n<=1000000000000)(w:World) :
  (Instr.makeSlice 200 (.int .i64 (n:Int)) (.int .i64 (n:Int))).run Tryz.prog w=.ok (.slice (some ⟨w.heap.size,0,none⟩) n n) (w.alloc (.cells (List.replicate n (Value.bool false)).toArray 4)):=by
 rw[<- xVh];exact run_make_row' 200 4 (.bool false) 1 Tryz.underlying200 vJu rfl .i64 .i64 n (by omega) (by omega) w
theorem xQ7{w w':World}{base:Nat}{e:TypeId}{size n:Nat}{v:Value}{xs:List Value}(h:w.ownsRow base e size v n xs)(hb:Below w.heap.size w w'):w'.ownsRow base e size v n xs:=by
 obtain⟨h1,h2⟩:=h;refine⟨h1,?_⟩;rcases h2 with h2 | ⟨g,cap,cur,hv,hg,hh,r⟩
 ·exact Or.inl h2
 ·refine Or.inr ⟨g,cap,cur,hv,hg,?_,r⟩;have hlt:g < w.heap.size:=by
   rcases Nat.lt_or_ge g w.heap.size with hl | hl
   ·exact hl
   ·rw[Array.getElem?_eq_none hl] at hh;cases hh
  exact (hb.block g hlt).trans hh
theorem vYb{w:World}{base:Nat}{e:TypeId}{n:Nat}{v:Value}{xs:List Value}(h:w.ownsRow base e 1 v n xs):∃ A c,v=.slice A xs.length c/\Row w A xs:=by
 have hl:xs.length=n:=by have:=h.1;omega
 rcases h.2 with ⟨hv,hn⟩ | ⟨g,cap,cur,hv,hg,hh,hnc,hcm,hs,ht⟩
 ·subst hn;have:xs=[]:=List.eq_nil_of_length_eq_zero hl;subst this;exact⟨none,0,hv,Row.nil _ _⟩
 ·refine⟨some ⟨g,0,none⟩,cap,by rw[hl];exact hv,fun j u hu=>⟨_,rfl,?_⟩⟩;exact h.cells (g:=g) (by rw[hv];rfl) j u hu
def OwnI(base:Nat)(w:World)(v:Value)(xs:List Int):Prop:=w.ownsRow base 3 1 v xs.length (xs.map (Value.int .i64))
theorem OwnI.nil(base:Nat)(w:World):OwnI base w (.slice none 0 0) []:=World.ownsRow_nil w base _ _
theorem OwnI.below{base:Nat}{w w':World}{v:Value}{xs:List Int}(h:OwnI base w v xs)(hb:Below w.heap.size w w'):OwnI base w' v xs:=xQ7 h hb
theorem OwnI.far{base:Nat}{w:World}{v:Value}{xs:List Int}(h:OwnI base w v xs){p:Addr}(hp:p.block < base)(u:Value):OwnI base (w.setCell p u) v xs:=by
 obtain⟨h1,h2⟩:=h;refine⟨h1,?_⟩;rcases h2 with h2 | ⟨g,cap,cur,hv,hg,hh,r⟩
 ·exact Or.inl h2
 ·exact Or.inr ⟨g,cap,cur,hv,hg,(Below.heap_setCell w p u g (fun e=>by omega)).trans hh,r⟩
theorem OwnI.mono{base base':Nat}{w:World}{v:Value}{xs:List Int}(h:OwnI base w v xs)(hb:base'<=base):OwnI base' w v xs:=by
 obtain⟨h1,h2⟩:=h;refine⟨h1,?_⟩;rcases h2 with h2 | ⟨g,cap,cur,hv,hg,r⟩
 ·exact Or.inl h2
 ·exact Or.inr ⟨g,cap,cur,hv,by omega,r⟩
theorem OwnI.ints{base:Nat}{w:World}{v:Value}{xs:List Int}(h:OwnI base w v xs):∃ A c,v=.slice A xs.length c/\Ints w A xs:=by
 obtain⟨A,c,hv,hr⟩:=vYb h;exact⟨A,c,by simpa using hv,hr⟩
theorem xVi{base:Nat}{e:TypeId}{size n:Nat}{w0 w w':World}{v:Value}{xs:List Value}(hB:Below base w0 w)(h:w.ownsRow base e size v n xs)(hg:w.grownBy w' v.ownBlock)(hb:base<=w.heap.size):Below base w0 w':=
 hB.grown hg hb (fun k hk=>(h.lt k hk).1)
theorem Cls.grown{base:Nat}{e:TypeId}{size n:Nat}{w w':World}{v:Value}{xs:List Value}{l:List (Nat×Nat×Value)}(hC:Cls w l)(h:w.ownsRow base e size v n xs)(hg:w.grownBy w' v.ownBlock)(hl:∀ x∈l,x.1 < base):Cls w' l:=by
 induction l with
 | nil=>trivial
 | cons x r ih=>
  obtain⟨b,k,u⟩:=x;obtain⟨⟨h1,h2⟩,h3⟩:=hC;have hlt:=World.block_lt_of_cell? w ⟨b,k,none⟩ h1;have hne:w'.heap[b]? = w.heap[b]?:=hg.block b hlt (fun e=>by
   have h4:=(h.lt b e.symm).1;have h5:b < base:=hl (b,k,u) (by simp);omega)
  exact⟨⟨(World.cell?_of_block (w:=w) hne).trans h1,(World.frozen?_of_block (w:=w) hne).trans h2⟩,ih h3 (fun x hx=>hl x (by simp[hx]))⟩
theorem xKi{ops:Array Oper}{rest:List Oper}{o:Oper}{a:Act}{w:World}{Q:Exit->Act->World->Prop}(hgd:o.guard=none)(s x:Operand)
  (ho:o.op=.call { callee:=.builtin .append,args:=#[s,x],argTypes:=#[22,22] })
  (base:Nat) (v:Value) (xs:List Int) (y:Int) (hs:a.eval s=v) (hown:OwnI base w v xs) (ad:Addr) (m:Nat) (hx:a.eval x=.slice (some ad) 1 m) (hc:w.cell? ad=some (.int .i64 y))
  (hlen:xs.length < 1000000000000) (hbase:base<=w.heap.size)
  (h:∀ v' w',OwnI base w' v' (xs ++ [y])->w.grownBy w' v.ownBlock->wpList Tryz.prog ops Q rest (a.put o.dst v') w'):wpList Tryz.prog ops Q (o :: rest) a w:=by
 obtain⟨i0,hi0,hz⟩:=Option.map_eq_some_iff.1 xXo;simp only[Prod.mk.injEq] at hz;refine wpList_append_own w hgd s x 22 ho base 3 i0 (.int .i64 0) 1 8 Tryz.underlying22 hi0 hz.1 hz.2.1 hz.2.2 rfl (by decide) v xs.length (xs.map (Value.int .i64)) hs hown ad 1 m [.int .i64 y] hx rfl ?_ ?_ ?_ ?_ hbase ?_
 ·intro j u hu
  cases j with
  | zero=>simp at hu;subst hu;rw[add_zero];exact hc
  | succ j=>simp at hu
 ·intro u hu;simp at hu;subst hu;rfl
 ·simp only[maxLen];omega
 ·omega
 ·intro v' w' h1 h2 _;refine h v' w' ?_ h2;unfold OwnI;rw[List.length_append,List.map_append];exact h1
theorem xXl{ops:Array Oper}{rest:List Oper}{o:Oper}{a:Act}{w:World}{Q:Exit->Act->World->Prop}(hgd:o.guard=none)(s x:Operand)
  (ho:o.op=.call { callee:=.builtin .append,args:=#[s,x],argTypes:=#[22,22] })
  (w0:World) (l:List (Nat×Nat×Value)) (base:Nat) (v:Value) (xs:List Int) (y:Int) (hs:a.eval s=v) (hown:OwnI base w v xs) (ad:Addr) (m:Nat) (hx:a.eval x=.slice (some ad) 1 m) (hc:w.cell? ad=some (.int .i64 y))
  (hlen:xs.length < 1000000000000) (hbase:base<=w.heap.size) (h0:w0.heap.size<=base) (hB:Below w0.heap.size w0 w) (hC:Cls w l) (hl:∀ x∈l,x.1 < base)
  (h:∀ v' w',OwnI base w' v' (xs ++ [y])->Below w0.heap.size w0 w'->Cls w' l->w.heap.size<=w'.heap.size->wpList Tryz.prog ops Q rest (a.put o.dst v') w'):wpList Tryz.prog ops Q (o :: rest) a w:=
 xKi hgd s x ho base v xs y hs hown ad m hx hc hlen hbase fun v' w' h1 h2=>
  h v' w' h1 (xVi hB (OwnI.mono hown h0) h2 (Nat.le_trans h0 hbase)) (hC.grown hown h2 hl) h2.size
theorem OwnI.form{base:Nat}{w:World}{v:Value}{xs:List Int}(h:OwnI base w v xs):∃ A c,v=.slice A xs.length c/\(A=none->xs=[]/\c=0)/\Ints w A xs:=by
 obtain⟨A,c,hv,hI⟩:=h.ints;refine⟨A,c,hv,fun hA=>?_,hI⟩;rcases h.2 with ⟨h1,h2⟩ | ⟨g,cap,cur,h1,_⟩
 ·rw[hv] at h1;injection h1 with _ h3 h4
  exact⟨List.eq_nil_of_length_eq_zero h3,h4⟩
 ·rw[hv,hA] at h1;injection h1 with h1
  cases h1
theorem OwnI.at_{base n c k:Nat}{w:World}{A:Option Addr}{xs:List Int}(h:OwnI base w (.slice A n c) xs)(hk:k < xs.length) :
  ∃ g x,A=some ⟨g,0,none⟩/\base<=g/\g < w.heap.size/\Hid (xs[k]? = some x)/\w.cell? ⟨g,k,none⟩=some (.int .i64 x)/\w.frozen? ⟨g,k,none⟩=false:=by
 have h':=h;rcases h.2 with ⟨h1,h2⟩ | ⟨g,cap,cur,h1,hb,hg,r⟩
 ·omega
 ·injection h1 with h1 h2 h3
  subst h1;subst h2;subst h3;have hlt:g < w.heap.size:=by
   rcases Nat.lt_or_ge g w.heap.size with hl | hl
   ·exact hl
   ·rw[Array.getElem?_eq_none hl] at hg;cases hg
  refine⟨g,xs[k],rfl,hb,hlt,lHd (lGe hk),?_,World.ownsRow.frozenAt h' k⟩;rw[World.ownsRow.cellAt h' k (by omega)];simp[hk]
theorem OwnI.set_{base n c g:Nat}{w:World}{xs:List Int}(h:OwnI base w (.slice (some ⟨g,0,none⟩) n c) xs)(hn:xs.length=n)(k:Nat)(x:Int) :
  OwnI base (w.setCell ⟨g,k,none⟩ (.int .i64 x)) (.slice (some ⟨g,0,none⟩) n c) (xs.set k x):=by
 subst hn;unfold OwnI at h ⊢;rw[List.map_set,List.length_set];exact (World.ownsRow.stored h k _).1
structure OpV where
 pre:List Int
 add:List Int
 del:List Int
 cost:Int
structure TaskV where
 facts:Int
 init:List Int
 goal:List Int
 ops:List OpV
def lenOk(n:Nat):Prop:=n<=9223372036854775807
theorem lenOk.le{n:Nat}(h:lenOk n):n<=9223372036854775807:=by unfold lenOk at h;omega
theorem lenOk.le2{n:Nat}(h:lenOk n):n<=9223372036854775807:=h
structure OpMem(w:World)(A0 A1 A2:Option Addr)(o:OpV):Prop where
 pre:Ints w A0 o.pre
 add:Ints w A1 o.add
 del:Ints w A2 o.del
 lpre:lenOk o.pre.length
 ladd:lenOk o.add.length
 ldel:lenOk o.del.length
theorem OpMem.below{w w':World}{A0 A1 A2:Option Addr}{o:OpV}(h:OpMem w A0 A1 A2 o)(hb:Below w.heap.size w w'):OpMem w' A0 A1 A2 o:=
 ⟨h.pre.below hb,h.add.below hb,h.del.below hb,h.lpre,h.ladd,h.ldel⟩
def OpsAt(w:World)(A:Option Addr)(ops:List OpV):Prop:=
 ∀ (k:Nat) (o:OpV),ops[k]? = some o->∃ ad A0 c0 A1 c1 A2 c2,A=some ad/\w.cell? (ad.add (k * 4))=some (.slice A0 o.pre.length c0)/\w.cell? ⟨(ad.add (k * 4)).block,(ad.add (k * 4)).off+1,none⟩=some (.slice A1 o.add.length c1) /\
  w.cell? ⟨(ad.add (k * 4)).block,(ad.add (k * 4)).off+2,none⟩=some (.slice A2 o.del.length c2)/\w.cell? ⟨(ad.add (k * 4)).block,(ad.add (k * 4)).off+3,none⟩=some (.int .i64 o.cost)/\OpMem w A0 A1 A2 o
theorem OpsAt.below{w w':World}{A:Option Addr}{ops:List OpV}(h:OpsAt w A ops)(hb:Below w.heap.size w w'):OpsAt w' A ops:=fun k o hk=>by
 obtain⟨ad,A0,c0,A1,c1,A2,c2,e,h0,h1,h2,h3,hm⟩:=h k o hk;exact⟨ad,A0,c0,A1,c1,A2,c2,e,(hb.cell (World.block_lt_of_cell? w _ h0)).trans h0,(hb.cell (World.block_lt_of_cell? w _ h1)).trans h1,(hb.cell (World.block_lt_of_cell? w _ h2)).trans h2,(hb.cell (World.block_lt_of_cell? w _ h3)).trans h3,hm.below hb⟩
theorem OpsAt.at_{w:World}{A:Option Addr}{ops:List OpV}{k:Nat}(h:OpsAt w A ops)(hk:k < ops.length):∃ ad o A0 c0 A1 c1 A2 c2,A=some ad/\Hid (ops[k]? = some o)/\w.cell? (ad.add (k * 4))=some (.slice A0 o.pre.length c0)/\w.cell? ⟨(ad.add (k * 4)).block,(ad.add (k * 4)).off+1,none⟩=some (.slice A1 o.add.length c1) /\
  w.cell? ⟨(ad.add (k * 4)).block,(ad.add (k * 4)).off+2,none⟩=some (.slice A2 o.del.length c2)/\w.cell? ⟨(ad.add (k * 4)).block,(ad.add (k * 4)).off+3,none⟩=some (.int .i64 o.cost)/\OpMem w A0 A1 A2 o:=by
 obtain⟨ad,A0,c0,A1,c1,A2,c2,r⟩:=h k _ (lGe hk);exact⟨ad,ops[k],A0,c0,A1,c1,A2,c2,r.1,lHd (lGe hk),r.2⟩
theorem OpsAt.at2{w w':World}{A:Option Addr}{ops:List OpV}{k:Nat}(h:OpsAt w A ops)(hb:Below w.heap.size w w')(hk:k < ops.length):∃ ad o A0 c0 A1 c1 A2 c2,A=some ad/\Hid (ops[k]? = some o)/\w'.cell? (ad.add (k * 4))=some (.slice A0 o.pre.length c0)/\w'.cell? ⟨(ad.add (k * 4)).block,(ad.add (k * 4)).off+1,none⟩=some (.slice A1 o.add.length c1) /\
  w'.cell? ⟨(ad.add (k * 4)).block,(ad.add (k * 4)).off+2,none⟩=some (.slice A2 o.del.length c2)/\w'.cell? ⟨(ad.add (k * 4)).block,(ad.add (k * 4)).off+3,none⟩=some (.int .i64 o.cost)/\OpMem w A0 A1 A2 o:=by
 obtain⟨ad,A0,c0,A1,c1,A2,c2,e,h0,h1,h2,h3,hm⟩:=h k _ (lGe hk);exact⟨ad,ops[k],A0,c0,A1,c1,A2,c2,e,lHd (lGe hk),(hb.cell (World.block_lt_of_cell? w _ h0)).trans h0,(hb.cell (World.block_lt_of_cell? w _ h1)).trans h1,(hb.cell (World.block_lt_of_cell? w _ h2)).trans h2,(hb.cell (World.block_lt_of_cell? w _ h3)).trans h3,hm⟩
structure TaskMem(w:World)(Ai Ag Ao:Option Addr)(t:TaskV):Prop where
 init:Ints w Ai t.init
 goal:Ints w Ag t.goal
 ops:OpsAt w Ao t.ops
 linit:lenOk t.init.length
 lgoal:lenOk t.goal.length
 lops:lenOk t.ops.length
theorem TaskMem.below{w w':World}{Ai Ag Ao:Option Addr}{t:TaskV}(h:TaskMem w Ai Ag Ao t)(hb:Below w.heap.size w w'):TaskMem w' Ai Ag Ao t:=
 ⟨h.init.below hb,h.goal.below hb,h.ops.below hb,h.linit,h.lgoal,h.lops⟩
open Go.Joins Go.ChangeShapes Go.WideShapes Go.RowKit Go.Deep
section
variable {H:Type}{enc:TypeId×Value->H}{P:Program}{w:World}{base:Nat}{spare:Nat->Bool}{held:Bool}
theorem xVx{t e:TypeId}{fs:Array Field}{fuel:Nat}{cs:List Value}{x:DataW H×List MemPlace}(ht:P.underlying t=some (.slice e))(he:P.underlying e=some (.struct fs))
  (hone:oneCellFields P fs=true) (hC:P.cellsOf e=fs.size) (h:DataW.trod enc P w base spare held fuel t cs=some x) :
  (cs=[.slice none 0 0]/\x=(.nil,[])) \/
  ∃ (a:Addr) (len cap m:Nat) (D:Nat->DataW H) (Pl:Nat->List MemPlace),cs=[.slice (some a) len cap]/\base<=a.block/\len<=cap/\cap<=maxLen/\m=(if spare a.block then cap else len) /\
   x=(.slice ((List.range len).map D) ((List.range (m - len)).map fun j=>D (len+j)),MemPlace.row a (m * fs.size) ++ (List.range m).flatMap Pl) /\
   ∀ i,i < m->∃ (ys:List (DataW H×List MemPlace)) (n:Nat),D i=.agg (ys.map (·.1))/\Pl i=ys.flatMap (·.2)/\ys.length=fs.size /\
    ∀ (j:Nat) (f:Field),fs[j]? = some f->∃ (v:Value) (y:DataW H×List MemPlace),w.cell? (a.add (i * fs.size+j))=some v/\ys[j]? = some y/\DataW.trod enc P w base spare held n f.type [v]=some y:=by
 rcases open_slice ht h with h0 | ⟨a,len,cap,m,n,D,Pl,hcs,hb,hl,hm,hmm,hx,hi⟩
 ·exact .inl h0
 ·refine .inr ⟨a,len,cap,m,D,Pl,hcs,hb,hl,hm,hmm,by rw[hC] at hx;exact hx,fun i him=>?_⟩;obtain⟨cs',hc,ht'⟩:=hi i him;rw[hC] at hc;obtain⟨ys,n',hn',hy,hlen,hyl,hf⟩:=DataW.trod_struct he ht';obtain⟨_,hcl,hat⟩:=World.cells?_some hc;simp only[Prod.mk.injEq] at hy;refine⟨ys,n',hy.1,hy.2,hyl,fun j f hj=>?_⟩;obtain⟨ho,hk⟩:=hone_of hone j f hj;have hjl:j < fs.size:=(Array.getElem?_eq_some_iff.1 hj).1;have hcell:=hat j hjl;have hv:cs'[j]? = some (cs'[j]'(by omega)):=lGe (by omega);have h1:=hf j f hj;rw[ho,hk] at h1;have hone':(cs'.drop j).take 1=[cs'[j]'(by omega)]:=by
   rw[List.drop_eq_getElem_cons (by omega)];rfl
  rw[hone'] at h1;have hys:ys[j]? = some (ys[j]'(by omega)):=lGe (by omega);refine⟨_,_,?_,hys,h1.trans hys⟩;rw[<- Go.Deep.add_add,hcell,hv]
end
section
variable {H:Type}{enc:TypeId×Value->H}{w:World}
def vYc(n:Int):Prop:=-9223372036854775808<=n/\n<=9223372036854775807
theorem zQi{n:Int}(h:(Lit.int .i64 n).wf=true):vYc n:=by
 have h2:=(Lit.wf_int_iff .i64 n).1 h;have e1:IntKind.i64.min = -9223372036854775808:=by decide
 have e2:IntKind.i64.max=9223372036854775807:=by decide
 rw[e1,e2] at h2;exact h2
theorem xQ8{fuel:Nat}{cs:List Value}{x:DataW H×List MemPlace}(h:DataW.trod enc Tryz.prog w 0 (fun _=>true) true fuel 22 cs=some x) :
  ∃ A c xs,cs=[.slice A xs.length c]/\xs.length<=c/\lenOk c/\(A=none->xs=[]/\c=0)/\Ints w A xs/\∀ n∈xs,vYc n:=by
 rcases open_ints Tryz.underlying22 Tryz.underlying3 (by kernel_rfl) h with ⟨rfl,rfl⟩ | ⟨a,len,cap,zs,rfl,hb,hl,hm,hz,hx,hc,hw⟩
 ·exact⟨none,0,[],rfl,Nat.le_refl _,by unfold lenOk;omega,fun _=>⟨rfl,rfl⟩,Ints.nil _ _,by simp⟩
 ·simp only[if_true] at hz;have hl':(zs.take len).length=len:=by rw[List.length_take];omega
  refine⟨some a,cap,zs.take len,by rw[hl'],by omega,by unfold lenOk;simp only[maxLen] at hm;omega,(fun h=>by cases h),fun j u hu=>⟨a,rfl,?_⟩,fun n hn=>zQi (hw n (List.mem_of_mem_take hn))⟩;obtain⟨hj,rfl⟩:=List.getElem?_eq_some_iff.1 hu;rw[List.length_map,hl'] at hj;rw[hc j (by omega)];simp[List.getD_eq_getElem?_getD,show j < zs.length by omega]
def xZq(A:Option Addr)(xs:List Int)(c:Nat):Prop:=(A=none->xs=[]/\c=0)/\xs.length<=c/\c<=9223372036854775807
def OpsRead(w:World)(A:Option Addr)(ops:List OpV):Prop:=
 ∀ (k:Nat) (o:OpV),ops[k]? = some o->∃ ad A0 c0 A1 c1 A2 c2,A=some ad/\w.cell? (ad.add (k * 4))=some (.slice A0 o.pre.length c0)/\w.cell? ⟨(ad.add (k * 4)).block,(ad.add (k * 4)).off+1,none⟩=some (.slice A1 o.add.length c1) /\
  w.cell? ⟨(ad.add (k * 4)).block,(ad.add (k * 4)).off+2,none⟩=some (.slice A2 o.del.length c2)/\w.cell? ⟨(ad.add (k * 4)).block,(ad.add (k * 4)).off+3,none⟩=some (.int .i64 o.cost)/\OpMem w A0 A1 A2 o /\
  xZq A0 o.pre c0/\xZq A1 o.add c1/\xZq A2 o.del c2/\vYc o.cost
theorem OpsRead.at_{A:Option Addr}{ops:List OpV}(h:OpsRead w A ops):OpsAt w A ops:=fun k o hk=>by
 obtain⟨ad,A0,c0,A1,c1,A2,c2,e,h0,h1,h2,h3,hm,_⟩:=h k o hk;exact⟨ad,A0,c0,A1,c1,A2,c2,e,h0,h1,h2,h3,hm⟩
theorem vQg{fuel:Nat}{cs:List Value}{x:DataW H×List MemPlace}(h:DataW.trod enc Tryz.prog w 0 (fun _=>true) true fuel 23 cs=some x) :
  ∃ A c ops,cs=[.slice A ops.length c]/\ops.length<=c/\lenOk c/\(A=none->ops=[]/\c=0)/\OpsRead w A ops:=by
 rcases xVx Tryz.underlying23 Tryz.underlying68 (by kernel_rfl) (by kernel_rfl) h with ⟨rfl,rfl⟩ | ⟨a,len,cap,m,D,Pl,rfl,hb,hl,hm,hmm,hx,hi⟩
 ·exact⟨none,0,[],rfl,Nat.le_refl _,by unfold lenOk;omega,fun _=>⟨rfl,rfl⟩,fun k o hk=>by simp at hk⟩
 ·simp only[if_true] at hmm;subst hmm;have each:∀ i:Nat,∃ o:OpV,i < m->∃ A0 c0 A1 c1 A2 c2,w.cell? (a.add (i * 4))=some (.slice A0 o.pre.length c0)/\w.cell? ⟨(a.add (i * 4)).block,(a.add (i * 4)).off+1,none⟩=some (.slice A1 o.add.length c1) /\
    w.cell? ⟨(a.add (i * 4)).block,(a.add (i * 4)).off+2,none⟩=some (.slice A2 o.del.length c2)/\w.cell? ⟨(a.add (i * 4)).block,(a.add (i * 4)).off+3,none⟩=some (.int .i64 o.cost)/\OpMem w A0 A1 A2 o /\
    xZq A0 o.pre c0/\xZq A1 o.add c1/\xZq A2 o.del c2/\vYc o.cost:=by
   intro i
   by_cases him:i < m
   ·obtain⟨ys,n,_,_,_,hf⟩:=hi i him;obtain⟨v0,y0,hc0,_,t0⟩:=hf 0 _ rfl;obtain⟨v1,y1,hc1,_,t1⟩:=hf 1 _ rfl;obtain⟨v2,y2,hc2,_,t2⟩:=hf 2 _ rfl;obtain⟨v3,y3,hc3,_,t3⟩:=hf 3 _ rfl;obtain⟨A0,c0,x0,e0,q0,m0,n0,I0,r0⟩:=xQ8 t0;obtain⟨A1,c1,x1,e1,q1,m1,n1,I1,r1⟩:=xQ8 t1;obtain⟨A2,c2,x2,e2,q2,m2,n2,I2,r2⟩:=xQ8 t2;obtain⟨k,e3,_,hk⟩:=DataW.trod_int Tryz.underlying3 t3;injection e0 with e0
    injection e1 with e1
    injection e2 with e2
    injection e3 with e3
    subst e0;subst e1;subst e2;subst e3;have hs:∀ j:Nat,0 < j->a.add (i * 4+j)=⟨(a.add (i * 4)).block,(a.add (i * 4)).off+j,none⟩:=by
     intro j hj;rw[<- Go.Deep.add_add];show (if j=0 then a.add (i * 4) else _)=_;rw[if_neg (by omega)]
    exact⟨⟨x0,x1,x2,k⟩,fun _=>⟨A0,c0,A1,c1,A2,c2,hc0,by rw[<- hs 1 (by omega)];exact hc1,by rw[<- hs 2 (by omega)];exact hc2,by rw[<- hs 3 (by omega)];exact hc3,
     ⟨I0,I1,I2,Nat.le_trans q0 m0,Nat.le_trans q1 m1,Nat.le_trans q2 m2⟩,⟨n0,q0,m0⟩,⟨n1,q1,m1⟩,⟨n2,q2,m2⟩,zQi hk⟩⟩
   ·exact⟨⟨[],[],[],0⟩,fun h=>absurd h him⟩
  obtain⟨f,hf⟩:=Classical.axiomOfChoice each;refine⟨some a,m,(List.range len).map f,by simp,by simpa using hl,by unfold lenOk;simp only[maxLen] at hm;omega,(fun h=>by cases h),fun k o hk=>?_⟩;obtain⟨hk1,rfl⟩:=List.getElem?_eq_some_iff.1 hk;rw[List.length_map,List.length_range] at hk1;obtain⟨A0,c0,A1,c1,A2,c2,r⟩:=hf k (by omega);refine⟨a,A0,c0,A1,c1,A2,c2,rfl,?_⟩;simpa using r
structure TaskRead(w:World)(Ai Ag Ao:Option Addr)(ci cg co:Nat)(t:TaskV):Prop where
 mem:TaskMem w Ai Ag Ao t
 ops:OpsRead w Ao t.ops
 ninit:xZq Ai t.init ci
 ngoal:xZq Ag t.goal cg
 nops:(Ao=none->t.ops=[]/\co=0)/\t.ops.length<=co/\co<=9223372036854775807
 facts:vYc t.facts
theorem zK9{r:Reach}{b0:Nat}{v:Value}{d:DataW H}{p:List MemPlace}(hv:Value.okWide Tryz.prog w r b0 25 v)(h:DataW.Trod enc Tryz.prog w 0 (fun _=>true) true 25 v d p) :
  ∃ (t:TaskV) (Ai Ag Ao:Option Addr) (ci cg co:Nat),v=.agg #[.int .i64 t.facts,.slice Ai t.init.length ci,.slice Ag t.goal.length cg,.slice Ao t.ops.length co]/\TaskRead w Ai Ag Ao ci cg co t:=by
 obtain⟨v0,v1,v2,v3,y0,y1,y2,y3,n,rfl,_,_,t0,t1,t2,t3⟩:=open_agg4 Tryz.underlying25 (by kernel_rfl) (by kernel_rfl) hv h;obtain⟨k,e0,_,hk⟩:=DataW.trod_int Tryz.underlying3 t0;obtain⟨A1,c1,x1,e1,q1,m1,n1,I1,r1⟩:=xQ8 t1;obtain⟨A2,c2,x2,e2,q2,m2,n2,I2,r2⟩:=xQ8 t2;obtain⟨A3,c3,x3,e3,q3,m3,n3,I3⟩:=vQg t3;injection e0 with e0
 injection e1 with e1
 injection e2 with e2
 injection e3 with e3
 subst e0;subst e1;subst e2;subst e3;exact⟨⟨k,x1,x2,x3⟩,A1,A2,A3,c1,c2,c3,rfl,⟨I1,I2,I3.at_,Nat.le_trans q1 m1,Nat.le_trans q2 m2,Nat.le_trans q3 m3⟩,I3,⟨n1,q1,m1⟩,⟨n2,q2,m2⟩,⟨n3,q3,m3⟩,zQi hk⟩
end
theorem OwnI.cap_le{base n c:Nat}{w:World}{A:Option Addr}{xs:List Int}(h:OwnI base w (.slice A n c) xs):n<=c:=by
 rcases h.2 with ⟨h1,h2⟩ | ⟨g,cap,cur,h1,_,_,h3,_⟩
 ·injection h1 with _ h3 h4;omega
 ·injection h1 with _ h4 h5;omega
theorem OwnI.cap_max{base n c:Nat}{w:World}{A:Option Addr}{xs:List Int}(h:OwnI base w (.slice A n c) xs):c<=9223372036854775807:=by
 rcases h.2 with ⟨h1,h2⟩ | ⟨g,cap,cur,h1,_,_,h3,h4,_⟩
 ·injection h1 with _ h3 h4;omega
 ·injection h1 with _ h5 h6;simp only[maxLen] at h4;omega
theorem OwnI.len{base n c:Nat}{w:World}{A:Option Addr}{xs:List Int}(h:OwnI base w (.slice A n c) xs):n=xs.length:=by
 rcases h.2 with ⟨h1,h2⟩ | ⟨g,cap,cur,h1,_,_,h3,h4,_⟩
 ·injection h1 with _ h3 h4;omega
 ·injection h1 with _ h5 h6
theorem Ints.drop{w:World}{A:Option Addr}{xs:List Int}(h:Ints w A xs)(k:Nat):Ints w (A.map (·.add k)) (xs.drop k):=fun j u hu=>by
 rw[List.map_drop,List.getElem?_drop] at hu;obtain⟨ad,rfl,hc⟩:=h (k+j) u hu;exact⟨ad.add k,rfl,by rw[Go.Deep.add_add];exact hc⟩
theorem xKz{ops:Array Oper}{rest:List Oper}{o:Oper}{a:Act}{w:World}{Q:Exit->Act->World->Prop}(hgd:o.guard=none)(s x:Operand)
  (ho:o.op=.call { callee:=.builtin .append,args:=#[s,x],argTypes:=#[22,22] })
  (base:Nat) (v:Value) (xs:List Int) (hs:a.eval s=v) (hown:OwnI base w v xs) (A:Option Addr) (c m:Nat) (ys:List Int) (hx:a.eval x=.slice A m c) (hm:ys.length=m) (hnil:A=none->c=0) (hI:Ints w A ys)
  (hlen:xs.length+m<=1000000000000) (hbase:base<=w.heap.size)
  (h:∀ v' w',OwnI base w' v' (xs ++ ys)->w.grownBy w' v.ownBlock->wpList Tryz.prog ops Q rest (a.put o.dst v') w'):wpList Tryz.prog ops Q (o :: rest) a w:=by
 obtain⟨i0,hi0,hz⟩:=Option.map_eq_some_iff.1 xXo;simp only[Prod.mk.injEq] at hz;subst hm
 cases A with
 | none=>
  have hys:ys=[]:=by
   cases ys with
   | nil=>rfl
   | cons y ys=>obtain⟨ad,e,_⟩:=hI 0 (.int .i64 y) (by simp);cases e
  subst hys;obtain rfl:=hnil rfl;refine wpList_append_own_none hgd s x 22 ho base 3 i0 1 Tryz.underlying22 hi0 v xs.length (xs.map (Value.int .i64)) hs hown hx ?_;refine h v w (by rw[List.append_nil];exact hown) ?_;exact World.grownBy.refl w _
 | some ad=>
  refine wpList_append_own w hgd s x 22 ho base 3 i0 (.int .i64 0) 1 8 Tryz.underlying22 hi0 hz.1 hz.2.1 hz.2.2 rfl (by decide) v xs.length (xs.map (Value.int .i64)) hs hown ad ys.length c (ys.map (Value.int .i64)) hx (by simp) ?_ ?_ ?_ ?_ hbase ?_
  ·intro j u hu;obtain⟨ad',e,hc⟩:=hI j u hu;rw[Option.some.inj e];exact hc
  ·intro u hu;obtain⟨y,_,rfl⟩:=List.mem_map.1 hu;rfl
  ·simp only[maxLen];omega
  ·omega
  ·intro v' w' h1 h2 _;refine h v' w' ?_ h2;unfold OwnI;rw[List.length_append,List.map_append];exact h1
theorem zKa{ops:Array Oper}{rest:List Oper}{o:Oper}{a:Act}{w:World}{Q:Exit->Act->World->Prop}(hgd:o.guard=none)(s x:Operand)
  (ho:o.op=.call { callee:=.builtin .append,args:=#[s,x],argTypes:=#[22,22] })
  (w0:World) (l:List (Nat×Nat×Value)) (base:Nat) (v:Value) (xs:List Int) (hs:a.eval s=v) (hown:OwnI base w v xs) (A:Option Addr) (c m:Nat) (ys:List Int) (hx:a.eval x=.slice A m c) (hm:ys.length=m) (hnil:A=none->c=0) (hI:Ints w A ys)
  (hlen:xs.length+m<=1000000000000) (hbase:base<=w.heap.size) (h0:w0.heap.size<=base) (hB:Below w0.heap.size w0 w) (hC:Cls w l) (hl:∀ x∈l,x.1 < base)
  (h:∀ v' w',OwnI base w' v' (xs ++ ys)->Below w0.heap.size w0 w'->Cls w' l->w.heap.size<=w'.heap.size->wpList Tryz.prog ops Q rest (a.put o.dst v') w'):wpList Tryz.prog ops Q (o :: rest) a w:=
 xKz hgd s x ho base v xs hs hown A c m ys hx hm hnil hI hlen hbase fun v' w' h1 h2=>
  h v' w' h1 (xVi hB (OwnI.mono hown h0) h2 (Nat.le_trans h0 hbase)) (hC.grown hown h2 hl) h2.size
structure Stable{α:Type}(P:World->Option Nat->List Value->α->Prop):Prop where
 below:∀ {w w':World} {row:Option Nat} {cs:List Value} {a:α},P w row cs a->Below w.heap.size w w'->P w' row cs a
 grown:∀ {w w':World} {row:Option Nat} {cs:List Value} {a:α},P w row cs a->w.grownBy w' row->P w' row cs a/\P w' (some w.heap.size) cs a
def OwnEs{α:Type}(P:World->Option Nat->List Value->α->Prop)(e:TypeId)(size base:Nat)(w:World)(v:Value)(els:List α):Prop:=
 ∃ cells,w.ownsRow base e size v els.length cells/\∀ i a,els[i]? = some a->P w v.ownBlock ((cells.drop (i * size)).take size) a
section
variable {α:Type}{P:World->Option Nat->List Value->α->Prop}{e:TypeId}{size base:Nat}{w w':World}{v:Value}{els:List α}
theorem OwnEs.nil(base:Nat)(w:World):OwnEs P e size base w (.slice none 0 0) []:=⟨[],World.ownsRow_nil w base _ _,fun i a h=>by simp at h⟩
theorem OwnEs.below(hP:Stable P)(h:OwnEs P e size base w v els)(hb:Below w.heap.size w w'):OwnEs P e size base w' v els:=by
 obtain⟨cells,h1,h2⟩:=h;exact⟨cells,xQ7 h1 hb,fun i a ha=>hP.below (h2 i a ha) hb⟩
theorem OwnEs.mono{base':Nat}(h:OwnEs P e size base w v els)(hb:base'<=base):OwnEs P e size base' w v els:=by
 obtain⟨cells,⟨h1,h2⟩,h3⟩:=h;refine⟨cells,⟨h1,?_⟩,h3⟩;rcases h2 with h2 | ⟨g,cap,cur,hv,hg,r⟩
 ·exact Or.inl h2
 ·exact Or.inr ⟨g,cap,cur,hv,by omega,r⟩
theorem OwnEs.form(h:OwnEs P e size base w v els):∃ A c,v=.slice A els.length c:=by
 obtain⟨cells,⟨h1,h2⟩,h3⟩:=h;rcases h2 with ⟨h2,h4⟩ | ⟨g,cap,cur,hv,r⟩
 ·exact⟨none,0,by rw[h4];exact h2⟩
 ·exact⟨_,_,hv⟩
theorem OwnEs.lt(h:OwnEs P e size base w v els):∀ k,v.ownBlock=some k->base<=k/\k < w.heap.size:=by
 obtain⟨cells,h1,_⟩:=h;exact h1.lt
theorem OwnEs.at_{A:Option Addr}{n c i:Nat}(h:OwnEs P e size base w (.slice A n c) els)(hi:i < els.length) :
  ∃ g cs a,A=some ⟨g,0,none⟩/\base<=g/\g < w.heap.size/\Hid (els[i]? = some a)/\cs.length=size/\(∀ j u,cs[j]? = some u->w.cell? ⟨g,i * size+j,none⟩=some u)/\P w (some g) cs a:=by
 obtain⟨cells,h1,h3⟩:=h;have h0:=h1;rcases h1.2 with ⟨h2,h4⟩ | ⟨g,cap,cur,hv,hb,hg,r⟩
 ·omega
 ·injection hv with e1 e2 e3
  subst e1;subst e2;subst e3;have hlt:g < w.heap.size:=by
   rcases Nat.lt_or_ge g w.heap.size with hl | hl
   ·exact hl
   ·rw[Array.getElem?_eq_none hl] at hg;cases hg
  have hl:=h0.1;have hle:i * size+size<=els.length * size:=by
   have:=Nat.mul_le_mul_right size (show i+1<=els.length from hi);rw[Nat.succ_mul] at this;exact this
  refine⟨g,(cells.drop (i * size)).take size,els[i],rfl,hb,hlt,lHd (lGe hi),?_,fun j u hu=>?_,h3 i _ (lGe hi)⟩
  ·rw[List.length_take,List.length_drop];omega
  ·have hj:j < size:=by
    have:=(List.getElem?_eq_some_iff.1 hu).1;rw[List.length_take] at this;omega
   rw[List.getElem?_take_of_lt hj,List.getElem?_drop] at hu;rw[World.ownsRow.cellAt h0 _ (by omega)];exact hu
theorem OwnEs.far(h:OwnEs P e size base w v els)(hP:∀ {w:World} {row:Option Nat} {cs:List Value} {a:α} {p:Addr} {u:Value},P w row cs a->p.block < base->P (w.setCell p u) row cs a){p:Addr}(hp:p.block < base)(u:Value):OwnEs P e size base (w.setCell p u) v els:=by
 obtain⟨cells,⟨h1,h2⟩,h3⟩:=h;refine⟨cells,⟨h1,?_⟩,fun i a ha=>hP (h3 i a ha) hp⟩;rcases h2 with h2 | ⟨g,cap,cur,hv,hg,hh,r⟩
 ·exact Or.inl h2
 ·exact Or.inr ⟨g,cap,cur,hv,hg,(Below.heap_setCell w p u g (fun e=>by omega)).trans hh,r⟩
theorem zZc(hP:Stable P)(T:TypeId)(bytes:Nat)(z:Value)(hT:Tryz.prog.underlying T=some (.slice e))(hinf:(Tryz.prog.info? e).map (fun i=>(i.zero,i.size,i.bytes))=some (some z,size,bytes))(hzs:z.cells.size=size)(hsz:0 < size)(hby:bytes<=64)
  {ops:Array Oper} {rest:List Oper} {o:Oper} {a:Act} {Q:Exit->Act->World->Prop} (hgd:o.guard=none) (s x:Operand)
  (ho:o.op=.call { callee:=.builtin .append,args:=#[s,x],argTypes:=#[T,T] })
  (w0:World) (l:List (Nat×Nat×Value)) (hs:a.eval s=v) (hown:OwnEs P e size base w v els) (ad:Addr) (m:Nat) (hx:a.eval x=.slice (some ad) 1 m) (news:List Value) (y:α) (hnl:news.length=size) (hnews:∀ j u,news[j]? = some u->w.cell? (ad.add j)=some u) (h1:∀ u∈news,u.oneCell'=true) (hy:P w v.ownBlock news y)
  (hlen:els.length < 1000000000000) (hbase:base<=w.heap.size) (h0:w0.heap.size<=base) (hB:Below w0.heap.size w0 w) (hC:Cls w l) (hl:∀ x∈l,x.1 < base)
  (h:∀ v' w',OwnEs P e size base w' v' (els ++ [y])->Below w0.heap.size w0 w'->Cls w' l->w.heap.size<=w'.heap.size->w.grownBy w' v.ownBlock->(v'.ownBlock=v.ownBlock\/v'.ownBlock=some w.heap.size)->wpList Tryz.prog ops Q rest (a.put o.dst v') w') :
  wpList Tryz.prog ops Q (o :: rest) a w:=by
 obtain⟨i0,hi0,hz⟩:=Option.map_eq_some_iff.1 hinf;simp only[Prod.mk.injEq] at hz;obtain⟨cells,hr,hcs⟩:=hown;have hcl:=hr.1;refine wpList_append_own_at w hgd s x T ho base e i0 z size bytes hT hi0 hz.1 hz.2.1 hz.2.2 hzs hsz v els.length cells hs hr ad 1 m news hx (by omega) hnews h1 ?_ ?_ hbase ?_
 ·simp only[maxLen];omega
 ·have:=Nat.mul_le_mul_left (els.length+1) hby;omega
 ·intro v' w' h2 h3 _ h4;refine h v' w' ⟨cells ++ news,by rw[List.length_append];exact h2,fun i a ha=>?_⟩ ?_ ?_ h3.size h3 h4
  ·have key:∀ {cs:List Value} {a:α},P w v.ownBlock cs a->P w' v'.ownBlock cs a:=fun hp=>by
    rcases h4 with h4 | h4
    ·rw[h4];exact (hP.grown hp h3).1
    ·rw[h4];exact (hP.grown hp h3).2
   rcases Nat.lt_or_ge i els.length with hi | hi
   ·rw[List.getElem?_append_left hi] at ha;have hle:i * size+size<=els.length * size:=by
     have:=Nat.mul_le_mul_right size (show i+1<=els.length from hi);rw[Nat.succ_mul] at this;exact this
    have e1:((cells ++ news).drop (i * size)).take size=(cells.drop (i * size)).take size:=by
     rw[List.drop_append_of_le_length (by omega),List.take_append_of_le_length (by rw[List.length_drop];omega)]
    rw[e1];exact key (hcs i a ha)
   ·have hie:i=els.length:=by
     have:=(List.getElem?_eq_some_iff.1 ha).1;rw[List.length_append] at this;simp at this;omega
    subst hie;rw[List.getElem?_append_right (Nat.le_refl _)] at ha;simp at ha;subst ha;have e1:((cells ++ news).drop (els.length * size)).take size=news:=by
     rw[<- hcl,List.drop_left,List.take_of_length_le (by omega)]
    rw[e1];exact key hy
  ·exact hB.grown h3 (Nat.le_trans h0 hbase) (fun k hk=>Nat.le_trans h0 (hr.lt k hk).1)
  ·exact hC.grown hr h3 hl
end
theorem OwnI.blk_{base n c:Nat}{w:World}{A:Option Addr}{xs:List Int}(h:OwnI base w (.slice A n c) xs):∀ ad,A=some ad->base<=ad.block/\ad.block < w.heap.size:=fun ad e=>by
 subst e;exact h.lt ad.block rfl
theorem xQ9{w:World}{ad:Addr}{v:Value}(h:w.cell? ad=some v):∀ j u,[v][j]? = some u->w.cell? (ad.add j)=some u:=fun j u hu=>by
 cases j with
 | zero=>simp at hu;subst hu;exact h
 | succ j=>simp at hu
theorem vJw{w:World}{g:Nat}{v u:Value}(h:w.cell? ⟨g,0,none⟩=some v)(h1:w.cell? ⟨g,1,none⟩=some u):∀ j x,[v,u][j]? = some x->w.cell? ((⟨g,0,none⟩:Addr).add j)=some x:=fun j x hx=>by
 cases j with
 | zero=>simp at hx;subst hx;exact h
 | succ j=>
  cases j with
  | zero=>simp at hx;subst hx;exact h1
  | succ j=>simp at hx
def PList(B:Nat)(w:World)(row:Option Nat)(cs:List Value)(r:List Int):Prop:=
 ∃ A c,cs=[.slice A r.length c]/\Ints w A r/\(A=none->r=[]/\c=0)/\r.length<=c/\c<=9223372036854775807/\∀ ad,A=some ad->some ad.block≠row/\ad.block < w.heap.size/\B<=ad.block
theorem Ints.grown{w w':World}{A:Option Addr}{xs:List Int}{row:Option Nat}(h:Ints w A xs)(hg:w.grownBy w' row)(hne:∀ ad,A=some ad->some ad.block≠row):Ints w' A xs:=fun j u hu=>by
 obtain⟨ad,e,hc⟩:=h j u hu;exact⟨ad,e,hg.cell hc (by rw[xVg];exact hne ad e)⟩
theorem xJ7(B:Nat):Stable (PList B):=by
 constructor
 ·rintro w w' row cs r ⟨A,c,e,hI,hn,h1,h2,ha⟩ hb;exact⟨A,c,e,hI.below hb,hn,h1,h2,fun ad h=>⟨(ha ad h).1,Nat.lt_of_lt_of_le (ha ad h).2.1 hb.size,(ha ad h).2.2⟩⟩
 ·rintro w w' row cs r ⟨A,c,e,hI,hn,h1,h2,ha⟩ hg;have hI':=hI.grown hg (fun ad h=>(ha ad h).1);exact⟨⟨A,c,e,hI',hn,h1,h2,fun ad h=>⟨(ha ad h).1,Nat.lt_of_lt_of_le (ha ad h).2.1 hg.size,(ha ad h).2.2⟩⟩,
   ⟨A,c,e,hI',hn,h1,h2,fun ad h=>⟨fun e=>by injection e with e;have:=(ha ad h).2.1;omega,Nat.lt_of_lt_of_le (ha ad h).2.1 hg.size,(ha ad h).2.2⟩⟩⟩
theorem Ints.far{w:World}{A:Option Addr}{xs:List Int}(h:Ints w A xs){p:Addr}(hp:∀ ad,A=some ad->ad.block≠p.block)(u:Value):Ints (w.setCell p u) A xs:=fun j x hx=>by
 obtain⟨ad,e,hc⟩:=h j x hx;refine⟨ad,e,?_⟩;rw[World.cell?_setCell_other w p (ad.add j) u (fun k=>hp ad e (by rw[k,xVg]))];exact hc
theorem xQa{B:Nat}{w:World}{row:Option Nat}{cs:List Value}{r:List Int}{p:Addr}{u:Value}(h:PList B w row cs r)(hp:p.block < B):PList B (w.setCell p u) row cs r:=by
 obtain⟨A,c,e,hI,hn,h1,h2,ha⟩:=h;refine⟨A,c,e,hI.far (fun ad h=>by have:=(ha ad h).2.2;omega) u,hn,h1,h2,fun ad h=>⟨(ha ad h).1,?_,(ha ad h).2.2⟩⟩;have:=(ha ad h).2.1;simpa using this
theorem xQo{B base:Nat}{w:World}{v:Value}{r:List Int}{row:Option Nat}(h:OwnI base w v r)(hB:B<=base)(hr:∀ k,row=some k->k < base):PList B w row [v] r:=by
 obtain⟨A,c,rfl,hn,hI⟩:=h.form;refine⟨A,c,rfl,hI,hn,h.cap_le,h.cap_max,fun ad e=>?_⟩;subst e;have:=h.blk_ _ rfl;exact⟨fun e=>by have:=hr _ e.symm;omega,this.2,by omega⟩
def OwnLL(base:Nat)(w:World)(v:Value)(rows:List (List Int)):Prop:=OwnEs (PList base) 22 1 base w v rows
theorem OwnLL.far{base:Nat}{w:World}{v:Value}{rows:List (List Int)}(h:OwnLL base w v rows){p:Addr}(hp:p.block < base)(u:Value):OwnLL base (w.setCell p u) v rows:=
 OwnEs.far h (fun h hp=>xQa h hp) hp u
theorem OwnLL.below{base:Nat}{w w':World}{v:Value}{rows:List (List Int)}(h:OwnLL base w v rows)(hb:Below w.heap.size w w'):OwnLL base w' v rows:=OwnEs.below (xJ7 _) h hb
theorem vJx:(Tryz.prog.info? 22).map (fun i=>(i.zero,i.size,i.bytes))=some (some (.slice none 0 0),1,24):=by kernel_rfl
theorem Arr.grown{w w':World}{g:Nat}{e:TypeId}{xs:List Value}{row:Option Nat}(h:Arr w g e xs)(hg:w.grownBy w' row)(hne:row≠some g):Arr w' g e xs:=(hg.block g h.lt (fun e=>hne e.symm)).trans h
def Fresh(B:Nat)(w:World)(A:Option Addr)(c:Nat)(xs:List Int):Prop:=PList B w none [.slice A xs.length c] xs
theorem Fresh.below{B:Nat}{w w':World}{A:Option Addr}{c:Nat}{xs:List Int}(h:Fresh B w A c xs)(hb:Below w.heap.size w w'):Fresh B w' A c xs:=(xJ7 B).below h hb
theorem Fresh.ints{B:Nat}{w:World}{A:Option Addr}{c:Nat}{xs:List Int}(h:Fresh B w A c xs):Ints w A xs:=by
 obtain⟨A',c',e,hI,_⟩:=h;injection e with e
 injection e with e1 e2 e3
 rw[e1];exact hI
theorem zVg{B base:Nat}{w:World}{A:Option Addr}{c:Nat}{xs:List Int}(h:OwnI base w (.slice A xs.length c) xs)(hB:B<=base):Fresh B w A c xs:=xQo h hB (fun k hk=>by cases hk)
theorem vJy{w:World}{xs:List Int}(h:Ints w none xs):xs=[]:=by
 cases xs with
 | nil=>rfl
 | cons x xs=>obtain⟨ad,e,_⟩:=h 0 (.int .i64 x) rfl;cases e
theorem vJz(B:Nat)(w:World):Fresh B w none 0 []:=⟨none,0,rfl,Ints.nil _ _,fun _=>⟨rfl,rfl⟩,Nat.le_refl _,by omega,fun ad e=>by cases e⟩
theorem vX0(w:World)(c:Nat)(xs:List Int)(hI:Ints w none xs) :
  Calls Tryz.prog 73 #[.slice none xs.length c] w fun e w'=>∃ A' c',e=.returned (.slice A' xs.length c')/\Fresh w.heap.size w' A' c' xs/\Below w.heap.size w w':=by
 obtain rfl:=vJy hI;have hq:=fun (w:World) (a:Option Addr) (n c n' c':Nat)=>Lib.run_eql_slice_nil (P:=Tryz.prog) w 22 3 a n c n' c' Tryz.underlying22
 go_enter Tryz.func73,Tryz.ntmps73;go_wp2;go_ret;exact⟨none,0,rfl,vJz _ _,Below.refl _ _⟩
theorem zKb(w:World)(ad:Addr)(c:Nat)(xs:List Int)(hI:Ints w (some ad) xs)(hl:xs.length<=1000000000000) :
  Calls Tryz.prog 73 #[.slice (some ad) xs.length c] w fun e w'=>∃ A' c',e=.returned (.slice A' xs.length c')/\Fresh w.heap.size w' A' c' xs/\Below w.heap.size w w':=by
 obtain⟨i0,hi0,hz⟩:=Option.map_eq_some_iff.1 xXo;simp only[Prod.mk.injEq] at hz;have hq:=fun (w:World) (a:Option Addr) (n c n' c':Nat)=>Lib.run_eql_slice_nil (P:=Tryz.prog) w 22 3 a n c n' c' Tryz.underlying22
 go_enter Tryz.func73,Tryz.ntmps73;have hII:=lHd (hI.below (w':=w.alloc (.cells #[] 3)) bch)
 go_wp2_with (at_builtin;go_must (refine wpList_append_own _ rfl (.tmp 5) (.tmp 6) 22 rfl w.heap.size 3 i0 (.int .i64 0) 1 8 Tryz.underlying22 hi0 hz.1 hz.2.1 hz.2.2 rfl (by decide) (.slice (some ⟨w.heap.size,0,none⟩) 0 0) 0 [] rfl (World.ownsRow_made w #[] 0 (Nat.le_refl _) (by decide) rfl) ad xs.length c (xs.map (Value.int .i64)) rfl (by simp) ?p1 ?p2 ?p3 ?p4 ?p5 ?_;(case p1=>intro j u hu;obtain⟨ad',e,hc⟩:=hII.out j u hu;injection e with e;subst e;exact hc);(case p2=>intro u hu;obtain⟨y,_,rfl⟩:=List.mem_map.1 hu;rfl);(case p3=>(simp only[maxLen];omega));(case p4=>omega);(case p5=>(simp <;> omega));intro v1 w1 h1 h2 h3))
 have h4:OwnI w.heap.size w1 v1 xs:=by
  unfold OwnI;rw[Nat.zero_add,List.nil_append] at h1;exact h1
 have hB1:Below w.heap.size w w1:=xVi (base:=w.heap.size) (w:=w.alloc (.cells #[] 3)) bch (World.ownsRow_made w #[] 0 (Nat.le_refl _) (by decide) rfl:(w.alloc (.cells #[] 3)).ownsRow w.heap.size 3 1 (.slice (some ⟨w.heap.size,0,none⟩) 0 0) 0 []) h2 (by simp);obtain⟨A',c',rfl,-⟩:=h4.form;go_wp2;go_ret;exact⟨A',c',rfl,zVg h4 (Nat.le_refl _),hB1⟩
theorem zZd(w:World)(A:Option Addr)(c:Nat)(xs:List Int)(hI:Ints w A xs)(hl:xs.length<=1000000000000) :
  Calls Tryz.prog 73 #[.slice A xs.length c] w fun e w'=>∃ A' c',e=.returned (.slice A' xs.length c')/\Fresh w.heap.size w' A' c' xs/\Below w.heap.size w w':=by
 cases A with
 | none=>exact vX0 w c xs hI
 | some ad=>exact zKb w ad c xs hI hl
theorem hcl{w x:World}{l:List (Nat×Nat×Value)}(h:Hid (w=x))(p:Cls x l):Cls w l:=by rw[h.out];exact p
theorem har{w x:World}{g:Nat}{e:TypeId}{xs:List Value}(h:Hid (w=x))(p:Arr x g e xs):Arr w g e xs:=by rw[h.out];exact p
theorem hbe{B:Nat}{a w x:World}(h:Hid (w=x))(p:Below B a x):Below B a w:=by rw[h.out];exact p
theorem Cls.b{w:World}{l:List (Nat×Nat×Value)}(h:Cls w l)(i:Nat){b k:Nat}{v:Value}(e:l[i]? = some (b,k,v):=by rfl):b < w.heap.size:=h.blk (b:=b) (k:=k) (v:=v) (List.mem_of_getElem? e)
theorem Cls.ap{w:World}:∀ {l r:List (Nat×Nat×Value)},Cls w l->Cls w r->Cls w (l ++ r)
 | [],_,_,h=>h
 | _ :: _,_,h,h2=>⟨h.1,Cls.ap h.2 h2⟩
theorem Cls.st{w1 W w':World}{l:List (Nat×Nat×Value)}(h:Cls w1 l)(hB:Below W.heap.size W w')(hc:Below w1.heap.size w1 W:=by exact bch):Cls w' l:=Cls.below hB (Cls.below hc h)
theorem Cls.sn{w1 W w':World}{l m:List (Nat×Nat×Value)}(h:Cls w1 l)(hB:Below W.heap.size W w')(n:List (Nat×Nat×Value))(e:l ++ n=m:=by (simp only[List.cons_append,List.nil_append];exact rfl))(hn:Cls W n:=by simp[Cls,go_sem])(hc:Below w1.heap.size w1 W:=by exact bch):Cls w' m:=e ▸ Cls.ap (h.st hB) (Cls.below hB hn)
end
section
open Go
section
variable {P:Program}{ops:Array Oper}{Q:Exit->Act->World->Prop}{md:Region.Mode}{S:World->Prop}{X:List Nat}
def zWx(X:List Nat)(listed:Array Bool):Bool:=X.any fun x=>listed.getD x false
def zJf(md:Region.Mode)(ops:Array Oper)(X:List Nat)(listed:Array Bool):Prop:=∀ x∈X,listed.getD x false=true->∀ y,Region.waitsFor md ops x y=true->listed.getD y false=true
def xJx(P:Program)(md:Region.Mode)(ops:Array Oper)(Q:Exit->Act->World->Prop)(S:World->Prop)(X:List Nat):Nat->Array Bool->Act->World->Prop
 | 0,listed,a,w=>Region.ready md ops listed=[]/\Q .normal a w
 | fuel+1,listed,a,w=>
  (Region.ready md ops listed=[]->Q .normal a w) /\
  ∀ i∈Region.ready md ops listed,wpOp P ops Q i (fun a' w'=>(zWx X (listed.setIfInBounds i true)=false->S w')/\xJx P md ops Q S X fuel (listed.setIfInBounds i true) a' w') a w
theorem xQl:∀ (fuel:Nat) (listed:Array Bool) (a:Act) (w:World),xJx P md ops Q S X fuel listed a w->wpAny P md ops Q fuel listed a w
 | 0,_,_,_,h=>h
 | fuel+1,_,_,_,h=>⟨h.1,fun i hi=>wpOp_mono (fun a' w' h'=>xQl fuel _ a' w' h'.2) (h.2 i hi)⟩
theorem xVd{i:Nat}(hX:i∉X)(listed:Array Bool):zWx X (listed.setIfInBounds i true)=zWx X listed:=by
 unfold zWx;have h:∀ x∈X,(listed.setIfInBounds i true).getD x false=listed.getD x false:=fun x hx=>getD_set_ne false (fun e=>hX (e ▸ hx))
 rw[Bool.eq_iff_iff,List.any_eq_true,List.any_eq_true];exact⟨fun ⟨x,hx,h1⟩=>⟨x,hx,by rw[<- h x hx];exact h1⟩,fun ⟨x,hx,h1⟩=>⟨x,hx,by rw[h x hx];exact h1⟩⟩
theorem zWy{i j:Nat}(hX:i∉X)(listed:Array Bool):zWx X ((listed.setIfInBounds i true).setIfInBounds j true)=zWx X (listed.setIfInBounds j true):=by
 by_cases h:i=j
 ·subst h;rw[xVd hX,xVd hX]
 ·rw[Array.setIfInBounds_comm _ _ h,xVd hX]
theorem xYa{i:Nat}{oi:Oper}{v:Value}(hi:ops[i]? = some oi)(hsel:∀ (j:Nat) (o:Oper) cs b,ops[j]? = some o->o.op≠.select cs b)
  (hQ:∀ c a w,Q (.panic c) (a.put oi.dst v) w->Q (.panic c) a w) (hX:i∉X) {F:World->Prop} (hw:(∀ w,F w)\/((∀ w,S w->F w)/\∀ x∈X,Region.waitsFor md ops x i=true)) :
  ∀ (fuel:Nat) (listed:Array Bool) (a:Act) (w:World),
   (∀ j oj,ops[j]? = some oj->j≠i->listed.getD j true=false->(∀ e∈oj.after,Region.binds md e=true->e.on≠i)->oi.apart ops oj=true) ->
   zJf md ops X listed->i∈Region.ready md ops listed->YieldsIf P ops F oi v a->(zWx X listed=false->S w) ->
   xJx P md ops Q S X fuel (listed.setIfInBounds i true) (a.put oi.dst v) w->xJx P md ops Q S X (fuel+1) listed a w:=by
 have holds:∀ {listed:Array Bool} {w:World},zJf md ops X listed->i∈Region.ready md ops listed->(zWx X listed=false->S w)->F w:=fun {listed w} hc hr hS=>by
  rcases hw with hw | ⟨hSF,hw⟩
  ·exact hw w
  refine hSF w (hS ?_)
  cases h:zWx X listed with
  | false=>rfl
  | true=>
   unfold zWx at h;obtain⟨x,hx,h1⟩:=List.any_eq_true.1 h;have h2:=hc x hx h1 i (hw x hx);have h3:=(mem_ready.1 hr).1;rcases Nat.lt_or_ge i listed.size with h' | h'
   ·simp[h'] at h2 h3;rw[h2] at h3;cases h3
   ·simp[Array.getElem?_eq_none h'] at h2
 intro fuel
 induction fuel with
 | zero=>
  intro listed a w _ hc hr hy hS H;refine⟨fun h=>(by rw[h] at hr;cases hr),fun j hj=>?_⟩
  by_cases hji:j=i
  ·subst hji;exact hy.wpOp hi (holds hc hr hS) ⟨fun h=>hS (by rw[xVd hX] at h;exact h),H⟩
  ·have:=ready_mono hj hji;rw[H.1] at this
   cases this
 | succ fuel ih=>
  intro listed a w hfree hc hr hy hS H;refine⟨fun h=>(by rw[h] at hr;cases hr),fun j hj=>?_⟩
  by_cases hji:j=i
  ·subst hji;exact hy.wpOp hi (holds hc hr hS) ⟨fun h=>hS (by rw[xVd hX] at h;exact h),H⟩
  ·have h1:=H.2 j (ready_mono hj hji);obtain⟨hjun,oj,hoj,hall⟩:=mem_ready.1 hj;have hnot:∀ e∈oj.after,Region.binds md e=true->e.on≠i:=fun e he hb heq=>by
    have h1:=hall e he hb;have h0:=(mem_ready.1 hr).1;rw[heq] at h1;rcases Nat.lt_or_ge i listed.size with h' | h'
    ·simp[h'] at h0 h1;rw[h0] at h1;cases h1
    ·simp[Array.getElem?_eq_none h'] at h1
   have h2:=wpOp_putIf hoj (hfree j oj hoj hji hjun hnot) (fun cs b=>hsel i oi cs b hi) (fun cs b=>hsel j oj cs b hoj) hQ hy h1;have hfree':∀ k ok,ops[k]? = some ok->k≠i->(listed.setIfInBounds j true).getD k true=false ->
     (∀ e∈ok.after,Region.binds md e=true->e.on≠i)->oi.apart ops ok=true:=fun k ok hk hki hun hno=>by
    refine hfree k ok hk hki ?_ hno
    by_cases hjk:j=k
    ·subst hjk;exact hjun
    ·rw[getD_set_ne true hjk] at hun;exact hun
   have hc':zJf md ops X (listed.setIfInBounds j true):=fun x hx h1 y hy2=>by
    by_cases hxj:j=x
    ·subst hxj;obtain⟨oj',hoj',e,he,hb,heq⟩:=Region.waitsFor_spec hy2;rw[hoj] at hoj';injection hoj' with hoj'
     subst hoj';have:=hall e he hb;rw[heq] at this;exact getD_set_true this
    ·rw[getD_set_ne false hxj] at h1;exact getD_set_true (hc x hx h1 y hy2)
   refine wpOp_mono (fun a' w' h3=>?_) h2;obtain⟨h31,h32,h33⟩:=h3;rw[zWy hX] at h32;refine⟨h32,ih (listed.setIfInBounds j true) a' w' hfree' hc' (ready_mono hr (Ne.symm hji)) h31 h32 ?_⟩;rw[Array.setIfInBounds_comm _ _ hji];exact h33
def xZw(md:Region.Mode)(ops:Array Oper)(X:List Nat)(listed:Array Bool):Bool:=
 X.all fun x=>!listed.getD x false || (match ops[x]? with | some o=>o.after.all fun e=>!Region.binds md e || listed.getD e.on false | none=>true)
theorem xWc{listed:Array Bool}(h:xZw md ops X listed=true):zJf md ops X listed:=fun x hx h1 y hy=>by
 unfold xZw at h;have h2:=List.all_eq_true.1 h x hx;obtain⟨o,ho,e,he,hb,heq⟩:=Region.waitsFor_spec hy;rw[h1,ho] at h2;simp only[Bool.not_true,Bool.false_or] at h2;have h3:=Array.all_eq_true'.1 h2 e he;rw[hb] at h3;simp only[Bool.not_true,Bool.false_or] at h3;rw[<- heq];exact h3
theorem xJ1{i:Nat}{oi:Oper}{v:Value}{fuel:Nat}{listed:Array Bool}{a:Act}{w:World}(hi:ops[i]? = some oi)
  (hs:Region.noSelect ops=true) (hf:Region.free md ops listed i=true) (hr:(Region.ready md ops listed).contains i=true)
  (hw:(!X.contains i && X.all (Region.waitsFor md ops · i))=true) (hc:xZw md ops X listed=true)
  (hQ:∀ c a w,Q (.panic c) (a.put oi.dst v) w->Q (.panic c) a w) (hy:YieldsIf P ops S oi v a) (hS:S w)
  (h:xJx P md ops Q S X fuel (listed.setIfInBounds i true) (a.put oi.dst v) w):xJx P md ops Q S X (fuel+1) listed a w:=by
 simp only[Bool.and_eq_true,Bool.not_eq_true',List.all_eq_true] at hw;exact xYa hi (Region.noSelect_spec hs) hQ (fun hm=>by have:=List.contains_iff_mem.2 hm;rw[hw.1] at this;cases this) (.inr ⟨fun _ h=>h,hw.2⟩) fuel listed a w (Region.free_spec hi hf) (xWc hc) (by simpa using hr) hy (fun _=>hS) h
theorem xX0{i:Nat}{oi:Oper}{v:Value}{fuel:Nat}{listed:Array Bool}{a:Act}{w:World}(hi:ops[i]? = some oi)
  (hs:Region.noSelect ops=true) (hf:Region.free md ops listed i=true) (hr:(Region.ready md ops listed).contains i=true)
  (hw:(!X.contains i)=true) (hc:xZw md ops X listed=true)
  (hQ:∀ c a w,Q (.panic c) (a.put oi.dst v) w->Q (.panic c) a w) (hy:YieldsIf P ops (fun _=>True) oi v a) (hS:S w)
  (h:xJx P md ops Q S X fuel (listed.setIfInBounds i true) (a.put oi.dst v) w):xJx P md ops Q S X (fuel+1) listed a w:=by
 simp only[Bool.not_eq_true'] at hw;exact xYa hi (Region.noSelect_spec hs) hQ (fun hm=>by have:=List.contains_iff_mem.2 hm;rw[hw] at this;cases this) (.inl fun _=>trivial) fuel listed a w (Region.free_spec hi hf) (xWc hc) (by simpa using hr) hy (fun _=>hS) h
theorem tkK(i:Nat){oi:Oper}{v:Value}{fuel:Nat}{listed:Array Bool}{a a':Act}{w:World}(h:xJx P md ops Q S X fuel (listed.setIfInBounds i true) a' w)(hi:ops[i]? = some oi:=by rfl)(hs:Region.noSelect ops=true:=by kernel_rfl)(hf:Region.free md ops listed i=true:=by kernel_rfl)(hr:(Region.ready md ops listed).contains i=true:=by kernel_rfl)(hx:(!X.contains i && X.all (Region.waitsFor md ops · i))=true:=by kernel_rfl)(hc:xZw md ops X listed=true:=by kernel_rfl)(hw:Region.wanted oi (yielded ops a.tmps)=true:=by rfl)(hy:∀ w,S w->(execOp a.eval oi).run P w=.ok (.value v) w:=by (intro w hSw;(try dsimp only at hSw);go_simp;(try with_reducible rfl)))(hS:S w:=by assumption)(he:a.put oi.dst v=a':=by ((try simp only[ap]);(try rfl)))(hQ:∀ c a w,Q (.panic c) (a.put oi.dst v) w->Q (.panic c) a w:=by exact fun _ _ _ h=>h):xJx P md ops Q S X (fuel+1) listed a w:=by
 subst he;exact xJ1 hi hs hf hr hx hc hQ (Or.inl ⟨hw,hy⟩) hS h
theorem tkKS(i:Nat){oi:Oper}{v:Value}{fuel:Nat}{listed:Array Bool}{a a':Act}{w:World}(h:xJx P md ops Q S X fuel (listed.setIfInBounds i true) a' w)(hi:ops[i]? = some oi:=by rfl)(hs:Region.noSelect ops=true:=by kernel_rfl)(hf:Region.free md ops listed i=true:=by kernel_rfl)(hr:(Region.ready md ops listed).contains i=true:=by kernel_rfl)(hx:(!X.contains i && X.all (Region.waitsFor md ops · i))=true:=by kernel_rfl)(hc:xZw md ops X listed=true:=by kernel_rfl)(hw:Region.wanted oi (yielded ops a.tmps)=true:=by simp[Region.wanted,yielded])(hy:∀ w,S w->(execOp a.eval oi).run P w=.ok (.value v) w:=by (intro w hSw;(try dsimp only at hSw);go_simp;(try with_reducible rfl)))(hS:S w:=by assumption)(he:a.put oi.dst v=a':=by ((try simp only[ap]);(try rfl)))(hQ:∀ c a w,Q (.panic c) (a.put oi.dst v) w->Q (.panic c) a w:=by exact fun _ _ _ h=>h):xJx P md ops Q S X (fuel+1) listed a w:=by
 subst he;exact xJ1 hi hs hf hr hx hc hQ (Or.inl ⟨hw,hy⟩) hS h
theorem tk0(i:Nat){oi:Oper}{v:Value}{fuel:Nat}{listed:Array Bool}{a a':Act}{w:World}(h:xJx P md ops Q S X fuel (listed.setIfInBounds i true) a' w)(hi:ops[i]? = some oi:=by rfl)(hs:Region.noSelect ops=true:=by kernel_rfl)(hf:Region.free md ops listed i=true:=by kernel_rfl)(hr:(Region.ready md ops listed).contains i=true:=by kernel_rfl)(hx:(!X.contains i)=true:=by kernel_rfl)(hc:xZw md ops X listed=true:=by kernel_rfl)(hw:Region.wanted oi (yielded ops a.tmps)=true:=by rfl)(hy:∀ w,True->(execOp a.eval oi).run P w=.ok (.value v) w:=by (intro w hSw;(try dsimp only at hSw);go_simp;(try with_reducible rfl)))(hS:S w:=by assumption)(he:a.put oi.dst v=a':=by ((try simp only[ap]);(try rfl)))(hQ:∀ c a w,Q (.panic c) (a.put oi.dst v) w->Q (.panic c) a w:=by exact fun _ _ _ h=>h):xJx P md ops Q S X (fuel+1) listed a w:=by
 subst he;exact xX0 hi hs hf hr hx hc hQ (Or.inl ⟨hw,hy⟩) hS h
theorem tk0S(i:Nat){oi:Oper}{v:Value}{fuel:Nat}{listed:Array Bool}{a a':Act}{w:World}(h:xJx P md ops Q S X fuel (listed.setIfInBounds i true) a' w)(hi:ops[i]? = some oi:=by rfl)(hs:Region.noSelect ops=true:=by kernel_rfl)(hf:Region.free md ops listed i=true:=by kernel_rfl)(hr:(Region.ready md ops listed).contains i=true:=by kernel_rfl)(hx:(!X.contains i)=true:=by kernel_rfl)(hc:xZw md ops X listed=true:=by kernel_rfl)(hw:Region.wanted oi (yielded ops a.tmps)=true:=by simp[Region.wanted,yielded])(hy:∀ w,True->(execOp a.eval oi).run P w=.ok (.value v) w:=by (intro w hSw;(try dsimp only at hSw);go_simp;(try with_reducible rfl)))(hS:S w:=by assumption)(he:a.put oi.dst v=a':=by ((try simp only[ap]);(try rfl)))(hQ:∀ c a w,Q (.panic c) (a.put oi.dst v) w->Q (.panic c) a w:=by exact fun _ _ _ h=>h):xJx P md ops Q S X (fuel+1) listed a w:=by
 subst he;exact xX0 hi hs hf hr hx hc hQ (Or.inl ⟨hw,hy⟩) hS h
theorem xJ8{listed:Array Bool}{a:Act}{w:World}(hr:Region.ready md ops listed=[])(h:Q .normal a w) :
  ∀ fuel,xJx P md ops Q S X fuel listed a w
 | 0=>⟨hr,h⟩
 | _+1=>⟨fun _=>h,by rw[hr];simp⟩
theorem xJk{id:Nat}{a:Act}{w:World}(S:World->Prop)(X:List Nat)(hm:P.follows .mixedOrders=true)
  (h:xJx P .any ops Q S X ops.size (Array.replicate ops.size false) a w.drew):(Code.region id ops true).wp P Q a w:=
 wp_region_any hm (xQl _ _ _ _ h)
theorem xJ4{i:Nat}{o:Oper}{fuel:Nat}{listed:Array Bool}{a:Act}{w:World}(hr:Region.ready md ops listed=[i])(ho:ops[i]? = some o)
  (h:∀ K':Act->World->Prop,Shut (∀ a w,S w->xJx P md ops Q S X fuel (listed.setIfInBounds i true) a w->K' a w)->if Region.wanted o (yielded ops a.tmps)=true then Oper.wp P o a w K' Q else K' (a.put o.dst undef) w) :
  xJx P md ops Q S X (fuel+1) listed a w:=by
 refine⟨fun h0=>absurd (hr ▸ h0) (by simp),fun j hj=>?_⟩;rw[hr] at hj;obtain rfl:=List.mem_singleton.1 hj;exact wpOp_step ho (fun K' hK=>h K' (fun a w hS hW=>hK a w ⟨fun _=>hS,hW⟩))
theorem xJd{i:Nat}{o:Oper}{fuel:Nat}{listed:Array Bool}{a:Act}{w:World}(hr:Region.ready md ops listed=[i])(ho:ops[i]? = some o)(hx:zWx X (listed.setIfInBounds i true)=true)
  (h:∀ K':Act->World->Prop,Shut (∀ a w,xJx P md ops Q S X fuel (listed.setIfInBounds i true) a w->K' a w)->if Region.wanted o (yielded ops a.tmps)=true then Oper.wp P o a w K' Q else K' (a.put o.dst undef) w) :
  xJx P md ops Q S X (fuel+1) listed a w:=by
 refine⟨fun h0=>absurd (hr ▸ h0) (by simp),fun j hj=>?_⟩;rw[hr] at hj;obtain rfl:=List.mem_singleton.1 hj;exact wpOp_step ho (fun K' hK=>h K' (fun a w hW=>hK a w ⟨fun h1=>(by rw[hx] at h1;cases h1),hW⟩))
end
end
def rxO(o:OpV):OpV:={ o with del:=[] }
structure OhMem{α:Type}(p:Addr)(H:World->List α->Prop)(lt:α->α->Bool):Prop where
 ord:WkOrd lt
 len:∀ w l,H w l->l.length<=1000000000000/\∃ (A:Option Addr) (c:Nat),(∀ n,Sem.run Tryz.prog (method (n+1) 189 (.pointer (some p)) "Len") w=.ok (204,.slice A l.length c) w)/\Calls Tryz.prog 204 #[.slice A l.length c] w fun e w'=>e=.returned (.int .i64 (l.length:Int))/\w=w'
 less:∀ w l (i j:Nat) x y,H w l->l[i]? = some x->l[j]? = some y->∃ (A:Option Addr) (c:Nat),(∀ n,Sem.run Tryz.prog (method (n+1) 189 (.pointer (some p)) "Less") w=.ok (205,.slice A l.length c) w)/\Calls Tryz.prog 205 #[.slice A l.length c,.int .i64 (i:Int),.int .i64 (j:Int)] w fun e w'=>e=.returned (.bool (lt x y))/\H w' l
 swap:∀ w l (i j:Nat),H w l->i < l.length->j < l.length->∃ (A:Option Addr) (c:Nat),(∀ n,Sem.run Tryz.prog (method (n+1) 189 (.pointer (some p)) "Swap") w=.ok (206,.slice A l.length c) w)/\Calls Tryz.prog 206 #[.slice A l.length c,.int .i64 (i:Int),.int .i64 (j:Int)] w fun e w'=>e=.returned (.tuple #[])/\H w' (xXa l i j)
section
variable {α:Type}{p:Addr}{H:World->List α->Prop}{lt:α->α->Bool}
theorem vVq(k:Nat)(h:0 < k):((k:Int) - 1) / 2=(((k - 1) / 2:Nat):Int):=by omega
def OhUp(H:World->List α->Prop)(lt:α->α->Bool)(l0:List α)(e:Ending)(w':World):Prop:=e=.returned (.tuple #[])/\∃ l,H w' l/\HeapN lt l0.length l/\l.Perm l0
theorem Ohup(M:OhMem p H lt)(w:World)(l0:List α)(k0:Nat)(hH:H w l0)(hk:k0 < l0.length)(hU:HoleU lt l0.length k0 l0) :
  Calls Tryz.prog 115 #[.iface 189 (.pointer (some p)),.int .i64 (k0:Int)] w (OhUp H lt l0):=by
 obtain⟨hn,-⟩:=M.len w l0 hH;go_enter Tryz.func115,Tryz.ntmps115;go_wp2
 go_loopw [1] (fun j wr=>∃ (k:Nat) (l:List α),j=.int .i64 (k:Int)/\k < l0.length/\H wr l/\Hid (HoleU lt l0.length k l)/\Hid (l.Perm l0)) (fun j _=>(intOf j).toNat)
 case atStart=>exact⟨k0,l0,rfl,hk,hH,hU,List.Perm.refl _⟩
 case round=>
  clear hU;obtain⟨k,l,rfl,hkl,hw,hU,hP⟩:=hrel;have hll:l.length=l0.length:=hP.out.length_eq;have hkl2:k < l.length:=by omega
  have HLL:=lHd hll;clear hll hH
  by_cases h0:k=0
  ·subst h0;go_wp2
   go_end0
   exact⟨rfl,l,hw,hU.out.done0,hP.out⟩
  ·have hk0:0 < k:=by omega
   have hq:(k - 1) / 2 < l.length:=by omega
   obtain⟨x,hx⟩:∃ x,l[k]? = some x:=⟨_,lGe hkl2⟩;obtain⟨y,hy⟩:∃ y,l[(k - 1) / 2]? = some y:=⟨_,lGe hq⟩;have he:=vVq k hk0;obtain⟨A,c,hm,hc⟩:=M.less wr l k ((k - 1) / 2) x y hw hx hy;obtain⟨q,hq2⟩:∃ q,q=(k - 1) / 2:=⟨_,rfl⟩;rw[<- hq2] at he hy hq hc;have hne:¬ (q:Int)=(k:Int):=by omega
   have HX:=lHd hx;have HY:=lHd hy;have HQ:=lHd hq2;clear hx hy hq2
   cases hlt:lt x y with
   | false=>
    rw[hlt] at hc;have HT:=lHd hlt;clear hlt
    go_wp2_with (go_at_call 205;(with_reducible refine hc.mono ?_);rintro e w2 ⟨rfl,hw2⟩)
    go_end0
    refine⟨rfl,l,hw2,hU.out.done ?_,hP.out⟩;intro a b ha hb;rw[HX.out] at ha;rw[<- HQ.out,HY.out] at hb;injection ha with ha;injection hb with hb
    rw[<- ha,<- hb];exact HT.out
   | true=>
    rw[hlt] at hc;have HT:=lHd hlt;clear hlt
    go_wp2_with (go_at_call 205;(with_reducible refine hc.mono ?_);rintro e w2 ⟨rfl,hw2⟩;obtain⟨A,c,hm2,hc2⟩:=M.swap w2 l q k hw2 hq hkl2)
    go_wp2_with (go_at_call 206;(with_reducible refine hc2.mono ?_);rintro e w3 ⟨rfl,hw3⟩)
    have HU2:Hid (HoleU lt l0.length q (xXa l q k)):=by
     have h:=hU.out.up M.ord hk0 hkl (by rw[HLL.out];exact Nat.le_refl _) (fun a b ha hb=>by
      rw[HX.out] at ha;rw[<- HQ.out,HY.out] at hb;injection ha with ha;injection hb with hb
      rw[<- ha,<- hb];exact HT.out)
     rw[<- HQ.out] at h;exact h
    go_roundw
    case rel=>exact⟨q,xXa l q k,rfl,by have:=HQ.out;omega,hw3,HU2,(xXm _ _ _).trans hP.out⟩
    case measure=>have:=HQ.out;simp[intOf];omega
theorem vKe(W:WkOrd lt)(l:List α)(k:Nat):Okp lt l k k:=fun a b ha hb=>by
 rw[ha] at hb;injection hb with hb;subst hb
 cases e:lt a a with
 | false=>rfl
 | true=>have:=W.asym a a e;rw[e] at this;exact this
theorem vVr(W:WkOrd lt){n i j:Nat}{l:List α}(hm:∀ k,0 < k->k < n->(k - 1) / 2=i->Okp lt l k j)(hj:j < l.length)(h:Okp lt l j i):∀ k,0 < k->k < n->(k - 1) / 2=i->Okp lt l k i:=
 fun k h1 h2 h3 a b ha hb=>W.ntr a l[j] b (hm k h1 h2 h3 a _ ha (lGe hj)) (h _ b (lGe hj) hb)
theorem vKf(W:WkOrd lt){n i j1 j2:Nat}{l:List α}(h1:2 * i+1=j1)(h2:j1+1=j2)(h:j2 < n->Okp lt l j2 j1):∀ k,0 < k->k < n->(k - 1) / 2=i->Okp lt l k j1:=fun k k0 k1 k2=>by
 rcases (show k=j1\/k=j2 by omega) with rfl | rfl
 ·exact vKe W l k
 ·exact h k1
theorem Ohtwo(W:WkOrd lt){n i j1 j2:Nat}{l:List α}(h1:2 * i+1=j1)(h2:j1+1=j2)(h:Okp lt l j1 j2):∀ k,0 < k->k < n->(k - 1) / 2=i->Okp lt l k j2:=fun k k0 k1 k2=>by
 rcases (show k=j1\/k=j2 by omega) with rfl | rfl
 ·exact h
 ·exact vKe W l k
theorem zWr{l:List α}{k p:Nat}{x y:α}(hx:l[k]? = some x)(hy:l[p]? = some y)(h:lt x y=false):Okp lt l k p:=fun a b ha hb=>by
 rw[hx] at ha;rw[hy] at hb;injection ha with ha;injection hb with hb
 rw[<- ha,<- hb];exact h
def vKg(H:World->List α->Prop)(lt:α->α->Bool)(n i0:Nat)(l0:List α)(e:Ending)(w':World):Prop:=
 ∃ (b:Bool) (l:List α),e=.returned (.bool b)/\H w' l/\l.Perm l0/\(∀ k,n<=k->l[k]? = l0[k]?)/\(b=true->HeapN lt n l)/\(b=false->l=l0/\HoleU lt n i0 l)
theorem vQv(M:OhMem p H lt)(w:World)(l0:List α)(i0 n:Nat)(hH:H w l0)(hnl:n<=l0.length)(hi0:i0 < l0.length)(hD:HoleD lt n i0 l0) :
  Calls Tryz.prog 106 #[.iface 189 (.pointer (some p)),.int .i64 (i0:Int),.int .i64 (n:Int)] w (vKg H lt n i0 l0):=by
 obtain⟨hn,-⟩:=M.len w l0 hH;go_enter Tryz.func106,Tryz.ntmps106;go_wp2
 go_loopw [7] (fun j wr=>∃ (i:Nat) (l:List α),j=.int .i64 (i:Int)/\i < l0.length/\H wr l/\Hid (Sink lt n i0 l0 i l)) (fun j _=>l0.length - (intOf j).toNat)
 case atStart=>exact⟨i0,l0,rfl,hi0,hH,hD.sink⟩
 case round=>
  clear hD;obtain⟨i,l,rfl,hil,hw,hS⟩:=hrel;have hll:l.length=l0.length:=hS.out.perm.length_eq;have hil2:i < l.length:=by omega
  have hnl2:n<=l.length:=by omega
  obtain⟨j1,hj1⟩:∃ j1,2 * i+1=j1:=⟨_,rfl⟩;obtain⟨j2,hj2⟩:∃ j2,j1+1=j2:=⟨_,rfl⟩;have he1:2 * (i:Int)+1=(j1:Int):=by omega
  have he2:(j1:Int)+1=(j2:Int):=by omega
  obtain⟨z,hz⟩:∃ z,l[i]? = some z:=⟨_,lGe hil2⟩;have HLL:=lHd hll;have HJ1:=lHd hj1;have HJ2:=lHd hj2;have hb1:j1<=4000000000000:=by omega
  have HZ:=lHd hz
  by_cases h1:n<=j1
  ·clear hll hj1 hj2 hz;have hch:∀ k,0 < k->k < n->(k - 1) / 2=i->Okp lt l k i:=fun k k0 k1 k2=>by have:=HJ1.out;omega
   by_cases hii:i0 < i
   ·have HCH:=lHd hch;clear hch;go_wp2;have hch:=HCH.out;go_ret;refine⟨_,l,rfl,hw,hS.out.perm,hS.out.beyond,fun _=>hS.out.done hch (by omega),by simp⟩
   ·have HCH:=lHd hch;clear hch;obtain rfl:i=i0:=by have:=hS.out.ge;omega
    go_wp2;have hch:=HCH.out;go_ret;refine⟨_,l,rfl,hw,hS.out.perm,hS.out.beyond,by simp,fun _=>hS.out.stay hch⟩
  ·have h1':j1 < l.length:=by omega
   have h1n:j1 < n:=by omega
   obtain⟨x,hx⟩:∃ x,l[j1]? = some x:=⟨_,lGe h1'⟩;have HX:=lHd hx;clear hll hj1 hj2 hx hz
   by_cases h2:n<=j2
   ·have HM:Hid (∀ k,0 < k->k < n->(k - 1) / 2=i->Okp lt l k j1):=lHd (vKf M.ord HJ1.out HJ2.out (fun h=>by omega))
    cases hl3:lt x z with
    | false=>
     have hch:∀ k,0 < k->k < n->(k - 1) / 2=i->Okp lt l k i:=vVr M.ord HM.out h1' (zWr HX.out HZ.out hl3)
     by_cases hii:i0 < i
     ·have HCH:=lHd hch;clear hch;obtain⟨A,c,hm2,hc2⟩:=M.less wr l j1 i x z hw HX.out HZ.out;rw[hl3] at hc2
      go_wp2_with (go_at_call 205;(with_reducible refine hc2.mono ?_);rintro e w3 ⟨rfl,hw3⟩)
      have hch:=HCH.out;go_ret;refine⟨_,l,rfl,hw3,hS.out.perm,hS.out.beyond,fun _=>hS.out.done hch (by omega),by simp⟩
     ·have HCH:=lHd hch;clear hch;obtain rfl:i=i0:=by have:=hS.out.ge;omega
      obtain⟨A,c,hm2,hc2⟩:=M.less wr l j1 i x z hw HX.out HZ.out;rw[hl3] at hc2
      go_wp2_with (go_at_call 205;(with_reducible refine hc2.mono ?_);rintro e w3 ⟨rfl,hw3⟩)
      have hch:=HCH.out;go_ret;refine⟨_,l,rfl,hw3,hS.out.perm,hS.out.beyond,by simp,fun _=>hS.out.stay hch⟩
    | true=>
     obtain⟨A,c,hm2,hc2⟩:=M.less wr l j1 i x z hw HX.out HZ.out;rw[hl3] at hc2
     go_wp2_with (go_at_call 205;(with_reducible refine hc2.mono ?_);rintro e w3 ⟨rfl,hw3⟩;obtain⟨A,c,hm4,hc4⟩:=M.swap w3 l i j1 hw3 hil2 h1')
     go_wp2_with (go_at_call 206;refine hc4.mono ?_;rintro e w4 ⟨rfl,hw4⟩)
     have HS2:=lHd (hS.out.down M.ord (by rw[HLL.out];exact hnl) (show 0 < j1 by have:=HJ1.out;have:=HJ2.out;omega) h1n (by have:=HJ1.out;have:=HJ2.out;omega) (fun a b ha hb=>by rw[HX.out] at ha;rw[HZ.out] at hb;injection ha with ha;injection hb with hb;rw[<- ha,<- hb];exact hl3) HM.out)
     go_roundw
     case rel=>exact⟨j1,xXa l i j1,rfl,by have:=HLL.out;omega,hw4,HS2⟩
     case measure=>have:=HJ1.out;have:=HJ2.out;simp[intOf];omega
   ·have h2n:j2 < n:=by omega
    have h2':j2 < l.length:=by omega
    obtain⟨y,hy⟩:∃ y,l[j2]? = some y:=⟨_,lGe h2'⟩;have HY:=lHd hy;obtain⟨A,c,hm,hc⟩:=M.less wr l j2 j1 y x hw hy HX.out;clear hy
    cases hlt:lt y x with
    | false=>
     rw[hlt] at hc;have HT:=lHd hlt;clear hlt;have HM:Hid (∀ k,0 < k->k < n->(k - 1) / 2=i->Okp lt l k j1):=lHd (vKf M.ord HJ1.out HJ2.out (fun _=>zWr HY.out HX.out HT.out))
     cases hl3:lt x z with
     | false=>
      have hch:∀ k,0 < k->k < n->(k - 1) / 2=i->Okp lt l k i:=vVr M.ord HM.out h1' (zWr HX.out HZ.out hl3)
      by_cases hii:i0 < i
      ·have HCH:=lHd hch;clear hch
       go_wp2_with (go_at_call 205;(with_reducible refine hc.mono ?_);rintro e w2 ⟨rfl,hw2⟩;obtain⟨A,c,hm2,hc2⟩:=M.less w2 l j1 i x z hw2 HX.out HZ.out;rw[hl3] at hc2)
       go_wp2_with (go_at_call 205;(with_reducible refine hc2.mono ?_);rintro e w3 ⟨rfl,hw3⟩)
       have hch:=HCH.out;go_ret;refine⟨_,l,rfl,hw3,hS.out.perm,hS.out.beyond,fun _=>hS.out.done hch (by omega),by simp⟩
      ·have HCH:=lHd hch;clear hch;obtain rfl:i=i0:=by have:=hS.out.ge;omega
       go_wp2_with (go_at_call 205;(with_reducible refine hc.mono ?_);rintro e w2 ⟨rfl,hw2⟩;obtain⟨A,c,hm2,hc2⟩:=M.less w2 l j1 i x z hw2 HX.out HZ.out;rw[hl3] at hc2)
       go_wp2_with (go_at_call 205;(with_reducible refine hc2.mono ?_);rintro e w3 ⟨rfl,hw3⟩)
       have hch:=HCH.out;go_ret;refine⟨_,l,rfl,hw3,hS.out.perm,hS.out.beyond,by simp,fun _=>hS.out.stay hch⟩
     | true=>
      go_wp2_with (go_at_call 205;(with_reducible refine hc.mono ?_);rintro e w2 ⟨rfl,hw2⟩;obtain⟨A,c,hm2,hc2⟩:=M.less w2 l j1 i x z hw2 HX.out HZ.out;rw[hl3] at hc2)
      go_wp2_with (go_at_call 205;(with_reducible refine hc2.mono ?_);rintro e w3 ⟨rfl,hw3⟩;obtain⟨A,c,hm4,hc4⟩:=M.swap w3 l i j1 hw3 hil2 h1')
      go_wp2_with (go_at_call 206;refine hc4.mono ?_;rintro e w4 ⟨rfl,hw4⟩)
      have HS2:=lHd (hS.out.down M.ord (by rw[HLL.out];exact hnl) (show 0 < j1 by have:=HJ1.out;have:=HJ2.out;omega) h1n (by have:=HJ1.out;have:=HJ2.out;omega) (fun a b ha hb=>by rw[HX.out] at ha;rw[HZ.out] at hb;injection ha with ha;injection hb with hb;rw[<- ha,<- hb];exact hl3) HM.out)
      go_roundw
      case rel=>exact⟨j1,xXa l i j1,rfl,by have:=HLL.out;omega,hw4,HS2⟩
      case measure=>have:=HJ1.out;have:=HJ2.out;simp[intOf];omega
    | true=>
     rw[hlt] at hc;have HT:=lHd hlt;clear hlt;have HM:Hid (∀ k,0 < k->k < n->(k - 1) / 2=i->Okp lt l k j2):=lHd (Ohtwo M.ord HJ1.out HJ2.out (zWr HX.out HY.out (M.ord.asym _ _ HT.out)))
     cases hl3:lt y z with
     | false=>
      have hch:∀ k,0 < k->k < n->(k - 1) / 2=i->Okp lt l k i:=vVr M.ord HM.out h2' (zWr HY.out HZ.out hl3)
      by_cases hii:i0 < i
      ·have HCH:=lHd hch;clear hch
       go_wp2_with (go_at_call 205;(with_reducible refine hc.mono ?_);rintro e w2 ⟨rfl,hw2⟩;obtain⟨A,c,hm2,hc2⟩:=M.less w2 l j2 i y z hw2 HY.out HZ.out;rw[hl3] at hc2)
       go_wp2_with (go_at_call 205;(with_reducible refine hc2.mono ?_);rintro e w3 ⟨rfl,hw3⟩)
       have hch:=HCH.out;go_ret;refine⟨_,l,rfl,hw3,hS.out.perm,hS.out.beyond,fun _=>hS.out.done hch (by omega),by simp⟩
      ·have HCH:=lHd hch;clear hch;obtain rfl:i=i0:=by have:=hS.out.ge;omega
       go_wp2_with (go_at_call 205;(with_reducible refine hc.mono ?_);rintro e w2 ⟨rfl,hw2⟩;obtain⟨A,c,hm2,hc2⟩:=M.less w2 l j2 i y z hw2 HY.out HZ.out;rw[hl3] at hc2)
       go_wp2_with (go_at_call 205;(with_reducible refine hc2.mono ?_);rintro e w3 ⟨rfl,hw3⟩)
       have hch:=HCH.out;go_ret;refine⟨_,l,rfl,hw3,hS.out.perm,hS.out.beyond,by simp,fun _=>hS.out.stay hch⟩
     | true=>
      go_wp2_with (go_at_call 205;(with_reducible refine hc.mono ?_);rintro e w2 ⟨rfl,hw2⟩;obtain⟨A,c,hm2,hc2⟩:=M.less w2 l j2 i y z hw2 HY.out HZ.out;rw[hl3] at hc2)
      go_wp2_with (go_at_call 205;(with_reducible refine hc2.mono ?_);rintro e w3 ⟨rfl,hw3⟩;obtain⟨A,c,hm4,hc4⟩:=M.swap w3 l i j2 hw3 hil2 h2')
      go_wp2_with (go_at_call 206;refine hc4.mono ?_;rintro e w4 ⟨rfl,hw4⟩)
      have HS2:=lHd (hS.out.down M.ord (by rw[HLL.out];exact hnl) (show 0 < j2 by have:=HJ1.out;have:=HJ2.out;omega) h2n (by have:=HJ1.out;have:=HJ2.out;omega) (fun a b ha hb=>by rw[HY.out] at ha;rw[HZ.out] at hb;injection ha with ha;injection hb with hb;rw[<- ha,<- hb];exact hl3) HM.out)
      go_roundw
      case rel=>exact⟨j2,xXa l i j2,rfl,by have:=HLL.out;omega,hw4,HS2⟩
      case measure=>have:=HJ1.out;have:=HJ2.out;simp[intOf];omega
theorem Ohfix(M:OhMem p H lt)(w:World)(l0:List α)(i:Nat)(hH:H w l0)(hi:i < l0.length)(hD:HoleD lt l0.length i l0) :
  Calls Tryz.prog 100 #[.iface 189 (.pointer (some p)),.int .i64 (i:Int)] w (OhUp H lt l0):=by
 obtain⟨hn,A,c,hm,hc⟩:=M.len w l0 hH;have hd:=vQv M w l0 i l0.length hH (Nat.le_refl _) hi hD;go_enter Tryz.func100,Tryz.ntmps100
 go_wp2_with (go_at_call 204;(with_reducible refine hc.mono ?_);rintro e w' ⟨rfl,rfl⟩)
 go_wp2_with (go_at_call 106;(with_reducible refine hd.mono ?_);rintro e w2 ⟨b,l,rfl,hw2,hp,hbe,hy,hno⟩;cases b)
 ·obtain⟨rfl,hU⟩:=hno (by simp);have hu:=Ohup M w2 l i hw2 hi hU;clear hy hno hbe hD
  go_wp2_with (go_at_call 115;(with_reducible refine hu.mono ?_);rintro e w3 ⟨rfl,hw3⟩)
  go_end0
  exact⟨rfl,hw3⟩
 ·have HY:=lHd (hy (by simp));clear hy hno hbe hD;go_wp2
  go_end0
  exact⟨rfl,l,hw2,HY.out,hp⟩
theorem vKh(M:OhMem p H lt)(w:World)(l0:List α)(x:α)(v:Value)(hh:HeapN lt l0.length l0)(hpm:∀ n w,Sem.run Tryz.prog (method (n+1) 189 (.pointer (some p)) "Push") w=.ok (208,.pointer (some p)) w)
  (hpush:Calls Tryz.prog 208 #[.pointer (some p),v] w fun e w'=>e=.returned (.tuple #[])/\H w' (l0 ++ [x])) :
  Calls Tryz.prog 72 #[.iface 189 (.pointer (some p)),v] w (OhUp H lt (l0 ++ [x])):=by
 have HH:=lHd hh;clear hh;go_enter Tryz.func72,Tryz.ntmps72;have hh1:=HH.out.snoc rfl x;obtain⟨l1,hl1⟩:∃ l1,l0 ++ [x]=l1:=⟨_,rfl⟩;have hlen:l1.length=l0.length+1:=by rw[<- hl1];simp
 rw[<- hlen,hl1] at hh1;rw[hl1] at hpush;have hl2:(l1.length:Int) - 1=(l0.length:Int):=by omega
 have hltn:l0.length < l1.length:=by omega
 have HL1:=lHd hl1;clear hl1 hlen
 go_wp2_with (go_at_call 208;(with_reducible refine hpush.mono ?_);rintro e w1 ⟨rfl,hw1⟩;obtain⟨hn,A,c,hm,hc⟩:=M.len w1 _ hw1;have hu:=Ohup M w1 _ l0.length hw1 hltn hh1;clear hh1 hpush hltn)
 go_wp2_with (go_at_call 204;(with_reducible refine hc.mono ?_);rintro e w' ⟨rfl,rfl⟩)
 go_wp2_with (go_at_call 115;(with_reducible refine hu.mono ?_);rintro e w3 ⟨rfl,hw3⟩)
 go_end0
 rw[HL1.out];exact⟨rfl,hw3⟩
def vZw(H2:World->List α->α->Prop)(val:α->Value)(lt:α->α->Bool)(l0:List α)(e:Ending)(w':World):Prop:=
 ∃ (x:α) (l:List α),e=.returned (val x)/\H2 w' l x/\HeapN lt l.length l/\(l ++ [x]).Perm l0/\∀ y∈l0,lt y x=false
theorem Ohpop(M:OhMem p H lt)(w:World)(l0:List α)(H2:World->List α->α->Prop)(val:α->Value)(hH:H w l0)(h0:0 < l0.length)(hh:HeapN lt l0.length l0)(hpm:∀ n w,Sem.run Tryz.prog (method (n+1) 189 (.pointer (some p)) "Pop") w=.ok (207,.pointer (some p)) w)
  (hpop:∀ w l x,H w (l ++ [x])->Calls Tryz.prog 207 #[.pointer (some p)] w fun e w'=>e=.returned (val x)/\H2 w' l x) :
  Calls Tryz.prog 67 #[.iface 189 (.pointer (some p))] w (vZw H2 val lt l0):=by
 obtain⟨hn,A,c,hm,hc⟩:=M.len w l0 hH;obtain⟨n,hn1⟩:∃ n,n+1=l0.length:=⟨l0.length - 1,by omega⟩;have hn2:(l0.length:Int) - 1=(n:Int):=by omega
 have hnl:n < l0.length:=by omega
 obtain⟨A2,c2,hm2,hs⟩:=M.swap w l0 0 n hH h0 hnl;have z0:((0:Nat):Int)=0:=rfl;rw[z0] at hs;have hlen:(xXa l0 0 n).length=n+1:=by rw[xZf];omega
 have HD:Hid (HoleD lt n 0 (xXa l0 0 n)):=HeapN.pop (by rw[hn1];exact hh) hn1;have HH:=lHd hh;have HLEN:=lHd hlen;clear hh hn1 hlen;go_enter Tryz.func67,Tryz.ntmps67
 go_wp2_with (go_at_call 204;(with_reducible refine hc.mono ?_);rintro e w' ⟨rfl,rfl⟩)
 go_wp2_with (go_at_call 206;(with_reducible refine hs.mono ?_);rintro e w2 ⟨rfl,hw2⟩)
 have hd:=vQv M w2 _ 0 n hw2 (by rw[HLEN.out];omega) (by rw[HLEN.out];omega) HD.out;rw[z0] at hd
 go_wp2_with (go_at_call 106;(with_reducible refine hd.mono ?_);rintro e w3 ⟨b,l,rfl,hw3,hp,hbe,hy,hno⟩)
 have hll:l.length=n+1:=by rw[hp.length_eq,HLEN.out]
 have hz:0 < l0.length:=h0;have hlast:l[n]? = some l0[0]:=by
  rw[hbe n (Nat.le_refl _),xQp h0 hnl]
  by_cases e0:n=0
  ·rw[if_pos rfl,lGe hz]
  ·rw[if_pos rfl,lGe hz]
 have hsplit:l=l.take n ++ [l0[0]]:=by
  have h1:=List.take_append_drop n l;have h2:l.drop n=[l0[0]]:=by
   rw[List.drop_eq_getElem_cons (by omega),List.drop_eq_nil_of_le (by omega)];have h3:=lGe (show n < l.length by omega);rw[hlast] at h3;injection h3 with h3
   rw[<- h3]
  rw[h2] at h1;exact h1.symm
 have hheap:HeapN lt n l:=by
  cases b with
  | true=>exact hy (by simp)
  | false=>exact (hno (by simp)).2.done0
 have HR:Hid (HeapN lt (l.take n).length (l.take n)/\(l.take n ++ [l0[0]]).Perm l0/\∀ y∈l0,lt y l0[0]=false):=by
  refine⟨?_,?_,?_⟩
  ·rw[List.length_take,Nat.min_eq_left (by omega)];exact hheap.take
  ·rw[<- hsplit];exact hp.trans (xXm _ _ _)
  ·intro y hyy;obtain⟨k,hk,rfl⟩:=List.getElem_of_mem hyy;exact HH.out.least M.ord (Nat.le_refl _) k hk _ _ (lGe hk) (lGe hz)
 rw[hsplit] at hw3;have hpp:=hpop w3 _ _ hw3;clear hsplit hheap hlast hll hbe hy hno hp
 go_wp2_with (go_at_call 207;(with_reducible refine hpp.mono ?_);rintro e w4 ⟨rfl,hw4⟩)
 go_ret;exact⟨_,_,rfl,hw4,HR.out⟩
end
section
def vKl(s:List Int)(w:Nat):Prop:=∃ e:Nat,(e:Int)∈s/\w.testBit e=true
def HCov(sets:List (List Int))(w x:Nat):Prop:=∀ i:Nat,x.testBit i=true↔∃ s,sets[i]? = some s/\vKl s w
structure Least(cost:Nat->Int)(P:Nat->Prop)(c:Int)(w:Nat):Prop where
 is:P w
 eq:c=cost w
 least:∀ v,P v->cost w < cost v\/(cost w=cost v/\w<=v)
def Cho(cost:Nat->Int)(P:Nat->Prop)(c:Int)(w:Nat):Prop:=Least cost P c w\/(c=1000000000/\w=0/\∀ v,¬ P v)
theorem Cho.min{cost:Nat->Int}{P Q:Nat->Prop}{c d:Int}{w v:Nat}(h:Cho cost P c w)(k:Least cost Q d v)(hd:d < 1000000000) :
  Cho cost (fun x=>P x\/Q x) (if d < c\/(d=c/\v < w) then d else c) (if d < c\/(d=c/\v < w) then v else w):=by
 rcases h with h | ⟨rfl,rfl,h⟩
 ·left;have he:=h.eq;have ke:=k.eq
  by_cases hlt:d < c\/(d=c/\v < w)
  ·rw[if_pos hlt,if_pos hlt];refine⟨.inr k.is,k.eq,fun x hx=>?_⟩;rcases hx with hx | hx
   ·have:=h.least x hx;omega
   ·exact k.least x hx
  ·rw[if_neg hlt,if_neg hlt];refine⟨.inl h.is,h.eq,fun x hx=>?_⟩;rcases hx with hx | hx
   ·exact h.least x hx
   ·have:=k.least x hx;omega
 ·left;rw[if_pos (.inl hd),if_pos (.inl hd)];refine⟨.inr k.is,k.eq,fun x hx=>?_⟩;rcases hx with hx | hx
  ·exact absurd hx (h x)
  ·exact k.least x hx
theorem xVu{w e i:Nat}:(w ||| 2 ^ e).testBit i=(w.testBit i || decide (e=i)):=by
 rw[Nat.testBit_or,Nat.testBit_two_pow]
theorem vJ1{s:List Int}{v e:Nat}:vKl s (v ||| 2 ^ e)↔vKl s v\/(e:Int)∈s:=by
 unfold vKl;constructor
 ·rintro ⟨i,h1,h2⟩;rw[xVu] at h2
  by_cases hi:v.testBit i=true
  ·exact .inl ⟨i,h1,hi⟩
  ·have:e=i:=by simpa[hi] using h2
   subst this;exact .inr h1
 ·rintro (⟨i,h1,h2⟩ | h)
  ·exact⟨i,h1,by rw[xVu,h2];rfl⟩
  ·exact⟨e,h,by rw[xVu];simp⟩
section
variable {sets:List (List Int)}
def vKm(sets:List (List Int))(e x:Nat):Prop:=∀ i:Nat,x.testBit i=true↔∃ s,sets[i]? = some s/\(e:Int)∈s
theorem HCov.or{w x h e:Nat}(hc:HCov sets w x)(hh:vKm sets e h):HCov sets (w ||| 2 ^ e) (x ||| h):=fun i=>by
 rw[Nat.testBit_or,Bool.or_eq_true,hc i,hh i];constructor
 ·rintro (⟨s,h1,h2⟩ | ⟨s,h1,h2⟩)
  ·exact⟨s,h1,vJ1.2 (.inl h2)⟩
  ·exact⟨s,h1,vJ1.2 (.inr h2)⟩
 ·rintro ⟨s,h1,h2⟩;rcases vJ1.1 h2 with h3 | h3
  ·exact .inl ⟨s,h1,h3⟩
  ·exact .inr ⟨s,h1,h3⟩
theorem HCov.zero:HCov sets 0 0:=fun i=>by simp[vKl]
theorem HCov.lt{w x:Nat}(h:HCov sets w x):x < 2 ^ sets.length:=by
 refine Nat.lt_pow_two_of_testBit x fun i hi=>?_
 cases hb:x.testBit i with
 | false=>rfl
 | true=>
  obtain⟨s,h1,_⟩:=(h i).1 hb;have:=(List.getElem?_eq_some_iff.1 h1).1;omega
end
section
variable {sets:List (List Int)}{cs:List Int}
end
end
end Go.Proofs.YtpeipeljmapkmaaGreat
