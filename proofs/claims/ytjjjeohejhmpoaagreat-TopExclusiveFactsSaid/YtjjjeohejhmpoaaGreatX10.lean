/-
  Lemmas.
-/
import Derived.Test.YtjjjeohejhmpoaaGreatX1
import Derived.Shelf.SlSortCmp.NoneTotal
set_option linter.unusedVariables false
set_option linter.unusedSimpArgs false
set_option maxRecDepth 100000
set_option maxHeartbeats 4000000
namespace Go.Proofs.YtjjjeohejhmpoaaGreat
open Go.RowKit Go.Proofs.Tryz
section
open Go.Shelf Go.Sort
def P1{α:Type}(enc:α->Value)(w:World)(row:Option Nat)(cs:List Value)(x:α):Prop:=cs=[enc x]
theorem zXo{α:Type}(enc:α->Value):Stable (P1 enc):=⟨fun h _=>h,fun h _=>⟨h,h⟩⟩
def yZf{α:Type}(enc:α->Value)(e:TypeId)(base:Nat)(w:World)(v:Value)(xs:List α):Prop:=OwnEs (P1 enc) e 1 base w v xs
section
variable {α:Type}{enc:α->Value}{e:TypeId}
theorem xQx{base:Nat}{w:World}{v:Value}{xs:List α}(h:yZf enc e base w v xs):w.ownsRow base e 1 v xs.length (xs.map enc):=by
 obtain⟨cells,h1,h2⟩:=h;have hl:cells.length=xs.length:=by have:=h1.1;omega
 have hc:cells=xs.map enc:=by
  refine List.ext_getElem (by rw[zQl,hl]) fun i hi hj=>?_
  have hx:i<xs.length:=by omega
  have h3:=h2 i _ (lGe hx);unfold P1 at h3;rw[Nat.mul_one,List.drop_eq_getElem_cons hi,yJx,List.take_zero] at h3;rw[List.getElem_map];injection h3
 rw[hc] at h1;exact h1
theorem vJt{base:Nat}{w:World}{v:Value}{xs:List α}(h:w.ownsRow base e 1 v xs.length (xs.map enc)):yZf enc e base w v xs:=by
 refine⟨_,h,fun i a ha=>?_⟩;obtain⟨hi,hx⟩:=zQ1.1 ha;unfold P1;rw[Nat.mul_one,List.drop_eq_getElem_cons (by rw[zQl];exact hi),yJx,List.take_zero,List.getElem_map,hx]
variable [Inhabited α]
theorem xYh{w:World}{base g n cap:Nat}{xs:List α}(h:yZf enc e base w (.slice (some ⟨g,0,none⟩) n cap) xs):Holds enc w g 0 xs.toArray/\g<w.heap.size/\base<=g/\n=xs.length/\n<=cap/\cap<=maxLen/\∃cur,w.heap[g]? = some (.cells cur e (0,0))/\cur.size=cap/\cur.toList.take xs.length=xs.map enc:=by
 have h':=xQx h;obtain⟨h1,h2⟩:=h';rcases h2 with⟨h2,h4⟩|⟨g',cap',cur,hv,hb,hg,hn,hc,hs,ht⟩
 ·cases h2
 ·injection hv with e1 e2 e3
  injection e1 with e1
  injection e1 with e1
  subst e1;subst e3;subst e2;have hlt:g<w.heap.size:=by
   rcases vVq g w.heap.size with hl|hl
   ·exact hl
   ·rw[yYd hl] at hg;cases hg
  rw[Nat.mul_one] at ht hs;refine⟨fun j hj=>?_,hlt,hb,rfl,hn,hc,cur,hg,hs,ht⟩;have hj':j<xs.length:=by simpa using hj
  refine⟨?_,by simp[World.frozen?,hg]⟩;have h3:(cur.toList.take xs.length)[j]? = (xs.map enc)[j]?:=by rw[ht]
  rw[List.getElem?_take_of_lt hj'] at h3;simp only[World.cell?,hg,Nat.zero_add];simp only[Option.isSome_none,Bool.false_eq_true,if_false];rw[<- Array.getElem?_toList,h3];simp[hj']
theorem zVj{w:World}{base g n cap m:Nat}{xs ts:List α}{os:Array Obj}(h:yZf enc e base w (.slice (some ⟨g,0,none⟩) n cap) xs)(hl:ts.length=xs.length) :
  yZf enc e base (sortWorld enc w g 0 m ts.toArray os) (.slice (some ⟨g,0,none⟩) n cap) ts/\w.grownBy (sortWorld enc w g 0 m ts.toArray os) (some g):=by
 obtain⟨_,hlt,hb,hn,hnc,hcm,cur,hg,hcs,ht⟩:=xYh h;have hh:(sortWorld enc w g 0 m ts.toArray os).heap[g]? = some (.cells (putCells enc 0 ts.toArray cur) e (0,0)):=by
  unfold sortWorld;rw[heap_grow_old _ _ (by simpa using hlt)];simp[putRow,mapBlock,Sort.ahead,Array.getElem?_modify,hg,onCells]
 refine⟨vJt ⟨by simp,.inr ⟨g,cap,_,by rw[hn,<- hl],hb,hh,by omega,hcm,by simp[putCells,hcs],?_⟩⟩,?_⟩
 ·rw[Nat.mul_one];apply List.ext_getElem?;intro j
  by_cases hj:j<ts.length
  ·rw[List.getElem?_take_of_lt hj,Array.getElem?_toList];simp[putCells,hj,show j<cur.size by omega]
  ·rw[List.getElem?_take_eq_none (by omega),vXn (by simp;omega)]
 ·unfold sortWorld;refine⟨rfl,rfl,rfl,by simp,fun k hk hne=>?_⟩;rw[heap_grow_old _ _ (by simpa using hk)];have:g≠k:=fun e=>hne (by rw[e])
  simp[putRow,mapBlock,Sort.ahead,Array.getElem?_modify,this]
theorem zKx{P:Program}{ρ:Ren}(L:SlLaysF.n6 P ρ)(h1:∀x,(enc x).oneCell'=true)(hoc:OneCell enc)(cf:α->α->Int)(hO:SWO (ltOf cf))(gf:Nat)(cb:Array Value)
  (eg:∀args w,(callFunc gf args).run P w=.ok (.enter gf args) w) (hcmp:∀(W:World) (x y:α),Calls P gf (#[enc x,enc y]++cb) W fun e w'=>e=.returned (.int .i64 (cf x y))/\∃q,w'=W.drewN q)
  {w0 w:World} {base:Nat} {v:Value} {xs:List α} (h:yZf enc e base w v xs) (h0:w0.heap.size<=base) (hB:Below w0.heap.size w0 w) (hl:xs.length<=1000000000000) :
  Calls P (ρ.f 6) #[v,.func (.func gf) #[] cb] w fun e' w'=>e'=.returned (.tuple #[])/\∃ys,ys.Perm xs/\(∀(i j:Nat) (a b:α),i<j->ys[i]? = some a->ys[j]? = some b->¬cf b a<0)/\yZf enc e base w' v ys/\w.grownBy w' v.ownBlock/\Below w0.heap.size w0 w':=by
 obtain⟨A,c,rfl⟩:=OwnEs.form h;have h':=xQx h;rcases h'.2 with⟨h2,h4⟩|⟨g,cap,cur,hv,_⟩
 ·injection h2 with e1 e2 e3
  have hx:=List.eq_nil_of_length_eq_zero e2;subst e1;subst hx;refine(AnyF.slices_SortFunc_none { L with } none c _ w).mono ?_;rintro e' w' ⟨rfl,rfl⟩;exact⟨rfl,[],List.Perm.refl _,by simp,h,⟨rfl,rfl,rfl,Nat.le_refl _,fun k _ _=>rfl⟩,hB⟩
 ·injection hv with e1 e2 e3
  subst e1;obtain⟨hH,hlt,hb,hn,hnc,hcm,_⟩:=xYh h;have hcl:CmpLays1 P gf cb enc cf g 0 xs.toArray.size w:=fun m os dk _ x y=>(hcmp _ x y).mono fun e' w' hw=>⟨hw.1,hw.2.elim fun q hq=>⟨q,#[],by rw[hq];simp⟩⟩
  have hc:=Any.slices_SortFunc L enc hoc cf hO gf cb g 0 c xs.toArray w eg hcl hH hlt (by simp;omega);rw[show xs.toArray.size=xs.length by simp] at hc;refine hc.mono ?_;rintro e' w' ⟨rfl,d',m,os,hp,hs,rfl⟩;have hsz:d'.size=xs.length:=by have:=hp.1;simpa using this
  have hperm:d'.toList.Perm xs:=by
   have h3:=hp.2.2;rw[show d'.extract 0 xs.length=d' by rw[<- hsz];simp,show xs.toArray.extract 0 xs.length=xs.toArray by simp] at h3;simpa using h3
  have hle:d'.toList.length=xs.length:=by simpa using hsz
  obtain⟨h5,h6⟩:=zVj (m:=m) (os:=os) (ts:=d'.toList) h hle;rw[show d'.toList.toArray=d' by simp] at h5 h6;refine⟨rfl,d'.toList,hperm,fun i j a b hij ha hb' hlt'=>?_,h5,h6,hB.grown h6 (by have:=hB.size;omega) (fun k hk=>by injection hk with hk;omega)⟩;obtain⟨hi,hxa⟩:=zQ1.1 ha;obtain⟨hj,hxb⟩:=zQ1.1 hb';have h7:=hs i j (zKk _) hij (by omega);have hi':i<d'.size:=by simpa using hi
  have hj':j<d'.size:=by simpa using hj
  rw[getElem!_pos _ i hi',getElem!_pos _ j hj'] at h7;rw[Array.getElem_toList] at hxa hxb;rw[hxa,hxb] at h7;unfold ltOf at h7;simp at h7;omega
end
end
