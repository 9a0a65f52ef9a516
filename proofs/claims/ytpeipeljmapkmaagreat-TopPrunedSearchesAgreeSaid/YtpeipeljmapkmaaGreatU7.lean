/-
  Lemmas for the law: Ufunc.
-/
import Derived.Test.YtpeipeljmapkmaaGreatU1
import Derived.Shelf.SlSortCmp.NoneTotal
set_option linter.unusedVariables false
set_option linter.unusedSimpArgs false
set_option maxRecDepth 100000
set_option maxHeartbeats 4000000
namespace Go.Proofs.YtpeipeljmapkmaaGreat
open Go.RowKit
section
open Go.Shelf Go.Sort
def P1{α:Type}(enc:α->Value)(w:World)(row:Option Nat)(cs:List Value)(x:α):Prop:=cs=[enc x]
theorem zWw{α:Type}(enc:α->Value):Stable (P1 enc):=⟨fun h _=>h,fun h _=>⟨h,h⟩⟩
def vXn{α:Type}(enc:α->Value)(e:TypeId)(base:Nat)(w:World)(v:Value)(xs:List α):Prop:=OwnEs (P1 enc) e 1 base w v xs
section
variable {α:Type}{enc:α->Value}{e:TypeId}
theorem xQk{base:Nat}{w:World}{v:Value}{xs:List α}(h:vXn enc e base w v xs):w.ownsRow base e 1 v xs.length (xs.map enc):=by
 obtain⟨cells,h1,h2⟩:=h;have hl:cells.length=xs.length:=by have:=h1.1;omega
 have hc:cells=xs.map enc:=by
  refine List.ext_getElem (by rw[List.length_map,hl]) fun i hi hj=>?_
  have hx:i < xs.length:=by omega
  have h3:=h2 i _ (lGe hx);unfold P1 at h3;rw[Nat.mul_one,List.drop_eq_getElem_cons hi,List.take_succ_cons,List.take_zero] at h3;rw[List.getElem_map];injection h3
 rw[hc] at h1;exact h1
theorem zQc{base:Nat}{w:World}{v:Value}{xs:List α}(h:w.ownsRow base e 1 v xs.length (xs.map enc)):vXn enc e base w v xs:=by
 refine⟨_,h,fun i a ha=>?_⟩;obtain⟨hi,hx⟩:=List.getElem?_eq_some_iff.1 ha;unfold P1;rw[Nat.mul_one,List.drop_eq_getElem_cons (by rw[List.length_map];exact hi),List.take_succ_cons,List.take_zero,List.getElem_map,hx]
variable [Inhabited α]
theorem xVt{w:World}{base g n cap:Nat}{xs:List α}(h:vXn enc e base w (.slice (some ⟨g,0,none⟩) n cap) xs):Holds enc w g 0 xs.toArray/\g < w.heap.size/\base<=g/\n=xs.length/\n<=cap/\cap<=maxLen/\∃ cur,w.heap[g]? = some (.cells cur e (0,0))/\cur.size=cap/\cur.toList.take xs.length=xs.map enc:=by
 have h':=xQk h;obtain⟨h1,h2⟩:=h';rcases h2 with ⟨h2,h4⟩ | ⟨g',cap',cur,hv,hb,hg,hn,hc,hs,ht⟩
 ·cases h2
 ·injection hv with e1 e2 e3
  injection e1 with e1
  injection e1 with e1
  subst e1;subst e3;subst e2;have hlt:g < w.heap.size:=by
   rcases Nat.lt_or_ge g w.heap.size with hl | hl
   ·exact hl
   ·rw[Array.getElem?_eq_none hl] at hg;cases hg
  rw[Nat.mul_one] at ht hs;refine⟨fun j hj=>?_,hlt,hb,rfl,hn,hc,cur,hg,hs,ht⟩;have hj':j < xs.length:=by simpa using hj
  refine⟨?_,by simp[World.frozen?,hg]⟩;have h3:(cur.toList.take xs.length)[j]? = (xs.map enc)[j]?:=by rw[ht]
  rw[List.getElem?_take_of_lt hj'] at h3;simp only[World.cell?,hg,Nat.zero_add];simp only[Option.isSome_none,Bool.false_eq_true,if_false];rw[<- Array.getElem?_toList,h3];simp[hj']
theorem zVb{w:World}{base g n cap m:Nat}{xs ts:List α}{os:Array Obj}(h:vXn enc e base w (.slice (some ⟨g,0,none⟩) n cap) xs)(hl:ts.length=xs.length) :
  vXn enc e base (sortWorld enc w g 0 m ts.toArray os) (.slice (some ⟨g,0,none⟩) n cap) ts/\w.grownBy (sortWorld enc w g 0 m ts.toArray os) (some g):=by
 obtain⟨_,hlt,hb,hn,hnc,hcm,cur,hg,hcs,ht⟩:=xVt h;have hh:(sortWorld enc w g 0 m ts.toArray os).heap[g]? = some (.cells (putCells enc 0 ts.toArray cur) e (0,0)):=by
  unfold sortWorld;rw[heap_grow_old _ _ (by simpa using hlt)];simp[putRow,mapBlock,Sort.ahead,Array.getElem?_modify,hg,onCells]
 refine⟨zQc ⟨by simp,.inr ⟨g,cap,_,by rw[hn,<- hl],hb,hh,by omega,hcm,by simp[putCells,hcs],?_⟩⟩,?_⟩
 ·rw[Nat.mul_one];apply List.ext_getElem?;intro j
  by_cases hj:j < ts.length
  ·rw[List.getElem?_take_of_lt hj,Array.getElem?_toList];simp[putCells,hj,show j < cur.size by omega]
  ·rw[List.getElem?_take_eq_none (by omega),List.getElem?_eq_none (by simp;omega)]
 ·unfold sortWorld;refine⟨rfl,rfl,rfl,by simp,fun k hk hne=>?_⟩;rw[heap_grow_old _ _ (by simpa using hk)];have:g≠k:=fun e=>hne (by rw[e])
  simp[putRow,mapBlock,Sort.ahead,Array.getElem?_modify,this]
end
end
end Go.Proofs.YtpeipeljmapkmaaGreat
