/-
  Lemmas for the law: Vi.
-/
import Derived.Test.YtpeipeljmapkmaaGreatU28
import Derived.Test.YtpeipeljmapkmaaGreatU15
import Derived.Test.YtpeipeljmapkmaaGreatU25
import Derived.Test.YtpeipeljmapkmaaGreatU14
import Derived.RegionTactic
import Derived.ChangeAlike
import Derived.BigRegion
import Derived.BigQuiet
import Derived.RangeFuncBox
set_option linter.unusedVariables false
set_option linter.unusedSimpArgs false
set_option maxRecDepth 100000
set_option maxHeartbeats 4000000
namespace Go.Proofs.YtpeipeljmapkmaaGreat
open Go.RowKit
theorem zQs(w:World)(a b:Nat):(w.drewN a).drewN b=w.drewN (a+b):=by simp[World.drewN,Nat.add_assoc]
def xVn(N:List NodeV)(k:Nat):Int:=((N[k]?).map (·.cost)).getD 0
def ltN(N:List NodeV)(a b:Nat):Bool:=decide (xVn N a < xVn N b) || (decide (xVn N a=xVn N b) && decide (a < b))
theorem vV5(N:List NodeV):WkOrd (ltN N):=by
 constructor
 ·intro x y h;simp only[ltN,Bool.or_eq_true,decide_eq_true_eq,Bool.and_eq_true,Bool.or_eq_false_iff,decide_eq_false_iff_not,Bool.and_eq_false_iff] at h ⊢;omega
 ·intro x y z h1 h2;simp only[ltN,Bool.or_eq_true,decide_eq_true_eq,Bool.and_eq_true,Bool.or_eq_false_iff,decide_eq_false_iff_not,Bool.and_eq_false_iff] at h1 h2 ⊢;omega
theorem vXt{N:List NodeV}{a b:Nat}(h:ltN N a b=false):xVn N b<=xVn N a:=by
 simp only[ltN,Bool.or_eq_false_iff,decide_eq_false_iff_not] at h;omega
theorem xYj{N:List NodeV}{k:Nat}{nd:NodeV}(h:N[k]? = some nd):xVn N k=nd.cost:=by unfold xVn;rw[h];rfl
def HpX(bh:Nat)(g0:Option Nat)(k:Nat):Prop:=k=bh\/g0=some k
structure CN(bh bn gn nc:Nat)(N:List NodeV)(g0:Option Nat)(w:World):Prop where
 nbox:Arr w bn 130 [.slice (some ⟨gn,0,none⟩) N.length nc]
 cost:∀ (j:Nat) (nd:NodeV),N[j]? = some nd->w.cell? ⟨gn,j * 4+1,none⟩=some (.int .i64 nd.cost)
 ne:bn≠bh/\gn≠bh/\g0≠some bn/\g0≠some gn
 len:N.length<=1000000000
structure CH(base bh bn:Nat)(N:List NodeV)(g0:Option Nat)(w0 w:World)(l:List Nat):Prop where
 row:∃ A c,OwnI base w (.slice A l.length c) (l.map Int.ofNat)/\Arr w bh 134 [.pointer (some ⟨bn,0,none⟩),.slice A l.length c]/\∀ k,(Value.slice A l.length c).ownBlock=some k->g0=some k\/w0.heap.size<=k
 nds:∀ j∈l,j < N.length
 hb:bh < w0.heap.size/\base<=w0.heap.size/\g0≠some bh
 fr:Kept (HpX bh g0) w0 w
 len:l.length<=1000000000
theorem vXu{w w':World}{B:Nat}{v:Value}{xs:List Int}(h:OwnI B w v xs)(hh:w'.heap=w.heap):OwnI B w' v xs:=zV3 h hh
theorem CH.drewN{base bh bn:Nat}{N:List NodeV}{g0:Option Nat}{w0 w:World}{l:List Nat}(h:CH base bh bn N g0 w0 w l)(n:Nat):CH base bh bn N g0 w0 (w.drewN n) l:=by
 obtain⟨⟨A,c,h1,h2,h3⟩,h4,h5,h6,h7⟩:=h;exact⟨⟨A,c,vXu h1 rfl,h2.heap rfl,h3⟩,h4,h5,h6.drewN n,h7⟩
theorem CH.cell{base bh bn:Nat}{N:List NodeV}{g0:Option Nat}{w0 w:World}{l:List Nat}(h:CH base bh bn N g0 w0 w l):∃ A c,w.cell? ⟨bh,0,none⟩=some (.pointer (some ⟨bn,0,none⟩))/\w.cell? ⟨bh,1,none⟩=some (.slice A l.length c)/\w.frozen? ⟨bh,1,none⟩=false/\OwnI base w (.slice A l.length c) (l.map Int.ofNat):=by
 obtain⟨A,c,h1,h2,h3⟩:=h.row;exact⟨A,c,h2.cell 0,h2.cell 1,h2.free 1,h1⟩
theorem xV7{w:World}{base n c i:Nat}{A:Option Addr}{l:List Nat}{x:Nat}(h:OwnI base w (.slice A n c) (l.map Int.ofNat))(hx:l[i]? = some x):∃ g,A=some ⟨g,0,none⟩/\base<=g/\g < w.heap.size/\w.cell? ⟨g,i,none⟩=some (.int .i64 (x:Int))/\w.frozen? ⟨g,i,none⟩=false:=by
 have hi:i < (l.map Int.ofNat).length:=by rw[List.length_map];exact (List.getElem?_eq_some_iff.1 hx).1
 have hn:=h.len;subst hn;obtain⟨g,e,hb,hg,hc,hf,_⟩:=xY6 h hi;refine⟨g,e,hb,hg,?_,hf⟩;rw[hc,List.getElem?_map,List.getElem?_map,hx];rfl
theorem CH.off{base bh bn:Nat}{N:List NodeV}{g0:Option Nat}{w0 w:World}{l:List Nat}(h:CH base bh bn N g0 w0 w l){k:Nat}(hk:g0=some k\/w0.heap.size<=k):k≠bh:=fun e=>by
 subst e;rcases hk with hk | hk
 ·exact h.hb.2.2 hk
 ·have:=h.hb.1;omega
theorem zKo{w:World}{B n:Nat}{e:TypeId}{size:Nat}{v:Value}{xs:List Value}(h:w.ownsRow B e size v n xs){p:Addr}(hp:∀ k,v.ownBlock=some k->k≠p.block)(u:Value):(w.setCell p u).ownsRow B e size v n xs:=
 xWt h ((Kept.refl (fun k=>k=p.block) w).set (.inl rfl) u) (fun k hk e=>hp k hk e)
theorem zKp(x:Int)(w:World):(Instr.typeAssert (.iface 3 (.int .i64 x)) 20 3 false).run Tryz.prog w=.ok (.int .i64 x) w:=by kernel_rfl
theorem xYw(a:Addr)(n:Nat)(w:World):Sem.run Tryz.prog (method (n+1) 131 (.pointer (some a)) "Len") w=.ok (66,.pointer (some a)) w/\Sem.run Tryz.prog (method (n+1) 131 (.pointer (some a)) "Less") w=.ok (200,.pointer (some a)) w/\Sem.run Tryz.prog (method (n+1) 131 (.pointer (some a)) "Swap") w=.ok (203,.pointer (some a)) w/\Sem.run Tryz.prog (method (n+1) 131 (.pointer (some a)) "Push") w=.ok (202,.pointer (some a)) w/\Sem.run Tryz.prog (method (n+1) 131 (.pointer (some a)) "Pop") w=.ok (201,.pointer (some a)) w:=
 ⟨by kernel_rfl,by kernel_rfl,by kernel_rfl,by kernel_rfl,by kernel_rfl⟩
theorem xWv(bh n c:Nat)(A:Option Addr)(w:World)(hb1:w.cell? ⟨bh,1,none⟩=some (.slice A n c)):Calls Tryz.prog 66 #[.pointer (some ⟨bh,0,none⟩)] w fun e w'=>e=.returned (.int .i64 (n:Int))/\w=w':=by
 go_enter Tryz.func66,Tryz.ntmps66;go_wp2;go_ret;exact⟨rfl,rfl⟩
theorem vXv(w:World)(bh bn g gn i j n c m nc ki kj:Nat)(ci cj:Int)(hi:i < n)(hj:j < n)(hn:n<=1000000000)(hki:ki < m)(hkj:kj < m)(hm:m<=1000000000)(hb0:w.cell? ⟨bh,0,none⟩=some (.pointer (some ⟨bn,0,none⟩)))(hb1:w.cell? ⟨bh,1,none⟩=some (.slice (some ⟨g,0,none⟩) n c))(hbn:w.cell? ⟨bn,0,none⟩=some (.slice (some ⟨gn,0,none⟩) m nc))(hgi:w.cell? ⟨g,i,none⟩=some (.int .i64 (ki:Int)))(hgj:w.cell? ⟨g,j,none⟩=some (.int .i64 (kj:Int)))(hci:w.cell? ⟨gn,ki * 4+1,none⟩=some (.int .i64 ci))(hcj:w.cell? ⟨gn,kj * 4+1,none⟩=some (.int .i64 cj))(hkt:ci < cj) :
  Calls Tryz.prog 200 #[.pointer (some ⟨bh,0,none⟩),.int .i64 (i:Int),.int .i64 (j:Int)] w fun e w'=>e=.returned (.bool true)/\∃ d,w'=w.drewN d:=by
 go_enter Tryz.func200,Tryz.ntmps200;go_wp2
 go_quiet (fail)
 go_wp2
 go_quiet (fail)
 go_wp2;go_ret;exact⟨rfl,_,zQs _ _ _⟩
theorem vXw(w:World)(bh bn g gn i j n c m nc ki kj:Nat)(ci cj:Int)(hi:i < n)(hj:j < n)(hn:n<=1000000000)(hki:ki < m)(hkj:kj < m)(hm:m<=1000000000)(hb0:w.cell? ⟨bh,0,none⟩=some (.pointer (some ⟨bn,0,none⟩)))(hb1:w.cell? ⟨bh,1,none⟩=some (.slice (some ⟨g,0,none⟩) n c))(hbn:w.cell? ⟨bn,0,none⟩=some (.slice (some ⟨gn,0,none⟩) m nc))(hgi:w.cell? ⟨g,i,none⟩=some (.int .i64 (ki:Int)))(hgj:w.cell? ⟨g,j,none⟩=some (.int .i64 (kj:Int)))(hci:w.cell? ⟨gn,ki * 4+1,none⟩=some (.int .i64 ci))(hcj:w.cell? ⟨gn,kj * 4+1,none⟩=some (.int .i64 cj))(hkt:cj < ci) :
  Calls Tryz.prog 200 #[.pointer (some ⟨bh,0,none⟩),.int .i64 (i:Int),.int .i64 (j:Int)] w fun e w'=>e=.returned (.bool false)/\∃ d,w'=w.drewN d:=by
 have d1:decide (ci < cj)=false:=decide_eq_false (by omega);have d3:(ci == cj)=false:=by simpa using (by omega:¬ ci=cj)
 go_enter Tryz.func200,Tryz.ntmps200;go_wp2
 go_quiet (fail)
 go_wp2
 go_quiet (fail)
 go_wp2;go_ret;exact⟨rfl,_,zQs _ _ _⟩
theorem zVy(w:World)(bh bn g gn i j n c m nc ki kj:Nat)(ci cj:Int)(hi:i < n)(hj:j < n)(hn:n<=1000000000)(hki:ki < m)(hkj:kj < m)(hm:m<=1000000000)(hb0:w.cell? ⟨bh,0,none⟩=some (.pointer (some ⟨bn,0,none⟩)))(hb1:w.cell? ⟨bh,1,none⟩=some (.slice (some ⟨g,0,none⟩) n c))(hbn:w.cell? ⟨bn,0,none⟩=some (.slice (some ⟨gn,0,none⟩) m nc))(hgi:w.cell? ⟨g,i,none⟩=some (.int .i64 (ki:Int)))(hgj:w.cell? ⟨g,j,none⟩=some (.int .i64 (kj:Int)))(hci:w.cell? ⟨gn,ki * 4+1,none⟩=some (.int .i64 ci))(hcj:w.cell? ⟨gn,kj * 4+1,none⟩=some (.int .i64 cj))(hkt:ci=cj)(htt:ki < kj) :
  Calls Tryz.prog 200 #[.pointer (some ⟨bh,0,none⟩),.int .i64 (i:Int),.int .i64 (j:Int)] w fun e w'=>e=.returned (.bool true)/\∃ d,w'=w.drewN d:=by
 subst hkt;go_enter Tryz.func200,Tryz.ntmps200;go_wp2
 go_quiet (fail)
 go_wp2
 go_quiet (fail)
 go_wp2;go_ret;exact⟨rfl,_,zQs _ _ _⟩
theorem zVz(w:World)(bh bn g gn i j n c m nc ki kj:Nat)(ci cj:Int)(hi:i < n)(hj:j < n)(hn:n<=1000000000)(hki:ki < m)(hkj:kj < m)(hm:m<=1000000000)(hb0:w.cell? ⟨bh,0,none⟩=some (.pointer (some ⟨bn,0,none⟩)))(hb1:w.cell? ⟨bh,1,none⟩=some (.slice (some ⟨g,0,none⟩) n c))(hbn:w.cell? ⟨bn,0,none⟩=some (.slice (some ⟨gn,0,none⟩) m nc))(hgi:w.cell? ⟨g,i,none⟩=some (.int .i64 (ki:Int)))(hgj:w.cell? ⟨g,j,none⟩=some (.int .i64 (kj:Int)))(hci:w.cell? ⟨gn,ki * 4+1,none⟩=some (.int .i64 ci))(hcj:w.cell? ⟨gn,kj * 4+1,none⟩=some (.int .i64 cj))(hkt:ci=cj)(htt:kj<=ki) :
  Calls Tryz.prog 200 #[.pointer (some ⟨bh,0,none⟩),.int .i64 (i:Int),.int .i64 (j:Int)] w fun e w'=>e=.returned (.bool false)/\∃ d,w'=w.drewN d:=by
 subst hkt;have d5:decide (ki < kj)=false:=decide_eq_false (by omega);go_enter Tryz.func200,Tryz.ntmps200;go_wp2
 go_quiet (fail)
 go_wp2
 go_quiet (fail)
 go_wp2;go_ret;exact⟨rfl,_,zQs _ _ _⟩
theorem vXx(w:World)(bh g i j n c:Nat)(a0:Value)(ki kj:Int)(hij:i≠j)(hi:i < n)(hj:j < n)(hn:n<=1000000000)(hb1:w.cell? ⟨bh,1,none⟩=some (.slice (some ⟨g,0,none⟩) n c))(hgb:g≠bh)(hgi:w.cell? ⟨g,i,none⟩=some (.int .i64 ki))(hgj:w.cell? ⟨g,j,none⟩=some (.int .i64 kj))(f1:w.frozen? ⟨g,i,none⟩=false)(f2:w.frozen? ⟨g,j,none⟩=false) :
  Calls Tryz.prog 203 #[.pointer (some ⟨bh,0,none⟩),.int .i64 (i:Int),.int .i64 (j:Int)] w fun e w'=>e=.returned (.tuple #[])/\∃ d,w'=((w.setCell ⟨g,i,none⟩ (.int .i64 kj)).setCell ⟨g,j,none⟩ (.int .i64 ki)).drewN d:=by
 have hij':=hij.symm;have hgb':=hgb.symm;go_enter Tryz.func203,Tryz.ntmps203;go_wp2
 go_region
 go_end0
 exact⟨rfl,1,rfl⟩
theorem vXy(w:World)(bh g i n c:Nat)(ki:Int)(hi:i < n)(hn:n<=1000000000)(hb1:w.cell? ⟨bh,1,none⟩=some (.slice (some ⟨g,0,none⟩) n c))(hgb:g≠bh)(hgi:w.cell? ⟨g,i,none⟩=some (.int .i64 ki))(f1:w.frozen? ⟨g,i,none⟩=false) :
  Calls Tryz.prog 203 #[.pointer (some ⟨bh,0,none⟩),.int .i64 (i:Int),.int .i64 (i:Int)] w fun e w'=>e=.returned (.tuple #[])/\∃ d,w'=((w.setCell ⟨g,i,none⟩ (.int .i64 ki)).setCell ⟨g,i,none⟩ (.int .i64 ki)).drewN d:=by
 have hgb':=hgb.symm;go_enter Tryz.func203,Tryz.ntmps203;go_wp2
 go_region
 go_end0
 exact⟨rfl,1,rfl⟩
end Go.Proofs.YtpeipeljmapkmaaGreat
