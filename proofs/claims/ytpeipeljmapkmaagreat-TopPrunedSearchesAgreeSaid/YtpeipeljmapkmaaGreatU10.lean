/-
  Lemmas for the law: Rb2.
-/
import Derived.Test.YtpeipeljmapkmaaGreatU6
import Derived.Test.YtpeipeljmapkmaaGreatU7
import Derived.Test.YtpeipeljmapkmaaGreatU8
import Derived.Test.YtpeipeljmapkmaaGreatU9
import Derived.Maps.Own
import Derived.Maps.OwnOps
import Derived.Maps.OwnSet
set_option linter.unusedVariables false
set_option linter.unusedSimpArgs false
set_option maxRecDepth 100000
set_option maxHeartbeats 4000000
namespace Go.Proofs.YtpeipeljmapkmaaGreat
open Go.RowKit
section
open Go.Sort Go.Maps
def OwnS(base:Nat)(w:World)(v:Value)(ls:List (List Int)):Prop:=vXn encW 56 base w v ls
theorem OwnS.below{base:Nat}{w w':World}{v:Value}{ls:List (List Int)}(h:OwnS base w v ls)(hb:Below w.heap.size w w'):OwnS base w' v ls:=OwnEs.below (zWw _) h hb
theorem OwnS.at_{base n c k:Nat}{w:World}{A:Option Addr}{ls:List (List Int)}(h:OwnS base w (.slice A n c) ls)(hk:k < ls.length) :
  ∃ g l,A=some ⟨g,0,none⟩/\Hid (ls[k]? = some l)/\w.cell? ⟨g,k,none⟩=some (.int .u32 (wv l)):=by
 obtain⟨g,cs,l,rfl,_,_,hl,_,hc,hP⟩:=OwnEs.at_ h hk;unfold P1 at hP;subst hP;refine⟨g,l,rfl,hl,?_⟩;have h1:=hc 0 _ rfl;rw[Nat.mul_one,Nat.add_zero] at h1;exact h1
theorem OwnS.other{base K:Nat}{w w':World}{v:Value}{ls:List (List Int)}(h:OwnS base w v ls)(hg:w.grownBy w' (some K))(hK:K < base):OwnS base w' v ls:=by
 obtain⟨cells,⟨h1,h2⟩,h3⟩:=h;refine⟨cells,⟨h1,?_⟩,h3⟩;rcases h2 with h2 | ⟨g,cap,cur,hv,hb,hh,r⟩
 ·exact Or.inl h2
 ·refine Or.inr ⟨g,cap,cur,hv,hb,(hg.block g ?_ (fun e=>?_)).trans hh,r⟩
  ·rcases Nat.lt_or_ge g w.heap.size with hl | hl
   ·exact hl
   ·rw[Array.getElem?_eq_none hl] at hh;cases hh
  ·injection e with e;omega
theorem OwnS.apart{base K:Nat}{w:World}{v:Value}{ls:List (List Int)}(h:OwnS base w v ls)(hK:K < base):some K≠v.ownBlock:=fun e=>by
 have:=(OwnEs.lt h K e.symm).1;omega
theorem xQq(w:World):(zeroValue 3).run Tryz.prog w=.ok (.int .i64 0) w:=by kernel_rfl
def TabM(B m:Nat)(w:World)(D:DataW Unit):Prop:=w.ownsMap Tryz.prog 56 (plainElem Tryz.prog 3) B m D
theorem TabM.below{B m:Nat}{w w':World}{D:DataW Unit}(h:TabM B m w D)(hb:Below w.heap.size w w'):TabM B m w' D:=by
 have hlt:=World.ownsMap.lt h;obtain⟨es,clock,h1,h2⟩:=h;exact⟨es,clock,(hb.block B hlt).trans h1,h2⟩
theorem SetP.wf{l:List Int}{n:Nat}(h:SetP l (n:Int))(hn:n<=24):(Lit.int .u32 (xJ0 l)).wf=true:=WalkArith.wf_u32 (by have:=h.word_u32 hn;omega)
theorem SetP.key{l:List Int}{n:Nat}(h:SetP l (n:Int))(hn:n<=24):keyOf Tryz.prog 56 (.int .u32 (xJ0 l))=some (.int .u32 (xJ0 l)):=keyOf_int_mk Tryz.underlying56 (h.wf hn)
structure KM(D:DataW Unit)(ls:List (List Int))(n:Nat)(f:List Int->Int):Prop where
 has:∀ l,SetP l (n:Int)->Maps.has D (.int .u32 (xJ0 l))=decide (l∈ls)
 val:∀ l,SetP l (n:Int)->l∈ls->D.atKey (.int .u32 (xJ0 l)) (.lit (.int .i64 0))=.lit (.int .i64 (f l))
theorem KM.at_{D:DataW Unit}{ls:List (List Int)}{n:Nat}{f:List Int->Int}(h:KM D ls n f){l:List Int}(hl:SetP l (n:Int))(hin:l∈ls){c:Int}(hat:D.atKey (.int .u32 (xJ0 l)) (.lit (.int .i64 0))=.lit (.int .i64 c)):c=f l:=by
 rw[h.val l hl hin] at hat;injection hat with hat
 injection hat with _ hat
 exact hat.symm
end
end Go.Proofs.YtpeipeljmapkmaaGreat
