/-
  Lemmas for the law: Blaw.
-/
import Derived.Test.YtpeipeljmapkmaaGreatRows
import Derived.WalkKit
import Derived.ProofKit
import Derived.OpenShut
set_option linter.unusedVariables false
set_option linter.unusedSimpArgs false
set_option maxRecDepth 100000
set_option maxHeartbeats 4000000
namespace Go.Proofs.YtpeipeljmapkmaaGreat
section
open Go.ChangeShapes Go.WideShapes Go.ChangeAt Go.RowKit
theorem vQ4:ownKnob Tryz.prog.godebug=none:=by kernel_rfl
theorem zYu:laidOutB Tryz.prog=true:=by kernel_rfl
section
variable {H:Type}{enc:TypeId×Value->H}{P:Program}
theorem zJm{W W':World}(hl:laidOutB P=true)(hb:Below W.heap.size W W') :
  ∀ (ts:List TypeId) (vs:List Value) (ds:List (DataW H)) (ps:List MemPlace),(ts.all fun t=>P.readableRec t && decide (t < P.types.size))=true ->
   DataW.TrodAll enc P W 0 (fun _=>true) true ts vs ds ps->(∀ x∈ps,x.block < W.heap.size)->DataW.TrodAll enc P W' 0 (fun b=>decide (b < W.heap.size)) true ts vs ds ps:=by
 intro ts
 induction ts with
 | nil=>
  intro vs ds ps _ h _
  cases vs <;> cases ds <;> first | exact h | exact h.elim
 | cons t ts ih=>
  intro vs ds ps hr h hlt
  cases vs with
  | nil=>cases ds <;> exact h.elim
  | cons v vs=>
   cases ds with
   | nil=>exact h.elim
   | cons d ds=>
    obtain⟨p,q,h1,h2,rfl⟩:=h;simp only[List.all_cons,Bool.and_eq_true,decide_eq_true_eq] at hr;exact⟨p,q,Below.trod hl hr.1.1 hr.1.2 h1 hb (fun x hx=>hlt x (List.mem_append_left _ hx)),ih vs ds q hr.2 h2 (fun x hx=>hlt x (List.mem_append_right _ hx)),rfl⟩
theorem vQ5{f:Func}{s:ChangeSpec}{W W':World}{args:Array Value}{ds gs:List (DataW H)}{before:List MemPlace}{tb:TypeId}
  (hl:laidOutB P=true) (htb:P.underlying tb=some .bool) (hrt:f.resultTypes = #[tb]) (hr:(f.params.toList.all fun t=>P.readableRec t && decide (t < P.types.size))=true)
  (hv:s.vars=[]) (hfn:gs=[]->s.fn H (ds ++ gs)={ results:=[.lit (.bool true)],args:=ds })
  (hW:DataW.Whole enc P f.params.toList s.vars false W args.toList ds gs before) (hb:Below W.heap.size W W') :
  s.post enc P f false true false false W args (.bool true) W':=by
 have hW0:=hW;obtain⟨p,q,hA,hV,hpq,_,_⟩:=hW;have hg:gs=[]/\q=[]:=by
  rw[hv] at hV
  cases gs with
  | nil=>exact⟨rfl,hV⟩
  | cons g gs=>exact hV.elim
 obtain⟨hgs,hq⟩:=hg;have he:=hfn hgs;have hlt:∀ x∈before,x.block < W.heap.size:=fun x hx=>hW0.lt x hx
 subst hgs;refine⟨ds,[],before,[],p,[],hW0,?_,?_,?_,?_,fun h=>by cases h⟩
 ·rw[he,hrt];exact trodAll_mk1 (shut_bool htb true)
 ·rw[he];exact zJm hl hb _ _ _ _ hr hA (fun x hx=>hlt x (by rw[hpq];exact List.mem_append_left _ hx))
 ·rw[he,hv];rfl
 ·exact hb.frame _
end
end
end Go.Proofs.YtpeipeljmapkmaaGreat
