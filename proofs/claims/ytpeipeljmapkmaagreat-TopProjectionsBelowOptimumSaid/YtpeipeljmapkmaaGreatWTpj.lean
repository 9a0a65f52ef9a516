/-
  TopProjectionsBelowOptimum holds for every task and every list of patterns: each projection's value and their additive sum are at most the least cost of a plan. No condition.
-/
import Derived.Test.YtpeipeljmapkmaaGreatW29
import Derived.Test.YtpeipeljmapkmaaGreatW10
import Derived.Test.YtpeipeljmapkmaaGreatW32
import Derived.Test.YtpeipeljmapkmaaGreatW1
import Derived.Test.YtpeipeljmapkmaaGreatW33
set_option linter.unusedVariables false
set_option linter.unusedSimpArgs false
set_option maxRecDepth 100000
set_option maxHeartbeats 4000000
namespace Go.Proofs.YtpeipeljmapkmaaGreat
open Go.RowKit Go.Shelf
namespace topProjectionsBelowOptimum
open Go.ChangeShapes Go.WideShapes Go.ChangeAt Go.RowKit
theorem lifted(os:Os)(started:os.Started)(H:Type)(enc:TypeId×Value->H) :
  ReturnsInHanded {} Tryz.checked os 4 .any (Rows.topProjectionsBelowOptimumSpec.pre6 enc Tryz.prog Tryz.f4 Rows.topProjectionsBelowOptimumRow.domain false) (Rows.topProjectionsBelowOptimumSpec.post enc Tryz.prog Tryz.f4 false true false false):=by
 refine returnsInHanded_of_change (C:=Tryz.checked) vVv started (by kernel_rfl) Tryz.func4
  (ChangeSpec.witness6 (enc:=enc) (C:=Tryz.checked) false ⟨#[],#[.agg #[.slice none 0 0,.slice none 0 0,.slice none 0 0,.slice none 0 0],.slice none 0 0],[]⟩ 8 (by kernel_rfl) (by kernel_rfl) (by kernel_rfl) (by kernel_rfl)) ?_
 intro W base args ds gs before hval0 hW _ hsz;have hval:∀ (j:Nat) t v,Tryz.f4.params[j]? = some t->args[j]? = some v->Value.okWide Tryz.prog W .any base t v:=hval0;have hpost:=fun (W':World) (hfn:gs=[]->Rows.topProjectionsBelowOptimumSpec.fn H (ds ++ gs)={ results:=[.lit (.bool true)],args:=ds }) (hb:Below W.heap.size W W')=>vVw (f:=Tryz.f4) (tb:=4) zW4 Tryz.underlying4 rfl (by kernel_rfl) rfl hfn hW hb
 obtain⟨p,q,hA0,hV,hpq,hfz,hnd⟩:=hW;have hA:DataW.TrodAll enc Tryz.prog W 0 (fun _=>true) true Tryz.f4.params.toList args.toList ds p:=hA0;rw[Tryz.params4] at hA hval;obtain⟨v0,vs0,d0,ds0,p0,q0,hargs,rfl,hp0,h0,r0⟩:=trodAll_cons hA;obtain⟨v1,vs1,d1,ds1,p1,q1,rfl,rfl,hp1,h1,r1⟩:=trodAll_cons r0;obtain⟨rfl,rfl,hpn⟩:=trodAll_nil r1;obtain rfl:args = #[v0,v1]:=by cases args;simp_all
 obtain⟨m,As,Ai,Ag,Ao,cs,ci,cg,co,rfl,hM,_⟩:=zV8 (hval 0 43 v0 rfl rfl) h0;obtain⟨P,cP,pats,rfl,hPc,hPl,hPn,hP⟩:=zKu (hval 1 44 v1 rfl rfl) h1;refine (vJz W m As Ai Ag Ao cs ci cg co hM P cP pats hP (by have:=hPl;unfold lenOk at this;omega)).mono fun e W' ⟨he,hb⟩=>?_
 subst he;exact⟨_,rfl,hpost W' (fun hg=>by subst hg;rfl) hb⟩
theorem closed:joinedFacts Tryz.checked.prog 4 Tryz.f4 Rows.topProjectionsBelowOptimumSpec Rows.topProjectionsBelowOptimumRow=true:=by
 unfold joinedFacts;rw[vY4,vY5,vW0]
 kernel_rfl
theorem proved:Rows.TopProjectionsBelowOptimumSaid:=
 OpenClaim.holds_of_wide 4 Tryz.f4 rfl rfl rfl rfl rfl rfl rfl ⟨rfl,rfl,rfl,rfl,rfl⟩ rfl rfl rfl rfl rfl (by kernel_rfl) Tryz.func4 closed
  (of_decide_eq_true (by kernel_rfl)) (by unfold Func.isWrapper;first | (rw[if_pos (by decide +kernel)];kernel_rfl) | (rw[if_neg (by decide +kernel)];exact⟨rfl,rfl⟩))
  (fun os started H enc _=>lifted os started H enc)
#print axioms proved
end topProjectionsBelowOptimum
end Go.Proofs.YtpeipeljmapkmaaGreat
