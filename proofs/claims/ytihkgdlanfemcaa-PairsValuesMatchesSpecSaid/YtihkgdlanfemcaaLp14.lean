/-
  pairs.Values, Goal and Exclusive return the specified results for every task and state.
-/
import Derived.Test.YtihkgdlanfemcaaPv6
import Derived.Test.YtihkgdlanfemcaaBlaw
import Derived.Test.YtihkgdlanfemcaaMA
import Derived.Test.YtihkgdlanfemcaaPfacts
namespace Go.Proofs.Ytihkgdlanfemcaa
open Go.RowKit
set_option linter.unusedVariables false
set_option linter.unusedSimpArgs false


namespace pairsValuesMatchesSpec
open Go.ChangeShapes Go.WideShapes Go.ChangeAt Go.RowKit

set_option maxRecDepth 100000 in
theorem lifted (os : Os) (started : os.Started) (H : Type) (enc : TypeId × Value → H) :
    ReturnsInHanded {} Try.checked os 3 .any (Rows.pairsValuesMatchesSpecSpec.pre6 enc Try.prog Try.f3 Rows.pairsValuesMatchesSpecRow.domain false) (Rows.pairsValuesMatchesSpecSpec.post enc Try.prog Try.f3 false true false false) := by
  refine returnsInHanded_of_change (C := Try.checked) own_knob started (by kernel_rfl) Try.func3
    (ChangeSpec.witness6 (enc := enc) (C := Try.checked) false ⟨#[], #[.agg #[.int .i64 0, .slice none 0 0, .slice none 0 0, .slice none 0 0], .slice none 0 0], []⟩ 8 (by kernel_rfl) (by kernel_rfl) (by kernel_rfl) (by kernel_rfl)) ?_
  intro W base args ds gs before hval0 hW _ hsz
  have hval : ∀ (j : Nat) t v, Try.f3.params[j]? = some t → args[j]? = some v → Value.okWide Try.prog W .any base t v := hval0
  have hpost := fun (W' : World) (hfn : gs = [] → Rows.pairsValuesMatchesSpecSpec.fn H (ds ++ gs) = { results := [.lit (.bool true)], args := ds }) (hb : Below W.heap.size W W') => law_post (f := Try.f3) (tb := 4) laid_out_B Try.underlying4 rfl (by kernel_rfl) rfl hfn hW hb
  obtain ⟨p, q, hA0, hV, hpq, hfz, hnd⟩ := hW
  have hA : DataW.TrodAll enc Try.prog W 0 (fun _ => true) true Try.f3.params.toList args.toList ds p := hA0
  rw [Try.params3] at hA hval
  obtain ⟨v0, vs0, d0, ds0, p0, q0, hargs, rfl, hp0, h0, r0⟩ := trodAll_cons hA
  obtain ⟨v1, vs1, d1, ds1, p1, q1, rfl, rfl, hp1, h1, r1⟩ := trodAll_cons r0
  obtain ⟨rfl, rfl, hpn⟩ := trodAll_nil r1
  obtain rfl : args = #[v0, v1] := by cases args; simp_all
  obtain ⟨t, Ai, Ag, Ao, ci, cg, co, rfl, hR⟩ := open_taskW (hval 0 25 v0 rfl rfl) h0
  obtain ⟨S, cs, st, rfl, hSc, hSl, hSnn, hS, hSi⟩ := open_intsW (hval 1 22 v1 rfl rfl) h1
  refine (walk_pvs W t Ai Ag Ao ci cg co hR S cs st hS ⟨hSnn, hSc, hSl⟩).mono fun e W' ⟨he, hb⟩ => ?_
  subst he
  exact ⟨_, rfl, hpost W' (fun hg => by subst hg; rfl) hb⟩

theorem closed : joinedFacts Try.checked.prog 3 Try.f3 Rows.pairsValuesMatchesSpecSpec Rows.pairsValuesMatchesSpecRow = true := by
  unfold joinedFacts
  rw [pf_enter, pf_lifts, pf_make]
  kernel_rfl
theorem proved : Rows.PairsValuesMatchesSpecSaid :=
  OpenClaim.holds_of_wide 3 Try.f3 rfl rfl rfl rfl rfl rfl rfl ⟨rfl, rfl, rfl, rfl, rfl⟩ rfl rfl rfl rfl rfl (by kernel_rfl) Try.func3 closed
    (of_decide_eq_true (by kernel_rfl)) (by unfold Func.isWrapper; first | (rw [if_pos (by decide +kernel)]; kernel_rfl) | (rw [if_neg (by decide +kernel)]; exact ⟨rfl, rfl⟩))
    (fun os started H enc _ => lifted os started H enc)
#print axioms proved
end pairsValuesMatchesSpec

end Go.Proofs.Ytihkgdlanfemcaa
