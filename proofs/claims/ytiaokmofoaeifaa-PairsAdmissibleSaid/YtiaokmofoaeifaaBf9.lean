/-
  The values of pairs exist for every state and are a lower bound of costs: plain.
-/
import Derived.Test.YtiaokmofoaeifaaBf5
import Derived.Test.YtiaokmofoaeifaaMQ
namespace Go.Proofs.Ytiaokmofoaeifaa
open Go.RowKit
set_option linter.unusedVariables false
set_option linter.unusedSimpArgs false

theorem pbest_down {n : Nat} {st : List Int} {ops : List OpV} (hops : OpsIn n ops) : ∀ (m : Nat) (V : Int → Int → Int), sumT n V ≤ m → PAb n st ops V → ∃ V', PBest n st ops V' := by
  intro m
  induction m with
  | zero =>
    intro V hm hV
    refine ⟨V, best_pairs hV fun o ho p q l hp hq ha => ?_⟩
    refine Classical.byContradiction fun hlt => ?_
    have hoo := hops o ho
    have hlr := ha.rng hoo.1 hp hq
    have hin := plusV_in (valP_in hV.all hlr) (costIn hops ho)
    have := hV.set_lt hp hq hin (by omega)
    omega
  | succ m ih =>
    intro V hm hV
    by_cases hcl : ∀ o ∈ ops, OpClosed n V o
    · exact ⟨V, best_pairs hV hcl⟩
    · obtain ⟨o, ho, p, q, l, hp, hq, ha, hlt⟩ : ∃ o ∈ ops, ∃ p q l, Rng n p ∧ Rng n q ∧ Arc o p q l ∧ ¬ V p q ≤ plusV (valP V l) o.cost := by
        refine Classical.byContradiction fun hn => hcl fun o ho p q l hp hq ha => Classical.byContradiction fun h => hn ⟨o, ho, p, q, l, hp, hq, ha, h⟩
      have hoo := hops o ho
      have hlr := ha.rng hoo.1 hp hq
      have hin := plusV_in (valP_in hV.all hlr) (costIn hops ho)
      have h1 := hV.set_lt hp hq hin (by omega)
      exact ih _ (by omega) (hV.set_ hp hq hin (fun U hU => Int.le_trans (hU.closed o ho p q l hp hq ha) (plus_val_mono hU hV hlr (costIn hops ho))))
theorem pbest_ex {n : Nat} {st : List Int} {ops : List OpV} (hops : OpsIn n ops) : ∃ V, PBest n st ops V := pbest_down hops _ _ (Nat.le_refl _) (initT_ab (n := n) (st := st) (ops := ops))
noncomputable def pvalsV (n : Nat) (st : List Int) (ops : List OpV) : Int → Int → Int := @dite _ (∃ V, PBest n st ops V) (Classical.propDecidable _) (fun h => Classical.choose h) (fun _ _ _ => 0)
theorem pvals_best {n : Nat} {st : List Int} {ops : List OpV} (hops : OpsIn n ops) : PBest n st ops (pvalsV n st ops) := by
  have h : ∃ V, PBest n st ops V := pbest_ex hops
  unfold pvalsV
  rw [dif_pos h]
  exact Classical.choose_spec h
theorem pairs_hcons {n : Nat} {t : TaskV} (hv : Valid t) (hn : t.facts = n) : HCons n t.ops t.goal (fun l => valP (pvalsV n l t.ops) t.goal) := by
  have hops := opsIn_of hv hn
  have hg : ∀ q ∈ t.goal, Rng n q := by have := hv.goal.1; rw [hn] at this; exact this
  have hB : ∀ l, PBest n l t.ops (pvalsV n l t.ops) := fun l => pvals_best hops
  refine ⟨fun l hgl hl => ?_, fun l hl => ?_, fun l p o hl hop hcan hlt => ?_⟩
  · exact valP_le (Int.le_refl _) (fun p hp q hq => by rw [(hB l).fix.zero p (hgl p hp) q (hgl q hq)]; omega)
  · exact (valP_in (hB l).fix.all hg).2
  · obtain ⟨o', h1, h2⟩ := hcan
    simp only [Int.toNat_natCast] at h1
    rw [hop] at h1
    injection h1 with h1
    subst h1
    exact (hB l).goal_cons (hB _) hops (List.mem_of_getElem? hop) h2 (fun q hq => nextV_mem.1 hq) hg hlt

end Go.Proofs.Ytiaokmofoaeifaa
