/-
  The values of relaxed.Max exist for every state and are a lower bound of costs: plain.
-/
import Derived.Test.YtihkgdlanfemcaaBf5
import Derived.Test.YtihkgdlanfemcaaML
import Derived.Test.YtihkgdlanfemcaaME
namespace Go.Proofs.Ytihkgdlanfemcaa
open Go.RowKit
set_option linter.unusedVariables false
set_option linter.unusedSimpArgs false

theorem best_down {s : Bool} {n : Nat} {st : List Int} {ops : List OpV} {cs : List Int} (hadd : ∀ o ∈ ops, ∀ p ∈ o.add, 0 ≤ p ∧ p < (n : Int)) (hcs : AllV cs) : ∀ (m : Nat) (V : List Int), sumV V ≤ m → Above s n st ops cs V → ∃ V', Best s n st ops cs V' := by
  intro m
  induction m with
  | zero =>
    intro V hm hV
    refine ⟨V, best_of hV fun i o c hi ho hc p hp => ?_⟩
    refine Classical.byContradiction fun hlt => ?_
    have hpr := hadd o (List.mem_of_getElem? ho) p hp
    have hin := opV_in (s := s) hV.shape.all o (hcs c (List.mem_of_getElem? hc))
    obtain ⟨y, hy⟩ : ∃ y, V[p.toNat]? = some y := ⟨_, List.getElem?_eq_getElem (by rw [hV.shape.len]; omega)⟩
    rw [valAt_of hy] at hlt
    have := sum_set hy hin.1 (by omega : opV s V o c < y)
    omega
  | succ m ih =>
    intro V hm hV
    by_cases hcl : ClosedTo s ops cs ops.length V
    · exact ⟨V, best_of hV hcl⟩
    · obtain ⟨i, o, c, ho, hc, p, hp, hlt⟩ : ∃ i o c, ops[i]? = some o ∧ cs[i]? = some c ∧ ∃ p ∈ o.add, ¬ valAt V p ≤ opV s V o c := by
        refine Classical.byContradiction fun hn => hcl fun i o c hi ho hc p hp => Classical.byContradiction fun h => hn ⟨i, o, c, ho, hc, p, hp, h⟩
      have hcv := hcs c (List.mem_of_getElem? hc)
      have hpr := hadd o (List.mem_of_getElem? ho) p hp
      have hin := opV_in (s := s) hV.shape.all o hcv
      obtain ⟨y, hy⟩ : ∃ y, V[p.toNat]? = some y := ⟨_, List.getElem?_eq_getElem (by rw [hV.shape.len]; omega)⟩
      rw [valAt_of hy] at hlt
      have h1 := sum_set hy hin.1 (by omega : opV s V o c < y)
      exact ih _ (by omega) (above_set hV (bound_of hV ho hc hcv) hp hin hy (by omega))
theorem best_ex {s : Bool} {n : Nat} {st : List Int} {ops : List OpV} {cs : List Int} (hst : ∀ p ∈ st, 0 ≤ p ∧ p < (n : Int)) (hadd : ∀ o ∈ ops, ∀ p ∈ o.add, 0 ≤ p ∧ p < (n : Int)) (hcs : AllV cs) : Best s n st ops cs (valuesV s n st ops cs) := by
  obtain ⟨V, hV⟩ := best_down hadd hcs _ _ (Nat.le_refl _) (initV_above (s := s) (ops := ops) (cs := cs) hst)
  exact values_best hV
/-- The goal's value is consistent. -/
theorem max_hcons {n : Nat} {t : TaskV} (hv : Valid t) (hn : t.facts = n) : HCons n t.ops t.goal (fun l => combV false (valuesV false n l t.ops (t.ops.map (·.cost))) t.goal) := by
  have ho := ops_in hv hn
  have hg := goal_in hv hn
  have hc := costs_in hv
  have hc2 : ∀ c ∈ t.ops.map (·.cost), 0 ≤ c ∧ c ≤ 100 := fun c h => by obtain ⟨o, h1, rfl⟩ := List.mem_map.1 h; exact (hv.ops o h1).2
  have hB : ∀ l, SetP l (n : Int) → Best false n l t.ops (t.ops.map (·.cost)) (valuesV false n l t.ops (t.ops.map (·.cost))) := fun l hl => best_ex hl.1 (fun o h => (ho o h).2) hc
  refine ⟨fun l hgl hl => ?_, fun l hl => ?_, fun l p o hl hop hcan hlt => ?_⟩
  · exact comb_le (Int.le_refl _) (fun x hx => by rw [(hB l hl).fix.shape.zero x (hgl x hx)]; omega)
  · exact (combV_in (s := false) (hB l hl).fix.shape.all t.goal).2
  · have hs := nextV_set n l o
    obtain ⟨o', h1, h2⟩ := hcan
    simp only [Int.toNat_natCast] at h1
    rw [hop] at h1
    injection h1 with h1
    subst h1
    exact goal_cons (hB l hl) (hB _ hs) (by simp) hc2 ho (fun q hq => hs.1 q hq) hop (by simp [hop]) h2 (fun q hq => by rcases (nextV_mem.1 hq).2 with h3 | h3; exact .inr h3; exact .inl h3.1) hg hlt

end Go.Proofs.Ytihkgdlanfemcaa
