/-
  Tasks without an operator: plain laws.
-/
import Derived.Test.YtiaokmofoaeifaaCp6
import Derived.Test.YtiaokmofoaeifaaME
import Derived.Test.YtiaokmofoaeifaaMC
import Derived.Test.YtiaokmofoaeifaaMG
import Derived.Test.YtiaokmofoaeifaaLm8
namespace Go.Proofs.Ytiaokmofoaeifaa
open Go.RowKit
set_option linter.unusedVariables false
set_option linter.unusedSimpArgs false

theorem er_at {α : Type} {xs : List α} {k i : Nat} {x : α} (h : (xs.eraseIdx k)[i]? = some x) : ∃ j : Nat, xs[j]? = some x := by
  rw [List.getElem?_eraseIdx] at h
  split at h
  · exact ⟨_, h⟩
  · exact ⟨_, h⟩
theorem fix_fb {s : Bool} {n : Nat} {st : List Int} {t : TaskV} {k : Nat} {U : List Int} (h : Fix s n st t.ops (t.ops.map (·.cost)) U) : Fix s n st (fbT t k).ops ((fbT t k).ops.map (·.cost)) U := by
  refine ⟨h.shape, fun i o c hi ho hc p hp => ?_⟩
  rw [List.getElem?_map, ho] at hc
  injection hc with hc
  subst hc
  obtain ⟨j, hj⟩ := er_at (show (t.ops.eraseIdx k)[i]? = some o from ho)
  exact h.closed j o _ (List.getElem?_eq_some_iff.1 hj).1 hj (by rw [List.getElem?_map, hj]; rfl) p hp
theorem fb_goal {n k : Nat} {st : List Int} {t u : TaskV} (hu : u = fbT t k) (h1 : Best false n st t.ops (t.ops.map (·.cost)) (valuesV false n st t.ops (t.ops.map (·.cost)))) (h2 : Best false n st u.ops (u.ops.map (·.cost)) (valuesV false n st u.ops (u.ops.map (·.cost)))) :
    combV false (valuesV false n st t.ops (t.ops.map (·.cost))) t.goal ≤ combV false (valuesV false n st u.ops (u.ops.map (·.cost))) u.goal := by
  subst hu
  exact combV_mono h1.fix.shape.all h2.fix.shape.all (h2.great _ (fix_fb h1.fix)) _
theorem reach_fb {st : List Int} {t : TaskV} {k : Nat} {use use' : Nat → Bool} (hu : ∀ (i j : Nat) (o : OpV), (t.ops.eraseIdx k)[i]? = some o → t.ops[j]? = some o → use i = true → use' j = true) {p : Int} (h : Reach st (fbT t k).ops use p) : Reach st t.ops use' p := by
  induction h with
  | init h => exact .init h
  | step ho hi _ hp ih =>
    obtain ⟨j, hj⟩ := er_at ho
    exact .step hj (hu _ _ _ ho hj hi) ih hp
theorem fb_within {n k : Nat} {st : List Int} {t u : TaskV} (hu : u = fbT t k) : ∀ x ∈ withinV n st u.ops (fun _ => true), x ∈ withinV n st t.ops (fun _ => true) := fun x hx => by
  subst hu
  obtain ⟨h1, h2, h3⟩ := withinV_mem.1 hx
  exact withinV_mem.2 ⟨h1, h2, reach_fb (fun _ _ _ _ _ _ => rfl) h3⟩
theorem fb_land {n k : Nat} {t u : TaskV} (hu : u = fbT t k) : ∀ x ∈ landV n t, x ∈ landV n u := fun x hx => by
  subst hu
  obtain ⟨h1, h2, h3⟩ := landV_mem.1 hx
  refine landV_mem.2 ⟨h1, h2, ?_⟩
  rcases h3 with h3 | h3
  · exact Or.inl h3
  · refine Or.inr (fun h => h3 (fun q hq => reach_fb (fun i j o hi hj hu => ?_) (h q hq)))
    rw [useNot_of (show (fbT t k).ops[i]? = some o from hi)] at hu
    rw [useNot_of hj]
    exact hu
theorem subset_f (A B : Option Addr) (c d : Nat) (xs ys : List Int) (w : World) (hI : Ints w A xs) (hJ : Ints w B ys) (hl : xs.length ≤ 9223372036854775807) (hm : ys.length ≤ 9223372036854775807) (hv : ∀ x ∈ xs, x ∈ ys) :
    Calls Try.prog 27 #[.slice A xs.length c, .slice B ys.length d] w fun e w' => e = .returned (.bool true) ∧ w = w' := by
  have h := subset_any A B c d xs ys w hI hJ hl hm
  rw [show decide (∀ x ∈ xs, x ∈ ys) = true by simpa using hv] at h
  exact h

end Go.Proofs.Ytiaokmofoaeifaa
