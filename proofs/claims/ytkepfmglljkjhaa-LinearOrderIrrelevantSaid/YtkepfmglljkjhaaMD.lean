/-
  Validate and TaskFault: the fault of a task.
  strips.Validate: the fault of a task.
  The reference's TaskFault; both StateFault: the fault of a task, of a task with a state.
  Both StateFault; relaxed.Costs: what they return.
  Sums and greatest values, the program's and the reference's: what they return.
-/
import Derived.Test.YtkepfmglljkjhaaMA
import Derived.Test.YtkepfmglljkjhaaMB
import Derived.Test.YtkepfmglljkjhaaMC
namespace Go.Proofs.Ytkepfmglljkjhaa
open Go.RowKit
set_option linter.unusedVariables false
set_option linter.unusedSimpArgs false

/-- The error code of an operator. -/
noncomputable def opc (o : OpV) (f : Int) : Int := @ite _ (SetP o.pre f ∧ SetP o.add f ∧ SetP o.del f ∧ ∀ x ∈ o.add, ¬ x ∈ o.del) (Classical.propDecidable _) (if o.cost < 0 ∨ 100 < o.cost then 3 else 0) 5
theorem opc_bad {o : OpV} {f : Int} (h : ¬ (SetP o.pre f ∧ SetP o.add f ∧ SetP o.del f ∧ ∀ x ∈ o.add, ¬ x ∈ o.del)) : opc o f = 5 := by unfold opc; exact if_neg h
theorem opc_good {o : OpV} {f : Int} (h : SetP o.pre f ∧ SetP o.add f ∧ SetP o.del f ∧ ∀ x ∈ o.add, ¬ x ∈ o.del) : opc o f = if o.cost < 0 ∨ 100 < o.cost then 3 else 0 := by unfold opc; exact if_pos h
theorem opc_zero {o : OpV} {f : Int} : opc o f = 0 ↔ (SetP o.pre f ∧ SetP o.add f ∧ SetP o.del f ∧ ∀ x ∈ o.add, ¬ x ∈ o.del) ∧ 0 ≤ o.cost ∧ o.cost ≤ 100 := by
  by_cases h : SetP o.pre f ∧ SetP o.add f ∧ SetP o.del f ∧ ∀ x ∈ o.add, ¬ x ∈ o.del
  · rw [opc_good h]
    split
    · constructor
      · intro h; cases h
      · intro h2; omega
    · constructor
      · intro _; exact ⟨h, by omega⟩
      · intro _; rfl
  · rw [opc_bad h]
    constructor
    · intro h; cases h
    · intro h2; exact absurd h2.1 h
/-- The first operator with an error. -/
noncomputable def opsFault (f : Int) : List OpV → Nat → Int × Int
  | [], _ => (0, 0)
  | o :: r, k => if opc o f = 0 then opsFault f r (k + 1) else (opc o f, (k : Int))
theorem opsFault_good {f : Int} : ∀ (l : List OpV) (k : Nat), (∀ o ∈ l, opc o f = 0) → opsFault f l k = (0, 0)
  | [], _, _ => rfl
  | o :: r, k, h => by unfold opsFault; rw [if_pos (h o (by simp))]; exact opsFault_good r (k + 1) (fun o ho => h o (by simp [ho]))
theorem opsFault_at {f : Int} : ∀ (l : List OpV) (s k : Nat) (o : OpV), (∀ o ∈ l.take k, opc o f = 0) → l[k]? = some o → ¬ opc o f = 0 → opsFault f l s = (opc o f, ((s + k : Nat) : Int))
  | [], _, _, _, _, h, _ => by simp at h
  | a :: r, s, 0, o, _, h, hn => by
    simp at h; subst h
    unfold opsFault; rw [if_neg hn]; rfl
  | a :: r, s, k + 1, o, h1, h, hn => by
    unfold opsFault
    rw [if_pos (h1 a (by simp))]
    have := opsFault_at r (s + 1) k o (fun o ho => h1 o (by simp [ho])) (by simpa using h) hn
    rw [this]
    congr 1
    omega
theorem opsFault_zero {f : Int} : ∀ (l : List OpV) (k : Nat), (opsFault f l k).1 = 0 → ∀ o ∈ l, opc o f = 0
  | [], _, _ => by simp
  | o :: r, k, h => by
    unfold opsFault at h
    by_cases hc : opc o f = 0
    · rw [if_pos hc] at h
      intro x hx
      rcases List.mem_cons.1 hx with e | e
      · subst e; exact hc
      · exact opsFault_zero r (k + 1) h x e
    · rw [if_neg hc] at h; exact absurd h hc
/-- The fault of a task: code and index. -/
noncomputable def tfault (t : TaskV) : Int × Int :=
  if t.facts < 0 ∨ 24 < t.facts then (3, -1) else
  @ite _ (SetP t.init t.facts) (Classical.propDecidable _) (@ite _ (SetP t.goal t.facts) (Classical.propDecidable _) (if 40 < t.ops.length then (2, -1) else opsFault t.facts t.ops 0) (5, -3)) (5, -2)
theorem tfault_1 {t : TaskV} (h : t.facts < 0 ∨ 24 < t.facts) : tfault t = (3, -1) := by unfold tfault; rw [if_pos h]
theorem tfault_2 {t : TaskV} (h : ¬ (t.facts < 0 ∨ 24 < t.facts)) (h1 : ¬ SetP t.init t.facts) : tfault t = (5, -2) := by unfold tfault; rw [if_neg h, if_neg h1]
theorem tfault_3 {t : TaskV} (h : ¬ (t.facts < 0 ∨ 24 < t.facts)) (h1 : SetP t.init t.facts) (h2 : ¬ SetP t.goal t.facts) : tfault t = (5, -3) := by unfold tfault; rw [if_neg h, if_pos h1, if_neg h2]
theorem tfault_4 {t : TaskV} (h : ¬ (t.facts < 0 ∨ 24 < t.facts)) (h1 : SetP t.init t.facts) (h2 : SetP t.goal t.facts) (h3 : 40 < t.ops.length) : tfault t = (2, -1) := by unfold tfault; rw [if_neg h, if_pos h1, if_pos h2, if_pos h3]
theorem tfault_5 {t : TaskV} (h : ¬ (t.facts < 0 ∨ 24 < t.facts)) (h1 : SetP t.init t.facts) (h2 : SetP t.goal t.facts) (h3 : ¬ 40 < t.ops.length) : tfault t = opsFault t.facts t.ops 0 := by unfold tfault; rw [if_neg h, if_pos h1, if_pos h2, if_neg h3]
/-- A valid task. -/
structure Valid (t : TaskV) : Prop where
  f0 : 0 ≤ t.facts
  f1 : t.facts ≤ 24
  init : SetP t.init t.facts
  goal : SetP t.goal t.facts
  nops : t.ops.length ≤ 40
  ops : ∀ o ∈ t.ops, (SetP o.pre t.facts ∧ SetP o.add t.facts ∧ SetP o.del t.facts ∧ ∀ x ∈ o.add, ¬ x ∈ o.del) ∧ 0 ≤ o.cost ∧ o.cost ≤ 100
theorem tfault_zero {t : TaskV} : (tfault t).1 = 0 ↔ Valid t := by
  by_cases h : t.facts < 0 ∨ 24 < t.facts
  · rw [tfault_1 h]
    exact ⟨fun h => by simp at h, fun v => by have := v.f0; have := v.f1; omega⟩
  · by_cases h1 : SetP t.init t.facts
    · by_cases h2 : SetP t.goal t.facts
      · by_cases h3 : 40 < t.ops.length
        · rw [tfault_4 h h1 h2 h3]
          exact ⟨fun h => by simp at h, fun v => by have := v.nops; omega⟩
        · rw [tfault_5 h h1 h2 h3]
          constructor
          · intro hz
            exact ⟨by omega, by omega, h1, h2, by omega, fun o ho => opc_zero.1 (opsFault_zero _ _ hz o ho)⟩
          · intro v
            rw [opsFault_good _ _ (fun o ho => opc_zero.2 (v.ops o ho))]
      · rw [tfault_3 h h1 h2]
        exact ⟨fun h => by simp at h, fun v => absurd v.goal h2⟩
    · rw [tfault_2 h h1]
      exact ⟨fun h => by simp at h, fun v => absurd v.init h1⟩
theorem tfault_valid {t : TaskV} (v : Valid t) : tfault t = (0, 0) := by
  rw [tfault_5 (by have := v.f0; have := v.f1; omega) v.init v.goal (by have := v.nops; omega)]
  exact opsFault_good _ _ (fun o ho => opc_zero.2 (v.ops o ho))

end Go.Proofs.Ytkepfmglljkjhaa

namespace Go.Proofs.Ytkepfmglljkjhaa
open Go.RowKit
end Go.Proofs.Ytkepfmglljkjhaa

namespace Go.Proofs.Ytkepfmglljkjhaa
open Go.RowKit
end Go.Proofs.Ytkepfmglljkjhaa

namespace Go.Proofs.Ytkepfmglljkjhaa
open Go.RowKit
set_option linter.unusedVariables false
set_option linter.unusedSimpArgs false

theorem bb_no {v : Int} (h : ¬ v = 0) : (v == 0) = false := by simpa using h
theorem bn_yes {v : Int} (h : ¬ v = 0) : (v != 0) = true := by simpa using h
/-- The fault of a task with a state. -/
noncomputable def sfault (t : TaskV) (s : List Int) : Int × Int := if (tfault t).1 = 0 then @ite _ (SetP s t.facts) (Classical.propDecidable _) (0, 0) (5, -4) else tfault t
theorem sfault_task {t : TaskV} {s : List Int} (h : ¬ (tfault t).1 = 0) : sfault t s = tfault t := by unfold sfault; rw [if_neg h]
theorem sfault_no {t : TaskV} {s : List Int} (h : (tfault t).1 = 0) (h2 : ¬ SetP s t.facts) : sfault t s = (5, -4) := by unfold sfault; rw [if_pos h, if_neg h2]
theorem sfault_yes {t : TaskV} {s : List Int} (h : (tfault t).1 = 0) (h2 : SetP s t.facts) : sfault t s = (0, 0) := by unfold sfault; rw [if_pos h, if_pos h2]
theorem sfault_zero {t : TaskV} {s : List Int} : (sfault t s).1 = 0 ↔ Valid t ∧ SetP s t.facts := by
  by_cases h : (tfault t).1 = 0
  · by_cases h2 : SetP s t.facts
    · rw [sfault_yes h h2]; exact ⟨fun _ => ⟨tfault_zero.1 h, h2⟩, fun _ => rfl⟩
    · rw [sfault_no h h2]; exact ⟨fun h => by simp at h, fun k => absurd k.2 h2⟩
  · rw [sfault_task h]; exact ⟨fun k => absurd k h, fun k => absurd (tfault_zero.2 k.1) h⟩

end Go.Proofs.Ytkepfmglljkjhaa

namespace Go.Proofs.Ytkepfmglljkjhaa
open Go.RowKit
end Go.Proofs.Ytkepfmglljkjhaa
