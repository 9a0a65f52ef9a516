/-
  strips.Can, Next, Steps, PlanFault; R.StepsFault, R.PlanFault: what they return.
-/
import Derived.Test.YtkepfmglljkjhaaMJ
import Derived.Test.YtkepfmglljkjhaaMA
import Derived.Test.YtkepfmglljkjhaaMD
namespace Go.Proofs.Ytkepfmglljkjhaa
open Go.RowKit
set_option linter.unusedVariables false
set_option linter.unusedSimpArgs false

theorem OpsRead.below {w w' : World} {A : Option Addr} {ops : List OpV} (h : OpsRead w A ops) (hb : Below w.heap.size w w') : OpsRead w' A ops := fun k o hk => by
  obtain ⟨ad, A0, c0, A1, c1, A2, c2, e, h0, h1, h2, h3, hm, hr⟩ := h k o hk
  exact ⟨ad, A0, c0, A1, c1, A2, c2, e, (hb.cell (World.block_lt_of_cell? w _ h0)).trans h0, (hb.cell (World.block_lt_of_cell? w _ h1)).trans h1, (hb.cell (World.block_lt_of_cell? w _ h2)).trans h2, (hb.cell (World.block_lt_of_cell? w _ h3)).trans h3, hm.below hb, hr⟩
theorem OpsRead.at2 {w w' : World} {A : Option Addr} {ops : List OpV} {k : Nat} (h : OpsRead w A ops) (hb : Below w.heap.size w w') (hk : k < ops.length) : ∃ ad o A0 c0 A1 c1 A2 c2, A = some ad ∧ Hid (ops[k]? = some o) ∧ w'.cell? (ad.add (k * 4)) = some (.slice A0 o.pre.length c0) ∧ w'.cell? ⟨(ad.add (k * 4)).block, (ad.add (k * 4)).off + 1, none⟩ = some (.slice A1 o.add.length c1) ∧
    w'.cell? ⟨(ad.add (k * 4)).block, (ad.add (k * 4)).off + 2, none⟩ = some (.slice A2 o.del.length c2) ∧ w'.cell? ⟨(ad.add (k * 4)).block, (ad.add (k * 4)).off + 3, none⟩ = some (.int .i64 o.cost) ∧ OpMem w A0 A1 A2 o ∧ Hid (A1 = none → c1 = 0) := by
  obtain ⟨ad, A0, c0, A1, c1, A2, c2, e, h0, h1, h2, h3, hm, hr⟩ := h k _ (List.getElem?_eq_getElem hk)
  exact ⟨ad, ops[k], A0, c0, A1, c1, A2, c2, e, Lib.hid (List.getElem?_eq_getElem hk), (hb.cell (World.block_lt_of_cell? w _ h0)).trans h0, (hb.cell (World.block_lt_of_cell? w _ h1)).trans h1, (hb.cell (World.block_lt_of_cell? w _ h2)).trans h2, (hb.cell (World.block_lt_of_cell? w _ h3)).trans h3, hm, Lib.hid (fun e => (hr.2.1.1 e).2)⟩
/-- The steps of a plan are operators, and there are not too many. -/
def StepsOk (m : Nat) (plan : List Int) : Prop := plan.length ≤ 60 ∧ ∀ op ∈ plan, 0 ≤ op ∧ op < (m : Int)
/-- The fault of the steps of a plan. -/
def stepsF (plan : List Int) : Int × Int := if plan.length ≤ 60 then (3, -6) else (2, -5)
theorem stepsF_ne (plan : List Int) : ¬ (stepsF plan).1 = 0 := by unfold stepsF; split <;> simp
end Go.Proofs.Ytkepfmglljkjhaa
