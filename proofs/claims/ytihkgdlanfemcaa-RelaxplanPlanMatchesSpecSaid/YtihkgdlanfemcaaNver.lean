/-
  Contracts with the number of facts named.
-/
import Derived.Test.YtihkgdlanfemcaaMQ
namespace Go.Proofs.Ytihkgdlanfemcaa
open Go.RowKit
set_option linter.unusedVariables false
set_option linter.unusedSimpArgs false

theorem max_2n (w : World) (t : TaskV) (Ai Ag Ao : Option Addr) (ci cg co : Nat) (hT : TaskMem w Ai Ag Ao t) (S : Option Addr) (cs : Nat) (st : List Int) (hS : Ints w S st) (hls : lenOk st.length) (n : Nat) (hn : t.facts = n) (hv : Valid t) (h2 : SetP st t.facts) :
    Calls Try.prog 41 #[.agg #[.int .i64 (n : Int), .slice Ai t.init.length ci, .slice Ag t.goal.length cg, .slice Ao t.ops.length co], .slice S st.length cs] w fun e w' => ∃ g, e = .returned (.tuple #[.slice (some ⟨g, 0, none⟩) n n, .int .i64 (combV false (valuesV false n st t.ops (t.ops.map (·.cost))) t.goal), .agg #[.int .i64 0, .int .i64 0]]) ∧ w.heap.size ≤ g ∧ IArr w' g (valuesV false n st t.ops (t.ops.map (·.cost))) ∧ Best false n st t.ops (t.ops.map (·.cost)) (valuesV false n st t.ops (t.ops.map (·.cost))) ∧ Below w.heap.size w w' := by
  have h := max_2 w t Ai Ag Ao ci cg co hT S cs st hS hls n hn hv h2
  rw [hn] at h
  exact h
theorem reachable_2n (w : World) (t : TaskV) (Ai Ag Ao : Option Addr) (ci cg co : Nat) (hT : TaskMem w Ai Ag Ao t) (S : Option Addr) (cs : Nat) (st : List Int) (hS : Ints w S st) (hls : lenOk st.length) (n : Nat) (hn : t.facts = n) (hv : Valid t) (h2 : SetP st t.facts) :
    Calls Try.prog 39 #[.agg #[.int .i64 (n : Int), .slice Ai t.init.length ci, .slice Ag t.goal.length cg, .slice Ao t.ops.length co], .slice S st.length cs] w fun e w' => ∃ v, e = .returned (.tuple #[v, .agg #[.int .i64 0, .int .i64 0]]) ∧ OwnI w.heap.size w' v (withinV n st t.ops (fun _ => true)) ∧ Below w.heap.size w w' := by
  have h := reachable_2 w t Ai Ag Ao ci cg co hT S cs st hS hls n hn hv h2
  rw [hn] at h
  exact h
theorem pvalues_2n (w : World) (t : TaskV) (Ai Ag Ao : Option Addr) (ci cg co : Nat) (hT : TaskMem w Ai Ag Ao t) (hR : OpsRead w Ao t.ops) (S : Option Addr) (cs : Nat) (st : List Int) (hS : Ints w S st) (hls : lenOk st.length) (n : Nat) (hn : t.facts = n) (hv : Valid t) (h2 : SetP st t.facts) :
    Calls Try.prog 18 #[.agg #[.int .i64 (n : Int), .slice Ai t.init.length ci, .slice Ag t.goal.length cg, .slice Ao t.ops.length co], .slice S st.length cs] w fun e w' => ∃ g V, e = .returned (.tuple #[.slice (some ⟨g, 0, none⟩) n n, .agg #[.int .i64 0, .int .i64 0]]) ∧ TabAt w.heap.size w' g n V ∧ PBest n st t.ops V ∧ Below w.heap.size w w' := by
  have h := pvalues_2 w t Ai Ag Ao ci cg co hT hR S cs st hS hls n hn hv h2
  rw [hn] at h
  exact h
theorem pexcl_2n (w : World) (t : TaskV) (Ai Ag Ao : Option Addr) (ci cg co : Nat) (hT : TaskMem w Ai Ag Ao t) (hR : OpsRead w Ao t.ops) (n : Nat) (hn : t.facts = n) (hv : Valid t) :
    Calls Try.prog 20 #[.agg #[.int .i64 (n : Int), .slice Ai t.init.length ci, .slice Ag t.goal.length cg, .slice Ao t.ops.length co]] w fun e w' => ∃ v V, e = .returned (.tuple #[v, .agg #[.int .i64 0, .int .i64 0]]) ∧ (∃ B, w.heap.size ≤ B ∧ OwnPP B w' v (exTo n V n)) ∧ PBest n t.init t.ops V ∧ Below w.heap.size w w' := by
  have h := pexcl_2 w t Ai Ag Ao ci cg co hT hR n hn hv
  rw [hn] at h
  exact h
theorem pgoal_2n (w : World) (t : TaskV) (Ai Ag Ao : Option Addr) (ci cg co : Nat) (hT : TaskMem w Ai Ag Ao t) (hR : OpsRead w Ao t.ops) (hng : NilOk Ag t.goal cg) (S : Option Addr) (cs : Nat) (st : List Int) (hS : Ints w S st) (hls : lenOk st.length) (n : Nat) (hn : t.facts = n) (hv : Valid t) (h2 : SetP st t.facts) :
    Calls Try.prog 19 #[.agg #[.int .i64 (n : Int), .slice Ai t.init.length ci, .slice Ag t.goal.length cg, .slice Ao t.ops.length co], .slice S st.length cs] w fun e w' => ∃ V, e = .returned (.tuple #[.int .i64 (valP V t.goal), .agg #[.int .i64 0, .int .i64 0]]) ∧ PBest n st t.ops V ∧ Below w.heap.size w w' := by
  have h := pgoal_2 w t Ai Ag Ao ci cg co hT hR hng S cs st hS hls n hn hv h2
  rw [hn] at h
  exact h

end Go.Proofs.Ytihkgdlanfemcaa
