/-
  relaxed.Values: what it returns.
  FactValues, the reference's: what it returns.
  OwnCosts, GoalValue; estimate, Max, Add: what they return.
  relaxed.Close: what it returns.
  estimate, Max, Add: what they return.
  Max, Add, Reachable: what they return.
-/
import Derived.Test.YtkepfmglljkjhaaMD
import Derived.Test.YtkepfmglljkjhaaMC
namespace Go.Proofs.Ytkepfmglljkjhaa
open Go.RowKit
set_option linter.unusedVariables false
set_option linter.unusedSimpArgs false

/-- A function value that combines values of facts. -/
def Combines (G : FuncId) (s : Bool) : Prop := Enters G ∧ ∀ (A B : Option Addr) (c d : Nat) (vs xs : List Int) (w : World), Ints w A vs → Ints w B xs → xs.length ≤ 9223372036854775807 → vs.length ≤ 9223372036854775807 → (∀ x ∈ xs, 0 ≤ x ∧ x < vs.length) → AllV vs →
    Calls Try.prog G #[.slice A vs.length c, .slice B xs.length d] w fun e w' => e = .returned (.int .i64 (combV s vs xs)) ∧ w = w'
theorem Combines.at_ {G : FuncId} {s : Bool} (h : Combines G s) (A B : Option Addr) (c d m : Nat) (vs xs : List Int) (w : World) (h1 : Ints w A vs) (h2 : Ints w B xs) (hm : vs.length = m) (h3 : lenOk xs.length) (h4 : m ≤ 1000000000000) (h5 : ∀ x ∈ xs, 0 ≤ x ∧ x < (m : Int)) (h6 : AllV vs) :
    Calls Try.prog G #[.slice A m c, .slice B xs.length d] w fun e w' => e = .returned (.int .i64 (combV s vs xs)) ∧ w' = w := by
  subst hm
  exact (h.2 A B c d vs xs w h1 h2 h3.le (by omega) h5 h6).mono fun _ _ h => ⟨h.1, h.2.symm⟩
end Go.Proofs.Ytkepfmglljkjhaa

namespace Go.Proofs.Ytkepfmglljkjhaa
open Go.RowKit
theorem OwnI.form_at {base n : Nat} {w : World} {v : Value} {xs : List Int} (h : OwnI base w v xs) (hn : xs.length = n) : ∃ A c, v = .slice A n c ∧ (A = none → xs = [] ∧ c = 0) := by
  obtain ⟨A, c, e, h1, _⟩ := h.form
  exact ⟨A, c, by rw [e, hn], h1⟩
theorem OwnI.nil_at {base n c : Nat} {w : World} {A : Option Addr} {xs : List Int} (h : OwnI base w (.slice A n c) xs) : A = none → xs = [] ∧ c = 0 := by
  obtain ⟨A', c', e, h1, _⟩ := h.form
  injection e with e1 e2 e3
  subst e1; subst e3
  exact h1
theorem OwnI.ints_at {base n c : Nat} {w : World} {A : Option Addr} {xs : List Int} (h : OwnI base w (.slice A n c) xs) : Ints w A xs := by
  obtain ⟨A', c', e, h1⟩ := h.ints
  injection e with e
  rw [e]; exact h1
theorem OwnI.blk {base n c : Nat} {w : World} {A : Option Addr} {xs : List Int} (h : OwnI base w (.slice A n c) xs) : ∀ g, A = some ⟨g, 0, none⟩ → base ≤ g ∧ g < w.heap.size := fun g e => by
  subst e
  exact World.ownsRow.lt h g rfl
/-- One round of the reference: what is lowered so far. -/
def Lowered (s : Bool) (ops : List OpV) (cs : List Int) (k : Nat) (V V' : List Int) : Prop :=
  (V' = V ∨ sumV V' < sumV V) ∧ ∀ (i : Nat) (o : OpV) (c : Int), i < k → ops[i]? = some o → cs[i]? = some c → ∀ p ∈ o.add, valAt V' p ≤ opV s V o c
section
variable {s : Bool} {n : Nat} {st : List Int} {ops : List OpV} {cs V V' : List Int}
theorem Lowered.start : Lowered s ops cs 0 V V := ⟨Or.inl rfl, fun i o c hi => absurd hi (by omega)⟩
theorem Lowered.set_ {k : Nat} (h : Lowered s ops cs k V V') {i : Nat} {x y : Int} (hy : V'[i]? = some y) (h0 : 0 ≤ x) (hlt : x < y) : Lowered s ops cs k V (V'.set i x) := by
  have h1 := sum_set hy h0 hlt
  refine ⟨Or.inr ?_, fun j o c hj ho hc p hp => Int.le_trans (LeV.set_ hy (Int.le_of_lt hlt) p) (h.2 j o c hj ho hc p hp)⟩
  rcases h.1 with e | e
  · rw [← e]; exact h1
  · omega
theorem Lowered.succ {k : Nat} {o : OpV} {c : Int} (h : Lowered s ops cs k V V') (ho : ops[k]? = some o) (hc : cs[k]? = some c) (h2 : ∀ p ∈ o.add, valAt V' p ≤ opV s V o c) : Lowered s ops cs (k + 1) V V' := by
  refine ⟨h.1, fun i o' c' hi ho' hc' p hp => ?_⟩
  by_cases e : i = k
  · subst e
    rw [ho] at ho'; injection ho' with ho'; subst ho'
    rw [hc] at hc'; injection hc' with hc'; subst hc'
    exact h2 p hp
  · exact h.2 i o' c' (by omega) ho' hc' p hp
theorem Lowered.closed (h : Lowered s ops cs ops.length V V) : ClosedTo s ops cs ops.length V := h.2
theorem Lowered.less {k : Nat} (h : Lowered s ops cs k V V') (hne : ¬ V' = V) : sumV V' < sumV V := h.1.resolve_left hne
end
end Go.Proofs.Ytkepfmglljkjhaa

namespace Go.Proofs.Ytkepfmglljkjhaa
open Go.RowKit
end Go.Proofs.Ytkepfmglljkjhaa

namespace Go.Proofs.Ytkepfmglljkjhaa
open Go.RowKit
set_option linter.unusedVariables false
set_option linter.unusedSimpArgs false

/-- A function value that tells whether an operator may be used. -/
def Uses (F : FuncId) (caps : Array Value) (use : Nat → Bool) (m : Nat) (w : World) : Prop :=
  Enters F ∧ ∀ (k : Nat) (wr : World), k < m → Below w.heap.size w wr → Calls Try.prog F (#[.int .i64 k] ++ caps) wr fun e w' => e = .returned (.bool (use k)) ∧ Below wr.heap.size wr w'
end Go.Proofs.Ytkepfmglljkjhaa

namespace Go.Proofs.Ytkepfmglljkjhaa
open Go.RowKit
theorem costs_in {t : TaskV} (hv : Valid t) : AllV (t.ops.map (·.cost)) := fun v h => by
  obtain ⟨o, ho, rfl⟩ := List.mem_map.1 h
  have := (hv.ops o ho).2
  unfold InV; omega
theorem ops_in {t : TaskV} {n : Nat} (hv : Valid t) (hn : t.facts = n) : ∀ o ∈ t.ops, (∀ p ∈ o.pre, 0 ≤ p ∧ p < (n : Int)) ∧ ∀ p ∈ o.add, 0 ≤ p ∧ p < (n : Int) := fun o ho => by
  have := (hv.ops o ho).1
  rw [hn] at this
  exact ⟨this.1.1, this.2.1.1⟩
theorem goal_in {t : TaskV} {n : Nat} (hv : Valid t) (hn : t.facts = n) : ∀ p ∈ t.goal, 0 ≤ p ∧ p < (n : Int) := fun p hp => by
  have := hv.goal.1 p hp
  rw [hn] at this
  exact this
end Go.Proofs.Ytkepfmglljkjhaa

namespace Go.Proofs.Ytkepfmglljkjhaa
open Go.RowKit
/-- The true places among the first k. -/
def trues (bs : List Bool) (k : Nat) : List Int := ((List.range k).filter fun p => bs[p]? == some true).map fun (p : Nat) => (p : Int)
theorem trues_len (bs : List Bool) (k : Nat) : (trues bs k).length ≤ k := by
  unfold trues
  rw [List.length_map]
  exact Nat.le_trans (List.length_filter_le _ _) (by simp)
theorem trues_yes {bs : List Bool} {k : Nat} (h : bs[k]? = some true) : trues bs k ++ [(k : Int)] = trues bs (k + 1) := by
  unfold trues
  rw [List.range_succ, List.filter_append, List.map_append]
  simp [h]
theorem trues_no {bs : List Bool} {k : Nat} (h : bs[k]? = some false) : trues bs (k + 1) = trues bs k := by
  unfold trues
  rw [List.range_succ, List.filter_append, List.map_append]
  simp [h]
theorem trues_close {n : Nat} {st : List Int} {ops : List OpV} {use : Nat → Bool} : trues (closeV n st ops use) n = withinV n st ops use := by
  unfold trues withinV
  congr 1
  apply List.filter_congr
  intro p hp
  have hp' : p < n := by simpa using hp
  rw [Bool.eq_iff_iff]
  simp only [beq_iff_eq]
  rw [closeV_get hp']
  exact (@decide_eq_true_iff _ (Classical.propDecidable _)).symm
end Go.Proofs.Ytkepfmglljkjhaa
