/-
  R.Applies, After: what they return.
-/
import Derived.Test.YtkepfmglljkjhaaBf1
import Derived.Test.YtkepfmglljkjhaaSt3
import Derived.Test.YtkepfmglljkjhaaMF
import Derived.Test.YtkepfmglljkjhaaMG
namespace Go.Proofs.Ytkepfmglljkjhaa
open Go.RowKit
/-- The state after an operator, up to a fact. -/
def nextTo (s : List Int) (o : OpV) (k : Nat) : List Int := ((List.range k).map fun (p : Nat) => (p : Int)).filter fun p => decide (p ∈ o.add ∨ (p ∈ s ∧ p ∉ o.del))
theorem nextTo_len (s : List Int) (o : OpV) (k : Nat) : (nextTo s o k).length ≤ k := by
  unfold nextTo
  exact Nat.le_trans (List.length_filter_le _ _) (by simp)
theorem nextTo_yes {s : List Int} {o : OpV} {k : Nat} (h : (k : Int) ∈ o.add ∨ ((k : Int) ∈ s ∧ (k : Int) ∉ o.del)) : nextTo s o k ++ [(k : Int)] = nextTo s o (k + 1) := by
  unfold nextTo
  rw [List.range_succ, List.map_append, List.filter_append]
  congr 1
  simp only [List.map_cons, List.map_nil, List.filter_cons, List.filter_nil]
  rw [if_pos (decide_eq_true h)]
theorem nextTo_no {s : List Int} {o : OpV} {k : Nat} (h : ¬ ((k : Int) ∈ o.add ∨ ((k : Int) ∈ s ∧ (k : Int) ∉ o.del))) : nextTo s o (k + 1) = nextTo s o k := by
  unfold nextTo
  rw [List.range_succ, List.map_append, List.filter_append]
  simp only [List.map_cons, List.map_nil, List.filter_cons, List.filter_nil]
  rw [if_neg (by simpa using h), List.append_nil]
end Go.Proofs.Ytkepfmglljkjhaa
