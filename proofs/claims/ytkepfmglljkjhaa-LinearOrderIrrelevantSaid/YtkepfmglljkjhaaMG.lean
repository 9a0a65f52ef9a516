/-
  landmark.without, facts, Facts: what they return.
  S.IsCut: what it returns.
  landmark.facts, Facts: what they return.
  landmark.Facts: what it returns.
-/
import Derived.Test.YtkepfmglljkjhaaME
import Derived.Test.YtkepfmglljkjhaaMF
import Derived.Test.YtkepfmglljkjhaaMB
namespace Go.Proofs.Ytkepfmglljkjhaa
open Go.RowKit
set_option linter.unusedVariables false
set_option linter.unusedSimpArgs false

/-- The operators that do not add a fact. -/
def useNot (ops : List OpV) (p : Int) (k : Nat) : Bool := match ops[k]? with | some o => !decide (p ∈ o.add) | none => true
theorem useNot_of {ops : List OpV} {p : Int} {k : Nat} {o : OpV} (h : ops[k]? = some o) : useNot ops p k = !decide (p ∈ o.add) := by unfold useNot; rw [h]
/-- A fact is a landmark. -/
def Land (n : Nat) (t : TaskV) (p : Int) : Prop := p ∈ t.init ∨ ¬ ∀ q ∈ t.goal, Reach t.init t.ops (useNot t.ops p) q
/-- The facts below k that are landmarks. -/
noncomputable def landTo (n : Nat) (t : TaskV) (k : Nat) : List Int := ((List.range k).filter fun (p : Nat) => @decide (Land n t (p : Int)) (Classical.propDecidable _)).map fun (p : Nat) => (p : Int)
noncomputable def landV (n : Nat) (t : TaskV) : List Int := landTo n t n
theorem landTo_len (n : Nat) (t : TaskV) (k : Nat) : (landTo n t k).length ≤ k := by
  unfold landTo
  rw [List.length_map]
  exact Nat.le_trans (List.length_filter_le _ _) (by simp)
theorem landTo_yes {n : Nat} {t : TaskV} {k : Nat} (h : Land n t (k : Int)) : landTo n t k ++ [(k : Int)] = landTo n t (k + 1) := by
  unfold landTo
  rw [List.range_succ, List.filter_append, List.map_append]
  simp [h]
theorem landTo_no {n : Nat} {t : TaskV} {k : Nat} (h : ¬ Land n t (k : Int)) : landTo n t (k + 1) = landTo n t k := by
  unfold landTo
  rw [List.range_succ, List.filter_append, List.map_append]
  simp [h]
theorem landV_mem {n : Nat} {t : TaskV} {x : Int} : x ∈ landV n t ↔ 0 ≤ x ∧ x < (n : Int) ∧ Land n t x := by
  unfold landV landTo
  rw [List.mem_map]
  constructor
  · rintro ⟨p, hp, rfl⟩
    rw [List.mem_filter, List.mem_range] at hp
    exact ⟨by omega, by omega, (@decide_eq_true_iff _ (Classical.propDecidable _)).1 hp.2⟩
  · rintro ⟨h0, h1, h2⟩
    refine ⟨x.toNat, ?_, by omega⟩
    rw [List.mem_filter, List.mem_range]
    exact ⟨by omega, (@decide_eq_true_iff _ (Classical.propDecidable _)).2 (by rw [Int.toNat_of_nonneg h0]; exact h2)⟩
theorem landV_set {n : Nat} {t : TaskV} : SetP (landV n t) (n : Int) := by
  refine SetP.of_pairwise (fun x hx => ⟨(landV_mem.1 hx).1, (landV_mem.1 hx).2.1⟩) ?_
  unfold landV landTo
  rw [List.pairwise_map]
  exact (List.pairwise_lt_range.filter _).imp (fun h => by omega)
theorem landV_len (n : Nat) (t : TaskV) : (landV n t).length ≤ n := landTo_len n t n
theorem init_in {t : TaskV} {n : Nat} (hv : Valid t) (hn : t.facts = n) : ∀ p ∈ t.init, 0 ≤ p ∧ p < (n : Int) := fun p hp => by
  have := hv.init.1 p hp
  rw [hn] at this
  exact this
theorem allIn_close {n : Nat} {st : List Int} {ops : List OpV} {use : Nat → Bool} {xs : List Int} (h : ∀ x ∈ xs, 0 ≤ x ∧ x < (n : Int)) : AllIn (closeV n st ops use) xs ↔ ∀ x ∈ xs, Reach st ops use x := by
  constructor
  · intro ha x hx
    have h1 := h x hx
    have h2 := (closeV_get (n := n) (st := st) (ops := ops) (use := use) (p := x.toNat) (by omega)).1 (ha x hx)
    rw [Int.toNat_of_nonneg h1.1] at h2
    exact h2
  · intro ha x hx
    have h1 := h x hx
    refine (closeV_get (n := n) (p := x.toNat) (by omega)).2 ?_
    rw [Int.toNat_of_nonneg h1.1]
    exact ha x hx
end Go.Proofs.Ytkepfmglljkjhaa

namespace Go.Proofs.Ytkepfmglljkjhaa
open Go.RowKit
set_option linter.unusedVariables false
set_option linter.unusedSimpArgs false

/-- The operators that are no elements of a list. -/
def useOut (l : List Int) (k : Nat) : Bool := !decide ((k : Int) ∈ l)
theorem init3_use {m k : Nat} {l : List Int} {d : Bool} (h : ∀ x ∈ l, 0 ≤ x ∧ x < (m : Int)) (hd : (init3 m l)[k]? = some d) : useOut l k = !d := by
  have hk := (List.getElem?_eq_some_iff.1 hd).1
  rw [init3_len] at hk
  unfold init3 at hd
  rw [init3_get l _ k (fun x hx => (h x hx).1) (by simpa using hk)] at hd
  unfold useOut
  by_cases e : (k : Int) ∈ l
  · rw [if_pos e] at hd; injection hd with hd; subst hd; simp [e]
  · rw [if_neg e] at hd
    simp [hk] at hd
    subst hd; simp [e]
theorem bools_drew0 {w : World} {A : Option Addr} {bs : List Bool} (h : Bools w A bs) : Bools w.drew A bs := h
end Go.Proofs.Ytkepfmglljkjhaa

namespace Go.Proofs.Ytkepfmglljkjhaa
open Go.RowKit
end Go.Proofs.Ytkepfmglljkjhaa

namespace Go.Proofs.Ytkepfmglljkjhaa
open Go.RowKit
end Go.Proofs.Ytkepfmglljkjhaa
