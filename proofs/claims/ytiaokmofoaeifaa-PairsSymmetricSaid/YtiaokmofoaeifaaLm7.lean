/-
  S.IsCut: what it returns.
-/
import Derived.Test.YtiaokmofoaeifaaLm1
import Derived.Test.YtiaokmofoaeifaaTrel10
import Derived.Test.YtiaokmofoaeifaaTpure
namespace Go.Proofs.Ytiaokmofoaeifaa
open Go.RowKit
set_option linter.unusedVariables false
set_option linter.unusedSimpArgs false

/-- The operators that are no elements of a list. -/
def useOut (l : List Int) (k : Nat) : Bool := !decide ((k : Int) ∈ l)
theorem init3_use {m k : Nat} {l : List Int} {d : Bool} (h : ∀ x ∈ l, 0 ≤ x ∧ x < (m : Int)) (hd : (init3 m l)[k]? = some d) : useOut l k = !d := by
  have hk := (List.getElem?_eq_some_iff.1 hd).1
  rw [init3_len] at hk
  unfold init3 at hd
  rw [init3_get l _ k (fun x hx => (h x hx).1) (by simpa using hk)] at hd
  unfold useOut
  by_cases e : (k : Int) ∈ l
  · rw [if_pos e] at hd; injection hd with hd; subst hd; simp [e]
  · rw [if_neg e] at hd
    simp [hk] at hd
    subst hd; simp [e]
theorem bools_drew0 {w : World} {A : Option Addr} {bs : List Bool} (h : Bools w A bs) : Bools w.drew A bs := h
end Go.Proofs.Ytiaokmofoaeifaa
