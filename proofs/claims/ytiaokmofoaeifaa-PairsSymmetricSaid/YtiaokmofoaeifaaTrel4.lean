/-
  FactValues, the reference's: what it returns.
-/
import Derived.Test.YtiaokmofoaeifaaTrel3
namespace Go.Proofs.Ytiaokmofoaeifaa
open Go.RowKit
theorem ints_at (A B : Option Addr) (c d m : Nat) (xs ys : List Int) (w : World) (hI : Ints w A xs) (hJ : Ints w B ys) (h1 : xs.length = m) (h2 : ys.length = m) (hl : m ≤ 1000000000000) (v : Bool) (hv : v = decide (xs = ys)) :
    Calls Try.prog 23 #[.slice A m c, .slice B m d] w fun e w' => e = .returned (.bool v) ∧ Below w.heap.size w w' := by
  have h := ints_any A B c d xs ys w hI hJ (by omega) (by omega)
  rw [h1, h2] at h
  rw [hv]
  exact h
theorem OwnI.form_at {base n : Nat} {w : World} {v : Value} {xs : List Int} (h : OwnI base w v xs) (hn : xs.length = n) : ∃ A c, v = .slice A n c ∧ (A = none → xs = [] ∧ c = 0) := by
  obtain ⟨A, c, e, h1, _⟩ := h.form
  exact ⟨A, c, by rw [e, hn], h1⟩
theorem OwnI.nil_at {base n c : Nat} {w : World} {A : Option Addr} {xs : List Int} (h : OwnI base w (.slice A n c) xs) : A = none → xs = [] ∧ c = 0 := by
  obtain ⟨A', c', e, h1, _⟩ := h.form
  injection e with e1 e2 e3
  subst e1; subst e3
  exact h1
theorem OwnI.ints_at {base n c : Nat} {w : World} {A : Option Addr} {xs : List Int} (h : OwnI base w (.slice A n c) xs) : Ints w A xs := by
  obtain ⟨A', c', e, h1⟩ := h.ints
  injection e with e
  rw [e]; exact h1
theorem OwnI.blk {base n c : Nat} {w : World} {A : Option Addr} {xs : List Int} (h : OwnI base w (.slice A n c) xs) : ∀ g, A = some ⟨g, 0, none⟩ → base ≤ g ∧ g < w.heap.size := fun g e => by
  subst e
  exact World.ownsRow.lt h g rfl
/-- One round of the reference: what is lowered so far. -/
def Lowered (s : Bool) (ops : List OpV) (cs : List Int) (k : Nat) (V V' : List Int) : Prop :=
  (V' = V ∨ sumV V' < sumV V) ∧ ∀ (i : Nat) (o : OpV) (c : Int), i < k → ops[i]? = some o → cs[i]? = some c → ∀ p ∈ o.add, valAt V' p ≤ opV s V o c
section
variable {s : Bool} {n : Nat} {st : List Int} {ops : List OpV} {cs V V' : List Int}
theorem Lowered.start : Lowered s ops cs 0 V V := ⟨Or.inl rfl, fun i o c hi => absurd hi (by omega)⟩
theorem Lowered.set_ {k : Nat} (h : Lowered s ops cs k V V') {i : Nat} {x y : Int} (hy : V'[i]? = some y) (h0 : 0 ≤ x) (hlt : x < y) : Lowered s ops cs k V (V'.set i x) := by
  have h1 := sum_set hy h0 hlt
  refine ⟨Or.inr ?_, fun j o c hj ho hc p hp => Int.le_trans (LeV.set_ hy (Int.le_of_lt hlt) p) (h.2 j o c hj ho hc p hp)⟩
  rcases h.1 with e | e
  · rw [← e]; exact h1
  · omega
theorem Lowered.succ {k : Nat} {o : OpV} {c : Int} (h : Lowered s ops cs k V V') (ho : ops[k]? = some o) (hc : cs[k]? = some c) (h2 : ∀ p ∈ o.add, valAt V' p ≤ opV s V o c) : Lowered s ops cs (k + 1) V V' := by
  refine ⟨h.1, fun i o' c' hi ho' hc' p hp => ?_⟩
  by_cases e : i = k
  · subst e
    rw [ho] at ho'; injection ho' with ho'; subst ho'
    rw [hc] at hc'; injection hc' with hc'; subst hc'
    exact h2 p hp
  · exact h.2 i o' c' (by omega) ho' hc' p hp
theorem Lowered.closed (h : Lowered s ops cs ops.length V V) : ClosedTo s ops cs ops.length V := h.2
theorem Lowered.less {k : Nat} (h : Lowered s ops cs k V V') (hne : ¬ V' = V) : sumV V' < sumV V := h.1.resolve_left hne
end
end Go.Proofs.Ytiaokmofoaeifaa
