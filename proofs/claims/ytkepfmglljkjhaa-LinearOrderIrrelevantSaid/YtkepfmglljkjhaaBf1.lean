/-
  R.Word: what it returns.
-/
import Derived.Test.YtkepfmglljkjhaaMB
import Derived.Test.YtkepfmglljkjhaaMC
namespace Go.Proofs.Ytkepfmglljkjhaa
open Go.RowKit
set_option linter.unusedVariables false
set_option linter.unusedSimpArgs false

/-- A set as a word. -/
def wordV : List Int → Int
  | [] => 0
  | x :: l => 2 ^ x.toNat + wordV l
theorem wordV_app (l m : List Int) : wordV (l ++ m) = wordV l + wordV m := by
  induction l with
  | nil => simp [wordV]
  | cons x l ih => simp only [List.cons_append, wordV, ih]; omega
theorem wordV_succ {l : List Int} {k : Nat} {x : Int} (h : l[k]? = some x) : wordV (l.take (k + 1)) = wordV (l.take k) + 2 ^ x.toNat := by
  rw [List.take_add_one, h, wordV_app]; simp [wordV]
theorem wordV_nn (l : List Int) : 0 ≤ wordV l := by
  induction l with
  | nil => exact Int.le_refl _
  | cons x l ih =>
    have : (0 : Int) ≤ 2 ^ x.toNat := Int.pow_nonneg (by decide)
    simp only [wordV]; omega
theorem wordV_split {n : Nat} : ∀ {l : List Int}, l.Nodup → (∀ x ∈ l, 0 ≤ x ∧ x ≤ (n : Int)) → wordV l = wordV (l.filter fun x => decide (x < (n : Int))) + (if (n : Int) ∈ l then 2 ^ n else 0)
  | [], _, _ => by simp [wordV]
  | x :: l, hd, hx => by
    obtain ⟨hd1, hd2⟩ := List.nodup_cons.1 hd
    have ih := wordV_split (n := n) hd2 (fun y hy => hx y (List.mem_cons_of_mem _ hy))
    have h0 := hx x (List.mem_cons_self ..)
    by_cases e : x = (n : Int)
    · subst e
      rw [if_neg hd1] at ih
      rw [List.filter_cons_of_neg (by simp), if_pos (List.mem_cons_self ..)]
      simp only [wordV, Int.toNat_natCast]
      omega
    · rw [List.filter_cons_of_pos (by simp; omega)]
      have e2 : ((n : Int) ∈ x :: l) ↔ (n : Int) ∈ l := ⟨fun h => by rcases List.mem_cons.1 h with h | h; exact absurd h.symm e; exact h, fun h => List.mem_cons_of_mem _ h⟩
      simp only [wordV, e2]
      omega
theorem wordV_lt : ∀ (n : Nat) {l : List Int}, l.Nodup → (∀ x ∈ l, 0 ≤ x ∧ x < (n : Int)) → wordV l < 2 ^ n
  | 0, l, _, hx => by
    cases l with
    | nil => simp [wordV]
    | cons x l => have := hx x (List.mem_cons_self ..); omega
  | n + 1, l, hd, hx => by
    have h1 := wordV_split (n := n) hd (fun x h => by have := hx x h; omega)
    have h2 := wordV_lt n (l := l.filter fun x => decide (x < (n : Int))) (hd.filter _) (fun x h => by
      have h3 := List.mem_filter.1 h
      have := hx x h3.1
      simp at h3
      omega)
    have h3 : (2 : Int) ^ (n + 1) = 2 ^ n + 2 ^ n := by rw [Int.pow_succ]; omega
    have h4 : (0 : Int) < 2 ^ n := Int.pow_pos (by decide)
    rw [h1, h3]
    split <;> omega
theorem wordV_inj : ∀ (n : Nat) {a b : List Int}, a.Nodup → b.Nodup → (∀ x ∈ a, 0 ≤ x ∧ x < (n : Int)) → (∀ x ∈ b, 0 ≤ x ∧ x < (n : Int)) → wordV a = wordV b → ∀ x, x ∈ a ↔ x ∈ b
  | 0, a, b, _, _, ha, hb, _, x => ⟨fun h => by have := ha x h; omega, fun h => by have := hb x h; omega⟩
  | n + 1, a, b, da, db, ha, hb, he, x => by
    have fa : ∀ x ∈ a.filter (fun x => decide (x < (n : Int))), 0 ≤ x ∧ x < (n : Int) := fun x h => by
      have h3 := List.mem_filter.1 h
      have := ha x h3.1
      simp at h3
      omega
    have fb : ∀ x ∈ b.filter (fun x => decide (x < (n : Int))), 0 ≤ x ∧ x < (n : Int) := fun x h => by
      have h3 := List.mem_filter.1 h
      have := hb x h3.1
      simp at h3
      omega
    have h1 := wordV_split (n := n) da (fun x h => by have := ha x h; omega)
    have h2 := wordV_split (n := n) db (fun x h => by have := hb x h; omega)
    have l1 := wordV_lt n (da.filter _) fa
    have l2 := wordV_lt n (db.filter _) fb
    have n1 := wordV_nn (a.filter fun x => decide (x < (n : Int)))
    have n2 := wordV_nn (b.filter fun x => decide (x < (n : Int)))
    have key : ((n : Int) ∈ a ↔ (n : Int) ∈ b) ∧ wordV (a.filter fun x => decide (x < (n : Int))) = wordV (b.filter fun x => decide (x < (n : Int))) := by
      by_cases ea : (n : Int) ∈ a <;> by_cases eb : (n : Int) ∈ b <;> simp only [ea, eb, if_true, if_false, true_iff, iff_true, false_iff, iff_false, true_and, not_true_eq_false, not_false_eq_true, false_and] at h1 h2 ⊢ <;> omega
    have ih := wordV_inj n (da.filter _) (db.filter _) fa fb key.2 x
    rcases Int.lt_trichotomy x (n : Int) with h | h | h
    · simp only [List.mem_filter, decide_eq_true_eq, h, and_true] at ih
      exact ih
    · rw [h]; exact key.1
    · exact ⟨fun k => by have := ha x k; omega, fun k => by have := hb x k; omega⟩
theorem SetP.nodup {l : List Int} {n : Int} (h : SetP l n) : l.Nodup := (SetP.pairwise h).imp (fun h => by omega)
theorem word_bound {s : List Int} {n : Nat} (h : SetP s (n : Int)) (hn : n ≤ 24) (k : Nat) : wordV (s.take k) ≤ 16777216 := by
  have h1 := wordV_lt 24 (l := s.take k) (List.Nodup.sublist (List.take_sublist _ _) h.nodup) (fun x hx => by have := h.1 x (List.mem_of_mem_take hx); omega)
  have : (2 : Int) ^ 24 = 16777216 := by decide
  omega
/-- Two sets with one word are equal. -/
theorem word_inj {a b : List Int} {n : Nat} (ha : SetP a (n : Int)) (hb : SetP b (n : Int)) (h : wordV a = wordV b) : a = b :=
  ha.ext hb (wordV_inj n ha.nodup hb.nodup ha.1 hb.1 h)
end Go.Proofs.Ytkepfmglljkjhaa
