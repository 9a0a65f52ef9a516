/-
  Sets as words of bits: plain.
  relaxplan: words, and how they are compared.
-/
import Derived.Test.YtihkgdlanfemcaaY2
import Derived.Test.YtihkgdlanfemcaaY1
import Derived.Laws.BitsAllLaws
import Derived.Lib.BitFns
import Derived.Lib.Tables
namespace Go.Proofs.Ytihkgdlanfemcaa
open Go.RowKit
set_option linter.unusedVariables false
set_option linter.unusedSimpArgs false

/-- The bits of a set's word. -/
theorem word_bit : ∀ (n : Nat) {l : List Int}, l.Nodup → (∀ x ∈ l, 0 ≤ x ∧ x < (n : Int)) → ∀ i : Nat, (wordV l).toNat.testBit i = decide ((i : Int) ∈ l)
  | 0, l, _, hx, i => by
    cases l with
    | nil => simp [wordV]
    | cons x l => have := hx x (List.mem_cons_self ..); omega
  | n + 1, l, hd, hx, i => by
    have h1 := wordV_split (n := n) hd (fun x h => by have := hx x h; omega)
    have fl : ∀ x ∈ l.filter (fun x => decide (x < (n : Int))), 0 ≤ x ∧ x < (n : Int) := fun x h => by
      have h3 := List.mem_filter.1 h
      have := hx x h3.1
      simp at h3
      omega
    have ih := word_bit n (hd.filter (fun x => decide (x < (n : Int)))) fl i
    have h2 := wordV_lt n (hd.filter (fun x => decide (x < (n : Int)))) fl
    have h0 := wordV_nn (l.filter fun x => decide (x < (n : Int)))
    have hpc : ((2 : Int) ^ n) = ((2 ^ n : Nat) : Int) := by simp
    have hlt : (wordV (l.filter fun x => decide (x < (n : Int)))).toNat < 2 ^ n := by omega
    have hm : ∀ j : Nat, j < n → ((j : Int) ∈ l.filter (fun x => decide (x < (n : Int))) ↔ (j : Int) ∈ l) := fun j hj => by
      rw [List.mem_filter]
      exact ⟨fun h => h.1, fun h => ⟨h, by simp; omega⟩⟩
    by_cases hn : (n : Int) ∈ l
    · rw [if_pos hn] at h1
      have e : (wordV l).toNat = 2 ^ n + (wordV (l.filter fun x => decide (x < (n : Int)))).toNat := by omega
      rw [e]
      rcases Nat.lt_trichotomy i n with h | h | h
      · rw [Nat.testBit_two_pow_add_gt h, ih]
        exact decide_eq_decide.2 (hm i h)
      · rw [h, Nat.testBit_two_pow_add_eq, Nat.testBit_lt_two_pow hlt]
        simp [hn]
      · have hb : 2 ^ n + (wordV (l.filter fun x => decide (x < (n : Int)))).toNat < 2 ^ i := by
          have h3 : 2 ^ (n + 1) ≤ 2 ^ i := Nat.pow_le_pow_right (by decide) h
          have h4 : 2 ^ (n + 1) = 2 ^ n + 2 ^ n := by rw [Nat.pow_succ]; omega
          omega
        rw [Nat.testBit_lt_two_pow hb]
        symm
        exact decide_eq_false (fun hc => by have := hx _ hc; omega)
    · rw [if_neg hn, Int.add_zero] at h1
      rw [h1, ih]
      refine decide_eq_decide.2 ?_
      rw [List.mem_filter]
      constructor
      · exact fun h => h.1
      · intro h
        have := hx _ h
        have h5 : (i : Int) ≠ (n : Int) := fun e => hn (e ▸ h)
        exact ⟨h, by simp; omega⟩
theorem SetP.bit {l : List Int} {n : Nat} (h : SetP l (n : Int)) (i : Nat) : (wordV l).toNat.testBit i = decide ((i : Int) ∈ l) := word_bit n h.nodup h.1 i
theorem SetP.word_lt {l : List Int} {n : Nat} (h : SetP l (n : Int)) (hn : n ≤ 24) : wordV l < 16777216 := by
  have h1 := wordV_lt 24 h.nodup (fun x hx => by have := h.1 x hx; omega)
  have : (2 : Int) ^ 24 = 16777216 := by decide
  omega
theorem SetP.word_u32 {l : List Int} {n : Nat} (h : SetP l (n : Int)) (hn : n ≤ 24) : 0 ≤ wordV l ∧ wordV l < 4294967296 := by
  have h1 := wordV_nn l
  have h2 := h.word_lt hn
  omega
/-! ### How many bits -/
/-! ### The state behind an operator that deletes nothing -/
theorem rx_mem {n : Nat} {l : List Int} {o : OpV} {x : Int} (hl : SetP l (n : Int)) (ha : ∀ p ∈ o.add, 0 ≤ p ∧ p < (n : Int)) : x ∈ nextV n l (rxO o) ↔ x ∈ l ∨ x ∈ o.add := by
  rw [nextV_mem]
  constructor
  · rintro ⟨_, h | ⟨h, _⟩⟩
    · exact .inr h
    · exact .inl h
  · rintro (h | h)
    · exact ⟨hl.1 x h, .inr ⟨h, by simp [rxO]⟩⟩
    · exact ⟨ha x h, .inl h⟩
end Go.Proofs.Ytihkgdlanfemcaa

namespace Go.Proofs.Ytihkgdlanfemcaa
open Go.RowKit
set_option linter.unusedVariables false
set_option linter.unusedSimpArgs false
/-- The word of a state, within 32 bits. -/
def wv (l : List Int) : Int := wordV l % 4294967296
theorem SetP.wv {l : List Int} {n : Nat} (h : SetP l (n : Int)) (hn : n ≤ 24) : wv l = wordV l := by
  have := h.word_u32 hn
  unfold Go.Proofs.Ytihkgdlanfemcaa.wv
  exact Int.emod_eq_of_lt this.1 this.2
def encW (l : List Int) : Value := .int .u32 (wv l)
end Go.Proofs.Ytihkgdlanfemcaa
