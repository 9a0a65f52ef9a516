/-
  What the four operations on fractions return, in one word; the laws of fractions on numbers.
-/
import Derived.Test.YtmlgaofbifejaaaFcalc
namespace Go.Proofs.Ytmlgaofbifejaaa
open Go.RowKit
set_option linter.unusedVariables false
set_option linter.unusedSimpArgs false

/-- What an operation returns: k, j: the fault of its arguments; n/m: the quotient. -/
def gn (k n m : Int) : Int := if k = 0 then rn n m else 0
def gd (k n m : Int) : Int := if k = 0 then rd n m else 0
def gc (k n m : Int) : Int := if k = 0 then rc n m else k
def gi (k j n m : Int) : Int := if k = 0 then ri n m else j
theorem bn_yes {v : Int} (h : ¬ v = 0) : (v != 0) = true := by simpa using h
theorem bc_cases (a b c d : Int) : bc a b c d = 0 ∨ bc a b c d = 3 ∨ bc a b c d = 5 := by
  unfold bc; split
  · exact vcode_cases c d
  · exact vcode_cases a b
theorem gc_bd (a b c d n m : Int) : 0 ≤ gc (bc a b c d) n m ∧ gc (bc a b c d) n m ≤ 10 := by
  have h := bc_cases a b c d
  unfold gc rc
  split
  · split <;> omega
  · omega
theorem gc_zero {k j n m : Int} (h : gc k n m = 0) : k = 0 ∧ qfit n m ∧ gn k n m = qn n m ∧ gd k n m = qd n m ∧ gi k j n m = 0 ∨ (k = 0 ∧ j = 0 ∧ qfit n m ∧ gn k n m = qn n m ∧ gd k n m = qd n m) := by
  unfold gc at h
  split at h
  · rename_i hk
    rcases rc_zero n m with ⟨_, h2, h3, h4, h5⟩ | ⟨h1, _⟩
    · left; exact ⟨hk, h3, by unfold gn; rw [if_pos hk, h4], by unfold gd; rw [if_pos hk, h5], by unfold gi; rw [if_pos hk, h2]⟩
    · omega
  · rename_i hk; exact absurd h hk
theorem gc_zero' {k n m : Int} (h : gc k n m = 0) : k = 0 ∧ qfit n m ∧ gn k n m = qn n m ∧ gd k n m = qd n m := by
  rcases gc_zero (j := 1) h with h | h
  · exact ⟨h.1, h.2.1, h.2.2.1, h.2.2.2.1⟩
  · exact ⟨h.1, h.2.2.1, h.2.2.2.1, h.2.2.2.2⟩
theorem g_fit {k n m : Int} (j : Int) (hk : k = 0) (h : qfit n m) : gn k n m = qn n m ∧ gd k n m = qd n m ∧ gc k n m = 0 ∧ gi k j n m = 0 := by
  unfold gn gd gc gi
  rcases rc_zero n m with ⟨h1, h2, h3, h4, h5⟩ | ⟨_, _, h3, _⟩
  · rw [if_pos hk, if_pos hk, if_pos hk, if_pos hk]; exact ⟨h4, h5, h1, h2⟩
  · exact absurd h h3
theorem qfit_vcode {n m : Int} (hm : m ≠ 0) (h : qfit n m) : vcode (qn n m) (qd n m) = 0 := (fit_code hm h).1
/-- A quotient that equals a valid fraction is that fraction. -/
theorem q_valid {n m a b : Int} (hm : m ≠ 0) (h : vcode a b = 0) (e : a * m = n * b) : qn n m = a ∧ qd n m = b ∧ qfit n m := by
  obtain ⟨v1, v2, v3, v4, v5⟩ := vcode_zero h
  obtain ⟨e1, e2⟩ := q_uniq hm v3 v5 e
  exact ⟨e1.symm, e2.symm, by unfold qfit; rw [← e1, ← e2]; omega⟩
theorem bc_mk {a b c d : Int} (h1 : vcode a b = 0) (h2 : vcode c d = 0) : bc a b c d = 0 ∧ bi a b c d = 0 := by
  constructor
  · unfold bc; rw [if_pos h1]; exact h2
  · unfold bi; rw [if_pos h1, if_pos h2]

theorem add_any (a b c d : Int) (w : World) :
    Calls Try.prog 15 #[.agg #[.int .i64 a, .int .i64 b], .agg #[.int .i64 c, .int .i64 d]] w fun e w' => e = .returned (.tuple #[.agg #[.int .i64 (gn (bc a b c d) (a * d + c * b) (b * d)), .int .i64 (gd (bc a b c d) (a * d + c * b) (b * d))], .agg #[.int .i64 (gc (bc a b c d) (a * d + c * b) (b * d)), .int .i64 (gi (bc a b c d) (bi a b c d) (a * d + c * b) (b * d))]]) ∧ Below w.heap.size w w' := by
  unfold gn gd gc gi
  by_cases h : bc a b c d = 0
  · rw [if_pos h, if_pos h, if_pos h, if_pos h]; exact add_ok a b c d h w
  · rw [if_neg h, if_neg h, if_neg h, if_neg h]; exact add_bad a b c d h w

theorem sub_any (a b c d : Int) (w : World) :
    Calls Try.prog 17 #[.agg #[.int .i64 a, .int .i64 b], .agg #[.int .i64 c, .int .i64 d]] w fun e w' => e = .returned (.tuple #[.agg #[.int .i64 (gn (bc a b c d) (a * d - c * b) (b * d)), .int .i64 (gd (bc a b c d) (a * d - c * b) (b * d))], .agg #[.int .i64 (gc (bc a b c d) (a * d - c * b) (b * d)), .int .i64 (gi (bc a b c d) (bi a b c d) (a * d - c * b) (b * d))]]) ∧ Below w.heap.size w w' := by
  unfold gn gd gc gi
  by_cases h : bc a b c d = 0
  · rw [if_pos h, if_pos h, if_pos h, if_pos h]; exact sub_ok a b c d h w
  · rw [if_neg h, if_neg h, if_neg h, if_neg h]; exact sub_bad a b c d h w

theorem mul_any (a b c d : Int) (w : World) :
    Calls Try.prog 16 #[.agg #[.int .i64 a, .int .i64 b], .agg #[.int .i64 c, .int .i64 d]] w fun e w' => e = .returned (.tuple #[.agg #[.int .i64 (gn (bc a b c d) (a * c) (b * d)), .int .i64 (gd (bc a b c d) (a * c) (b * d))], .agg #[.int .i64 (gc (bc a b c d) (a * c) (b * d)), .int .i64 (gi (bc a b c d) (bi a b c d) (a * c) (b * d))]]) ∧ Below w.heap.size w w' := by
  unfold gn gd gc gi
  by_cases h : bc a b c d = 0
  · rw [if_pos h, if_pos h, if_pos h, if_pos h]; exact mul_ok a b c d h w
  · rw [if_neg h, if_neg h, if_neg h, if_neg h]; exact mul_bad a b c d h w

/-- Div: at a zero divisor the fault is that of a range, with the index -2. -/
def dk (a b c d : Int) : Int := if bc a b c d = 0 then (if c = 0 then 3 else 0) else bc a b c d
def dj (a b c d : Int) : Int := if bc a b c d = 0 then -2 else bi a b c d
theorem div_any (a b c d : Int) (w : World) :
    Calls Try.prog 18 #[.agg #[.int .i64 a, .int .i64 b], .agg #[.int .i64 c, .int .i64 d]] w fun e w' => e = .returned (.tuple #[.agg #[.int .i64 (gn (dk a b c d) (a * d) (b * c)), .int .i64 (gd (dk a b c d) (a * d) (b * c))], .agg #[.int .i64 (gc (dk a b c d) (a * d) (b * c)), .int .i64 (gi (dk a b c d) (dj a b c d) (a * d) (b * c))]]) ∧ Below w.heap.size w w' := by
  by_cases h : bc a b c d = 0
  · by_cases hc : c = 0
    · subst hc
      have e1 : dk a b 0 d = 3 := by unfold dk; rw [if_pos h, if_pos rfl]
      have e2 : dj a b 0 d = -2 := by unfold dj; rw [if_pos h]
      unfold gn gd gc gi
      rw [e1, e2, if_neg (by decide), if_neg (by decide), if_neg (by decide), if_neg (by decide)]
      exact div_zero a b d h w
    · have e1 : dk a b c d = 0 := by unfold dk; rw [if_pos h, if_neg hc]
      unfold gn gd gc gi
      rw [e1, if_pos rfl, if_pos rfl, if_pos rfl, if_pos rfl]
      exact div_ok a b c d h hc w
  · have e1 : dk a b c d = bc a b c d := by unfold dk; rw [if_neg h]
    have e2 : dj a b c d = bi a b c d := by unfold dj; rw [if_neg h]
    unfold gn gd gc gi
    rw [e1, e2, if_neg h, if_neg h, if_neg h, if_neg h]
    exact div_bad a b c d h w

theorem assoc_q {a b c d e f p q r s : Int} (hd : d ≠ 0) (h1 : p * (b * d) = (a * d + c * b) * q) (h2 : r * (d * f) = (c * f + e * d) * s) :
    (p * f + e * q) * (b * s) = (a * s + r * b) * (q * f) := by
  refine cancel hd ?_
  have e1 : (p * f + e * q) * (b * s) * d = f * s * (p * (b * d)) + e * q * b * s * d := by grind
  have e2 : (a * s + r * b) * (q * f) * d = a * s * q * f * d + q * b * (r * (d * f)) := by grind
  rw [e1, e2, h1, h2]
  grind
theorem distrib_q {a b c d e f r s u v m n : Int} (hd : d ≠ 0) (hf : f ≠ 0) (h2 : r * (d * f) = (c * f + e * d) * s) (h3 : u * (b * d) = a * c * v) (h4 : m * (b * f) = a * e * n) :
    a * r * (v * n) = (u * n + m * v) * (b * s) := by
  refine cancel hd (cancel hf ?_)
  have e1 : a * r * (v * n) * d * f = a * v * n * (r * (d * f)) := by grind
  have e2 : (u * n + m * v) * (b * s) * d * f = n * s * f * (u * (b * d)) + v * s * d * (m * (b * f)) := by grind
  rw [e1, e2, h2, h3, h4]
  grind

end Go.Proofs.Ytmlgaofbifejaaa
