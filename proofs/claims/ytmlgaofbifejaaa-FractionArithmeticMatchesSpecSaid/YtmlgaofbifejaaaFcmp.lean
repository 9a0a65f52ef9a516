/-
  What Compare returns, and the sign of a comparison.
-/
import Derived.Test.YtmlgaofbifejaaaFany
namespace Go.Proofs.Ytmlgaofbifejaaa
open Go.RowKit
set_option linter.unusedVariables false
set_option linter.unusedSimpArgs false

/-- What Compare returns. -/
def sk (a b c d : Int) : Int := if bc a b c d = 0 then sg (a * d) (c * b) else 0
theorem compare_any (a b c d : Int) (w : World) :
    Calls Try.prog 19 #[.agg #[.int .i64 a, .int .i64 b], .agg #[.int .i64 c, .int .i64 d]] w fun e w' => e = .returned (.tuple #[.int .i64 (sk a b c d), .agg #[.int .i64 (bc a b c d), .int .i64 (bi a b c d)]]) ∧ Below w.heap.size w w' := by
  unfold sk
  by_cases h : bc a b c d = 0
  · rw [if_pos h, h, (bc_zero h).2.2]; exact compare_ok a b c d h w
  · rw [if_neg h]; exact compare_bad a b c d h w
theorem sk_bd (a b c d : Int) : -1 ≤ sk a b c d ∧ sk a b c d ≤ 1 := by
  unfold sk sg; split
  · split
    · omega
    · split <;> omega
  · omega
theorem sg_flip (x y : Int) : sg y x = -sg x y := by
  unfold sg
  rcases Int.lt_trichotomy x y with h | h | h
  · rw [if_neg (by omega), if_pos h, if_pos h]; rfl
  · subst h; rw [if_neg (by omega), if_neg (by omega)]; rfl
  · rw [if_pos h, if_neg (by omega), if_pos h]
theorem sg_zero {x y : Int} : sg x y = 0 ↔ x = y := by
  unfold sg; split
  · constructor <;> intro <;> omega
  · split
    · constructor <;> intro <;> omega
    · constructor <;> intro <;> omega
/-- A positive factor keeps the sign. -/
theorem sg_scale {x y u v k l : Int} (hk : 0 < k) (hl : 0 < l) (h : (x - y) * k = (u - v) * l) : sg x y = sg u v := by
  have h1 : x < y ↔ u < v := by
    constructor
    · intro hx
      have := Int.mul_neg_of_neg_of_pos (show x - y < 0 by omega) hk
      rcases Int.lt_or_le (u - v) 0 with h2 | h2
      · omega
      · have := Int.mul_nonneg h2 (by omega : 0 ≤ l); omega
    · intro hx
      have := Int.mul_neg_of_neg_of_pos (show u - v < 0 by omega) hl
      rcases Int.lt_or_le (x - y) 0 with h2 | h2
      · omega
      · have := Int.mul_nonneg h2 (by omega : 0 ≤ k); omega
  have h2 : y < x ↔ v < u := by
    constructor
    · intro hx
      have := Int.mul_pos (show 0 < x - y by omega) hk
      rcases Int.lt_or_le 0 (u - v) with h2 | h2
      · omega
      · have := Int.mul_nonpos_of_nonpos_of_nonneg h2 (by omega : 0 ≤ l); omega
    · intro hx
      have := Int.mul_pos (show 0 < u - v by omega) hl
      rcases Int.lt_or_le 0 (x - y) with h2 | h2
      · omega
      · have := Int.mul_nonpos_of_nonpos_of_nonneg h2 (by omega : 0 ≤ k); omega
  unfold sg
  simp only [h1, h2]
theorem same_frac {a b c d : Int} (h1 : vcode a b = 0) (h2 : vcode c d = 0) (h : a * d = c * b) : a = c ∧ b = d := by
  obtain ⟨_, _, v3, _, v5⟩ := vcode_zero h1
  obtain ⟨_, _, w3, _, w5⟩ := vcode_zero h2
  obtain ⟨e1, e2⟩ := q_uniq (n := c) (d := d) (by omega) v3 v5 h
  obtain ⟨e3, e4⟩ := q_uniq (n := c) (d := d) (p := c) (q := d) (by omega) w3 w5 rfl
  exact ⟨e1.trans e3.symm, e2.trans e4.symm⟩

end Go.Proofs.Ytmlgaofbifejaaa
