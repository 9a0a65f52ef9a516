/-
  Facts on operations that succeeded.
-/
import Derived.Test.YtmlgaofbifejaaaFany
namespace Go.Proofs.Ytmlgaofbifejaaa
open Go.RowKit
set_option linter.unusedVariables false
set_option linter.unusedSimpArgs false
/-- Facts on one operation that succeeded. -/
theorem op_fact {a b c d n m : Int} (h : gc (bc a b c d) n m = 0) (hm : vcode a b = 0 → vcode c d = 0 → m ≠ 0) :
    vcode a b = 0 ∧ vcode c d = 0 ∧ m ≠ 0 ∧ qfit n m ∧ gn (bc a b c d) n m = qn n m ∧ gd (bc a b c d) n m = qd n m ∧ vcode (gn (bc a b c d) n m) (gd (bc a b c d) n m) = 0 ∧ gn (bc a b c d) n m * m = n * gd (bc a b c d) n m := by
  obtain ⟨h1, h2, h3, h4⟩ := gc_zero' h
  obtain ⟨h5, h6, _⟩ := bc_zero h1
  have hm' := hm h5 h6
  refine ⟨h5, h6, hm', h2, h3, h4, ?_, ?_⟩
  · rw [h3, h4]; exact qfit_vcode hm' h2
  · rw [h3, h4]; exact q_mul hm'
theorem bd_ne {a b c d : Int} (h1 : vcode a b = 0) (h2 : vcode c d = 0) : b * d ≠ 0 := by
  obtain ⟨_, _, v3, _⟩ := vcode_zero h1
  obtain ⟨_, _, v7, _⟩ := vcode_zero h2
  exact mul_pos' v3 v7
theorem den_ne {a b : Int} (h1 : vcode a b = 0) : b ≠ 0 := by
  obtain ⟨_, _, v3, _⟩ := vcode_zero h1; omega

theorem cells_fraction : Try.prog.cellsOf 24 = 2 := by kernel_rfl

end Go.Proofs.Ytmlgaofbifejaaa
