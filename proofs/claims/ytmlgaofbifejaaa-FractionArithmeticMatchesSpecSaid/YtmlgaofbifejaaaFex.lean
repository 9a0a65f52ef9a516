/-
  In; the example of fractions.
-/
import Derived.Test.YtmlgaofbifejaaaFops
namespace Go.Proofs.Ytmlgaofbifejaaa
open Go.RowKit
set_option linter.unusedVariables false
set_option linter.unusedSimpArgs false

theorem in_any (n a b : Int) (w : World) (h : a ≤ b) :
    Calls Try.prog 12 #[.int .i64 n, .int .i64 a, .int .i64 b] w fun e w' => e = .returned (.bool (decide (a ≤ n ∧ n ≤ b))) ∧ w = w' := by
  by_cases h1 : a ≤ n
  · by_cases h2 : n ≤ b
    · go_enter Try.func12, Try.ntmps12
      go_wp2
      go_ret
      exact ⟨by simp <;> omega, rfl⟩
    · go_enter Try.func12, Try.ntmps12
      go_wp2
      go_ret
      exact ⟨by simp <;> omega, rfl⟩
  · go_enter Try.func12, Try.ntmps12
    go_wp2
    go_ret
    exact ⟨by simp <;> omega, rfl⟩

theorem in_yes (n a b : Int) (w : World) (h1 : a ≤ n) (h2 : n ≤ b) :
    Calls Try.prog 12 #[.int .i64 n, .int .i64 a, .int .i64 b] w fun e w' => e = .returned (.bool true) ∧ w = w' :=
  (in_any n a b w (by omega)).mono fun e w' ⟨he, hw⟩ => ⟨by rw [he, show decide (a ≤ n ∧ n ≤ b) = true from decide_eq_true ⟨h1, h2⟩], hw⟩
theorem in_no (n a b : Int) (w : World) (h : a ≤ b) (h1 : n < a ∨ b < n) :
    Calls Try.prog 12 #[.int .i64 n, .int .i64 a, .int .i64 b] w fun e w' => e = .returned (.bool false) ∧ w = w' :=
  (in_any n a b w h).mono fun e w' ⟨he, hw⟩ => ⟨by rw [he, show decide (a ≤ n ∧ n ≤ b) = false from decide_eq_false (by omega)], hw⟩

theorem ex_q1 : rn 6 (-4) = -3 ∧ rd 6 (-4) = 2 ∧ rc 6 (-4) = 0 ∧ ri 6 (-4) = 0 := by
  obtain ⟨h1, h2⟩ := q_uniq (n := 6) (d := -4) (p := -3) (q := 2) (by decide) (by decide) (by decide) (by decide)
  have h : qfit 6 (-4) := by unfold qfit; rw [← h1, ← h2]; decide
  obtain ⟨_, e1, e2, e3, e4⟩ := fit_code (by decide) h
  rw [e1, e2, e3, e4, ← h1, ← h2]; decide
theorem ex_q2 : rn 5 6 = 5 ∧ rd 5 6 = 6 ∧ rc 5 6 = 0 ∧ ri 5 6 = 0 := by
  obtain ⟨h1, h2⟩ := q_uniq (n := 5) (d := 6) (p := 5) (q := 6) (by decide) (by decide) (by decide) (by decide)
  have h : qfit 5 6 := by unfold qfit; rw [← h1, ← h2]; decide
  obtain ⟨_, e1, e2, e3, e4⟩ := fit_code (by decide) h
  rw [e1, e2, e3, e4, ← h1, ← h2]; decide
theorem ex_v1 : bc 1 2 1 3 = 0 := by unfold bc vcode; decide
theorem make_ex (w : World) : Calls Try.prog 11 #[.int .i64 6, .int .i64 (-4)] w fun e w' => e = .returned (.tuple #[.agg #[.int .i64 (-3), .int .i64 2], .agg #[.int .i64 0, .int .i64 0]]) ∧ Below w.heap.size w w' := by
  have h := make_in 6 (-4) (by decide) (by decide) (by decide) (by decide) (by decide) w
  obtain ⟨e1, e2, e3, e4⟩ := ex_q1
  rw [e1, e2, e3, e4] at h
  exact h
theorem add_ex (w : World) : Calls Try.prog 15 #[.agg #[.int .i64 1, .int .i64 2], .agg #[.int .i64 1, .int .i64 3]] w fun e w' => e = .returned (.tuple #[.agg #[.int .i64 5, .int .i64 6], .agg #[.int .i64 0, .int .i64 0]]) ∧ Below w.heap.size w w' := by
  have h := add_ok 1 2 1 3 ex_v1 w
  obtain ⟨e1, e2, e3, e4⟩ := ex_q2
  simp only [Int.reduceMul, Int.reduceAdd] at h
  rw [e1, e2, e3, e4] at h
  exact h

set_option maxHeartbeats 400000 in
theorem example_any (w : World) : Calls Try.prog 10 #[] w fun e w' => e = .returned (.bool true) ∧ Below w.heap.size w w' := by
  go_enter Try.func10, Try.ntmps10
  go_wp2_with fail
  refine (make_ex _).mono ?_
  rintro e w1 ⟨rfl, hB⟩
  have D1 := dstep w hB (by repeat (first | with_reducible exact Below.refl _ _ | with_reducible apply bdrew | with_reducible apply bdrewN | with_reducible apply balloc | ((with_reducible refine bset ?_ ?_ _); rotate_left; (first | omega | (simp <;> omega)))))
  have d1s := D1.size
  have B1 := hB
  clear hB
  go_wp2_with fail
  refine (add_ex _).mono ?_
  rintro e w2 ⟨rfl, hB⟩
  have D2 := dstep w hB (by repeat (first | with_reducible exact D1 | with_reducible apply bdrew | with_reducible apply bdrewN | with_reducible apply balloc | ((with_reducible refine bset ?_ ?_ _); rotate_left; (first | omega | (simp <;> omega)))))
  have d2s := D2.size
  have B2 := bstep B1 hB (by repeat (first | with_reducible exact B1 | with_reducible apply bdrew | with_reducible apply bdrewN | with_reducible apply balloc | ((with_reducible refine bset ?_ ?_ _); rotate_left; (first | omega | (simp <;> omega)))))
  have G2 := Cls.below (l := [(w1.heap.size, 0, .int .i64 (-3)), (w1.heap.size, 1, .int .i64 2), (w1.heap.size + 1, 0, .int .i64 0), (w1.heap.size + 1, 1, .int .i64 0)]) hB (by simp [Cls, go_sem])
  simp only [Cls, and_true] at G2
  have hs2 := hB.size
  try simp at hs2
  have y2_1_1 : w1.heap.size + 1 < w2.heap.size := (by omega)
  have y2_1_0 : w1.heap.size < w2.heap.size := (by omega)
  have y2_1_p1 : w1.heap.size < w2.heap.size + 1 := (by omega)
  have y2_1_p2 : w1.heap.size < w2.heap.size + 1 + 1 := (by omega)
  clear hB
  go_wp2
  go_ret
  exact ⟨rfl, by repeat (first | with_reducible exact D2 | with_reducible apply bdrew | with_reducible apply bdrewN | with_reducible apply balloc | ((with_reducible refine bset ?_ ?_ _); rotate_left; (first | omega | (simp <;> omega))))⟩

/-- What Make returns. -/
def mo1 (n : Int) : Prop := n < -4611686018427387904 ∨ 4611686018427387904 < n
def mo2 (d : Int) : Prop := d < -4611686018427387904 ∨ 4611686018427387904 < d ∨ d = 0
instance (n : Int) : Decidable (mo1 n) := by unfold mo1; infer_instance
instance (n : Int) : Decidable (mo2 n) := by unfold mo2; infer_instance
def mn (n d : Int) : Int := if mo1 n ∨ mo2 d then 0 else rn n d
def md (n d : Int) : Int := if mo1 n ∨ mo2 d then 0 else rd n d
def mc (n d : Int) : Int := if mo1 n ∨ mo2 d then 3 else rc n d
def mi (n d : Int) : Int := if mo1 n then 0 else if mo2 d then 1 else ri n d
theorem make_any (n d : Int) (w : World) :
    Calls Try.prog 11 #[.int .i64 n, .int .i64 d] w fun e w' => e = .returned (.tuple #[.agg #[.int .i64 (mn n d), .int .i64 (md n d)], .agg #[.int .i64 (mc n d), .int .i64 (mi n d)]]) ∧ Below w.heap.size w w' := by
  unfold mn md mc mi
  by_cases h1 : mo1 n
  · rw [if_pos (Or.inl h1), if_pos (Or.inl h1), if_pos (Or.inl h1), if_pos h1]
    unfold mo1 at h1
    exact make_out1 n d h1 w
  · by_cases h2 : mo2 d
    · rw [if_pos (Or.inr h2), if_pos (Or.inr h2), if_pos (Or.inr h2), if_neg h1, if_pos h2]
      unfold mo1 at h1; unfold mo2 at h2
      exact make_out2 n d (by omega) (by omega) h2 w
    · have h : ¬ (mo1 n ∨ mo2 d) := fun h => h.elim h1 h2
      rw [if_neg h, if_neg h, if_neg h, if_neg h1, if_neg h2]
      unfold mo1 at h1; unfold mo2 at h2
      exact make_in n d (by omega) (by omega) (by omega) (by omega) (by omega) w
theorem rc_zero (n d : Int) : (rc n d = 0 ∧ ri n d = 0 ∧ qfit n d ∧ rn n d = qn n d ∧ rd n d = qd n d) ∨ (rc n d = 10 ∧ ri n d = -1 ∧ ¬ qfit n d ∧ rn n d = 0 ∧ rd n d = 0) := by
  unfold rc ri rn rd
  by_cases h : qfit n d
  · simp [h]
  · simp [h]
theorem mc_zero (n d : Int) : (mc n d = 0 ∧ mi n d = 0 ∧ ¬ mo1 n ∧ ¬ mo2 d ∧ qfit n d ∧ mn n d = qn n d ∧ md n d = qd n d) ∨ (¬ mc n d = 0 ∧ mn n d = 0 ∧ md n d = 0) := by
  unfold mc mi mn md
  by_cases h1 : mo1 n
  · simp [h1]
  · by_cases h2 : mo2 d
    · simp [h2]
    · rcases rc_zero n d with ⟨h3, h4, h5, h6, h7⟩ | ⟨h3, h4, h5, h6, h7⟩
      · simp [h1, h2, h3, h4, h5, h6, h7]
      · simp [h1, h2, h3, h6, h7]
theorem mc_ok {n d : Int} (h1 : ¬ mo1 n) (h2 : ¬ mo2 d) (h : qfit n d) : mc n d = 0 ∧ mi n d = 0 ∧ mn n d = qn n d ∧ md n d = qd n d := by
  have h' : ¬ (mo1 n ∨ mo2 d) := fun h => h.elim h1 h2
  unfold mc mi mn md
  rcases rc_zero n d with ⟨h3, h4, h5, h6, h7⟩ | ⟨h3, h4, h5, h6, h7⟩
  · simp [h1, h2, h3, h4, h6, h7]
  · exact absurd h h5

end Go.Proofs.Ytmlgaofbifejaaa
