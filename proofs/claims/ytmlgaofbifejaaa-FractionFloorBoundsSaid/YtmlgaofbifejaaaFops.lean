/-
  fraction.both, Make, Add, Sub, Mul, Div, Compare, Floor: what they return, for all numbers.
-/
import Derived.Test.YtmlgaofbifejaaaFval
namespace Go.Proofs.Ytmlgaofbifejaaa
open Go.RowKit
set_option linter.unusedVariables false
set_option linter.unusedSimpArgs false

/-- What 'both' reports of two fractions: the code and the index. -/
def bc (a b c d : Int) : Int := if vcode a b = 0 then vcode c d else vcode a b
def bi (a b c d : Int) : Int := if vcode a b = 0 then (if vcode c d = 0 then 0 else 1) else 0
theorem bb_no {v : Int} (h : ¬ v = 0) : (v == 0) = false := by simpa using h

set_option maxHeartbeats 400000 in
theorem both_1 (a b c d : Int) (h : ¬ vcode a b = 0) (w : World) :
    Calls Try.prog 28 #[.agg #[.int .i64 a, .int .i64 b], .agg #[.int .i64 c, .int .i64 d]] w fun e w' => e = .returned (.agg #[.int .i64 (bc a b c d), .int .i64 (bi a b c d)]) ∧ Below w.heap.size w w' := by
  have N := bb_no h
  rw [show bc a b c d = vcode a b by unfold bc; rw [if_neg h], show bi a b c d = 0 by unfold bi; rw [if_neg h]]
  go_enter Try.func28, Try.ntmps28
  go_wp2_with fail
  refine (validate_any _ _ _).mono ?_
  rintro e w1 ⟨rfl, hB⟩
  have D1 := dstep w hB (by repeat (first | with_reducible exact Below.refl _ _ | with_reducible apply bdrew | with_reducible apply bdrewN | with_reducible apply balloc | ((with_reducible refine bset ?_ ?_ _); rotate_left; (first | omega | (simp <;> omega)))))
  have d1s := D1.size
  obtain ⟨C0, F1⟩ := Cls.first (l := [(w.heap.size, 0, .int .i64 a), (w.heap.size, 1, .int .i64 b), (w.heap.size + 1, 0, .int .i64 c), (w.heap.size + 1, 1, .int .i64 d), (w.heap.size + 1 + 1, 0, .int .i64 0), (w.heap.size + 1 + 1, 1, .int .i64 0)]) hB (by simp [Cls, go_sem])
  simp only [Cls, and_true] at F1
  have B1 := hB
  have hs1 := hB.size
  try simp at hs1
  have hb1 := B1.size
  try simp at hb1
  have y1_0_2 : w.heap.size + 1 + 1 < w1.heap.size := (by omega)
  have y1_0_1 : w.heap.size + 1 < w1.heap.size := (by omega)
  have y1_0_0 : w.heap.size < w1.heap.size := (by omega)
  have y1_0_p1 : w.heap.size < w1.heap.size + 1 := (by omega)
  have y1_0_p2 : w.heap.size < w1.heap.size + 1 + 1 := (by omega)
  clear hB
  go_wp2
  refine bodyPost_ret (v := .agg #[.int .i64 (vcode a b), .int .i64 0]) ?_ rfl ⟨rfl, by repeat (first | with_reducible exact D1 | with_reducible apply bdrew | with_reducible apply bdrewN | with_reducible apply balloc | ((with_reducible refine bset ?_ ?_ _); rotate_left; (first | omega | (simp <;> omega))))⟩
  simp [results, Try.results28, go_sem, F1, y1_0_2, y1_0_1, y1_0_0, y1_0_p1, y1_0_p2]

set_option maxHeartbeats 400000 in
theorem both_2 (a b c d : Int) (h : vcode a b = 0) (h2 : vcode c d = 0) (w : World) :
    Calls Try.prog 28 #[.agg #[.int .i64 a, .int .i64 b], .agg #[.int .i64 c, .int .i64 d]] w fun e w' => e = .returned (.agg #[.int .i64 (bc a b c d), .int .i64 (bi a b c d)]) ∧ Below w.heap.size w w' := by
  rw [show bc a b c d = 0 by unfold bc; rw [if_pos h, h2], show bi a b c d = 0 by unfold bi; rw [if_pos h, if_pos h2]]
  have H := Lib.hid h
  have H2 := Lib.hid h2
  clear h h2
  go_enter Try.func28, Try.ntmps28
  go_wp2_with fail
  refine (validate_any _ _ _).mono ?_
  rintro e w1 ⟨he, hB⟩
  rw [H.out] at he
  subst he
  have D1 := dstep w hB (by repeat (first | with_reducible exact Below.refl _ _ | with_reducible apply bdrew | with_reducible apply bdrewN | with_reducible apply balloc | ((with_reducible refine bset ?_ ?_ _); rotate_left; (first | omega | (simp <;> omega)))))
  have d1s := D1.size
  obtain ⟨C0, F1⟩ := Cls.first (l := [(w.heap.size, 0, .int .i64 a), (w.heap.size, 1, .int .i64 b), (w.heap.size + 1, 0, .int .i64 c), (w.heap.size + 1, 1, .int .i64 d), (w.heap.size + 1 + 1, 0, .int .i64 0), (w.heap.size + 1 + 1, 1, .int .i64 0)]) hB (by simp [Cls, go_sem])
  simp only [Cls, and_true] at F1
  have B1 := hB
  have hs1 := hB.size
  try simp at hs1
  have hb1 := B1.size
  try simp at hb1
  have y1_0_2 : w.heap.size + 1 + 1 < w1.heap.size := (by omega)
  have y1_0_1 : w.heap.size + 1 < w1.heap.size := (by omega)
  have y1_0_0 : w.heap.size < w1.heap.size := (by omega)
  have y1_0_p1 : w.heap.size < w1.heap.size + 1 := (by omega)
  have y1_0_p2 : w.heap.size < w1.heap.size + 1 + 1 := (by omega)
  clear hB
  go_wp2_with fail
  refine (validate_any _ _ _).mono ?_
  rintro e w2 ⟨he, hB⟩
  rw [H2.out] at he
  subst he
  have D2 := dstep w hB (by repeat (first | with_reducible exact D1 | with_reducible apply bdrew | with_reducible apply bdrewN | with_reducible apply balloc | ((with_reducible refine bset ?_ ?_ _); rotate_left; (first | omega | (simp <;> omega)))))
  have d2s := D2.size
  have B2 := bstep B1 hB (by repeat (first | with_reducible exact B1 | with_reducible apply bdrew | with_reducible apply bdrewN | with_reducible apply balloc | ((with_reducible refine bset ?_ ?_ _); rotate_left; (first | omega | (simp <;> omega)))))
  have F2 := C0.below B2
  simp only [Cls, and_true] at F2
  have G2 := Cls.below (l := [(w1.heap.size, 0, .int .i64 0), (w1.heap.size, 1, .int .i64 0)]) hB (by simp [Cls, go_sem, F1, y1_0_2, y1_0_1, y1_0_0, y1_0_p1, y1_0_p2])
  simp only [Cls, and_true] at G2
  have hs2 := hB.size
  try simp at hs2
  have y2_0_2 : w.heap.size + 1 + 1 < w2.heap.size := (by omega)
  have y2_0_1 : w.heap.size + 1 < w2.heap.size := (by omega)
  have y2_0_0 : w.heap.size < w2.heap.size := (by omega)
  have y2_0_p1 : w.heap.size < w2.heap.size + 1 := (by omega)
  have y2_0_p2 : w.heap.size < w2.heap.size + 1 + 1 := (by omega)
  have y2_1_0 : w1.heap.size < w2.heap.size := (by omega)
  have y2_1_p1 : w1.heap.size < w2.heap.size + 1 := (by omega)
  have y2_1_p2 : w1.heap.size < w2.heap.size + 1 + 1 := (by omega)
  clear hB
  go_wp2
  refine bodyPost_ret (v := .agg #[.int .i64 0, .int .i64 0]) ?_ rfl ⟨rfl, by repeat (first | with_reducible exact D2 | with_reducible apply bdrew | with_reducible apply bdrewN | with_reducible apply balloc | ((with_reducible refine bset ?_ ?_ _); rotate_left; (first | omega | (simp <;> omega))))⟩
  simp [results, Try.results28, go_sem, F2, G2, y2_0_2, y2_0_1, y2_0_0, y2_0_p1, y2_0_p2, y2_1_0, y2_1_p1, y2_1_p2]

set_option maxHeartbeats 400000 in
theorem both_3 (a b c d : Int) (h : vcode a b = 0) (h2 : ¬ vcode c d = 0) (w : World) :
    Calls Try.prog 28 #[.agg #[.int .i64 a, .int .i64 b], .agg #[.int .i64 c, .int .i64 d]] w fun e w' => e = .returned (.agg #[.int .i64 (bc a b c d), .int .i64 (bi a b c d)]) ∧ Below w.heap.size w w' := by
  have N := bb_no h2
  rw [show bc a b c d = vcode c d by unfold bc; rw [if_pos h], show bi a b c d = 1 by unfold bi; rw [if_pos h, if_neg h2]]
  have H := Lib.hid h
  clear h
  go_enter Try.func28, Try.ntmps28
  have xi := set_isSome
  go_wp2_with fail
  refine (validate_any _ _ _).mono ?_
  rintro e w1 ⟨he, hB⟩
  rw [H.out] at he
  subst he
  have D1 := dstep w hB (by repeat (first | with_reducible exact Below.refl _ _ | with_reducible apply bdrew | with_reducible apply bdrewN | with_reducible apply balloc | ((with_reducible refine bset ?_ ?_ _); rotate_left; (first | omega | (simp <;> omega)))))
  have d1s := D1.size
  obtain ⟨C0, F1⟩ := Cls.first (l := [(w.heap.size, 0, .int .i64 a), (w.heap.size, 1, .int .i64 b), (w.heap.size + 1, 0, .int .i64 c), (w.heap.size + 1, 1, .int .i64 d), (w.heap.size + 1 + 1, 0, .int .i64 0), (w.heap.size + 1 + 1, 1, .int .i64 0)]) hB (by simp [Cls, go_sem])
  simp only [Cls, and_true] at F1
  have B1 := hB
  have hs1 := hB.size
  try simp at hs1
  have hb1 := B1.size
  try simp at hb1
  have y1_0_2 : w.heap.size + 1 + 1 < w1.heap.size := (by omega)
  have y1_0_1 : w.heap.size + 1 < w1.heap.size := (by omega)
  have y1_0_0 : w.heap.size < w1.heap.size := (by omega)
  have y1_0_p1 : w.heap.size < w1.heap.size + 1 := (by omega)
  have y1_0_p2 : w.heap.size < w1.heap.size + 1 + 1 := (by omega)
  clear hB
  go_wp2_with fail
  refine (validate_any _ _ _).mono ?_
  rintro e w2 ⟨rfl, hB⟩
  have D2 := dstep w hB (by repeat (first | with_reducible exact D1 | with_reducible apply bdrew | with_reducible apply bdrewN | with_reducible apply balloc | ((with_reducible refine bset ?_ ?_ _); rotate_left; (first | omega | (simp <;> omega)))))
  have d2s := D2.size
  have B2 := bstep B1 hB (by repeat (first | with_reducible exact B1 | with_reducible apply bdrew | with_reducible apply bdrewN | with_reducible apply balloc | ((with_reducible refine bset ?_ ?_ _); rotate_left; (first | omega | (simp <;> omega)))))
  have F2 := C0.below B2
  simp only [Cls, and_true] at F2
  have G2 := Cls.below (l := [(w1.heap.size, 0, .int .i64 0), (w1.heap.size, 1, .int .i64 0)]) hB (by simp [Cls, go_sem, F1, y1_0_2, y1_0_1, y1_0_0, y1_0_p1, y1_0_p2])
  simp only [Cls, and_true] at G2
  have hs2 := hB.size
  try simp at hs2
  have y2_0_2 : w.heap.size + 1 + 1 < w2.heap.size := (by omega)
  have y2_0_1 : w.heap.size + 1 < w2.heap.size := (by omega)
  have y2_0_0 : w.heap.size < w2.heap.size := (by omega)
  have y2_0_p1 : w.heap.size < w2.heap.size + 1 := (by omega)
  have y2_0_p2 : w.heap.size < w2.heap.size + 1 + 1 := (by omega)
  have y2_1_0 : w1.heap.size < w2.heap.size := (by omega)
  have y2_1_p1 : w1.heap.size < w2.heap.size + 1 := (by omega)
  have y2_1_p2 : w1.heap.size < w2.heap.size + 1 + 1 := (by omega)
  clear hB
  go_wp2
  refine bodyPost_ret (v := .agg #[.int .i64 (vcode c d), .int .i64 1]) ?_ rfl ⟨rfl, by repeat (first | with_reducible exact D2 | with_reducible apply bdrew | with_reducible apply bdrewN | with_reducible apply balloc | ((with_reducible refine bset ?_ ?_ _); rotate_left; (first | omega | (simp <;> omega))))⟩
  simp [results, Try.results28, go_sem, F2, G2, y2_0_2, y2_0_1, y2_0_0, y2_0_p1, y2_0_p2, y2_1_0, y2_1_p1, y2_1_p2]

set_option maxHeartbeats 400000 in
theorem both_any (a b c d : Int) (w : World) :
    Calls Try.prog 28 #[.agg #[.int .i64 a, .int .i64 b], .agg #[.int .i64 c, .int .i64 d]] w fun e w' => e = .returned (.agg #[.int .i64 (bc a b c d), .int .i64 (bi a b c d)]) ∧ Below w.heap.size w w' := by
  by_cases h : vcode a b = 0
  · by_cases h2 : vcode c d = 0
    · exact both_2 a b c d h h2 w
    · exact both_3 a b c d h h2 w
  · exact both_1 a b c d h w
theorem bc_zero {a b c d : Int} (h : bc a b c d = 0) : vcode a b = 0 ∧ vcode c d = 0 ∧ bi a b c d = 0 := by
  unfold bc at h
  split at h
  · rename_i h1; exact ⟨h1, h, by unfold bi; rw [if_pos h1, if_pos h]⟩
  · rename_i h1; exact absurd h h1
theorem mul_bd {a b : Int} (h1 : -1000000000 ≤ a) (h2 : a ≤ 1000000000) (h3 : -1000000000 ≤ b) (h4 : b ≤ 1000000000) : -1000000000000000000 ≤ a * b ∧ a * b ≤ 1000000000000000000 := by
  have h : (a * b).natAbs ≤ 1000000000 * 1000000000 := by
    rw [Int.natAbs_mul]; exact Nat.mul_le_mul (by omega) (by omega)
  omega
theorem mul_pos' {a b : Int} (h1 : 1 ≤ a) (h2 : 1 ≤ b) : a * b ≠ 0 := Int.mul_ne_zero (by omega) (by omega)

set_option maxHeartbeats 400000 in
theorem make_out1 (n d : Int) (h : n < -4611686018427387904 ∨ 4611686018427387904 < n) (w : World) :
    Calls Try.prog 11 #[.int .i64 n, .int .i64 d] w fun e w' => e = .returned (.tuple #[.agg #[.int .i64 0, .int .i64 0], .agg #[.int .i64 3, .int .i64 0]]) ∧ Below w.heap.size w w' := by
  have h' : n < -4611686018427387904 ∨ (-4611686018427387904 ≤ n ∧ 4611686018427387904 < n) := by omega
  clear h
  rcases h' with h1 | ⟨h1, h2⟩
  all_goals
    go_enter Try.func11, Try.ntmps11
    go_wp2
    refine bodyPost_ret (v := .tuple #[.agg #[.int .i64 0, .int .i64 0], .agg #[.int .i64 3, .int .i64 0]]) ?_ rfl ⟨rfl, by repeat (first | with_reducible exact Below.refl _ _ | with_reducible apply bdrew | with_reducible apply bdrewN | with_reducible apply balloc | ((with_reducible refine bset ?_ ?_ _); rotate_left; (first | omega | (simp <;> omega))))⟩
    simp [results, Try.results11, go_sem]

set_option maxHeartbeats 400000 in
theorem make_out2 (n d : Int) (h1 : -4611686018427387904 ≤ n) (h2 : n ≤ 4611686018427387904) (h : d < -4611686018427387904 ∨ 4611686018427387904 < d ∨ d = 0) (w : World) :
    Calls Try.prog 11 #[.int .i64 n, .int .i64 d] w fun e w' => e = .returned (.tuple #[.agg #[.int .i64 0, .int .i64 0], .agg #[.int .i64 3, .int .i64 1]]) ∧ Below w.heap.size w w' := by
  have h' : d < -4611686018427387904 ∨ (-4611686018427387904 ≤ d ∧ 4611686018427387904 < d) ∨ d = 0 := by omega
  clear h
  rcases h' with h3 | ⟨h3, h4⟩ | rfl
  all_goals
    go_enter Try.func11, Try.ntmps11
    go_wp2
    refine bodyPost_ret (v := .tuple #[.agg #[.int .i64 0, .int .i64 0], .agg #[.int .i64 3, .int .i64 1]]) ?_ rfl ⟨rfl, by repeat (first | with_reducible exact Below.refl _ _ | with_reducible apply bdrew | with_reducible apply bdrewN | with_reducible apply balloc | ((with_reducible refine bset ?_ ?_ _); rotate_left; (first | omega | (simp <;> omega))))⟩
    simp [results, Try.results11, go_sem]

set_option maxHeartbeats 400000 in
theorem make_in (n d : Int) (h1 : -4611686018427387904 ≤ n) (h2 : n ≤ 4611686018427387904) (h3 : -4611686018427387904 ≤ d) (h4 : d ≤ 4611686018427387904) (hd : d ≠ 0) (w : World) :
    Calls Try.prog 11 #[.int .i64 n, .int .i64 d] w fun e w' => e = .returned (.tuple #[.agg #[.int .i64 (rn n d), .int .i64 (rd n d)], .agg #[.int .i64 (rc n d), .int .i64 (ri n d)]]) ∧ Below w.heap.size w w' := by
  have hd' : (d == 0) = false := by simpa using hd
  go_enter Try.func11, Try.ntmps11
  go_wp2_with fail
  refine (reduce_any _ _ _ (by omega) (by omega) (by omega) (by omega) (by assumption)).mono ?_
  rintro e w1 ⟨rfl, hB⟩
  have D1 := dstep w hB (by repeat (first | with_reducible exact Below.refl _ _ | with_reducible apply bdrew | with_reducible apply bdrewN | with_reducible apply balloc | ((with_reducible refine bset ?_ ?_ _); rotate_left; (first | omega | (simp <;> omega)))))
  have d1s := D1.size
  obtain ⟨C0, F1⟩ := Cls.first (l := [(w.heap.size, 0, .int .i64 0), (w.heap.size, 1, .int .i64 0), (w.heap.size + 1, 0, .int .i64 0), (w.heap.size + 1, 1, .int .i64 0)]) hB (by simp [Cls, go_sem])
  simp only [Cls, and_true] at F1
  have B1 := hB
  have hs1 := hB.size
  try simp at hs1
  have hb1 := B1.size
  try simp at hb1
  have y1_0_1 : w.heap.size + 1 < w1.heap.size := (by omega)
  have y1_0_0 : w.heap.size < w1.heap.size := (by omega)
  have y1_0_p1 : w.heap.size < w1.heap.size + 1 := (by omega)
  have y1_0_p2 : w.heap.size < w1.heap.size + 1 + 1 := (by omega)
  clear hB
  go_wp2
  refine bodyPost_ret (v := .tuple #[.agg #[.int .i64 (rn n d), .int .i64 (rd n d)], .agg #[.int .i64 (rc n d), .int .i64 (ri n d)]]) ?_ rfl ⟨rfl, by repeat (first | with_reducible exact D1 | with_reducible apply bdrew | with_reducible apply bdrewN | with_reducible apply balloc | ((with_reducible refine bset ?_ ?_ _); rotate_left; (first | omega | (simp <;> omega))))⟩
  simp [results, Try.results11, go_sem, F1, y1_0_1, y1_0_0, y1_0_p1, y1_0_p2]

set_option maxHeartbeats 400000 in
theorem add_bad (a b c d : Int) (h : ¬ bc a b c d = 0) (w : World) :
    Calls Try.prog 15 #[.agg #[.int .i64 a, .int .i64 b], .agg #[.int .i64 c, .int .i64 d]] w fun e w' => e = .returned (.tuple #[.agg #[.int .i64 0, .int .i64 0], .agg #[.int .i64 (bc a b c d), .int .i64 (bi a b c d)]]) ∧ Below w.heap.size w w' := by
  have N := bb_no h
  go_enter Try.func15, Try.ntmps15
  go_wp2_with fail
  refine (both_any _ _ _ _ _).mono ?_
  rintro e w1 ⟨rfl, hB⟩
  have D1 := dstep w hB (by repeat (first | with_reducible exact Below.refl _ _ | with_reducible apply bdrew | with_reducible apply bdrewN | with_reducible apply balloc | ((with_reducible refine bset ?_ ?_ _); rotate_left; (first | omega | (simp <;> omega)))))
  have d1s := D1.size
  obtain ⟨C0, F1⟩ := Cls.first (l := [(w.heap.size, 0, .int .i64 a), (w.heap.size, 1, .int .i64 b), (w.heap.size + 1, 0, .int .i64 c), (w.heap.size + 1, 1, .int .i64 d), (w.heap.size + 1 + 1, 0, .int .i64 0), (w.heap.size + 1 + 1, 1, .int .i64 0), (w.heap.size + 1 + 1 + 1, 0, .int .i64 0), (w.heap.size + 1 + 1 + 1, 1, .int .i64 0)]) hB (by simp [Cls, go_sem])
  simp only [Cls, and_true] at F1
  have B1 := hB
  have hs1 := hB.size
  try simp at hs1
  have hb1 := B1.size
  try simp at hb1
  have y1_0_3 : w.heap.size + 1 + 1 + 1 < w1.heap.size := (by omega)
  have y1_0_2 : w.heap.size + 1 + 1 < w1.heap.size := (by omega)
  have y1_0_1 : w.heap.size + 1 < w1.heap.size := (by omega)
  have y1_0_0 : w.heap.size < w1.heap.size := (by omega)
  have y1_0_p1 : w.heap.size < w1.heap.size + 1 := (by omega)
  have y1_0_p2 : w.heap.size < w1.heap.size + 1 + 1 := (by omega)
  clear hB
  go_wp2
  go_region
  go_wp2
  refine bodyPost_ret (v := .tuple #[.agg #[.int .i64 0, .int .i64 0], .agg #[.int .i64 (bc a b c d), .int .i64 (bi a b c d)]]) ?_ rfl ⟨rfl, by repeat (first | with_reducible exact D1 | with_reducible apply bdrew | with_reducible apply bdrewN | with_reducible apply balloc | ((with_reducible refine bset ?_ ?_ _); rotate_left; (first | omega | (simp <;> omega))))⟩
  simp [results, Try.results15, go_sem, F1, y1_0_3, y1_0_2, y1_0_1, y1_0_0, y1_0_p1, y1_0_p2]

set_option maxHeartbeats 400000 in
theorem add_ok (a b c d : Int) (h : bc a b c d = 0) (w : World) :
    Calls Try.prog 15 #[.agg #[.int .i64 a, .int .i64 b], .agg #[.int .i64 c, .int .i64 d]] w fun e w' => e = .returned (.tuple #[.agg #[.int .i64 (rn (a * d + c * b) (b * d)), .int .i64 (rd (a * d + c * b) (b * d))], .agg #[.int .i64 (rc (a * d + c * b) (b * d)), .int .i64 (ri (a * d + c * b) (b * d))]]) ∧ Below w.heap.size w w' := by
  obtain ⟨q1, q2, q3⟩ := bc_zero h
  obtain ⟨v1, v2, v3, v4, _⟩ := vcode_zero q1
  obtain ⟨v5, v6, v7, v8, _⟩ := vcode_zero q2
  obtain ⟨m1, m2⟩ := mul_bd v1 v2 (show -1000000000 ≤ d by omega) v8
  obtain ⟨m3, m4⟩ := mul_bd v5 v6 (show -1000000000 ≤ b by omega) v4
  obtain ⟨m5, m6⟩ := mul_bd (show -1000000000 ≤ b by omega) v4 (show -1000000000 ≤ d by omega) v8
  obtain ⟨m7, m8⟩ := mul_bd v1 v2 v5 v6
  have hn := mul_pos' v3 v7
  have H := Lib.hid h
  have H3 := Lib.hid q3
  clear h q1 q2 q3
  go_enter Try.func15, Try.ntmps15
  go_wp2_with fail
  refine (both_any _ _ _ _ _).mono ?_
  rintro e w1 ⟨he, hB⟩
  rw [H.out, H3.out] at he
  subst he
  have D1 := dstep w hB (by repeat (first | with_reducible exact Below.refl _ _ | with_reducible apply bdrew | with_reducible apply bdrewN | with_reducible apply balloc | ((with_reducible refine bset ?_ ?_ _); rotate_left; (first | omega | (simp <;> omega)))))
  have d1s := D1.size
  obtain ⟨C0, F1⟩ := Cls.first (l := [(w.heap.size, 0, .int .i64 a), (w.heap.size, 1, .int .i64 b), (w.heap.size + 1, 0, .int .i64 c), (w.heap.size + 1, 1, .int .i64 d), (w.heap.size + 1 + 1, 0, .int .i64 0), (w.heap.size + 1 + 1, 1, .int .i64 0), (w.heap.size + 1 + 1 + 1, 0, .int .i64 0), (w.heap.size + 1 + 1 + 1, 1, .int .i64 0)]) hB (by simp [Cls, go_sem])
  simp only [Cls, and_true] at F1
  have B1 := hB
  have hs1 := hB.size
  try simp at hs1
  have hb1 := B1.size
  try simp at hb1
  have y1_0_3 : w.heap.size + 1 + 1 + 1 < w1.heap.size := (by omega)
  have y1_0_2 : w.heap.size + 1 + 1 < w1.heap.size := (by omega)
  have y1_0_1 : w.heap.size + 1 < w1.heap.size := (by omega)
  have y1_0_0 : w.heap.size < w1.heap.size := (by omega)
  have y1_0_p1 : w.heap.size < w1.heap.size + 1 := (by omega)
  have y1_0_p2 : w.heap.size < w1.heap.size + 1 + 1 := (by omega)
  clear hB
  go_wp2_with fail
  refine (reduce_any _ _ _ (by omega) (by omega) (by omega) (by omega) (by assumption)).mono ?_
  rintro e w2 ⟨rfl, hB⟩
  have D2 := dstep w hB (by repeat (first | with_reducible exact D1 | with_reducible apply bdrew | with_reducible apply bdrewN | with_reducible apply balloc | ((with_reducible refine bset ?_ ?_ _); rotate_left; (first | omega | (simp <;> omega)))))
  have d2s := D2.size
  have B2 := bstep B1 hB (by repeat (first | with_reducible exact B1 | with_reducible apply bdrew | with_reducible apply bdrewN | with_reducible apply balloc | ((with_reducible refine bset ?_ ?_ _); rotate_left; (first | omega | (simp <;> omega)))))
  have F2 := C0.below B2
  simp only [Cls, and_true] at F2
  have hs2 := hB.size
  try simp at hs2
  have y2_0_3 : w.heap.size + 1 + 1 + 1 < w2.heap.size := (by omega)
  have y2_0_2 : w.heap.size + 1 + 1 < w2.heap.size := (by omega)
  have y2_0_1 : w.heap.size + 1 < w2.heap.size := (by omega)
  have y2_0_0 : w.heap.size < w2.heap.size := (by omega)
  have y2_0_p1 : w.heap.size < w2.heap.size + 1 := (by omega)
  have y2_0_p2 : w.heap.size < w2.heap.size + 1 + 1 := (by omega)
  clear hB
  go_wp2
  refine bodyPost_ret (v := .tuple #[.agg #[.int .i64 (rn (a * d + c * b) (b * d)), .int .i64 (rd (a * d + c * b) (b * d))], .agg #[.int .i64 (rc (a * d + c * b) (b * d)), .int .i64 (ri (a * d + c * b) (b * d))]]) ?_ rfl ⟨rfl, by repeat (first | with_reducible exact D2 | with_reducible apply bdrew | with_reducible apply bdrewN | with_reducible apply balloc | ((with_reducible refine bset ?_ ?_ _); rotate_left; (first | omega | (simp <;> omega))))⟩
  simp [results, Try.results15, go_sem, F2, y2_0_3, y2_0_2, y2_0_1, y2_0_0, y2_0_p1, y2_0_p2]

set_option maxHeartbeats 400000 in
theorem sub_bad (a b c d : Int) (h : ¬ bc a b c d = 0) (w : World) :
    Calls Try.prog 17 #[.agg #[.int .i64 a, .int .i64 b], .agg #[.int .i64 c, .int .i64 d]] w fun e w' => e = .returned (.tuple #[.agg #[.int .i64 0, .int .i64 0], .agg #[.int .i64 (bc a b c d), .int .i64 (bi a b c d)]]) ∧ Below w.heap.size w w' := by
  have N := bb_no h
  go_enter Try.func17, Try.ntmps17
  go_wp2_with fail
  refine (both_any _ _ _ _ _).mono ?_
  rintro e w1 ⟨rfl, hB⟩
  have D1 := dstep w hB (by repeat (first | with_reducible exact Below.refl _ _ | with_reducible apply bdrew | with_reducible apply bdrewN | with_reducible apply balloc | ((with_reducible refine bset ?_ ?_ _); rotate_left; (first | omega | (simp <;> omega)))))
  have d1s := D1.size
  obtain ⟨C0, F1⟩ := Cls.first (l := [(w.heap.size, 0, .int .i64 a), (w.heap.size, 1, .int .i64 b), (w.heap.size + 1, 0, .int .i64 c), (w.heap.size + 1, 1, .int .i64 d), (w.heap.size + 1 + 1, 0, .int .i64 0), (w.heap.size + 1 + 1, 1, .int .i64 0), (w.heap.size + 1 + 1 + 1, 0, .int .i64 0), (w.heap.size + 1 + 1 + 1, 1, .int .i64 0)]) hB (by simp [Cls, go_sem])
  simp only [Cls, and_true] at F1
  have B1 := hB
  have hs1 := hB.size
  try simp at hs1
  have hb1 := B1.size
  try simp at hb1
  have y1_0_3 : w.heap.size + 1 + 1 + 1 < w1.heap.size := (by omega)
  have y1_0_2 : w.heap.size + 1 + 1 < w1.heap.size := (by omega)
  have y1_0_1 : w.heap.size + 1 < w1.heap.size := (by omega)
  have y1_0_0 : w.heap.size < w1.heap.size := (by omega)
  have y1_0_p1 : w.heap.size < w1.heap.size + 1 := (by omega)
  have y1_0_p2 : w.heap.size < w1.heap.size + 1 + 1 := (by omega)
  clear hB
  go_wp2
  go_region
  go_wp2
  refine bodyPost_ret (v := .tuple #[.agg #[.int .i64 0, .int .i64 0], .agg #[.int .i64 (bc a b c d), .int .i64 (bi a b c d)]]) ?_ rfl ⟨rfl, by repeat (first | with_reducible exact D1 | with_reducible apply bdrew | with_reducible apply bdrewN | with_reducible apply balloc | ((with_reducible refine bset ?_ ?_ _); rotate_left; (first | omega | (simp <;> omega))))⟩
  simp [results, Try.results17, go_sem, F1, y1_0_3, y1_0_2, y1_0_1, y1_0_0, y1_0_p1, y1_0_p2]

set_option maxHeartbeats 400000 in
theorem sub_ok (a b c d : Int) (h : bc a b c d = 0) (w : World) :
    Calls Try.prog 17 #[.agg #[.int .i64 a, .int .i64 b], .agg #[.int .i64 c, .int .i64 d]] w fun e w' => e = .returned (.tuple #[.agg #[.int .i64 (rn (a * d - c * b) (b * d)), .int .i64 (rd (a * d - c * b) (b * d))], .agg #[.int .i64 (rc (a * d - c * b) (b * d)), .int .i64 (ri (a * d - c * b) (b * d))]]) ∧ Below w.heap.size w w' := by
  obtain ⟨q1, q2, q3⟩ := bc_zero h
  obtain ⟨v1, v2, v3, v4, _⟩ := vcode_zero q1
  obtain ⟨v5, v6, v7, v8, _⟩ := vcode_zero q2
  obtain ⟨m1, m2⟩ := mul_bd v1 v2 (show -1000000000 ≤ d by omega) v8
  obtain ⟨m3, m4⟩ := mul_bd v5 v6 (show -1000000000 ≤ b by omega) v4
  obtain ⟨m5, m6⟩ := mul_bd (show -1000000000 ≤ b by omega) v4 (show -1000000000 ≤ d by omega) v8
  obtain ⟨m7, m8⟩ := mul_bd v1 v2 v5 v6
  have hn := mul_pos' v3 v7
  have H := Lib.hid h
  have H3 := Lib.hid q3
  clear h q1 q2 q3
  go_enter Try.func17, Try.ntmps17
  go_wp2_with fail
  refine (both_any _ _ _ _ _).mono ?_
  rintro e w1 ⟨he, hB⟩
  rw [H.out, H3.out] at he
  subst he
  have D1 := dstep w hB (by repeat (first | with_reducible exact Below.refl _ _ | with_reducible apply bdrew | with_reducible apply bdrewN | with_reducible apply balloc | ((with_reducible refine bset ?_ ?_ _); rotate_left; (first | omega | (simp <;> omega)))))
  have d1s := D1.size
  obtain ⟨C0, F1⟩ := Cls.first (l := [(w.heap.size, 0, .int .i64 a), (w.heap.size, 1, .int .i64 b), (w.heap.size + 1, 0, .int .i64 c), (w.heap.size + 1, 1, .int .i64 d), (w.heap.size + 1 + 1, 0, .int .i64 0), (w.heap.size + 1 + 1, 1, .int .i64 0), (w.heap.size + 1 + 1 + 1, 0, .int .i64 0), (w.heap.size + 1 + 1 + 1, 1, .int .i64 0)]) hB (by simp [Cls, go_sem])
  simp only [Cls, and_true] at F1
  have B1 := hB
  have hs1 := hB.size
  try simp at hs1
  have hb1 := B1.size
  try simp at hb1
  have y1_0_3 : w.heap.size + 1 + 1 + 1 < w1.heap.size := (by omega)
  have y1_0_2 : w.heap.size + 1 + 1 < w1.heap.size := (by omega)
  have y1_0_1 : w.heap.size + 1 < w1.heap.size := (by omega)
  have y1_0_0 : w.heap.size < w1.heap.size := (by omega)
  have y1_0_p1 : w.heap.size < w1.heap.size + 1 := (by omega)
  have y1_0_p2 : w.heap.size < w1.heap.size + 1 + 1 := (by omega)
  clear hB
  go_wp2_with fail
  refine (reduce_any _ _ _ (by omega) (by omega) (by omega) (by omega) (by assumption)).mono ?_
  rintro e w2 ⟨rfl, hB⟩
  have D2 := dstep w hB (by repeat (first | with_reducible exact D1 | with_reducible apply bdrew | with_reducible apply bdrewN | with_reducible apply balloc | ((with_reducible refine bset ?_ ?_ _); rotate_left; (first | omega | (simp <;> omega)))))
  have d2s := D2.size
  have B2 := bstep B1 hB (by repeat (first | with_reducible exact B1 | with_reducible apply bdrew | with_reducible apply bdrewN | with_reducible apply balloc | ((with_reducible refine bset ?_ ?_ _); rotate_left; (first | omega | (simp <;> omega)))))
  have F2 := C0.below B2
  simp only [Cls, and_true] at F2
  have hs2 := hB.size
  try simp at hs2
  have y2_0_3 : w.heap.size + 1 + 1 + 1 < w2.heap.size := (by omega)
  have y2_0_2 : w.heap.size + 1 + 1 < w2.heap.size := (by omega)
  have y2_0_1 : w.heap.size + 1 < w2.heap.size := (by omega)
  have y2_0_0 : w.heap.size < w2.heap.size := (by omega)
  have y2_0_p1 : w.heap.size < w2.heap.size + 1 := (by omega)
  have y2_0_p2 : w.heap.size < w2.heap.size + 1 + 1 := (by omega)
  clear hB
  go_wp2
  refine bodyPost_ret (v := .tuple #[.agg #[.int .i64 (rn (a * d - c * b) (b * d)), .int .i64 (rd (a * d - c * b) (b * d))], .agg #[.int .i64 (rc (a * d - c * b) (b * d)), .int .i64 (ri (a * d - c * b) (b * d))]]) ?_ rfl ⟨rfl, by repeat (first | with_reducible exact D2 | with_reducible apply bdrew | with_reducible apply bdrewN | with_reducible apply balloc | ((with_reducible refine bset ?_ ?_ _); rotate_left; (first | omega | (simp <;> omega))))⟩
  simp [results, Try.results17, go_sem, F2, y2_0_3, y2_0_2, y2_0_1, y2_0_0, y2_0_p1, y2_0_p2]

set_option maxHeartbeats 400000 in
theorem mul_bad (a b c d : Int) (h : ¬ bc a b c d = 0) (w : World) :
    Calls Try.prog 16 #[.agg #[.int .i64 a, .int .i64 b], .agg #[.int .i64 c, .int .i64 d]] w fun e w' => e = .returned (.tuple #[.agg #[.int .i64 0, .int .i64 0], .agg #[.int .i64 (bc a b c d), .int .i64 (bi a b c d)]]) ∧ Below w.heap.size w w' := by
  have N := bb_no h
  go_enter Try.func16, Try.ntmps16
  go_wp2_with fail
  refine (both_any _ _ _ _ _).mono ?_
  rintro e w1 ⟨rfl, hB⟩
  have D1 := dstep w hB (by repeat (first | with_reducible exact Below.refl _ _ | with_reducible apply bdrew | with_reducible apply bdrewN | with_reducible apply balloc | ((with_reducible refine bset ?_ ?_ _); rotate_left; (first | omega | (simp <;> omega)))))
  have d1s := D1.size
  obtain ⟨C0, F1⟩ := Cls.first (l := [(w.heap.size, 0, .int .i64 a), (w.heap.size, 1, .int .i64 b), (w.heap.size + 1, 0, .int .i64 c), (w.heap.size + 1, 1, .int .i64 d), (w.heap.size + 1 + 1, 0, .int .i64 0), (w.heap.size + 1 + 1, 1, .int .i64 0), (w.heap.size + 1 + 1 + 1, 0, .int .i64 0), (w.heap.size + 1 + 1 + 1, 1, .int .i64 0)]) hB (by simp [Cls, go_sem])
  simp only [Cls, and_true] at F1
  have B1 := hB
  have hs1 := hB.size
  try simp at hs1
  have hb1 := B1.size
  try simp at hb1
  have y1_0_3 : w.heap.size + 1 + 1 + 1 < w1.heap.size := (by omega)
  have y1_0_2 : w.heap.size + 1 + 1 < w1.heap.size := (by omega)
  have y1_0_1 : w.heap.size + 1 < w1.heap.size := (by omega)
  have y1_0_0 : w.heap.size < w1.heap.size := (by omega)
  have y1_0_p1 : w.heap.size < w1.heap.size + 1 := (by omega)
  have y1_0_p2 : w.heap.size < w1.heap.size + 1 + 1 := (by omega)
  clear hB
  go_wp2
  go_region
  go_wp2
  refine bodyPost_ret (v := .tuple #[.agg #[.int .i64 0, .int .i64 0], .agg #[.int .i64 (bc a b c d), .int .i64 (bi a b c d)]]) ?_ rfl ⟨rfl, by repeat (first | with_reducible exact D1 | with_reducible apply bdrew | with_reducible apply bdrewN | with_reducible apply balloc | ((with_reducible refine bset ?_ ?_ _); rotate_left; (first | omega | (simp <;> omega))))⟩
  simp [results, Try.results16, go_sem, F1, y1_0_3, y1_0_2, y1_0_1, y1_0_0, y1_0_p1, y1_0_p2]

set_option maxHeartbeats 400000 in
theorem mul_ok (a b c d : Int) (h : bc a b c d = 0) (w : World) :
    Calls Try.prog 16 #[.agg #[.int .i64 a, .int .i64 b], .agg #[.int .i64 c, .int .i64 d]] w fun e w' => e = .returned (.tuple #[.agg #[.int .i64 (rn (a * c) (b * d)), .int .i64 (rd (a * c) (b * d))], .agg #[.int .i64 (rc (a * c) (b * d)), .int .i64 (ri (a * c) (b * d))]]) ∧ Below w.heap.size w w' := by
  obtain ⟨q1, q2, q3⟩ := bc_zero h
  obtain ⟨v1, v2, v3, v4, _⟩ := vcode_zero q1
  obtain ⟨v5, v6, v7, v8, _⟩ := vcode_zero q2
  obtain ⟨m1, m2⟩ := mul_bd v1 v2 (show -1000000000 ≤ d by omega) v8
  obtain ⟨m3, m4⟩ := mul_bd v5 v6 (show -1000000000 ≤ b by omega) v4
  obtain ⟨m5, m6⟩ := mul_bd (show -1000000000 ≤ b by omega) v4 (show -1000000000 ≤ d by omega) v8
  obtain ⟨m7, m8⟩ := mul_bd v1 v2 v5 v6
  have hn := mul_pos' v3 v7
  have H := Lib.hid h
  have H3 := Lib.hid q3
  clear h q1 q2 q3
  go_enter Try.func16, Try.ntmps16
  go_wp2_with fail
  refine (both_any _ _ _ _ _).mono ?_
  rintro e w1 ⟨he, hB⟩
  rw [H.out, H3.out] at he
  subst he
  have D1 := dstep w hB (by repeat (first | with_reducible exact Below.refl _ _ | with_reducible apply bdrew | with_reducible apply bdrewN | with_reducible apply balloc | ((with_reducible refine bset ?_ ?_ _); rotate_left; (first | omega | (simp <;> omega)))))
  have d1s := D1.size
  obtain ⟨C0, F1⟩ := Cls.first (l := [(w.heap.size, 0, .int .i64 a), (w.heap.size, 1, .int .i64 b), (w.heap.size + 1, 0, .int .i64 c), (w.heap.size + 1, 1, .int .i64 d), (w.heap.size + 1 + 1, 0, .int .i64 0), (w.heap.size + 1 + 1, 1, .int .i64 0), (w.heap.size + 1 + 1 + 1, 0, .int .i64 0), (w.heap.size + 1 + 1 + 1, 1, .int .i64 0)]) hB (by simp [Cls, go_sem])
  simp only [Cls, and_true] at F1
  have B1 := hB
  have hs1 := hB.size
  try simp at hs1
  have hb1 := B1.size
  try simp at hb1
  have y1_0_3 : w.heap.size + 1 + 1 + 1 < w1.heap.size := (by omega)
  have y1_0_2 : w.heap.size + 1 + 1 < w1.heap.size := (by omega)
  have y1_0_1 : w.heap.size + 1 < w1.heap.size := (by omega)
  have y1_0_0 : w.heap.size < w1.heap.size := (by omega)
  have y1_0_p1 : w.heap.size < w1.heap.size + 1 := (by omega)
  have y1_0_p2 : w.heap.size < w1.heap.size + 1 + 1 := (by omega)
  clear hB
  go_wp2_with fail
  refine (reduce_any _ _ _ (by omega) (by omega) (by omega) (by omega) (by assumption)).mono ?_
  rintro e w2 ⟨rfl, hB⟩
  have D2 := dstep w hB (by repeat (first | with_reducible exact D1 | with_reducible apply bdrew | with_reducible apply bdrewN | with_reducible apply balloc | ((with_reducible refine bset ?_ ?_ _); rotate_left; (first | omega | (simp <;> omega)))))
  have d2s := D2.size
  have B2 := bstep B1 hB (by repeat (first | with_reducible exact B1 | with_reducible apply bdrew | with_reducible apply bdrewN | with_reducible apply balloc | ((with_reducible refine bset ?_ ?_ _); rotate_left; (first | omega | (simp <;> omega)))))
  have F2 := C0.below B2
  simp only [Cls, and_true] at F2
  have hs2 := hB.size
  try simp at hs2
  have y2_0_3 : w.heap.size + 1 + 1 + 1 < w2.heap.size := (by omega)
  have y2_0_2 : w.heap.size + 1 + 1 < w2.heap.size := (by omega)
  have y2_0_1 : w.heap.size + 1 < w2.heap.size := (by omega)
  have y2_0_0 : w.heap.size < w2.heap.size := (by omega)
  have y2_0_p1 : w.heap.size < w2.heap.size + 1 := (by omega)
  have y2_0_p2 : w.heap.size < w2.heap.size + 1 + 1 := (by omega)
  clear hB
  go_wp2
  refine bodyPost_ret (v := .tuple #[.agg #[.int .i64 (rn (a * c) (b * d)), .int .i64 (rd (a * c) (b * d))], .agg #[.int .i64 (rc (a * c) (b * d)), .int .i64 (ri (a * c) (b * d))]]) ?_ rfl ⟨rfl, by repeat (first | with_reducible exact D2 | with_reducible apply bdrew | with_reducible apply bdrewN | with_reducible apply balloc | ((with_reducible refine bset ?_ ?_ _); rotate_left; (first | omega | (simp <;> omega))))⟩
  simp [results, Try.results16, go_sem, F2, y2_0_3, y2_0_2, y2_0_1, y2_0_0, y2_0_p1, y2_0_p2]


end Go.Proofs.Ytmlgaofbifejaaa
