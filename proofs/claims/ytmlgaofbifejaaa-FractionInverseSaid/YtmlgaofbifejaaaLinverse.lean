/-
  FractionInverse returns true: subtraction undoes addition, and division undoes multiplication.
-/
import Derived.Test.YtmlgaofbifejaaaFany
import Derived.Test.YtmlgaofbifejaaaFfact
import Derived.Test.YtmlgaofbifejaaaBlaw
import Derived.ProofKit
import Derived.OpenShut
import Derived.Lib.SmallJoins
namespace Go.Proofs.Ytmlgaofbifejaaa
open Go.RowKit
set_option linter.unusedVariables false
set_option linter.unusedSimpArgs false

set_option maxHeartbeats 1000000 in
theorem walk_inverse_0A (a b c d p1 q1 i1 i2 p3 q3 c3 i3 p4 q4 c4 i4 : Int) (n3 : ¬ c3 = 0) (A1 : ∀ w : World, Calls Try.prog 15 #[.agg #[.int .i64 a, .int .i64 b], .agg #[.int .i64 c, .int .i64 d]] w fun e w' => e = .returned (.tuple #[.agg #[.int .i64 p1, .int .i64 q1], .agg #[.int .i64 0, .int .i64 i1]]) ∧ Below w.heap.size w w') (A2 : ∀ w : World, Calls Try.prog 17 #[.agg #[.int .i64 p1, .int .i64 q1], .agg #[.int .i64 c, .int .i64 d]] w fun e w' => e = .returned (.tuple #[.agg #[.int .i64 a, .int .i64 b], .agg #[.int .i64 0, .int .i64 i2]]) ∧ Below w.heap.size w w') (A3 : ∀ w : World, Calls Try.prog 16 #[.agg #[.int .i64 a, .int .i64 b], .agg #[.int .i64 c, .int .i64 d]] w fun e w' => e = .returned (.tuple #[.agg #[.int .i64 p3, .int .i64 q3], .agg #[.int .i64 c3, .int .i64 i3]]) ∧ Below w.heap.size w w') (A4 : ∀ w : World, Calls Try.prog 18 #[.agg #[.int .i64 p3, .int .i64 q3], .agg #[.int .i64 c, .int .i64 d]] w fun e w' => e = .returned (.tuple #[.agg #[.int .i64 p4, .int .i64 q4], .agg #[.int .i64 c4, .int .i64 i4]]) ∧ Below w.heap.size w w') (w : World) :
    Calls Try.prog 6 #[.agg #[.int .i64 a, .int .i64 b], .agg #[.int .i64 c, .int .i64 d]] w fun e w' => e = .returned (.bool true) ∧ Below w.heap.size w w' := by
  have b3 := bb_no n3
  have b3' := bn_yes n3
  go_enter Try.func6, Try.ntmps6
  go_wp2_with fail
  refine (example_any _).mono ?_
  rintro e w1 ⟨rfl, hB⟩
  have D1 := dstep w hB (by repeat (first | with_reducible exact Below.refl _ _ | with_reducible apply bdrew | with_reducible apply bdrewN | with_reducible apply balloc | ((with_reducible refine bset ?_ ?_ _); rotate_left; (first | omega | (simp <;> omega)))))
  have d1s := D1.size
  obtain ⟨C0, F1⟩ := Cls.first (l := [(w.heap.size, 0, .int .i64 a), (w.heap.size, 1, .int .i64 b), (w.heap.size + 1, 0, .int .i64 c), (w.heap.size + 1, 1, .int .i64 d)]) hB (by simp [Cls, go_sem])
  simp only [Cls, and_true] at F1
  have B1 := hB
  have hs1 := hB.size
  try simp at hs1
  have hb1 := B1.size
  try simp at hb1
  have y1_0_1 : w.heap.size + 1 < w1.heap.size := (by omega)
  have y1_0_0 : w.heap.size < w1.heap.size := (by omega)
  have y1_0_p1 : w.heap.size < w1.heap.size + 1 := (by omega)
  have y1_0_p2 : w.heap.size < w1.heap.size + 1 + 1 := (by omega)
  clear hB
  go_wp2_with fail
  refine (A1 _).mono ?_
  rintro e w2 ⟨rfl, hB⟩
  have D2 := dstep w hB (by repeat (first | with_reducible exact D1 | with_reducible apply bdrew | with_reducible apply bdrewN | with_reducible apply balloc | ((with_reducible refine bset ?_ ?_ _); rotate_left; (first | omega | (simp <;> omega)))))
  have d2s := D2.size
  have B2 := bstep B1 hB (by repeat (first | with_reducible exact B1 | with_reducible apply bdrew | with_reducible apply bdrewN | with_reducible apply balloc | ((with_reducible refine bset ?_ ?_ _); rotate_left; (first | omega | (simp <;> omega)))))
  have F2 := C0.below B2
  simp only [Cls, and_true] at F2
  have hs2 := hB.size
  try simp at hs2
  have y2_0_1 : w.heap.size + 1 < w2.heap.size := (by omega)
  have y2_0_0 : w.heap.size < w2.heap.size := (by omega)
  have y2_0_p1 : w.heap.size < w2.heap.size + 1 := (by omega)
  have y2_0_p2 : w.heap.size < w2.heap.size + 1 + 1 := (by omega)
  clear hB
  clear A1
  go_wp2_with fail
  refine (A2 _).mono ?_
  rintro e w3 ⟨rfl, hB⟩
  have D3 := dstep w hB (by repeat (first | with_reducible exact D2 | with_reducible apply bdrew | with_reducible apply bdrewN | with_reducible apply balloc | ((with_reducible refine bset ?_ ?_ _); rotate_left; (first | omega | (simp <;> omega)))))
  have d3s := D3.size
  have B3 := bstep B1 hB (by repeat (first | with_reducible exact B2 | with_reducible apply bdrew | with_reducible apply bdrewN | with_reducible apply balloc | ((with_reducible refine bset ?_ ?_ _); rotate_left; (first | omega | (simp <;> omega)))))
  have F3 := C0.below B3
  simp only [Cls, and_true] at F3
  have G3 := Cls.below (l := [(w2.heap.size, 0, .int .i64 p1), (w2.heap.size, 1, .int .i64 q1), (w2.heap.size + 1, 0, .int .i64 0), (w2.heap.size + 1, 1, .int .i64 i1)]) hB (by simp [Cls, go_sem, F2, y2_0_1, y2_0_0, y2_0_p1, y2_0_p2])
  simp only [Cls, and_true] at G3
  have hs3 := hB.size
  try simp at hs3
  have y3_0_1 : w.heap.size + 1 < w3.heap.size := (by omega)
  have y3_0_0 : w.heap.size < w3.heap.size := (by omega)
  have y3_0_p1 : w.heap.size < w3.heap.size + 1 := (by omega)
  have y3_0_p2 : w.heap.size < w3.heap.size + 1 + 1 := (by omega)
  have y3_2_1 : w2.heap.size + 1 < w3.heap.size := (by omega)
  have y3_2_0 : w2.heap.size < w3.heap.size := (by omega)
  have y3_2_p1 : w2.heap.size < w3.heap.size + 1 := (by omega)
  have y3_2_p2 : w2.heap.size < w3.heap.size + 1 + 1 := (by omega)
  clear hB
  clear A2
  go_wp2_with fail
  refine (A3 _).mono ?_
  rintro e w4 ⟨rfl, hB⟩
  have D4 := dstep w hB (by repeat (first | with_reducible exact D3 | with_reducible apply bdrew | with_reducible apply bdrewN | with_reducible apply balloc | ((with_reducible refine bset ?_ ?_ _); rotate_left; (first | omega | (simp <;> omega)))))
  have d4s := D4.size
  have B4 := bstep B1 hB (by repeat (first | with_reducible exact B3 | with_reducible apply bdrew | with_reducible apply bdrewN | with_reducible apply balloc | ((with_reducible refine bset ?_ ?_ _); rotate_left; (first | omega | (simp <;> omega)))))
  have F4 := C0.below B4
  simp only [Cls, and_true] at F4
  have G4 := Cls.below (l := [(w2.heap.size, 0, .int .i64 p1), (w2.heap.size, 1, .int .i64 q1), (w2.heap.size + 1, 0, .int .i64 0), (w2.heap.size + 1, 1, .int .i64 i1), (w3.heap.size, 0, .int .i64 a), (w3.heap.size, 1, .int .i64 b), (w3.heap.size + 1, 0, .int .i64 0), (w3.heap.size + 1, 1, .int .i64 i2)]) hB (by simp [Cls, go_sem, F3, G3, y3_0_1, y3_0_0, y3_0_p1, y3_0_p2, y3_2_1, y3_2_0, y3_2_p1, y3_2_p2])
  simp only [Cls, and_true] at G4
  have hs4 := hB.size
  try simp at hs4
  have y4_0_1 : w.heap.size + 1 < w4.heap.size := (by omega)
  have y4_0_0 : w.heap.size < w4.heap.size := (by omega)
  have y4_0_p1 : w.heap.size < w4.heap.size + 1 := (by omega)
  have y4_0_p2 : w.heap.size < w4.heap.size + 1 + 1 := (by omega)
  have y4_2_1 : w2.heap.size + 1 < w4.heap.size := (by omega)
  have y4_2_0 : w2.heap.size < w4.heap.size := (by omega)
  have y4_2_p1 : w2.heap.size < w4.heap.size + 1 := (by omega)
  have y4_2_p2 : w2.heap.size < w4.heap.size + 1 + 1 := (by omega)
  have y4_3_1 : w3.heap.size + 1 < w4.heap.size := (by omega)
  have y4_3_0 : w3.heap.size < w4.heap.size := (by omega)
  have y4_3_p1 : w3.heap.size < w4.heap.size + 1 := (by omega)
  have y4_3_p2 : w3.heap.size < w4.heap.size + 1 + 1 := (by omega)
  clear hB
  clear A3
  go_wp2_with fail
  refine (A4 _).mono ?_
  rintro e w5 ⟨rfl, hB⟩
  have D5 := dstep w hB (by repeat (first | with_reducible exact D4 | with_reducible apply bdrew | with_reducible apply bdrewN | with_reducible apply balloc | ((with_reducible refine bset ?_ ?_ _); rotate_left; (first | omega | (simp <;> omega)))))
  have d5s := D5.size
  have B5 := bstep B1 hB (by repeat (first | with_reducible exact B4 | with_reducible apply bdrew | with_reducible apply bdrewN | with_reducible apply balloc | ((with_reducible refine bset ?_ ?_ _); rotate_left; (first | omega | (simp <;> omega)))))
  have F5 := C0.below B5
  simp only [Cls, and_true] at F5
  have G5 := Cls.below (l := [(w2.heap.size, 0, .int .i64 p1), (w2.heap.size, 1, .int .i64 q1), (w2.heap.size + 1, 0, .int .i64 0), (w2.heap.size + 1, 1, .int .i64 i1), (w3.heap.size, 0, .int .i64 a), (w3.heap.size, 1, .int .i64 b), (w3.heap.size + 1, 0, .int .i64 0), (w3.heap.size + 1, 1, .int .i64 i2), (w4.heap.size, 0, .int .i64 p3), (w4.heap.size, 1, .int .i64 q3), (w4.heap.size + 1, 0, .int .i64 c3), (w4.heap.size + 1, 1, .int .i64 i3)]) hB (by simp [Cls, go_sem, F4, G4, y4_0_1, y4_0_0, y4_0_p1, y4_0_p2, y4_2_1, y4_2_0, y4_2_p1, y4_2_p2, y4_3_1, y4_3_0, y4_3_p1, y4_3_p2])
  simp only [Cls, and_true] at G5
  have hs5 := hB.size
  try simp at hs5
  have y5_0_1 : w.heap.size + 1 < w5.heap.size := (by omega)
  have y5_0_0 : w.heap.size < w5.heap.size := (by omega)
  have y5_0_p1 : w.heap.size < w5.heap.size + 1 := (by omega)
  have y5_0_p2 : w.heap.size < w5.heap.size + 1 + 1 := (by omega)
  have y5_2_1 : w2.heap.size + 1 < w5.heap.size := (by omega)
  have y5_2_0 : w2.heap.size < w5.heap.size := (by omega)
  have y5_2_p1 : w2.heap.size < w5.heap.size + 1 := (by omega)
  have y5_2_p2 : w2.heap.size < w5.heap.size + 1 + 1 := (by omega)
  have y5_3_1 : w3.heap.size + 1 < w5.heap.size := (by omega)
  have y5_3_0 : w3.heap.size < w5.heap.size := (by omega)
  have y5_3_p1 : w3.heap.size < w5.heap.size + 1 := (by omega)
  have y5_3_p2 : w3.heap.size < w5.heap.size + 1 + 1 := (by omega)
  have y5_4_1 : w4.heap.size + 1 < w5.heap.size := (by omega)
  have y5_4_0 : w4.heap.size < w5.heap.size := (by omega)
  have y5_4_p1 : w4.heap.size < w5.heap.size + 1 := (by omega)
  have y5_4_p2 : w4.heap.size < w5.heap.size + 1 + 1 := (by omega)
  clear hB
  clear A4
  go_wp2
  go_ret
  exact ⟨rfl, by repeat (first | with_reducible exact D5 | with_reducible apply bdrew | with_reducible apply bdrewN | with_reducible apply balloc | ((with_reducible refine bset ?_ ?_ _); rotate_left; (first | omega | (simp <;> omega))))⟩

set_option maxHeartbeats 1000000 in
theorem walk_inverse_0B (a b d p1 q1 i1 i2 p3 q3 i3 p4 q4 c4 i4 : Int) (A1 : ∀ w : World, Calls Try.prog 15 #[.agg #[.int .i64 a, .int .i64 b], .agg #[.int .i64 0, .int .i64 d]] w fun e w' => e = .returned (.tuple #[.agg #[.int .i64 p1, .int .i64 q1], .agg #[.int .i64 0, .int .i64 i1]]) ∧ Below w.heap.size w w') (A2 : ∀ w : World, Calls Try.prog 17 #[.agg #[.int .i64 p1, .int .i64 q1], .agg #[.int .i64 0, .int .i64 d]] w fun e w' => e = .returned (.tuple #[.agg #[.int .i64 a, .int .i64 b], .agg #[.int .i64 0, .int .i64 i2]]) ∧ Below w.heap.size w w') (A3 : ∀ w : World, Calls Try.prog 16 #[.agg #[.int .i64 a, .int .i64 b], .agg #[.int .i64 0, .int .i64 d]] w fun e w' => e = .returned (.tuple #[.agg #[.int .i64 p3, .int .i64 q3], .agg #[.int .i64 0, .int .i64 i3]]) ∧ Below w.heap.size w w') (A4 : ∀ w : World, Calls Try.prog 18 #[.agg #[.int .i64 p3, .int .i64 q3], .agg #[.int .i64 0, .int .i64 d]] w fun e w' => e = .returned (.tuple #[.agg #[.int .i64 p4, .int .i64 q4], .agg #[.int .i64 c4, .int .i64 i4]]) ∧ Below w.heap.size w w') (w : World) :
    Calls Try.prog 6 #[.agg #[.int .i64 a, .int .i64 b], .agg #[.int .i64 0, .int .i64 d]] w fun e w' => e = .returned (.bool true) ∧ Below w.heap.size w w' := by
  go_enter Try.func6, Try.ntmps6
  go_wp2_with fail
  refine (example_any _).mono ?_
  rintro e w1 ⟨rfl, hB⟩
  have D1 := dstep w hB (by repeat (first | with_reducible exact Below.refl _ _ | with_reducible apply bdrew | with_reducible apply bdrewN | with_reducible apply balloc | ((with_reducible refine bset ?_ ?_ _); rotate_left; (first | omega | (simp <;> omega)))))
  have d1s := D1.size
  obtain ⟨C0, F1⟩ := Cls.first (l := [(w.heap.size, 0, .int .i64 a), (w.heap.size, 1, .int .i64 b), (w.heap.size + 1, 0, .int .i64 0), (w.heap.size + 1, 1, .int .i64 d)]) hB (by simp [Cls, go_sem])
  simp only [Cls, and_true] at F1
  have B1 := hB
  have hs1 := hB.size
  try simp at hs1
  have hb1 := B1.size
  try simp at hb1
  have y1_0_1 : w.heap.size + 1 < w1.heap.size := (by omega)
  have y1_0_0 : w.heap.size < w1.heap.size := (by omega)
  have y1_0_p1 : w.heap.size < w1.heap.size + 1 := (by omega)
  have y1_0_p2 : w.heap.size < w1.heap.size + 1 + 1 := (by omega)
  clear hB
  go_wp2_with fail
  refine (A1 _).mono ?_
  rintro e w2 ⟨rfl, hB⟩
  have D2 := dstep w hB (by repeat (first | with_reducible exact D1 | with_reducible apply bdrew | with_reducible apply bdrewN | with_reducible apply balloc | ((with_reducible refine bset ?_ ?_ _); rotate_left; (first | omega | (simp <;> omega)))))
  have d2s := D2.size
  have B2 := bstep B1 hB (by repeat (first | with_reducible exact B1 | with_reducible apply bdrew | with_reducible apply bdrewN | with_reducible apply balloc | ((with_reducible refine bset ?_ ?_ _); rotate_left; (first | omega | (simp <;> omega)))))
  have F2 := C0.below B2
  simp only [Cls, and_true] at F2
  have hs2 := hB.size
  try simp at hs2
  have y2_0_1 : w.heap.size + 1 < w2.heap.size := (by omega)
  have y2_0_0 : w.heap.size < w2.heap.size := (by omega)
  have y2_0_p1 : w.heap.size < w2.heap.size + 1 := (by omega)
  have y2_0_p2 : w.heap.size < w2.heap.size + 1 + 1 := (by omega)
  clear hB
  clear A1
  go_wp2_with fail
  refine (A2 _).mono ?_
  rintro e w3 ⟨rfl, hB⟩
  have D3 := dstep w hB (by repeat (first | with_reducible exact D2 | with_reducible apply bdrew | with_reducible apply bdrewN | with_reducible apply balloc | ((with_reducible refine bset ?_ ?_ _); rotate_left; (first | omega | (simp <;> omega)))))
  have d3s := D3.size
  have B3 := bstep B1 hB (by repeat (first | with_reducible exact B2 | with_reducible apply bdrew | with_reducible apply bdrewN | with_reducible apply balloc | ((with_reducible refine bset ?_ ?_ _); rotate_left; (first | omega | (simp <;> omega)))))
  have F3 := C0.below B3
  simp only [Cls, and_true] at F3
  have G3 := Cls.below (l := [(w2.heap.size, 0, .int .i64 p1), (w2.heap.size, 1, .int .i64 q1), (w2.heap.size + 1, 0, .int .i64 0), (w2.heap.size + 1, 1, .int .i64 i1)]) hB (by simp [Cls, go_sem, F2, y2_0_1, y2_0_0, y2_0_p1, y2_0_p2])
  simp only [Cls, and_true] at G3
  have hs3 := hB.size
  try simp at hs3
  have y3_0_1 : w.heap.size + 1 < w3.heap.size := (by omega)
  have y3_0_0 : w.heap.size < w3.heap.size := (by omega)
  have y3_0_p1 : w.heap.size < w3.heap.size + 1 := (by omega)
  have y3_0_p2 : w.heap.size < w3.heap.size + 1 + 1 := (by omega)
  have y3_2_1 : w2.heap.size + 1 < w3.heap.size := (by omega)
  have y3_2_0 : w2.heap.size < w3.heap.size := (by omega)
  have y3_2_p1 : w2.heap.size < w3.heap.size + 1 := (by omega)
  have y3_2_p2 : w2.heap.size < w3.heap.size + 1 + 1 := (by omega)
  clear hB
  clear A2
  go_wp2_with fail
  refine (A3 _).mono ?_
  rintro e w4 ⟨rfl, hB⟩
  have D4 := dstep w hB (by repeat (first | with_reducible exact D3 | with_reducible apply bdrew | with_reducible apply bdrewN | with_reducible apply balloc | ((with_reducible refine bset ?_ ?_ _); rotate_left; (first | omega | (simp <;> omega)))))
  have d4s := D4.size
  have B4 := bstep B1 hB (by repeat (first | with_reducible exact B3 | with_reducible apply bdrew | with_reducible apply bdrewN | with_reducible apply balloc | ((with_reducible refine bset ?_ ?_ _); rotate_left; (first | omega | (simp <;> omega)))))
  have F4 := C0.below B4
  simp only [Cls, and_true] at F4
  have G4 := Cls.below (l := [(w2.heap.size, 0, .int .i64 p1), (w2.heap.size, 1, .int .i64 q1), (w2.heap.size + 1, 0, .int .i64 0), (w2.heap.size + 1, 1, .int .i64 i1), (w3.heap.size, 0, .int .i64 a), (w3.heap.size, 1, .int .i64 b), (w3.heap.size + 1, 0, .int .i64 0), (w3.heap.size + 1, 1, .int .i64 i2)]) hB (by simp [Cls, go_sem, F3, G3, y3_0_1, y3_0_0, y3_0_p1, y3_0_p2, y3_2_1, y3_2_0, y3_2_p1, y3_2_p2])
  simp only [Cls, and_true] at G4
  have hs4 := hB.size
  try simp at hs4
  have y4_0_1 : w.heap.size + 1 < w4.heap.size := (by omega)
  have y4_0_0 : w.heap.size < w4.heap.size := (by omega)
  have y4_0_p1 : w.heap.size < w4.heap.size + 1 := (by omega)
  have y4_0_p2 : w.heap.size < w4.heap.size + 1 + 1 := (by omega)
  have y4_2_1 : w2.heap.size + 1 < w4.heap.size := (by omega)
  have y4_2_0 : w2.heap.size < w4.heap.size := (by omega)
  have y4_2_p1 : w2.heap.size < w4.heap.size + 1 := (by omega)
  have y4_2_p2 : w2.heap.size < w4.heap.size + 1 + 1 := (by omega)
  have y4_3_1 : w3.heap.size + 1 < w4.heap.size := (by omega)
  have y4_3_0 : w3.heap.size < w4.heap.size := (by omega)
  have y4_3_p1 : w3.heap.size < w4.heap.size + 1 := (by omega)
  have y4_3_p2 : w3.heap.size < w4.heap.size + 1 + 1 := (by omega)
  clear hB
  clear A3
  go_wp2_with fail
  refine (A4 _).mono ?_
  rintro e w5 ⟨rfl, hB⟩
  have D5 := dstep w hB (by repeat (first | with_reducible exact D4 | with_reducible apply bdrew | with_reducible apply bdrewN | with_reducible apply balloc | ((with_reducible refine bset ?_ ?_ _); rotate_left; (first | omega | (simp <;> omega)))))
  have d5s := D5.size
  have B5 := bstep B1 hB (by repeat (first | with_reducible exact B4 | with_reducible apply bdrew | with_reducible apply bdrewN | with_reducible apply balloc | ((with_reducible refine bset ?_ ?_ _); rotate_left; (first | omega | (simp <;> omega)))))
  have F5 := C0.below B5
  simp only [Cls, and_true] at F5
  have G5 := Cls.below (l := [(w2.heap.size, 0, .int .i64 p1), (w2.heap.size, 1, .int .i64 q1), (w2.heap.size + 1, 0, .int .i64 0), (w2.heap.size + 1, 1, .int .i64 i1), (w3.heap.size, 0, .int .i64 a), (w3.heap.size, 1, .int .i64 b), (w3.heap.size + 1, 0, .int .i64 0), (w3.heap.size + 1, 1, .int .i64 i2), (w4.heap.size, 0, .int .i64 p3), (w4.heap.size, 1, .int .i64 q3), (w4.heap.size + 1, 0, .int .i64 0), (w4.heap.size + 1, 1, .int .i64 i3)]) hB (by simp [Cls, go_sem, F4, G4, y4_0_1, y4_0_0, y4_0_p1, y4_0_p2, y4_2_1, y4_2_0, y4_2_p1, y4_2_p2, y4_3_1, y4_3_0, y4_3_p1, y4_3_p2])
  simp only [Cls, and_true] at G5
  have hs5 := hB.size
  try simp at hs5
  have y5_0_1 : w.heap.size + 1 < w5.heap.size := (by omega)
  have y5_0_0 : w.heap.size < w5.heap.size := (by omega)
  have y5_0_p1 : w.heap.size < w5.heap.size + 1 := (by omega)
  have y5_0_p2 : w.heap.size < w5.heap.size + 1 + 1 := (by omega)
  have y5_2_1 : w2.heap.size + 1 < w5.heap.size := (by omega)
  have y5_2_0 : w2.heap.size < w5.heap.size := (by omega)
  have y5_2_p1 : w2.heap.size < w5.heap.size + 1 := (by omega)
  have y5_2_p2 : w2.heap.size < w5.heap.size + 1 + 1 := (by omega)
  have y5_3_1 : w3.heap.size + 1 < w5.heap.size := (by omega)
  have y5_3_0 : w3.heap.size < w5.heap.size := (by omega)
  have y5_3_p1 : w3.heap.size < w5.heap.size + 1 := (by omega)
  have y5_3_p2 : w3.heap.size < w5.heap.size + 1 + 1 := (by omega)
  have y5_4_1 : w4.heap.size + 1 < w5.heap.size := (by omega)
  have y5_4_0 : w4.heap.size < w5.heap.size := (by omega)
  have y5_4_p1 : w4.heap.size < w5.heap.size + 1 := (by omega)
  have y5_4_p2 : w4.heap.size < w5.heap.size + 1 + 1 := (by omega)
  clear hB
  clear A4
  go_wp2
  go_ret
  exact ⟨rfl, by repeat (first | with_reducible exact D5 | with_reducible apply bdrew | with_reducible apply bdrewN | with_reducible apply balloc | ((with_reducible refine bset ?_ ?_ _); rotate_left; (first | omega | (simp <;> omega))))⟩

set_option maxHeartbeats 1000000 in
theorem walk_inverse_0C (a b c d p1 q1 i1 i2 p3 q3 i3 i4 : Int) (nc : ¬ c = 0) (A1 : ∀ w : World, Calls Try.prog 15 #[.agg #[.int .i64 a, .int .i64 b], .agg #[.int .i64 c, .int .i64 d]] w fun e w' => e = .returned (.tuple #[.agg #[.int .i64 p1, .int .i64 q1], .agg #[.int .i64 0, .int .i64 i1]]) ∧ Below w.heap.size w w') (A2 : ∀ w : World, Calls Try.prog 17 #[.agg #[.int .i64 p1, .int .i64 q1], .agg #[.int .i64 c, .int .i64 d]] w fun e w' => e = .returned (.tuple #[.agg #[.int .i64 a, .int .i64 b], .agg #[.int .i64 0, .int .i64 i2]]) ∧ Below w.heap.size w w') (A3 : ∀ w : World, Calls Try.prog 16 #[.agg #[.int .i64 a, .int .i64 b], .agg #[.int .i64 c, .int .i64 d]] w fun e w' => e = .returned (.tuple #[.agg #[.int .i64 p3, .int .i64 q3], .agg #[.int .i64 0, .int .i64 i3]]) ∧ Below w.heap.size w w') (A4 : ∀ w : World, Calls Try.prog 18 #[.agg #[.int .i64 p3, .int .i64 q3], .agg #[.int .i64 c, .int .i64 d]] w fun e w' => e = .returned (.tuple #[.agg #[.int .i64 a, .int .i64 b], .agg #[.int .i64 0, .int .i64 i4]]) ∧ Below w.heap.size w w') (w : World) :
    Calls Try.prog 6 #[.agg #[.int .i64 a, .int .i64 b], .agg #[.int .i64 c, .int .i64 d]] w fun e w' => e = .returned (.bool true) ∧ Below w.heap.size w w' := by
  have bc' := bb_no nc
  go_enter Try.func6, Try.ntmps6
  go_wp2_with fail
  refine (example_any _).mono ?_
  rintro e w1 ⟨rfl, hB⟩
  have D1 := dstep w hB (by repeat (first | with_reducible exact Below.refl _ _ | with_reducible apply bdrew | with_reducible apply bdrewN | with_reducible apply balloc | ((with_reducible refine bset ?_ ?_ _); rotate_left; (first | omega | (simp <;> omega)))))
  have d1s := D1.size
  obtain ⟨C0, F1⟩ := Cls.first (l := [(w.heap.size, 0, .int .i64 a), (w.heap.size, 1, .int .i64 b), (w.heap.size + 1, 0, .int .i64 c), (w.heap.size + 1, 1, .int .i64 d)]) hB (by simp [Cls, go_sem])
  simp only [Cls, and_true] at F1
  have B1 := hB
  have hs1 := hB.size
  try simp at hs1
  have hb1 := B1.size
  try simp at hb1
  have y1_0_1 : w.heap.size + 1 < w1.heap.size := (by omega)
  have y1_0_0 : w.heap.size < w1.heap.size := (by omega)
  have y1_0_p1 : w.heap.size < w1.heap.size + 1 := (by omega)
  have y1_0_p2 : w.heap.size < w1.heap.size + 1 + 1 := (by omega)
  clear hB
  go_wp2_with fail
  refine (A1 _).mono ?_
  rintro e w2 ⟨rfl, hB⟩
  have D2 := dstep w hB (by repeat (first | with_reducible exact D1 | with_reducible apply bdrew | with_reducible apply bdrewN | with_reducible apply balloc | ((with_reducible refine bset ?_ ?_ _); rotate_left; (first | omega | (simp <;> omega)))))
  have d2s := D2.size
  have B2 := bstep B1 hB (by repeat (first | with_reducible exact B1 | with_reducible apply bdrew | with_reducible apply bdrewN | with_reducible apply balloc | ((with_reducible refine bset ?_ ?_ _); rotate_left; (first | omega | (simp <;> omega)))))
  have F2 := C0.below B2
  simp only [Cls, and_true] at F2
  have hs2 := hB.size
  try simp at hs2
  have y2_0_1 : w.heap.size + 1 < w2.heap.size := (by omega)
  have y2_0_0 : w.heap.size < w2.heap.size := (by omega)
  have y2_0_p1 : w.heap.size < w2.heap.size + 1 := (by omega)
  have y2_0_p2 : w.heap.size < w2.heap.size + 1 + 1 := (by omega)
  clear hB
  clear A1
  go_wp2_with fail
  refine (A2 _).mono ?_
  rintro e w3 ⟨rfl, hB⟩
  have D3 := dstep w hB (by repeat (first | with_reducible exact D2 | with_reducible apply bdrew | with_reducible apply bdrewN | with_reducible apply balloc | ((with_reducible refine bset ?_ ?_ _); rotate_left; (first | omega | (simp <;> omega)))))
  have d3s := D3.size
  have B3 := bstep B1 hB (by repeat (first | with_reducible exact B2 | with_reducible apply bdrew | with_reducible apply bdrewN | with_reducible apply balloc | ((with_reducible refine bset ?_ ?_ _); rotate_left; (first | omega | (simp <;> omega)))))
  have F3 := C0.below B3
  simp only [Cls, and_true] at F3
  have G3 := Cls.below (l := [(w2.heap.size, 0, .int .i64 p1), (w2.heap.size, 1, .int .i64 q1), (w2.heap.size + 1, 0, .int .i64 0), (w2.heap.size + 1, 1, .int .i64 i1)]) hB (by simp [Cls, go_sem, F2, y2_0_1, y2_0_0, y2_0_p1, y2_0_p2])
  simp only [Cls, and_true] at G3
  have hs3 := hB.size
  try simp at hs3
  have y3_0_1 : w.heap.size + 1 < w3.heap.size := (by omega)
  have y3_0_0 : w.heap.size < w3.heap.size := (by omega)
  have y3_0_p1 : w.heap.size < w3.heap.size + 1 := (by omega)
  have y3_0_p2 : w.heap.size < w3.heap.size + 1 + 1 := (by omega)
  have y3_2_1 : w2.heap.size + 1 < w3.heap.size := (by omega)
  have y3_2_0 : w2.heap.size < w3.heap.size := (by omega)
  have y3_2_p1 : w2.heap.size < w3.heap.size + 1 := (by omega)
  have y3_2_p2 : w2.heap.size < w3.heap.size + 1 + 1 := (by omega)
  clear hB
  clear A2
  go_wp2_with fail
  refine (A3 _).mono ?_
  rintro e w4 ⟨rfl, hB⟩
  have D4 := dstep w hB (by repeat (first | with_reducible exact D3 | with_reducible apply bdrew | with_reducible apply bdrewN | with_reducible apply balloc | ((with_reducible refine bset ?_ ?_ _); rotate_left; (first | omega | (simp <;> omega)))))
  have d4s := D4.size
  have B4 := bstep B1 hB (by repeat (first | with_reducible exact B3 | with_reducible apply bdrew | with_reducible apply bdrewN | with_reducible apply balloc | ((with_reducible refine bset ?_ ?_ _); rotate_left; (first | omega | (simp <;> omega)))))
  have F4 := C0.below B4
  simp only [Cls, and_true] at F4
  have G4 := Cls.below (l := [(w2.heap.size, 0, .int .i64 p1), (w2.heap.size, 1, .int .i64 q1), (w2.heap.size + 1, 0, .int .i64 0), (w2.heap.size + 1, 1, .int .i64 i1), (w3.heap.size, 0, .int .i64 a), (w3.heap.size, 1, .int .i64 b), (w3.heap.size + 1, 0, .int .i64 0), (w3.heap.size + 1, 1, .int .i64 i2)]) hB (by simp [Cls, go_sem, F3, G3, y3_0_1, y3_0_0, y3_0_p1, y3_0_p2, y3_2_1, y3_2_0, y3_2_p1, y3_2_p2])
  simp only [Cls, and_true] at G4
  have hs4 := hB.size
  try simp at hs4
  have y4_0_1 : w.heap.size + 1 < w4.heap.size := (by omega)
  have y4_0_0 : w.heap.size < w4.heap.size := (by omega)
  have y4_0_p1 : w.heap.size < w4.heap.size + 1 := (by omega)
  have y4_0_p2 : w.heap.size < w4.heap.size + 1 + 1 := (by omega)
  have y4_2_1 : w2.heap.size + 1 < w4.heap.size := (by omega)
  have y4_2_0 : w2.heap.size < w4.heap.size := (by omega)
  have y4_2_p1 : w2.heap.size < w4.heap.size + 1 := (by omega)
  have y4_2_p2 : w2.heap.size < w4.heap.size + 1 + 1 := (by omega)
  have y4_3_1 : w3.heap.size + 1 < w4.heap.size := (by omega)
  have y4_3_0 : w3.heap.size < w4.heap.size := (by omega)
  have y4_3_p1 : w3.heap.size < w4.heap.size + 1 := (by omega)
  have y4_3_p2 : w3.heap.size < w4.heap.size + 1 + 1 := (by omega)
  clear hB
  clear A3
  go_wp2_with fail
  refine (A4 _).mono ?_
  rintro e w5 ⟨rfl, hB⟩
  have D5 := dstep w hB (by repeat (first | with_reducible exact D4 | with_reducible apply bdrew | with_reducible apply bdrewN | with_reducible apply balloc | ((with_reducible refine bset ?_ ?_ _); rotate_left; (first | omega | (simp <;> omega)))))
  have d5s := D5.size
  have B5 := bstep B1 hB (by repeat (first | with_reducible exact B4 | with_reducible apply bdrew | with_reducible apply bdrewN | with_reducible apply balloc | ((with_reducible refine bset ?_ ?_ _); rotate_left; (first | omega | (simp <;> omega)))))
  have F5 := C0.below B5
  simp only [Cls, and_true] at F5
  have G5 := Cls.below (l := [(w2.heap.size, 0, .int .i64 p1), (w2.heap.size, 1, .int .i64 q1), (w2.heap.size + 1, 0, .int .i64 0), (w2.heap.size + 1, 1, .int .i64 i1), (w3.heap.size, 0, .int .i64 a), (w3.heap.size, 1, .int .i64 b), (w3.heap.size + 1, 0, .int .i64 0), (w3.heap.size + 1, 1, .int .i64 i2), (w4.heap.size, 0, .int .i64 p3), (w4.heap.size, 1, .int .i64 q3), (w4.heap.size + 1, 0, .int .i64 0), (w4.heap.size + 1, 1, .int .i64 i3)]) hB (by simp [Cls, go_sem, F4, G4, y4_0_1, y4_0_0, y4_0_p1, y4_0_p2, y4_2_1, y4_2_0, y4_2_p1, y4_2_p2, y4_3_1, y4_3_0, y4_3_p1, y4_3_p2])
  simp only [Cls, and_true] at G5
  have hs5 := hB.size
  try simp at hs5
  have y5_0_1 : w.heap.size + 1 < w5.heap.size := (by omega)
  have y5_0_0 : w.heap.size < w5.heap.size := (by omega)
  have y5_0_p1 : w.heap.size < w5.heap.size + 1 := (by omega)
  have y5_0_p2 : w.heap.size < w5.heap.size + 1 + 1 := (by omega)
  have y5_2_1 : w2.heap.size + 1 < w5.heap.size := (by omega)
  have y5_2_0 : w2.heap.size < w5.heap.size := (by omega)
  have y5_2_p1 : w2.heap.size < w5.heap.size + 1 := (by omega)
  have y5_2_p2 : w2.heap.size < w5.heap.size + 1 + 1 := (by omega)
  have y5_3_1 : w3.heap.size + 1 < w5.heap.size := (by omega)
  have y5_3_0 : w3.heap.size < w5.heap.size := (by omega)
  have y5_3_p1 : w3.heap.size < w5.heap.size + 1 := (by omega)
  have y5_3_p2 : w3.heap.size < w5.heap.size + 1 + 1 := (by omega)
  have y5_4_1 : w4.heap.size + 1 < w5.heap.size := (by omega)
  have y5_4_0 : w4.heap.size < w5.heap.size := (by omega)
  have y5_4_p1 : w4.heap.size < w5.heap.size + 1 := (by omega)
  have y5_4_p2 : w4.heap.size < w5.heap.size + 1 + 1 := (by omega)
  clear hB
  clear A4
  go_wp2
  go_ret
  exact ⟨rfl, by repeat (first | with_reducible exact D5 | with_reducible apply bdrew | with_reducible apply bdrewN | with_reducible apply balloc | ((with_reducible refine bset ?_ ?_ _); rotate_left; (first | omega | (simp <;> omega))))⟩

set_option maxHeartbeats 1000000 in
theorem walk_inverse_1A (a b c d p1 q1 c1 i1 p2 q2 c2 i2 p3 q3 c3 i3 p4 q4 c4 i4 : Int) (n1 : ¬ c1 = 0) (n3 : ¬ c3 = 0) (A1 : ∀ w : World, Calls Try.prog 15 #[.agg #[.int .i64 a, .int .i64 b], .agg #[.int .i64 c, .int .i64 d]] w fun e w' => e = .returned (.tuple #[.agg #[.int .i64 p1, .int .i64 q1], .agg #[.int .i64 c1, .int .i64 i1]]) ∧ Below w.heap.size w w') (A2 : ∀ w : World, Calls Try.prog 17 #[.agg #[.int .i64 p1, .int .i64 q1], .agg #[.int .i64 c, .int .i64 d]] w fun e w' => e = .returned (.tuple #[.agg #[.int .i64 p2, .int .i64 q2], .agg #[.int .i64 c2, .int .i64 i2]]) ∧ Below w.heap.size w w') (A3 : ∀ w : World, Calls Try.prog 16 #[.agg #[.int .i64 a, .int .i64 b], .agg #[.int .i64 c, .int .i64 d]] w fun e w' => e = .returned (.tuple #[.agg #[.int .i64 p3, .int .i64 q3], .agg #[.int .i64 c3, .int .i64 i3]]) ∧ Below w.heap.size w w') (A4 : ∀ w : World, Calls Try.prog 18 #[.agg #[.int .i64 p3, .int .i64 q3], .agg #[.int .i64 c, .int .i64 d]] w fun e w' => e = .returned (.tuple #[.agg #[.int .i64 p4, .int .i64 q4], .agg #[.int .i64 c4, .int .i64 i4]]) ∧ Below w.heap.size w w') (w : World) :
    Calls Try.prog 6 #[.agg #[.int .i64 a, .int .i64 b], .agg #[.int .i64 c, .int .i64 d]] w fun e w' => e = .returned (.bool true) ∧ Below w.heap.size w w' := by
  have b1 := bb_no n1
  have b1' := bn_yes n1
  have b3 := bb_no n3
  have b3' := bn_yes n3
  go_enter Try.func6, Try.ntmps6
  go_wp2_with fail
  refine (example_any _).mono ?_
  rintro e w1 ⟨rfl, hB⟩
  have D1 := dstep w hB (by repeat (first | with_reducible exact Below.refl _ _ | with_reducible apply bdrew | with_reducible apply bdrewN | with_reducible apply balloc | ((with_reducible refine bset ?_ ?_ _); rotate_left; (first | omega | (simp <;> omega)))))
  have d1s := D1.size
  obtain ⟨C0, F1⟩ := Cls.first (l := [(w.heap.size, 0, .int .i64 a), (w.heap.size, 1, .int .i64 b), (w.heap.size + 1, 0, .int .i64 c), (w.heap.size + 1, 1, .int .i64 d)]) hB (by simp [Cls, go_sem])
  simp only [Cls, and_true] at F1
  have B1 := hB
  have hs1 := hB.size
  try simp at hs1
  have hb1 := B1.size
  try simp at hb1
  have y1_0_1 : w.heap.size + 1 < w1.heap.size := (by omega)
  have y1_0_0 : w.heap.size < w1.heap.size := (by omega)
  have y1_0_p1 : w.heap.size < w1.heap.size + 1 := (by omega)
  have y1_0_p2 : w.heap.size < w1.heap.size + 1 + 1 := (by omega)
  clear hB
  go_wp2_with fail
  refine (A1 _).mono ?_
  rintro e w2 ⟨rfl, hB⟩
  have D2 := dstep w hB (by repeat (first | with_reducible exact D1 | with_reducible apply bdrew | with_reducible apply bdrewN | with_reducible apply balloc | ((with_reducible refine bset ?_ ?_ _); rotate_left; (first | omega | (simp <;> omega)))))
  have d2s := D2.size
  have B2 := bstep B1 hB (by repeat (first | with_reducible exact B1 | with_reducible apply bdrew | with_reducible apply bdrewN | with_reducible apply balloc | ((with_reducible refine bset ?_ ?_ _); rotate_left; (first | omega | (simp <;> omega)))))
  have F2 := C0.below B2
  simp only [Cls, and_true] at F2
  have hs2 := hB.size
  try simp at hs2
  have y2_0_1 : w.heap.size + 1 < w2.heap.size := (by omega)
  have y2_0_0 : w.heap.size < w2.heap.size := (by omega)
  have y2_0_p1 : w.heap.size < w2.heap.size + 1 := (by omega)
  have y2_0_p2 : w.heap.size < w2.heap.size + 1 + 1 := (by omega)
  clear hB
  clear A1
  go_wp2_with fail
  refine (A2 _).mono ?_
  rintro e w3 ⟨rfl, hB⟩
  have D3 := dstep w hB (by repeat (first | with_reducible exact D2 | with_reducible apply bdrew | with_reducible apply bdrewN | with_reducible apply balloc | ((with_reducible refine bset ?_ ?_ _); rotate_left; (first | omega | (simp <;> omega)))))
  have d3s := D3.size
  have B3 := bstep B1 hB (by repeat (first | with_reducible exact B2 | with_reducible apply bdrew | with_reducible apply bdrewN | with_reducible apply balloc | ((with_reducible refine bset ?_ ?_ _); rotate_left; (first | omega | (simp <;> omega)))))
  have F3 := C0.below B3
  simp only [Cls, and_true] at F3
  have G3 := Cls.below (l := [(w2.heap.size, 0, .int .i64 p1), (w2.heap.size, 1, .int .i64 q1), (w2.heap.size + 1, 0, .int .i64 c1), (w2.heap.size + 1, 1, .int .i64 i1)]) hB (by simp [Cls, go_sem, F2, y2_0_1, y2_0_0, y2_0_p1, y2_0_p2])
  simp only [Cls, and_true] at G3
  have hs3 := hB.size
  try simp at hs3
  have y3_0_1 : w.heap.size + 1 < w3.heap.size := (by omega)
  have y3_0_0 : w.heap.size < w3.heap.size := (by omega)
  have y3_0_p1 : w.heap.size < w3.heap.size + 1 := (by omega)
  have y3_0_p2 : w.heap.size < w3.heap.size + 1 + 1 := (by omega)
  have y3_2_1 : w2.heap.size + 1 < w3.heap.size := (by omega)
  have y3_2_0 : w2.heap.size < w3.heap.size := (by omega)
  have y3_2_p1 : w2.heap.size < w3.heap.size + 1 := (by omega)
  have y3_2_p2 : w2.heap.size < w3.heap.size + 1 + 1 := (by omega)
  clear hB
  clear A2
  go_wp2_with fail
  refine (A3 _).mono ?_
  rintro e w4 ⟨rfl, hB⟩
  have D4 := dstep w hB (by repeat (first | with_reducible exact D3 | with_reducible apply bdrew | with_reducible apply bdrewN | with_reducible apply balloc | ((with_reducible refine bset ?_ ?_ _); rotate_left; (first | omega | (simp <;> omega)))))
  have d4s := D4.size
  have B4 := bstep B1 hB (by repeat (first | with_reducible exact B3 | with_reducible apply bdrew | with_reducible apply bdrewN | with_reducible apply balloc | ((with_reducible refine bset ?_ ?_ _); rotate_left; (first | omega | (simp <;> omega)))))
  have F4 := C0.below B4
  simp only [Cls, and_true] at F4
  have G4 := Cls.below (l := [(w2.heap.size, 0, .int .i64 p1), (w2.heap.size, 1, .int .i64 q1), (w2.heap.size + 1, 0, .int .i64 c1), (w2.heap.size + 1, 1, .int .i64 i1), (w3.heap.size, 0, .int .i64 p2), (w3.heap.size, 1, .int .i64 q2), (w3.heap.size + 1, 0, .int .i64 c2), (w3.heap.size + 1, 1, .int .i64 i2)]) hB (by simp [Cls, go_sem, F3, G3, y3_0_1, y3_0_0, y3_0_p1, y3_0_p2, y3_2_1, y3_2_0, y3_2_p1, y3_2_p2])
  simp only [Cls, and_true] at G4
  have hs4 := hB.size
  try simp at hs4
  have y4_0_1 : w.heap.size + 1 < w4.heap.size := (by omega)
  have y4_0_0 : w.heap.size < w4.heap.size := (by omega)
  have y4_0_p1 : w.heap.size < w4.heap.size + 1 := (by omega)
  have y4_0_p2 : w.heap.size < w4.heap.size + 1 + 1 := (by omega)
  have y4_2_1 : w2.heap.size + 1 < w4.heap.size := (by omega)
  have y4_2_0 : w2.heap.size < w4.heap.size := (by omega)
  have y4_2_p1 : w2.heap.size < w4.heap.size + 1 := (by omega)
  have y4_2_p2 : w2.heap.size < w4.heap.size + 1 + 1 := (by omega)
  have y4_3_1 : w3.heap.size + 1 < w4.heap.size := (by omega)
  have y4_3_0 : w3.heap.size < w4.heap.size := (by omega)
  have y4_3_p1 : w3.heap.size < w4.heap.size + 1 := (by omega)
  have y4_3_p2 : w3.heap.size < w4.heap.size + 1 + 1 := (by omega)
  clear hB
  clear A3
  go_wp2_with fail
  refine (A4 _).mono ?_
  rintro e w5 ⟨rfl, hB⟩
  have D5 := dstep w hB (by repeat (first | with_reducible exact D4 | with_reducible apply bdrew | with_reducible apply bdrewN | with_reducible apply balloc | ((with_reducible refine bset ?_ ?_ _); rotate_left; (first | omega | (simp <;> omega)))))
  have d5s := D5.size
  have B5 := bstep B1 hB (by repeat (first | with_reducible exact B4 | with_reducible apply bdrew | with_reducible apply bdrewN | with_reducible apply balloc | ((with_reducible refine bset ?_ ?_ _); rotate_left; (first | omega | (simp <;> omega)))))
  have F5 := C0.below B5
  simp only [Cls, and_true] at F5
  have G5 := Cls.below (l := [(w2.heap.size, 0, .int .i64 p1), (w2.heap.size, 1, .int .i64 q1), (w2.heap.size + 1, 0, .int .i64 c1), (w2.heap.size + 1, 1, .int .i64 i1), (w3.heap.size, 0, .int .i64 p2), (w3.heap.size, 1, .int .i64 q2), (w3.heap.size + 1, 0, .int .i64 c2), (w3.heap.size + 1, 1, .int .i64 i2), (w4.heap.size, 0, .int .i64 p3), (w4.heap.size, 1, .int .i64 q3), (w4.heap.size + 1, 0, .int .i64 c3), (w4.heap.size + 1, 1, .int .i64 i3)]) hB (by simp [Cls, go_sem, F4, G4, y4_0_1, y4_0_0, y4_0_p1, y4_0_p2, y4_2_1, y4_2_0, y4_2_p1, y4_2_p2, y4_3_1, y4_3_0, y4_3_p1, y4_3_p2])
  simp only [Cls, and_true] at G5
  have hs5 := hB.size
  try simp at hs5
  have y5_0_1 : w.heap.size + 1 < w5.heap.size := (by omega)
  have y5_0_0 : w.heap.size < w5.heap.size := (by omega)
  have y5_0_p1 : w.heap.size < w5.heap.size + 1 := (by omega)
  have y5_0_p2 : w.heap.size < w5.heap.size + 1 + 1 := (by omega)
  have y5_2_1 : w2.heap.size + 1 < w5.heap.size := (by omega)
  have y5_2_0 : w2.heap.size < w5.heap.size := (by omega)
  have y5_2_p1 : w2.heap.size < w5.heap.size + 1 := (by omega)
  have y5_2_p2 : w2.heap.size < w5.heap.size + 1 + 1 := (by omega)
  have y5_3_1 : w3.heap.size + 1 < w5.heap.size := (by omega)
  have y5_3_0 : w3.heap.size < w5.heap.size := (by omega)
  have y5_3_p1 : w3.heap.size < w5.heap.size + 1 := (by omega)
  have y5_3_p2 : w3.heap.size < w5.heap.size + 1 + 1 := (by omega)
  have y5_4_1 : w4.heap.size + 1 < w5.heap.size := (by omega)
  have y5_4_0 : w4.heap.size < w5.heap.size := (by omega)
  have y5_4_p1 : w4.heap.size < w5.heap.size + 1 := (by omega)
  have y5_4_p2 : w4.heap.size < w5.heap.size + 1 + 1 := (by omega)
  clear hB
  clear A4
  go_wp2
  go_ret
  exact ⟨rfl, by repeat (first | with_reducible exact D5 | with_reducible apply bdrew | with_reducible apply bdrewN | with_reducible apply balloc | ((with_reducible refine bset ?_ ?_ _); rotate_left; (first | omega | (simp <;> omega))))⟩

set_option maxHeartbeats 1000000 in
theorem walk_inverse_1B (a b d p1 q1 c1 i1 p2 q2 c2 i2 p3 q3 i3 p4 q4 c4 i4 : Int) (n1 : ¬ c1 = 0) (A1 : ∀ w : World, Calls Try.prog 15 #[.agg #[.int .i64 a, .int .i64 b], .agg #[.int .i64 0, .int .i64 d]] w fun e w' => e = .returned (.tuple #[.agg #[.int .i64 p1, .int .i64 q1], .agg #[.int .i64 c1, .int .i64 i1]]) ∧ Below w.heap.size w w') (A2 : ∀ w : World, Calls Try.prog 17 #[.agg #[.int .i64 p1, .int .i64 q1], .agg #[.int .i64 0, .int .i64 d]] w fun e w' => e = .returned (.tuple #[.agg #[.int .i64 p2, .int .i64 q2], .agg #[.int .i64 c2, .int .i64 i2]]) ∧ Below w.heap.size w w') (A3 : ∀ w : World, Calls Try.prog 16 #[.agg #[.int .i64 a, .int .i64 b], .agg #[.int .i64 0, .int .i64 d]] w fun e w' => e = .returned (.tuple #[.agg #[.int .i64 p3, .int .i64 q3], .agg #[.int .i64 0, .int .i64 i3]]) ∧ Below w.heap.size w w') (A4 : ∀ w : World, Calls Try.prog 18 #[.agg #[.int .i64 p3, .int .i64 q3], .agg #[.int .i64 0, .int .i64 d]] w fun e w' => e = .returned (.tuple #[.agg #[.int .i64 p4, .int .i64 q4], .agg #[.int .i64 c4, .int .i64 i4]]) ∧ Below w.heap.size w w') (w : World) :
    Calls Try.prog 6 #[.agg #[.int .i64 a, .int .i64 b], .agg #[.int .i64 0, .int .i64 d]] w fun e w' => e = .returned (.bool true) ∧ Below w.heap.size w w' := by
  have b1 := bb_no n1
  have b1' := bn_yes n1
  go_enter Try.func6, Try.ntmps6
  go_wp2_with fail
  refine (example_any _).mono ?_
  rintro e w1 ⟨rfl, hB⟩
  have D1 := dstep w hB (by repeat (first | with_reducible exact Below.refl _ _ | with_reducible apply bdrew | with_reducible apply bdrewN | with_reducible apply balloc | ((with_reducible refine bset ?_ ?_ _); rotate_left; (first | omega | (simp <;> omega)))))
  have d1s := D1.size
  obtain ⟨C0, F1⟩ := Cls.first (l := [(w.heap.size, 0, .int .i64 a), (w.heap.size, 1, .int .i64 b), (w.heap.size + 1, 0, .int .i64 0), (w.heap.size + 1, 1, .int .i64 d)]) hB (by simp [Cls, go_sem])
  simp only [Cls, and_true] at F1
  have B1 := hB
  have hs1 := hB.size
  try simp at hs1
  have hb1 := B1.size
  try simp at hb1
  have y1_0_1 : w.heap.size + 1 < w1.heap.size := (by omega)
  have y1_0_0 : w.heap.size < w1.heap.size := (by omega)
  have y1_0_p1 : w.heap.size < w1.heap.size + 1 := (by omega)
  have y1_0_p2 : w.heap.size < w1.heap.size + 1 + 1 := (by omega)
  clear hB
  go_wp2_with fail
  refine (A1 _).mono ?_
  rintro e w2 ⟨rfl, hB⟩
  have D2 := dstep w hB (by repeat (first | with_reducible exact D1 | with_reducible apply bdrew | with_reducible apply bdrewN | with_reducible apply balloc | ((with_reducible refine bset ?_ ?_ _); rotate_left; (first | omega | (simp <;> omega)))))
  have d2s := D2.size
  have B2 := bstep B1 hB (by repeat (first | with_reducible exact B1 | with_reducible apply bdrew | with_reducible apply bdrewN | with_reducible apply balloc | ((with_reducible refine bset ?_ ?_ _); rotate_left; (first | omega | (simp <;> omega)))))
  have F2 := C0.below B2
  simp only [Cls, and_true] at F2
  have hs2 := hB.size
  try simp at hs2
  have y2_0_1 : w.heap.size + 1 < w2.heap.size := (by omega)
  have y2_0_0 : w.heap.size < w2.heap.size := (by omega)
  have y2_0_p1 : w.heap.size < w2.heap.size + 1 := (by omega)
  have y2_0_p2 : w.heap.size < w2.heap.size + 1 + 1 := (by omega)
  clear hB
  clear A1
  go_wp2_with fail
  refine (A2 _).mono ?_
  rintro e w3 ⟨rfl, hB⟩
  have D3 := dstep w hB (by repeat (first | with_reducible exact D2 | with_reducible apply bdrew | with_reducible apply bdrewN | with_reducible apply balloc | ((with_reducible refine bset ?_ ?_ _); rotate_left; (first | omega | (simp <;> omega)))))
  have d3s := D3.size
  have B3 := bstep B1 hB (by repeat (first | with_reducible exact B2 | with_reducible apply bdrew | with_reducible apply bdrewN | with_reducible apply balloc | ((with_reducible refine bset ?_ ?_ _); rotate_left; (first | omega | (simp <;> omega)))))
  have F3 := C0.below B3
  simp only [Cls, and_true] at F3
  have G3 := Cls.below (l := [(w2.heap.size, 0, .int .i64 p1), (w2.heap.size, 1, .int .i64 q1), (w2.heap.size + 1, 0, .int .i64 c1), (w2.heap.size + 1, 1, .int .i64 i1)]) hB (by simp [Cls, go_sem, F2, y2_0_1, y2_0_0, y2_0_p1, y2_0_p2])
  simp only [Cls, and_true] at G3
  have hs3 := hB.size
  try simp at hs3
  have y3_0_1 : w.heap.size + 1 < w3.heap.size := (by omega)
  have y3_0_0 : w.heap.size < w3.heap.size := (by omega)
  have y3_0_p1 : w.heap.size < w3.heap.size + 1 := (by omega)
  have y3_0_p2 : w.heap.size < w3.heap.size + 1 + 1 := (by omega)
  have y3_2_1 : w2.heap.size + 1 < w3.heap.size := (by omega)
  have y3_2_0 : w2.heap.size < w3.heap.size := (by omega)
  have y3_2_p1 : w2.heap.size < w3.heap.size + 1 := (by omega)
  have y3_2_p2 : w2.heap.size < w3.heap.size + 1 + 1 := (by omega)
  clear hB
  clear A2
  go_wp2_with fail
  refine (A3 _).mono ?_
  rintro e w4 ⟨rfl, hB⟩
  have D4 := dstep w hB (by repeat (first | with_reducible exact D3 | with_reducible apply bdrew | with_reducible apply bdrewN | with_reducible apply balloc | ((with_reducible refine bset ?_ ?_ _); rotate_left; (first | omega | (simp <;> omega)))))
  have d4s := D4.size
  have B4 := bstep B1 hB (by repeat (first | with_reducible exact B3 | with_reducible apply bdrew | with_reducible apply bdrewN | with_reducible apply balloc | ((with_reducible refine bset ?_ ?_ _); rotate_left; (first | omega | (simp <;> omega)))))
  have F4 := C0.below B4
  simp only [Cls, and_true] at F4
  have G4 := Cls.below (l := [(w2.heap.size, 0, .int .i64 p1), (w2.heap.size, 1, .int .i64 q1), (w2.heap.size + 1, 0, .int .i64 c1), (w2.heap.size + 1, 1, .int .i64 i1), (w3.heap.size, 0, .int .i64 p2), (w3.heap.size, 1, .int .i64 q2), (w3.heap.size + 1, 0, .int .i64 c2), (w3.heap.size + 1, 1, .int .i64 i2)]) hB (by simp [Cls, go_sem, F3, G3, y3_0_1, y3_0_0, y3_0_p1, y3_0_p2, y3_2_1, y3_2_0, y3_2_p1, y3_2_p2])
  simp only [Cls, and_true] at G4
  have hs4 := hB.size
  try simp at hs4
  have y4_0_1 : w.heap.size + 1 < w4.heap.size := (by omega)
  have y4_0_0 : w.heap.size < w4.heap.size := (by omega)
  have y4_0_p1 : w.heap.size < w4.heap.size + 1 := (by omega)
  have y4_0_p2 : w.heap.size < w4.heap.size + 1 + 1 := (by omega)
  have y4_2_1 : w2.heap.size + 1 < w4.heap.size := (by omega)
  have y4_2_0 : w2.heap.size < w4.heap.size := (by omega)
  have y4_2_p1 : w2.heap.size < w4.heap.size + 1 := (by omega)
  have y4_2_p2 : w2.heap.size < w4.heap.size + 1 + 1 := (by omega)
  have y4_3_1 : w3.heap.size + 1 < w4.heap.size := (by omega)
  have y4_3_0 : w3.heap.size < w4.heap.size := (by omega)
  have y4_3_p1 : w3.heap.size < w4.heap.size + 1 := (by omega)
  have y4_3_p2 : w3.heap.size < w4.heap.size + 1 + 1 := (by omega)
  clear hB
  clear A3
  go_wp2_with fail
  refine (A4 _).mono ?_
  rintro e w5 ⟨rfl, hB⟩
  have D5 := dstep w hB (by repeat (first | with_reducible exact D4 | with_reducible apply bdrew | with_reducible apply bdrewN | with_reducible apply balloc | ((with_reducible refine bset ?_ ?_ _); rotate_left; (first | omega | (simp <;> omega)))))
  have d5s := D5.size
  have B5 := bstep B1 hB (by repeat (first | with_reducible exact B4 | with_reducible apply bdrew | with_reducible apply bdrewN | with_reducible apply balloc | ((with_reducible refine bset ?_ ?_ _); rotate_left; (first | omega | (simp <;> omega)))))
  have F5 := C0.below B5
  simp only [Cls, and_true] at F5
  have G5 := Cls.below (l := [(w2.heap.size, 0, .int .i64 p1), (w2.heap.size, 1, .int .i64 q1), (w2.heap.size + 1, 0, .int .i64 c1), (w2.heap.size + 1, 1, .int .i64 i1), (w3.heap.size, 0, .int .i64 p2), (w3.heap.size, 1, .int .i64 q2), (w3.heap.size + 1, 0, .int .i64 c2), (w3.heap.size + 1, 1, .int .i64 i2), (w4.heap.size, 0, .int .i64 p3), (w4.heap.size, 1, .int .i64 q3), (w4.heap.size + 1, 0, .int .i64 0), (w4.heap.size + 1, 1, .int .i64 i3)]) hB (by simp [Cls, go_sem, F4, G4, y4_0_1, y4_0_0, y4_0_p1, y4_0_p2, y4_2_1, y4_2_0, y4_2_p1, y4_2_p2, y4_3_1, y4_3_0, y4_3_p1, y4_3_p2])
  simp only [Cls, and_true] at G5
  have hs5 := hB.size
  try simp at hs5
  have y5_0_1 : w.heap.size + 1 < w5.heap.size := (by omega)
  have y5_0_0 : w.heap.size < w5.heap.size := (by omega)
  have y5_0_p1 : w.heap.size < w5.heap.size + 1 := (by omega)
  have y5_0_p2 : w.heap.size < w5.heap.size + 1 + 1 := (by omega)
  have y5_2_1 : w2.heap.size + 1 < w5.heap.size := (by omega)
  have y5_2_0 : w2.heap.size < w5.heap.size := (by omega)
  have y5_2_p1 : w2.heap.size < w5.heap.size + 1 := (by omega)
  have y5_2_p2 : w2.heap.size < w5.heap.size + 1 + 1 := (by omega)
  have y5_3_1 : w3.heap.size + 1 < w5.heap.size := (by omega)
  have y5_3_0 : w3.heap.size < w5.heap.size := (by omega)
  have y5_3_p1 : w3.heap.size < w5.heap.size + 1 := (by omega)
  have y5_3_p2 : w3.heap.size < w5.heap.size + 1 + 1 := (by omega)
  have y5_4_1 : w4.heap.size + 1 < w5.heap.size := (by omega)
  have y5_4_0 : w4.heap.size < w5.heap.size := (by omega)
  have y5_4_p1 : w4.heap.size < w5.heap.size + 1 := (by omega)
  have y5_4_p2 : w4.heap.size < w5.heap.size + 1 + 1 := (by omega)
  clear hB
  clear A4
  go_wp2
  go_ret
  exact ⟨rfl, by repeat (first | with_reducible exact D5 | with_reducible apply bdrew | with_reducible apply bdrewN | with_reducible apply balloc | ((with_reducible refine bset ?_ ?_ _); rotate_left; (first | omega | (simp <;> omega))))⟩

set_option maxHeartbeats 1000000 in
theorem walk_inverse_1C (a b c d p1 q1 c1 i1 p2 q2 c2 i2 p3 q3 i3 i4 : Int) (n1 : ¬ c1 = 0) (nc : ¬ c = 0) (A1 : ∀ w : World, Calls Try.prog 15 #[.agg #[.int .i64 a, .int .i64 b], .agg #[.int .i64 c, .int .i64 d]] w fun e w' => e = .returned (.tuple #[.agg #[.int .i64 p1, .int .i64 q1], .agg #[.int .i64 c1, .int .i64 i1]]) ∧ Below w.heap.size w w') (A2 : ∀ w : World, Calls Try.prog 17 #[.agg #[.int .i64 p1, .int .i64 q1], .agg #[.int .i64 c, .int .i64 d]] w fun e w' => e = .returned (.tuple #[.agg #[.int .i64 p2, .int .i64 q2], .agg #[.int .i64 c2, .int .i64 i2]]) ∧ Below w.heap.size w w') (A3 : ∀ w : World, Calls Try.prog 16 #[.agg #[.int .i64 a, .int .i64 b], .agg #[.int .i64 c, .int .i64 d]] w fun e w' => e = .returned (.tuple #[.agg #[.int .i64 p3, .int .i64 q3], .agg #[.int .i64 0, .int .i64 i3]]) ∧ Below w.heap.size w w') (A4 : ∀ w : World, Calls Try.prog 18 #[.agg #[.int .i64 p3, .int .i64 q3], .agg #[.int .i64 c, .int .i64 d]] w fun e w' => e = .returned (.tuple #[.agg #[.int .i64 a, .int .i64 b], .agg #[.int .i64 0, .int .i64 i4]]) ∧ Below w.heap.size w w') (w : World) :
    Calls Try.prog 6 #[.agg #[.int .i64 a, .int .i64 b], .agg #[.int .i64 c, .int .i64 d]] w fun e w' => e = .returned (.bool true) ∧ Below w.heap.size w w' := by
  have b1 := bb_no n1
  have b1' := bn_yes n1
  have bc' := bb_no nc
  go_enter Try.func6, Try.ntmps6
  go_wp2_with fail
  refine (example_any _).mono ?_
  rintro e w1 ⟨rfl, hB⟩
  have D1 := dstep w hB (by repeat (first | with_reducible exact Below.refl _ _ | with_reducible apply bdrew | with_reducible apply bdrewN | with_reducible apply balloc | ((with_reducible refine bset ?_ ?_ _); rotate_left; (first | omega | (simp <;> omega)))))
  have d1s := D1.size
  obtain ⟨C0, F1⟩ := Cls.first (l := [(w.heap.size, 0, .int .i64 a), (w.heap.size, 1, .int .i64 b), (w.heap.size + 1, 0, .int .i64 c), (w.heap.size + 1, 1, .int .i64 d)]) hB (by simp [Cls, go_sem])
  simp only [Cls, and_true] at F1
  have B1 := hB
  have hs1 := hB.size
  try simp at hs1
  have hb1 := B1.size
  try simp at hb1
  have y1_0_1 : w.heap.size + 1 < w1.heap.size := (by omega)
  have y1_0_0 : w.heap.size < w1.heap.size := (by omega)
  have y1_0_p1 : w.heap.size < w1.heap.size + 1 := (by omega)
  have y1_0_p2 : w.heap.size < w1.heap.size + 1 + 1 := (by omega)
  clear hB
  go_wp2_with fail
  refine (A1 _).mono ?_
  rintro e w2 ⟨rfl, hB⟩
  have D2 := dstep w hB (by repeat (first | with_reducible exact D1 | with_reducible apply bdrew | with_reducible apply bdrewN | with_reducible apply balloc | ((with_reducible refine bset ?_ ?_ _); rotate_left; (first | omega | (simp <;> omega)))))
  have d2s := D2.size
  have B2 := bstep B1 hB (by repeat (first | with_reducible exact B1 | with_reducible apply bdrew | with_reducible apply bdrewN | with_reducible apply balloc | ((with_reducible refine bset ?_ ?_ _); rotate_left; (first | omega | (simp <;> omega)))))
  have F2 := C0.below B2
  simp only [Cls, and_true] at F2
  have hs2 := hB.size
  try simp at hs2
  have y2_0_1 : w.heap.size + 1 < w2.heap.size := (by omega)
  have y2_0_0 : w.heap.size < w2.heap.size := (by omega)
  have y2_0_p1 : w.heap.size < w2.heap.size + 1 := (by omega)
  have y2_0_p2 : w.heap.size < w2.heap.size + 1 + 1 := (by omega)
  clear hB
  clear A1
  go_wp2_with fail
  refine (A2 _).mono ?_
  rintro e w3 ⟨rfl, hB⟩
  have D3 := dstep w hB (by repeat (first | with_reducible exact D2 | with_reducible apply bdrew | with_reducible apply bdrewN | with_reducible apply balloc | ((with_reducible refine bset ?_ ?_ _); rotate_left; (first | omega | (simp <;> omega)))))
  have d3s := D3.size
  have B3 := bstep B1 hB (by repeat (first | with_reducible exact B2 | with_reducible apply bdrew | with_reducible apply bdrewN | with_reducible apply balloc | ((with_reducible refine bset ?_ ?_ _); rotate_left; (first | omega | (simp <;> omega)))))
  have F3 := C0.below B3
  simp only [Cls, and_true] at F3
  have G3 := Cls.below (l := [(w2.heap.size, 0, .int .i64 p1), (w2.heap.size, 1, .int .i64 q1), (w2.heap.size + 1, 0, .int .i64 c1), (w2.heap.size + 1, 1, .int .i64 i1)]) hB (by simp [Cls, go_sem, F2, y2_0_1, y2_0_0, y2_0_p1, y2_0_p2])
  simp only [Cls, and_true] at G3
  have hs3 := hB.size
  try simp at hs3
  have y3_0_1 : w.heap.size + 1 < w3.heap.size := (by omega)
  have y3_0_0 : w.heap.size < w3.heap.size := (by omega)
  have y3_0_p1 : w.heap.size < w3.heap.size + 1 := (by omega)
  have y3_0_p2 : w.heap.size < w3.heap.size + 1 + 1 := (by omega)
  have y3_2_1 : w2.heap.size + 1 < w3.heap.size := (by omega)
  have y3_2_0 : w2.heap.size < w3.heap.size := (by omega)
  have y3_2_p1 : w2.heap.size < w3.heap.size + 1 := (by omega)
  have y3_2_p2 : w2.heap.size < w3.heap.size + 1 + 1 := (by omega)
  clear hB
  clear A2
  go_wp2_with fail
  refine (A3 _).mono ?_
  rintro e w4 ⟨rfl, hB⟩
  have D4 := dstep w hB (by repeat (first | with_reducible exact D3 | with_reducible apply bdrew | with_reducible apply bdrewN | with_reducible apply balloc | ((with_reducible refine bset ?_ ?_ _); rotate_left; (first | omega | (simp <;> omega)))))
  have d4s := D4.size
  have B4 := bstep B1 hB (by repeat (first | with_reducible exact B3 | with_reducible apply bdrew | with_reducible apply bdrewN | with_reducible apply balloc | ((with_reducible refine bset ?_ ?_ _); rotate_left; (first | omega | (simp <;> omega)))))
  have F4 := C0.below B4
  simp only [Cls, and_true] at F4
  have G4 := Cls.below (l := [(w2.heap.size, 0, .int .i64 p1), (w2.heap.size, 1, .int .i64 q1), (w2.heap.size + 1, 0, .int .i64 c1), (w2.heap.size + 1, 1, .int .i64 i1), (w3.heap.size, 0, .int .i64 p2), (w3.heap.size, 1, .int .i64 q2), (w3.heap.size + 1, 0, .int .i64 c2), (w3.heap.size + 1, 1, .int .i64 i2)]) hB (by simp [Cls, go_sem, F3, G3, y3_0_1, y3_0_0, y3_0_p1, y3_0_p2, y3_2_1, y3_2_0, y3_2_p1, y3_2_p2])
  simp only [Cls, and_true] at G4
  have hs4 := hB.size
  try simp at hs4
  have y4_0_1 : w.heap.size + 1 < w4.heap.size := (by omega)
  have y4_0_0 : w.heap.size < w4.heap.size := (by omega)
  have y4_0_p1 : w.heap.size < w4.heap.size + 1 := (by omega)
  have y4_0_p2 : w.heap.size < w4.heap.size + 1 + 1 := (by omega)
  have y4_2_1 : w2.heap.size + 1 < w4.heap.size := (by omega)
  have y4_2_0 : w2.heap.size < w4.heap.size := (by omega)
  have y4_2_p1 : w2.heap.size < w4.heap.size + 1 := (by omega)
  have y4_2_p2 : w2.heap.size < w4.heap.size + 1 + 1 := (by omega)
  have y4_3_1 : w3.heap.size + 1 < w4.heap.size := (by omega)
  have y4_3_0 : w3.heap.size < w4.heap.size := (by omega)
  have y4_3_p1 : w3.heap.size < w4.heap.size + 1 := (by omega)
  have y4_3_p2 : w3.heap.size < w4.heap.size + 1 + 1 := (by omega)
  clear hB
  clear A3
  go_wp2_with fail
  refine (A4 _).mono ?_
  rintro e w5 ⟨rfl, hB⟩
  have D5 := dstep w hB (by repeat (first | with_reducible exact D4 | with_reducible apply bdrew | with_reducible apply bdrewN | with_reducible apply balloc | ((with_reducible refine bset ?_ ?_ _); rotate_left; (first | omega | (simp <;> omega)))))
  have d5s := D5.size
  have B5 := bstep B1 hB (by repeat (first | with_reducible exact B4 | with_reducible apply bdrew | with_reducible apply bdrewN | with_reducible apply balloc | ((with_reducible refine bset ?_ ?_ _); rotate_left; (first | omega | (simp <;> omega)))))
  have F5 := C0.below B5
  simp only [Cls, and_true] at F5
  have G5 := Cls.below (l := [(w2.heap.size, 0, .int .i64 p1), (w2.heap.size, 1, .int .i64 q1), (w2.heap.size + 1, 0, .int .i64 c1), (w2.heap.size + 1, 1, .int .i64 i1), (w3.heap.size, 0, .int .i64 p2), (w3.heap.size, 1, .int .i64 q2), (w3.heap.size + 1, 0, .int .i64 c2), (w3.heap.size + 1, 1, .int .i64 i2), (w4.heap.size, 0, .int .i64 p3), (w4.heap.size, 1, .int .i64 q3), (w4.heap.size + 1, 0, .int .i64 0), (w4.heap.size + 1, 1, .int .i64 i3)]) hB (by simp [Cls, go_sem, F4, G4, y4_0_1, y4_0_0, y4_0_p1, y4_0_p2, y4_2_1, y4_2_0, y4_2_p1, y4_2_p2, y4_3_1, y4_3_0, y4_3_p1, y4_3_p2])
  simp only [Cls, and_true] at G5
  have hs5 := hB.size
  try simp at hs5
  have y5_0_1 : w.heap.size + 1 < w5.heap.size := (by omega)
  have y5_0_0 : w.heap.size < w5.heap.size := (by omega)
  have y5_0_p1 : w.heap.size < w5.heap.size + 1 := (by omega)
  have y5_0_p2 : w.heap.size < w5.heap.size + 1 + 1 := (by omega)
  have y5_2_1 : w2.heap.size + 1 < w5.heap.size := (by omega)
  have y5_2_0 : w2.heap.size < w5.heap.size := (by omega)
  have y5_2_p1 : w2.heap.size < w5.heap.size + 1 := (by omega)
  have y5_2_p2 : w2.heap.size < w5.heap.size + 1 + 1 := (by omega)
  have y5_3_1 : w3.heap.size + 1 < w5.heap.size := (by omega)
  have y5_3_0 : w3.heap.size < w5.heap.size := (by omega)
  have y5_3_p1 : w3.heap.size < w5.heap.size + 1 := (by omega)
  have y5_3_p2 : w3.heap.size < w5.heap.size + 1 + 1 := (by omega)
  have y5_4_1 : w4.heap.size + 1 < w5.heap.size := (by omega)
  have y5_4_0 : w4.heap.size < w5.heap.size := (by omega)
  have y5_4_p1 : w4.heap.size < w5.heap.size + 1 := (by omega)
  have y5_4_p2 : w4.heap.size < w5.heap.size + 1 + 1 := (by omega)
  clear hB
  clear A4
  go_wp2
  go_ret
  exact ⟨rfl, by repeat (first | with_reducible exact D5 | with_reducible apply bdrew | with_reducible apply bdrewN | with_reducible apply balloc | ((with_reducible refine bset ?_ ?_ _); rotate_left; (first | omega | (simp <;> omega))))⟩

theorem walk_inverse_all (a b c d p1 q1 c1 i1 p2 q2 c2 i2 p3 q3 c3 i3 p4 q4 c4 i4 : Int) (A1 : ∀ w : World, Calls Try.prog 15 #[.agg #[.int .i64 a, .int .i64 b], .agg #[.int .i64 c, .int .i64 d]] w fun e w' => e = .returned (.tuple #[.agg #[.int .i64 p1, .int .i64 q1], .agg #[.int .i64 c1, .int .i64 i1]]) ∧ Below w.heap.size w w') (A2 : ∀ w : World, Calls Try.prog 17 #[.agg #[.int .i64 p1, .int .i64 q1], .agg #[.int .i64 c, .int .i64 d]] w fun e w' => e = .returned (.tuple #[.agg #[.int .i64 p2, .int .i64 q2], .agg #[.int .i64 c2, .int .i64 i2]]) ∧ Below w.heap.size w w') (A3 : ∀ w : World, Calls Try.prog 16 #[.agg #[.int .i64 a, .int .i64 b], .agg #[.int .i64 c, .int .i64 d]] w fun e w' => e = .returned (.tuple #[.agg #[.int .i64 p3, .int .i64 q3], .agg #[.int .i64 c3, .int .i64 i3]]) ∧ Below w.heap.size w w') (A4 : ∀ w : World, Calls Try.prog 18 #[.agg #[.int .i64 p3, .int .i64 q3], .agg #[.int .i64 c, .int .i64 d]] w fun e w' => e = .returned (.tuple #[.agg #[.int .i64 p4, .int .i64 q4], .agg #[.int .i64 c4, .int .i64 i4]]) ∧ Below w.heap.size w w')
    (r1 : c1 = 0 → p2 = a ∧ q2 = b ∧ c2 = 0) (r2 : c3 = 0 → ¬ c = 0 → p4 = a ∧ q4 = b ∧ c4 = 0) (w : World) :
    Calls Try.prog 6 #[.agg #[.int .i64 a, .int .i64 b], .agg #[.int .i64 c, .int .i64 d]] w fun e w' => e = .returned (.bool true) ∧ Below w.heap.size w w' := by
  by_cases s1 : c1 = 0
  · obtain ⟨e1, e2, e3⟩ := r1 s1
    subst s1; subst e1; subst e2; subst e3
    by_cases s3 : c3 = 0
    · by_cases sc : c = 0
      · subst s3; subst sc
        exact walk_inverse_0B _ _ _ _ _ _ _ _ _ _ _ _ _ _ A1 A2 A3 A4 w
      · obtain ⟨e1, e2, e3⟩ := r2 s3 sc
        subst s3; subst e1; subst e2; subst e3
        exact walk_inverse_0C _ _ _ _ _ _ _ _ _ _ _ _ sc A1 A2 A3 A4 w
    · exact walk_inverse_0A _ _ _ _ _ _ _ _ _ _ _ _ _ _ _ _ s3 A1 A2 A3 A4 w
  · skip
    by_cases s3 : c3 = 0
    · by_cases sc : c = 0
      · subst s3; subst sc
        exact walk_inverse_1B _ _ _ _ _ _ _ _ _ _ _ _ _ _ _ _ _ _ s1 A1 A2 A3 A4 w
      · obtain ⟨e1, e2, e3⟩ := r2 s3 sc
        subst s3; subst e1; subst e2; subst e3
        exact walk_inverse_1C _ _ _ _ _ _ _ _ _ _ _ _ _ _ _ _ s1 sc A1 A2 A3 A4 w
    · exact walk_inverse_1A _ _ _ _ _ _ _ _ _ _ _ _ _ _ _ _ _ _ _ _ s1 s3 A1 A2 A3 A4 w

theorem walk_inverse (a b c d : Int) (w : World) :
    Calls Try.prog 6 #[.agg #[.int .i64 a, .int .i64 b], .agg #[.int .i64 c, .int .i64 d]] w fun e w' => e = .returned (.bool true) ∧ Below w.heap.size w w' := by
  refine walk_inverse_all a b c d _ _ _ _ _ _ _ _ _ _ _ _ _ _ _ _ (add_any a b c d) (sub_any _ _ c d) (mul_any a b c d) (div_any _ _ c d) ?_ ?_ w
  · intro hs
    generalize hp : gn (bc a b c d) (a * d + c * b) (b * d) = p at *
    generalize hq : gd (bc a b c d) (a * d + c * b) (b * d) = q at *
    have f1 := op_fact (a := a) (b := b) (c := c) (d := d) (n := a * d + c * b) (m := b * d) hs bd_ne
    rw [hp, hq] at f1
    obtain ⟨g1, g2, _, _, _, _, g3, g4⟩ := f1
    obtain ⟨k1, _⟩ := bc_mk g3 g2
    obtain ⟨e1, e2, e3⟩ := q_valid (n := p * d - c * q) (m := q * d) (bd_ne g3 g2) g1 (by have := den_ne g2; grind)
    obtain ⟨e4, e5, e6, _⟩ := g_fit 0 k1 e3
    exact ⟨e4.trans e1, e5.trans e2, e6⟩
  · intro hs hc
    generalize hp : gn (bc a b c d) (a * c) (b * d) = p at *
    generalize hq : gd (bc a b c d) (a * c) (b * d) = q at *
    have f1 := op_fact (a := a) (b := b) (c := c) (d := d) (n := a * c) (m := b * d) hs bd_ne
    rw [hp, hq] at f1
    obtain ⟨g1, g2, _, _, _, _, g3, g4⟩ := f1
    obtain ⟨k1, _⟩ := bc_mk g3 g2
    have k2 : dk p q c d = 0 := by unfold dk; rw [if_pos k1, if_neg hc]
    obtain ⟨e1, e2, e3⟩ := q_valid (n := p * d) (m := q * c) (Int.mul_ne_zero (den_ne g3) hc) g1 (by grind)
    obtain ⟨e4, e5, e6, _⟩ := g_fit 0 k2 e3
    exact ⟨e4.trans e1, e5.trans e2, e6⟩

namespace fractionInverse
open Go.ChangeShapes Go.WideShapes Go.ChangeAt Go.RowKit

set_option maxRecDepth 100000 in
theorem lifted (os : Os) (started : os.Started) (H : Type) (enc : TypeId × Value → H) :
    ReturnsInHanded {} Try.checked os 6 .any (Rows.fractionInverseSpec.pre6 enc Try.prog Try.f6 Rows.fractionInverseRow.domain false) (Rows.fractionInverseSpec.post enc Try.prog Try.f6 false true false false) := by
  refine returnsInHanded_of_change (C := Try.checked) own_knob started (by kernel_rfl) Try.func6
    (ChangeSpec.witness6 (enc := enc) (C := Try.checked) false ⟨#[], #[.agg #[.int .i64 0, .int .i64 0], .agg #[.int .i64 0, .int .i64 0]], []⟩ 8 (by kernel_rfl) (by kernel_rfl) (by kernel_rfl) (by kernel_rfl)) ?_
  intro W base args ds gs before hval0 hW _ hsz
  have hval : ∀ (j : Nat) t v, Try.f6.params[j]? = some t → args[j]? = some v → Value.okWide Try.prog W .any base t v := hval0
  have hpost := fun (W' : World) (hfn : gs = [] → Rows.fractionInverseSpec.fn H (ds ++ gs) = { results := [.lit (.bool true)], args := ds }) (hb : Below W.heap.size W W') => law_post (f := Try.f6) (tb := 4) laid_out_B Try.underlying4 rfl (by kernel_rfl) rfl hfn hW hb
  obtain ⟨p, q, hA0, hV, hpq, hfz, hnd⟩ := hW
  have hA : DataW.TrodAll enc Try.prog W 0 (fun _ => true) true Try.f6.params.toList args.toList ds p := hA0
  rw [Try.params6] at hA hval
  obtain ⟨v0, vs0, d0, ds0, p0, q0, hargs, rfl, hp0, h0, r0⟩ := trodAll_cons hA
  obtain ⟨v1, vs1, d1, ds1, p1, q1, rfl, rfl, hp1, h1, r1⟩ := trodAll_cons r0
  obtain ⟨rfl, rfl, hpn⟩ := trodAll_nil r1
  obtain rfl : args = #[v0, v1] := by cases args; simp_all
  obtain ⟨c0, e0, y0, x0, m0, rfl, rfl, rfl, hy0, hx0⟩ := Go.Joins.open_agg2 Try.underlying24 (by kernel_rfl) cells_fraction (hval 0 24 v0 rfl rfl) h0
  obtain ⟨a0, ea0, rfl, wa0⟩ := DataW.trod_int Try.underlying3 hy0
  obtain ⟨b0, eb0, rfl, wb0⟩ := DataW.trod_int Try.underlying3 hx0
  simp at ea0 eb0
  subst ea0 eb0
  obtain ⟨c1, e1, y1, x1, m1, rfl, rfl, rfl, hy1, hx1⟩ := Go.Joins.open_agg2 Try.underlying24 (by kernel_rfl) cells_fraction (hval 1 24 v1 rfl rfl) h1
  obtain ⟨a1, ea1, rfl, wa1⟩ := DataW.trod_int Try.underlying3 hy1
  obtain ⟨b1, eb1, rfl, wb1⟩ := DataW.trod_int Try.underlying3 hx1
  simp at ea1 eb1
  subst ea1 eb1
  refine (walk_inverse a0 b0 a1 b1 W).mono fun e W' ⟨he, hb⟩ => ?_
  subst he
  exact ⟨_, rfl, hpost W' (fun hg => by subst hg; rfl) hb⟩

theorem proved : Rows.FractionInverseSaid :=
  OpenClaim.holds_of_wide 6 Try.f6 rfl rfl rfl rfl rfl rfl rfl ⟨rfl, rfl, rfl, rfl, rfl⟩ rfl rfl rfl rfl rfl (by kernel_rfl) Try.func6 (by kernel_rfl)
    (of_decide_eq_true (by kernel_rfl)) (by unfold Func.isWrapper; first | (rw [if_pos (by decide +kernel)]; kernel_rfl) | (rw [if_neg (by decide +kernel)]; exact ⟨rfl, rfl⟩))
    (fun os started H enc _ => lifted os started H enc)
#print axioms proved
end fractionInverse

end Go.Proofs.Ytmlgaofbifejaaa
