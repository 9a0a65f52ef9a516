/-
  FractionRing returns true: sums are associative, and products are distributive over sums.
-/
import Derived.Test.YtmlgaofbifejaaaFany
import Derived.Test.YtmlgaofbifejaaaFfact
import Derived.Test.YtmlgaofbifejaaaBlaw
import Derived.ProofKit
import Derived.OpenShut
import Derived.Lib.SmallJoins
namespace Go.Proofs.Ytmlgaofbifejaaa
open Go.RowKit
set_option linter.unusedVariables false
set_option linter.unusedSimpArgs false

set_option maxHeartbeats 1000000 in
theorem walk_ring_00 (a b c d e f p1 q1 i1 p2 q2 i2 p3 q3 i3 i4 p5 q5 i5 p6 q6 i6 p7 q7 i7 i8 : Int) (A1 : ∀ w : World, Calls Try.prog 15 #[.agg #[.int .i64 a, .int .i64 b], .agg #[.int .i64 c, .int .i64 d]] w fun e w' => e = .returned (.tuple #[.agg #[.int .i64 p1, .int .i64 q1], .agg #[.int .i64 0, .int .i64 i1]]) ∧ Below w.heap.size w w') (A2 : ∀ w : World, Calls Try.prog 15 #[.agg #[.int .i64 c, .int .i64 d], .agg #[.int .i64 e, .int .i64 f]] w fun e w' => e = .returned (.tuple #[.agg #[.int .i64 p2, .int .i64 q2], .agg #[.int .i64 0, .int .i64 i2]]) ∧ Below w.heap.size w w') (A3 : ∀ w : World, Calls Try.prog 15 #[.agg #[.int .i64 p1, .int .i64 q1], .agg #[.int .i64 e, .int .i64 f]] w fun e w' => e = .returned (.tuple #[.agg #[.int .i64 p3, .int .i64 q3], .agg #[.int .i64 0, .int .i64 i3]]) ∧ Below w.heap.size w w') (A4 : ∀ w : World, Calls Try.prog 15 #[.agg #[.int .i64 a, .int .i64 b], .agg #[.int .i64 p2, .int .i64 q2]] w fun e w' => e = .returned (.tuple #[.agg #[.int .i64 p3, .int .i64 q3], .agg #[.int .i64 0, .int .i64 i4]]) ∧ Below w.heap.size w w') (A5 : ∀ w : World, Calls Try.prog 16 #[.agg #[.int .i64 a, .int .i64 b], .agg #[.int .i64 p2, .int .i64 q2]] w fun e w' => e = .returned (.tuple #[.agg #[.int .i64 p5, .int .i64 q5], .agg #[.int .i64 0, .int .i64 i5]]) ∧ Below w.heap.size w w') (A6 : ∀ w : World, Calls Try.prog 16 #[.agg #[.int .i64 a, .int .i64 b], .agg #[.int .i64 c, .int .i64 d]] w fun e w' => e = .returned (.tuple #[.agg #[.int .i64 p6, .int .i64 q6], .agg #[.int .i64 0, .int .i64 i6]]) ∧ Below w.heap.size w w') (A7 : ∀ w : World, Calls Try.prog 16 #[.agg #[.int .i64 a, .int .i64 b], .agg #[.int .i64 e, .int .i64 f]] w fun e w' => e = .returned (.tuple #[.agg #[.int .i64 p7, .int .i64 q7], .agg #[.int .i64 0, .int .i64 i7]]) ∧ Below w.heap.size w w') (A8 : ∀ w : World, Calls Try.prog 15 #[.agg #[.int .i64 p6, .int .i64 q6], .agg #[.int .i64 p7, .int .i64 q7]] w fun e w' => e = .returned (.tuple #[.agg #[.int .i64 p5, .int .i64 q5], .agg #[.int .i64 0, .int .i64 i8]]) ∧ Below w.heap.size w w') (w : World) :
    Calls Try.prog 5 #[.agg #[.int .i64 a, .int .i64 b], .agg #[.int .i64 c, .int .i64 d], .agg #[.int .i64 e, .int .i64 f]] w fun e w' => e = .returned (.bool true) ∧ Below w.heap.size w w' := by
  go_enter Try.func5, Try.ntmps5
  go_wp2_with fail
  refine (example_any _).mono ?_
  rintro e w1 ⟨rfl, hB⟩
  have D1 := dstep w hB (by repeat (first | with_reducible exact Below.refl _ _ | with_reducible apply bdrew | with_reducible apply bdrewN | with_reducible apply balloc | ((with_reducible refine bset ?_ ?_ _); rotate_left; (first | omega | (simp <;> omega)))))
  have d1s := D1.size
  obtain ⟨C0, F1⟩ := Cls.first (l := [(w.heap.size, 0, .int .i64 a), (w.heap.size, 1, .int .i64 b), (w.heap.size + 1, 0, .int .i64 c), (w.heap.size + 1, 1, .int .i64 d), (w.heap.size + 1 + 1, 0, .int .i64 e), (w.heap.size + 1 + 1, 1, .int .i64 f)]) hB (by simp [Cls, go_sem])
  simp only [Cls, and_true] at F1
  have B1 := hB
  have hs1 := hB.size
  try simp at hs1
  have hb1 := B1.size
  try simp at hb1
  have y1_0_2 : w.heap.size + 1 + 1 < w1.heap.size := (by omega)
  have y1_0_1 : w.heap.size + 1 < w1.heap.size := (by omega)
  have y1_0_0 : w.heap.size < w1.heap.size := (by omega)
  have y1_0_p1 : w.heap.size < w1.heap.size + 1 := (by omega)
  have y1_0_p2 : w.heap.size < w1.heap.size + 1 + 1 := (by omega)
  clear hB
  go_wp2_with fail
  refine (A1 _).mono ?_
  rintro e w2 ⟨rfl, hB⟩
  have D2 := dstep w hB (by repeat (first | with_reducible exact D1 | with_reducible apply bdrew | with_reducible apply bdrewN | with_reducible apply balloc | ((with_reducible refine bset ?_ ?_ _); rotate_left; (first | omega | (simp <;> omega)))))
  have d2s := D2.size
  have B2 := bstep B1 hB (by repeat (first | with_reducible exact B1 | with_reducible apply bdrew | with_reducible apply bdrewN | with_reducible apply balloc | ((with_reducible refine bset ?_ ?_ _); rotate_left; (first | omega | (simp <;> omega)))))
  have F2 := C0.below B2
  simp only [Cls, and_true] at F2
  have hs2 := hB.size
  try simp at hs2
  have y2_0_2 : w.heap.size + 1 + 1 < w2.heap.size := (by omega)
  have y2_0_1 : w.heap.size + 1 < w2.heap.size := (by omega)
  have y2_0_0 : w.heap.size < w2.heap.size := (by omega)
  have y2_0_p1 : w.heap.size < w2.heap.size + 1 := (by omega)
  have y2_0_p2 : w.heap.size < w2.heap.size + 1 + 1 := (by omega)
  clear hB
  clear A1
  go_wp2_with fail
  refine (A2 _).mono ?_
  rintro e w3 ⟨rfl, hB⟩
  have D3 := dstep w hB (by repeat (first | with_reducible exact D2 | with_reducible apply bdrew | with_reducible apply bdrewN | with_reducible apply balloc | ((with_reducible refine bset ?_ ?_ _); rotate_left; (first | omega | (simp <;> omega)))))
  have d3s := D3.size
  have B3 := bstep B1 hB (by repeat (first | with_reducible exact B2 | with_reducible apply bdrew | with_reducible apply bdrewN | with_reducible apply balloc | ((with_reducible refine bset ?_ ?_ _); rotate_left; (first | omega | (simp <;> omega)))))
  have F3 := C0.below B3
  simp only [Cls, and_true] at F3
  have G3 := Cls.below (l := [(w2.heap.size, 0, .int .i64 p1), (w2.heap.size, 1, .int .i64 q1), (w2.heap.size + 1, 0, .int .i64 0), (w2.heap.size + 1, 1, .int .i64 i1)]) hB (by simp [Cls, go_sem, F2, y2_0_2, y2_0_1, y2_0_0, y2_0_p1, y2_0_p2])
  simp only [Cls, and_true] at G3
  have hs3 := hB.size
  try simp at hs3
  have y3_0_2 : w.heap.size + 1 + 1 < w3.heap.size := (by omega)
  have y3_0_1 : w.heap.size + 1 < w3.heap.size := (by omega)
  have y3_0_0 : w.heap.size < w3.heap.size := (by omega)
  have y3_0_p1 : w.heap.size < w3.heap.size + 1 := (by omega)
  have y3_0_p2 : w.heap.size < w3.heap.size + 1 + 1 := (by omega)
  have y3_2_1 : w2.heap.size + 1 < w3.heap.size := (by omega)
  have y3_2_0 : w2.heap.size < w3.heap.size := (by omega)
  have y3_2_p1 : w2.heap.size < w3.heap.size + 1 := (by omega)
  have y3_2_p2 : w2.heap.size < w3.heap.size + 1 + 1 := (by omega)
  clear hB
  clear A2
  go_wp2_with fail
  refine (A3 _).mono ?_
  rintro e w4 ⟨rfl, hB⟩
  have D4 := dstep w hB (by repeat (first | with_reducible exact D3 | with_reducible apply bdrew | with_reducible apply bdrewN | with_reducible apply balloc | ((with_reducible refine bset ?_ ?_ _); rotate_left; (first | omega | (simp <;> omega)))))
  have d4s := D4.size
  have B4 := bstep B1 hB (by repeat (first | with_reducible exact B3 | with_reducible apply bdrew | with_reducible apply bdrewN | with_reducible apply balloc | ((with_reducible refine bset ?_ ?_ _); rotate_left; (first | omega | (simp <;> omega)))))
  have F4 := C0.below B4
  simp only [Cls, and_true] at F4
  have G4 := Cls.below (l := [(w2.heap.size, 0, .int .i64 p1), (w2.heap.size, 1, .int .i64 q1), (w2.heap.size + 1, 0, .int .i64 0), (w2.heap.size + 1, 1, .int .i64 i1), (w3.heap.size, 0, .int .i64 p2), (w3.heap.size, 1, .int .i64 q2), (w3.heap.size + 1, 0, .int .i64 0), (w3.heap.size + 1, 1, .int .i64 i2)]) hB (by simp [Cls, go_sem, F3, G3, y3_0_2, y3_0_1, y3_0_0, y3_0_p1, y3_0_p2, y3_2_1, y3_2_0, y3_2_p1, y3_2_p2])
  simp only [Cls, and_true] at G4
  have hs4 := hB.size
  try simp at hs4
  have y4_0_2 : w.heap.size + 1 + 1 < w4.heap.size := (by omega)
  have y4_0_1 : w.heap.size + 1 < w4.heap.size := (by omega)
  have y4_0_0 : w.heap.size < w4.heap.size := (by omega)
  have y4_0_p1 : w.heap.size < w4.heap.size + 1 := (by omega)
  have y4_0_p2 : w.heap.size < w4.heap.size + 1 + 1 := (by omega)
  have y4_2_1 : w2.heap.size + 1 < w4.heap.size := (by omega)
  have y4_2_0 : w2.heap.size < w4.heap.size := (by omega)
  have y4_2_p1 : w2.heap.size < w4.heap.size + 1 := (by omega)
  have y4_2_p2 : w2.heap.size < w4.heap.size + 1 + 1 := (by omega)
  have y4_3_1 : w3.heap.size + 1 < w4.heap.size := (by omega)
  have y4_3_0 : w3.heap.size < w4.heap.size := (by omega)
  have y4_3_p1 : w3.heap.size < w4.heap.size + 1 := (by omega)
  have y4_3_p2 : w3.heap.size < w4.heap.size + 1 + 1 := (by omega)
  clear hB
  clear A3
  go_wp2_with fail
  refine (A4 _).mono ?_
  rintro e w5 ⟨rfl, hB⟩
  have D5 := dstep w hB (by repeat (first | with_reducible exact D4 | with_reducible apply bdrew | with_reducible apply bdrewN | with_reducible apply balloc | ((with_reducible refine bset ?_ ?_ _); rotate_left; (first | omega | (simp <;> omega)))))
  have d5s := D5.size
  have B5 := bstep B1 hB (by repeat (first | with_reducible exact B4 | with_reducible apply bdrew | with_reducible apply bdrewN | with_reducible apply balloc | ((with_reducible refine bset ?_ ?_ _); rotate_left; (first | omega | (simp <;> omega)))))
  have F5 := C0.below B5
  simp only [Cls, and_true] at F5
  have G5 := Cls.below (l := [(w2.heap.size, 0, .int .i64 p1), (w2.heap.size, 1, .int .i64 q1), (w2.heap.size + 1, 0, .int .i64 0), (w2.heap.size + 1, 1, .int .i64 i1), (w3.heap.size, 0, .int .i64 p2), (w3.heap.size, 1, .int .i64 q2), (w3.heap.size + 1, 0, .int .i64 0), (w3.heap.size + 1, 1, .int .i64 i2), (w4.heap.size, 0, .int .i64 p3), (w4.heap.size, 1, .int .i64 q3), (w4.heap.size + 1, 0, .int .i64 0), (w4.heap.size + 1, 1, .int .i64 i3)]) hB (by simp [Cls, go_sem, F4, G4, y4_0_2, y4_0_1, y4_0_0, y4_0_p1, y4_0_p2, y4_2_1, y4_2_0, y4_2_p1, y4_2_p2, y4_3_1, y4_3_0, y4_3_p1, y4_3_p2])
  simp only [Cls, and_true] at G5
  have hs5 := hB.size
  try simp at hs5
  have y5_0_2 : w.heap.size + 1 + 1 < w5.heap.size := (by omega)
  have y5_0_1 : w.heap.size + 1 < w5.heap.size := (by omega)
  have y5_0_0 : w.heap.size < w5.heap.size := (by omega)
  have y5_0_p1 : w.heap.size < w5.heap.size + 1 := (by omega)
  have y5_0_p2 : w.heap.size < w5.heap.size + 1 + 1 := (by omega)
  have y5_2_1 : w2.heap.size + 1 < w5.heap.size := (by omega)
  have y5_2_0 : w2.heap.size < w5.heap.size := (by omega)
  have y5_2_p1 : w2.heap.size < w5.heap.size + 1 := (by omega)
  have y5_2_p2 : w2.heap.size < w5.heap.size + 1 + 1 := (by omega)
  have y5_3_1 : w3.heap.size + 1 < w5.heap.size := (by omega)
  have y5_3_0 : w3.heap.size < w5.heap.size := (by omega)
  have y5_3_p1 : w3.heap.size < w5.heap.size + 1 := (by omega)
  have y5_3_p2 : w3.heap.size < w5.heap.size + 1 + 1 := (by omega)
  have y5_4_1 : w4.heap.size + 1 < w5.heap.size := (by omega)
  have y5_4_0 : w4.heap.size < w5.heap.size := (by omega)
  have y5_4_p1 : w4.heap.size < w5.heap.size + 1 := (by omega)
  have y5_4_p2 : w4.heap.size < w5.heap.size + 1 + 1 := (by omega)
  clear hB
  clear A4
  go_wp2_with fail
  refine (A5 _).mono ?_
  rintro e w6 ⟨rfl, hB⟩
  have D6 := dstep w hB (by repeat (first | with_reducible exact D5 | with_reducible apply bdrew | with_reducible apply bdrewN | with_reducible apply balloc | ((with_reducible refine bset ?_ ?_ _); rotate_left; (first | omega | (simp <;> omega)))))
  have d6s := D6.size
  have B6 := bstep B1 hB (by repeat (first | with_reducible exact B5 | with_reducible apply bdrew | with_reducible apply bdrewN | with_reducible apply balloc | ((with_reducible refine bset ?_ ?_ _); rotate_left; (first | omega | (simp <;> omega)))))
  have F6 := C0.below B6
  simp only [Cls, and_true] at F6
  have G6 := Cls.below (l := [(w2.heap.size, 0, .int .i64 p1), (w2.heap.size, 1, .int .i64 q1), (w2.heap.size + 1, 0, .int .i64 0), (w2.heap.size + 1, 1, .int .i64 i1), (w3.heap.size, 0, .int .i64 p2), (w3.heap.size, 1, .int .i64 q2), (w3.heap.size + 1, 0, .int .i64 0), (w3.heap.size + 1, 1, .int .i64 i2), (w4.heap.size, 0, .int .i64 p3), (w4.heap.size, 1, .int .i64 q3), (w4.heap.size + 1, 0, .int .i64 0), (w4.heap.size + 1, 1, .int .i64 i3), (w5.heap.size, 0, .int .i64 p3), (w5.heap.size, 1, .int .i64 q3), (w5.heap.size + 1, 0, .int .i64 0), (w5.heap.size + 1, 1, .int .i64 i4)]) hB (by simp [Cls, go_sem, F5, G5, y5_0_2, y5_0_1, y5_0_0, y5_0_p1, y5_0_p2, y5_2_1, y5_2_0, y5_2_p1, y5_2_p2, y5_3_1, y5_3_0, y5_3_p1, y5_3_p2, y5_4_1, y5_4_0, y5_4_p1, y5_4_p2])
  simp only [Cls, and_true] at G6
  have hs6 := hB.size
  try simp at hs6
  have y6_0_2 : w.heap.size + 1 + 1 < w6.heap.size := (by omega)
  have y6_0_1 : w.heap.size + 1 < w6.heap.size := (by omega)
  have y6_0_0 : w.heap.size < w6.heap.size := (by omega)
  have y6_0_p1 : w.heap.size < w6.heap.size + 1 := (by omega)
  have y6_0_p2 : w.heap.size < w6.heap.size + 1 + 1 := (by omega)
  have y6_2_1 : w2.heap.size + 1 < w6.heap.size := (by omega)
  have y6_2_0 : w2.heap.size < w6.heap.size := (by omega)
  have y6_2_p1 : w2.heap.size < w6.heap.size + 1 := (by omega)
  have y6_2_p2 : w2.heap.size < w6.heap.size + 1 + 1 := (by omega)
  have y6_3_1 : w3.heap.size + 1 < w6.heap.size := (by omega)
  have y6_3_0 : w3.heap.size < w6.heap.size := (by omega)
  have y6_3_p1 : w3.heap.size < w6.heap.size + 1 := (by omega)
  have y6_3_p2 : w3.heap.size < w6.heap.size + 1 + 1 := (by omega)
  have y6_4_1 : w4.heap.size + 1 < w6.heap.size := (by omega)
  have y6_4_0 : w4.heap.size < w6.heap.size := (by omega)
  have y6_4_p1 : w4.heap.size < w6.heap.size + 1 := (by omega)
  have y6_4_p2 : w4.heap.size < w6.heap.size + 1 + 1 := (by omega)
  have y6_5_1 : w5.heap.size + 1 < w6.heap.size := (by omega)
  have y6_5_0 : w5.heap.size < w6.heap.size := (by omega)
  have y6_5_p1 : w5.heap.size < w6.heap.size + 1 := (by omega)
  have y6_5_p2 : w5.heap.size < w6.heap.size + 1 + 1 := (by omega)
  clear hB
  clear A5
  go_wp2_with fail
  refine (A6 _).mono ?_
  rintro e w7 ⟨rfl, hB⟩
  have D7 := dstep w hB (by repeat (first | with_reducible exact D6 | with_reducible apply bdrew | with_reducible apply bdrewN | with_reducible apply balloc | ((with_reducible refine bset ?_ ?_ _); rotate_left; (first | omega | (simp <;> omega)))))
  have d7s := D7.size
  have B7 := bstep B1 hB (by repeat (first | with_reducible exact B6 | with_reducible apply bdrew | with_reducible apply bdrewN | with_reducible apply balloc | ((with_reducible refine bset ?_ ?_ _); rotate_left; (first | omega | (simp <;> omega)))))
  have F7 := C0.below B7
  simp only [Cls, and_true] at F7
  have G7 := Cls.below (l := [(w2.heap.size, 0, .int .i64 p1), (w2.heap.size, 1, .int .i64 q1), (w2.heap.size + 1, 0, .int .i64 0), (w2.heap.size + 1, 1, .int .i64 i1), (w3.heap.size, 0, .int .i64 p2), (w3.heap.size, 1, .int .i64 q2), (w3.heap.size + 1, 0, .int .i64 0), (w3.heap.size + 1, 1, .int .i64 i2), (w4.heap.size, 0, .int .i64 p3), (w4.heap.size, 1, .int .i64 q3), (w4.heap.size + 1, 0, .int .i64 0), (w4.heap.size + 1, 1, .int .i64 i3), (w5.heap.size, 0, .int .i64 p3), (w5.heap.size, 1, .int .i64 q3), (w5.heap.size + 1, 0, .int .i64 0), (w5.heap.size + 1, 1, .int .i64 i4), (w6.heap.size, 0, .int .i64 p5), (w6.heap.size, 1, .int .i64 q5), (w6.heap.size + 1, 0, .int .i64 0), (w6.heap.size + 1, 1, .int .i64 i5)]) hB (by simp [Cls, go_sem, F6, G6, y6_0_2, y6_0_1, y6_0_0, y6_0_p1, y6_0_p2, y6_2_1, y6_2_0, y6_2_p1, y6_2_p2, y6_3_1, y6_3_0, y6_3_p1, y6_3_p2, y6_4_1, y6_4_0, y6_4_p1, y6_4_p2, y6_5_1, y6_5_0, y6_5_p1, y6_5_p2])
  simp only [Cls, and_true] at G7
  have hs7 := hB.size
  try simp at hs7
  have y7_0_2 : w.heap.size + 1 + 1 < w7.heap.size := (by omega)
  have y7_0_1 : w.heap.size + 1 < w7.heap.size := (by omega)
  have y7_0_0 : w.heap.size < w7.heap.size := (by omega)
  have y7_0_p1 : w.heap.size < w7.heap.size + 1 := (by omega)
  have y7_0_p2 : w.heap.size < w7.heap.size + 1 + 1 := (by omega)
  have y7_2_1 : w2.heap.size + 1 < w7.heap.size := (by omega)
  have y7_2_0 : w2.heap.size < w7.heap.size := (by omega)
  have y7_2_p1 : w2.heap.size < w7.heap.size + 1 := (by omega)
  have y7_2_p2 : w2.heap.size < w7.heap.size + 1 + 1 := (by omega)
  have y7_3_1 : w3.heap.size + 1 < w7.heap.size := (by omega)
  have y7_3_0 : w3.heap.size < w7.heap.size := (by omega)
  have y7_3_p1 : w3.heap.size < w7.heap.size + 1 := (by omega)
  have y7_3_p2 : w3.heap.size < w7.heap.size + 1 + 1 := (by omega)
  have y7_4_1 : w4.heap.size + 1 < w7.heap.size := (by omega)
  have y7_4_0 : w4.heap.size < w7.heap.size := (by omega)
  have y7_4_p1 : w4.heap.size < w7.heap.size + 1 := (by omega)
  have y7_4_p2 : w4.heap.size < w7.heap.size + 1 + 1 := (by omega)
  have y7_5_1 : w5.heap.size + 1 < w7.heap.size := (by omega)
  have y7_5_0 : w5.heap.size < w7.heap.size := (by omega)
  have y7_5_p1 : w5.heap.size < w7.heap.size + 1 := (by omega)
  have y7_5_p2 : w5.heap.size < w7.heap.size + 1 + 1 := (by omega)
  have y7_6_1 : w6.heap.size + 1 < w7.heap.size := (by omega)
  have y7_6_0 : w6.heap.size < w7.heap.size := (by omega)
  have y7_6_p1 : w6.heap.size < w7.heap.size + 1 := (by omega)
  have y7_6_p2 : w6.heap.size < w7.heap.size + 1 + 1 := (by omega)
  clear hB
  clear A6
  go_wp2_with fail
  refine (A7 _).mono ?_
  rintro e w8 ⟨rfl, hB⟩
  have D8 := dstep w hB (by repeat (first | with_reducible exact D7 | with_reducible apply bdrew | with_reducible apply bdrewN | with_reducible apply balloc | ((with_reducible refine bset ?_ ?_ _); rotate_left; (first | omega | (simp <;> omega)))))
  have d8s := D8.size
  have B8 := bstep B1 hB (by repeat (first | with_reducible exact B7 | with_reducible apply bdrew | with_reducible apply bdrewN | with_reducible apply balloc | ((with_reducible refine bset ?_ ?_ _); rotate_left; (first | omega | (simp <;> omega)))))
  have F8 := C0.below B8
  simp only [Cls, and_true] at F8
  have G8 := Cls.below (l := [(w2.heap.size, 0, .int .i64 p1), (w2.heap.size, 1, .int .i64 q1), (w2.heap.size + 1, 0, .int .i64 0), (w2.heap.size + 1, 1, .int .i64 i1), (w3.heap.size, 0, .int .i64 p2), (w3.heap.size, 1, .int .i64 q2), (w3.heap.size + 1, 0, .int .i64 0), (w3.heap.size + 1, 1, .int .i64 i2), (w4.heap.size, 0, .int .i64 p3), (w4.heap.size, 1, .int .i64 q3), (w4.heap.size + 1, 0, .int .i64 0), (w4.heap.size + 1, 1, .int .i64 i3), (w5.heap.size, 0, .int .i64 p3), (w5.heap.size, 1, .int .i64 q3), (w5.heap.size + 1, 0, .int .i64 0), (w5.heap.size + 1, 1, .int .i64 i4), (w6.heap.size, 0, .int .i64 p5), (w6.heap.size, 1, .int .i64 q5), (w6.heap.size + 1, 0, .int .i64 0), (w6.heap.size + 1, 1, .int .i64 i5), (w7.heap.size, 0, .int .i64 p6), (w7.heap.size, 1, .int .i64 q6), (w7.heap.size + 1, 0, .int .i64 0), (w7.heap.size + 1, 1, .int .i64 i6)]) hB (by simp [Cls, go_sem, F7, G7, y7_0_2, y7_0_1, y7_0_0, y7_0_p1, y7_0_p2, y7_2_1, y7_2_0, y7_2_p1, y7_2_p2, y7_3_1, y7_3_0, y7_3_p1, y7_3_p2, y7_4_1, y7_4_0, y7_4_p1, y7_4_p2, y7_5_1, y7_5_0, y7_5_p1, y7_5_p2, y7_6_1, y7_6_0, y7_6_p1, y7_6_p2])
  simp only [Cls, and_true] at G8
  have hs8 := hB.size
  try simp at hs8
  have y8_0_2 : w.heap.size + 1 + 1 < w8.heap.size := (by omega)
  have y8_0_1 : w.heap.size + 1 < w8.heap.size := (by omega)
  have y8_0_0 : w.heap.size < w8.heap.size := (by omega)
  have y8_0_p1 : w.heap.size < w8.heap.size + 1 := (by omega)
  have y8_0_p2 : w.heap.size < w8.heap.size + 1 + 1 := (by omega)
  have y8_2_1 : w2.heap.size + 1 < w8.heap.size := (by omega)
  have y8_2_0 : w2.heap.size < w8.heap.size := (by omega)
  have y8_2_p1 : w2.heap.size < w8.heap.size + 1 := (by omega)
  have y8_2_p2 : w2.heap.size < w8.heap.size + 1 + 1 := (by omega)
  have y8_3_1 : w3.heap.size + 1 < w8.heap.size := (by omega)
  have y8_3_0 : w3.heap.size < w8.heap.size := (by omega)
  have y8_3_p1 : w3.heap.size < w8.heap.size + 1 := (by omega)
  have y8_3_p2 : w3.heap.size < w8.heap.size + 1 + 1 := (by omega)
  have y8_4_1 : w4.heap.size + 1 < w8.heap.size := (by omega)
  have y8_4_0 : w4.heap.size < w8.heap.size := (by omega)
  have y8_4_p1 : w4.heap.size < w8.heap.size + 1 := (by omega)
  have y8_4_p2 : w4.heap.size < w8.heap.size + 1 + 1 := (by omega)
  have y8_5_1 : w5.heap.size + 1 < w8.heap.size := (by omega)
  have y8_5_0 : w5.heap.size < w8.heap.size := (by omega)
  have y8_5_p1 : w5.heap.size < w8.heap.size + 1 := (by omega)
  have y8_5_p2 : w5.heap.size < w8.heap.size + 1 + 1 := (by omega)
  have y8_6_1 : w6.heap.size + 1 < w8.heap.size := (by omega)
  have y8_6_0 : w6.heap.size < w8.heap.size := (by omega)
  have y8_6_p1 : w6.heap.size < w8.heap.size + 1 := (by omega)
  have y8_6_p2 : w6.heap.size < w8.heap.size + 1 + 1 := (by omega)
  have y8_7_1 : w7.heap.size + 1 < w8.heap.size := (by omega)
  have y8_7_0 : w7.heap.size < w8.heap.size := (by omega)
  have y8_7_p1 : w7.heap.size < w8.heap.size + 1 := (by omega)
  have y8_7_p2 : w7.heap.size < w8.heap.size + 1 + 1 := (by omega)
  clear hB
  clear A7
  go_wp2_with fail
  refine (A8 _).mono ?_
  rintro e w9 ⟨rfl, hB⟩
  have D9 := dstep w hB (by repeat (first | with_reducible exact D8 | with_reducible apply bdrew | with_reducible apply bdrewN | with_reducible apply balloc | ((with_reducible refine bset ?_ ?_ _); rotate_left; (first | omega | (simp <;> omega)))))
  have d9s := D9.size
  have B9 := bstep B1 hB (by repeat (first | with_reducible exact B8 | with_reducible apply bdrew | with_reducible apply bdrewN | with_reducible apply balloc | ((with_reducible refine bset ?_ ?_ _); rotate_left; (first | omega | (simp <;> omega)))))
  have F9 := C0.below B9
  simp only [Cls, and_true] at F9
  have G9 := Cls.below (l := [(w2.heap.size, 0, .int .i64 p1), (w2.heap.size, 1, .int .i64 q1), (w2.heap.size + 1, 0, .int .i64 0), (w2.heap.size + 1, 1, .int .i64 i1), (w3.heap.size, 0, .int .i64 p2), (w3.heap.size, 1, .int .i64 q2), (w3.heap.size + 1, 0, .int .i64 0), (w3.heap.size + 1, 1, .int .i64 i2), (w4.heap.size, 0, .int .i64 p3), (w4.heap.size, 1, .int .i64 q3), (w4.heap.size + 1, 0, .int .i64 0), (w4.heap.size + 1, 1, .int .i64 i3), (w5.heap.size, 0, .int .i64 p3), (w5.heap.size, 1, .int .i64 q3), (w5.heap.size + 1, 0, .int .i64 0), (w5.heap.size + 1, 1, .int .i64 i4), (w6.heap.size, 0, .int .i64 p5), (w6.heap.size, 1, .int .i64 q5), (w6.heap.size + 1, 0, .int .i64 0), (w6.heap.size + 1, 1, .int .i64 i5), (w7.heap.size, 0, .int .i64 p6), (w7.heap.size, 1, .int .i64 q6), (w7.heap.size + 1, 0, .int .i64 0), (w7.heap.size + 1, 1, .int .i64 i6), (w8.heap.size, 0, .int .i64 p7), (w8.heap.size, 1, .int .i64 q7), (w8.heap.size + 1, 0, .int .i64 0), (w8.heap.size + 1, 1, .int .i64 i7)]) hB (by simp [Cls, go_sem, F8, G8, y8_0_2, y8_0_1, y8_0_0, y8_0_p1, y8_0_p2, y8_2_1, y8_2_0, y8_2_p1, y8_2_p2, y8_3_1, y8_3_0, y8_3_p1, y8_3_p2, y8_4_1, y8_4_0, y8_4_p1, y8_4_p2, y8_5_1, y8_5_0, y8_5_p1, y8_5_p2, y8_6_1, y8_6_0, y8_6_p1, y8_6_p2, y8_7_1, y8_7_0, y8_7_p1, y8_7_p2])
  simp only [Cls, and_true] at G9
  have hs9 := hB.size
  try simp at hs9
  have y9_0_2 : w.heap.size + 1 + 1 < w9.heap.size := (by omega)
  have y9_0_1 : w.heap.size + 1 < w9.heap.size := (by omega)
  have y9_0_0 : w.heap.size < w9.heap.size := (by omega)
  have y9_0_p1 : w.heap.size < w9.heap.size + 1 := (by omega)
  have y9_0_p2 : w.heap.size < w9.heap.size + 1 + 1 := (by omega)
  have y9_2_1 : w2.heap.size + 1 < w9.heap.size := (by omega)
  have y9_2_0 : w2.heap.size < w9.heap.size := (by omega)
  have y9_2_p1 : w2.heap.size < w9.heap.size + 1 := (by omega)
  have y9_2_p2 : w2.heap.size < w9.heap.size + 1 + 1 := (by omega)
  have y9_3_1 : w3.heap.size + 1 < w9.heap.size := (by omega)
  have y9_3_0 : w3.heap.size < w9.heap.size := (by omega)
  have y9_3_p1 : w3.heap.size < w9.heap.size + 1 := (by omega)
  have y9_3_p2 : w3.heap.size < w9.heap.size + 1 + 1 := (by omega)
  have y9_4_1 : w4.heap.size + 1 < w9.heap.size := (by omega)
  have y9_4_0 : w4.heap.size < w9.heap.size := (by omega)
  have y9_4_p1 : w4.heap.size < w9.heap.size + 1 := (by omega)
  have y9_4_p2 : w4.heap.size < w9.heap.size + 1 + 1 := (by omega)
  have y9_5_1 : w5.heap.size + 1 < w9.heap.size := (by omega)
  have y9_5_0 : w5.heap.size < w9.heap.size := (by omega)
  have y9_5_p1 : w5.heap.size < w9.heap.size + 1 := (by omega)
  have y9_5_p2 : w5.heap.size < w9.heap.size + 1 + 1 := (by omega)
  have y9_6_1 : w6.heap.size + 1 < w9.heap.size := (by omega)
  have y9_6_0 : w6.heap.size < w9.heap.size := (by omega)
  have y9_6_p1 : w6.heap.size < w9.heap.size + 1 := (by omega)
  have y9_6_p2 : w6.heap.size < w9.heap.size + 1 + 1 := (by omega)
  have y9_7_1 : w7.heap.size + 1 < w9.heap.size := (by omega)
  have y9_7_0 : w7.heap.size < w9.heap.size := (by omega)
  have y9_7_p1 : w7.heap.size < w9.heap.size + 1 := (by omega)
  have y9_7_p2 : w7.heap.size < w9.heap.size + 1 + 1 := (by omega)
  have y9_8_1 : w8.heap.size + 1 < w9.heap.size := (by omega)
  have y9_8_0 : w8.heap.size < w9.heap.size := (by omega)
  have y9_8_p1 : w8.heap.size < w9.heap.size + 1 := (by omega)
  have y9_8_p2 : w8.heap.size < w9.heap.size + 1 + 1 := (by omega)
  clear hB
  clear A8
  go_wp2
  go_ret
  exact ⟨rfl, by repeat (first | with_reducible exact D9 | with_reducible apply bdrew | with_reducible apply bdrewN | with_reducible apply balloc | ((with_reducible refine bset ?_ ?_ _); rotate_left; (first | omega | (simp <;> omega))))⟩

set_option maxHeartbeats 1000000 in
theorem walk_ring_01 (a b c d e f p1 q1 i1 p2 q2 i2 p3 q3 i3 i4 p5 q5 c5 i5 p6 q6 c6 i6 p7 q7 c7 i7 p8 q8 c8 i8 : Int) (l5 : 0 ≤ c5 ∧ c5 ≤ 10) (l6 : 0 ≤ c6 ∧ c6 ≤ 10) (l7 : 0 ≤ c7 ∧ c7 ≤ 10) (l8 : 0 ≤ c8 ∧ c8 ≤ 10) (n2 : ¬ 0 + c5 + c6 + c7 + c8 = 0) (A1 : ∀ w : World, Calls Try.prog 15 #[.agg #[.int .i64 a, .int .i64 b], .agg #[.int .i64 c, .int .i64 d]] w fun e w' => e = .returned (.tuple #[.agg #[.int .i64 p1, .int .i64 q1], .agg #[.int .i64 0, .int .i64 i1]]) ∧ Below w.heap.size w w') (A2 : ∀ w : World, Calls Try.prog 15 #[.agg #[.int .i64 c, .int .i64 d], .agg #[.int .i64 e, .int .i64 f]] w fun e w' => e = .returned (.tuple #[.agg #[.int .i64 p2, .int .i64 q2], .agg #[.int .i64 0, .int .i64 i2]]) ∧ Below w.heap.size w w') (A3 : ∀ w : World, Calls Try.prog 15 #[.agg #[.int .i64 p1, .int .i64 q1], .agg #[.int .i64 e, .int .i64 f]] w fun e w' => e = .returned (.tuple #[.agg #[.int .i64 p3, .int .i64 q3], .agg #[.int .i64 0, .int .i64 i3]]) ∧ Below w.heap.size w w') (A4 : ∀ w : World, Calls Try.prog 15 #[.agg #[.int .i64 a, .int .i64 b], .agg #[.int .i64 p2, .int .i64 q2]] w fun e w' => e = .returned (.tuple #[.agg #[.int .i64 p3, .int .i64 q3], .agg #[.int .i64 0, .int .i64 i4]]) ∧ Below w.heap.size w w') (A5 : ∀ w : World, Calls Try.prog 16 #[.agg #[.int .i64 a, .int .i64 b], .agg #[.int .i64 p2, .int .i64 q2]] w fun e w' => e = .returned (.tuple #[.agg #[.int .i64 p5, .int .i64 q5], .agg #[.int .i64 c5, .int .i64 i5]]) ∧ Below w.heap.size w w') (A6 : ∀ w : World, Calls Try.prog 16 #[.agg #[.int .i64 a, .int .i64 b], .agg #[.int .i64 c, .int .i64 d]] w fun e w' => e = .returned (.tuple #[.agg #[.int .i64 p6, .int .i64 q6], .agg #[.int .i64 c6, .int .i64 i6]]) ∧ Below w.heap.size w w') (A7 : ∀ w : World, Calls Try.prog 16 #[.agg #[.int .i64 a, .int .i64 b], .agg #[.int .i64 e, .int .i64 f]] w fun e w' => e = .returned (.tuple #[.agg #[.int .i64 p7, .int .i64 q7], .agg #[.int .i64 c7, .int .i64 i7]]) ∧ Below w.heap.size w w') (A8 : ∀ w : World, Calls Try.prog 15 #[.agg #[.int .i64 p6, .int .i64 q6], .agg #[.int .i64 p7, .int .i64 q7]] w fun e w' => e = .returned (.tuple #[.agg #[.int .i64 p8, .int .i64 q8], .agg #[.int .i64 c8, .int .i64 i8]]) ∧ Below w.heap.size w w') (w : World) :
    Calls Try.prog 5 #[.agg #[.int .i64 a, .int .i64 b], .agg #[.int .i64 c, .int .i64 d], .agg #[.int .i64 e, .int .i64 f]] w fun e w' => e = .returned (.bool true) ∧ Below w.heap.size w w' := by
  obtain ⟨l5a, l5b⟩ := l5
  obtain ⟨l6a, l6b⟩ := l6
  obtain ⟨l7a, l7b⟩ := l7
  obtain ⟨l8a, l8b⟩ := l8
  have b2 := bb_no n2
  have b2' := bn_yes n2
  go_enter Try.func5, Try.ntmps5
  go_wp2_with fail
  refine (example_any _).mono ?_
  rintro e w1 ⟨rfl, hB⟩
  have D1 := dstep w hB (by repeat (first | with_reducible exact Below.refl _ _ | with_reducible apply bdrew | with_reducible apply bdrewN | with_reducible apply balloc | ((with_reducible refine bset ?_ ?_ _); rotate_left; (first | omega | (simp <;> omega)))))
  have d1s := D1.size
  obtain ⟨C0, F1⟩ := Cls.first (l := [(w.heap.size, 0, .int .i64 a), (w.heap.size, 1, .int .i64 b), (w.heap.size + 1, 0, .int .i64 c), (w.heap.size + 1, 1, .int .i64 d), (w.heap.size + 1 + 1, 0, .int .i64 e), (w.heap.size + 1 + 1, 1, .int .i64 f)]) hB (by simp [Cls, go_sem])
  simp only [Cls, and_true] at F1
  have B1 := hB
  have hs1 := hB.size
  try simp at hs1
  have hb1 := B1.size
  try simp at hb1
  have y1_0_2 : w.heap.size + 1 + 1 < w1.heap.size := (by omega)
  have y1_0_1 : w.heap.size + 1 < w1.heap.size := (by omega)
  have y1_0_0 : w.heap.size < w1.heap.size := (by omega)
  have y1_0_p1 : w.heap.size < w1.heap.size + 1 := (by omega)
  have y1_0_p2 : w.heap.size < w1.heap.size + 1 + 1 := (by omega)
  clear hB
  go_wp2_with fail
  refine (A1 _).mono ?_
  rintro e w2 ⟨rfl, hB⟩
  have D2 := dstep w hB (by repeat (first | with_reducible exact D1 | with_reducible apply bdrew | with_reducible apply bdrewN | with_reducible apply balloc | ((with_reducible refine bset ?_ ?_ _); rotate_left; (first | omega | (simp <;> omega)))))
  have d2s := D2.size
  have B2 := bstep B1 hB (by repeat (first | with_reducible exact B1 | with_reducible apply bdrew | with_reducible apply bdrewN | with_reducible apply balloc | ((with_reducible refine bset ?_ ?_ _); rotate_left; (first | omega | (simp <;> omega)))))
  have F2 := C0.below B2
  simp only [Cls, and_true] at F2
  have hs2 := hB.size
  try simp at hs2
  have y2_0_2 : w.heap.size + 1 + 1 < w2.heap.size := (by omega)
  have y2_0_1 : w.heap.size + 1 < w2.heap.size := (by omega)
  have y2_0_0 : w.heap.size < w2.heap.size := (by omega)
  have y2_0_p1 : w.heap.size < w2.heap.size + 1 := (by omega)
  have y2_0_p2 : w.heap.size < w2.heap.size + 1 + 1 := (by omega)
  clear hB
  clear A1
  go_wp2_with fail
  refine (A2 _).mono ?_
  rintro e w3 ⟨rfl, hB⟩
  have D3 := dstep w hB (by repeat (first | with_reducible exact D2 | with_reducible apply bdrew | with_reducible apply bdrewN | with_reducible apply balloc | ((with_reducible refine bset ?_ ?_ _); rotate_left; (first | omega | (simp <;> omega)))))
  have d3s := D3.size
  have B3 := bstep B1 hB (by repeat (first | with_reducible exact B2 | with_reducible apply bdrew | with_reducible apply bdrewN | with_reducible apply balloc | ((with_reducible refine bset ?_ ?_ _); rotate_left; (first | omega | (simp <;> omega)))))
  have F3 := C0.below B3
  simp only [Cls, and_true] at F3
  have G3 := Cls.below (l := [(w2.heap.size, 0, .int .i64 p1), (w2.heap.size, 1, .int .i64 q1), (w2.heap.size + 1, 0, .int .i64 0), (w2.heap.size + 1, 1, .int .i64 i1)]) hB (by simp [Cls, go_sem, F2, y2_0_2, y2_0_1, y2_0_0, y2_0_p1, y2_0_p2])
  simp only [Cls, and_true] at G3
  have hs3 := hB.size
  try simp at hs3
  have y3_0_2 : w.heap.size + 1 + 1 < w3.heap.size := (by omega)
  have y3_0_1 : w.heap.size + 1 < w3.heap.size := (by omega)
  have y3_0_0 : w.heap.size < w3.heap.size := (by omega)
  have y3_0_p1 : w.heap.size < w3.heap.size + 1 := (by omega)
  have y3_0_p2 : w.heap.size < w3.heap.size + 1 + 1 := (by omega)
  have y3_2_1 : w2.heap.size + 1 < w3.heap.size := (by omega)
  have y3_2_0 : w2.heap.size < w3.heap.size := (by omega)
  have y3_2_p1 : w2.heap.size < w3.heap.size + 1 := (by omega)
  have y3_2_p2 : w2.heap.size < w3.heap.size + 1 + 1 := (by omega)
  clear hB
  clear A2
  go_wp2_with fail
  refine (A3 _).mono ?_
  rintro e w4 ⟨rfl, hB⟩
  have D4 := dstep w hB (by repeat (first | with_reducible exact D3 | with_reducible apply bdrew | with_reducible apply bdrewN | with_reducible apply balloc | ((with_reducible refine bset ?_ ?_ _); rotate_left; (first | omega | (simp <;> omega)))))
  have d4s := D4.size
  have B4 := bstep B1 hB (by repeat (first | with_reducible exact B3 | with_reducible apply bdrew | with_reducible apply bdrewN | with_reducible apply balloc | ((with_reducible refine bset ?_ ?_ _); rotate_left; (first | omega | (simp <;> omega)))))
  have F4 := C0.below B4
  simp only [Cls, and_true] at F4
  have G4 := Cls.below (l := [(w2.heap.size, 0, .int .i64 p1), (w2.heap.size, 1, .int .i64 q1), (w2.heap.size + 1, 0, .int .i64 0), (w2.heap.size + 1, 1, .int .i64 i1), (w3.heap.size, 0, .int .i64 p2), (w3.heap.size, 1, .int .i64 q2), (w3.heap.size + 1, 0, .int .i64 0), (w3.heap.size + 1, 1, .int .i64 i2)]) hB (by simp [Cls, go_sem, F3, G3, y3_0_2, y3_0_1, y3_0_0, y3_0_p1, y3_0_p2, y3_2_1, y3_2_0, y3_2_p1, y3_2_p2])
  simp only [Cls, and_true] at G4
  have hs4 := hB.size
  try simp at hs4
  have y4_0_2 : w.heap.size + 1 + 1 < w4.heap.size := (by omega)
  have y4_0_1 : w.heap.size + 1 < w4.heap.size := (by omega)
  have y4_0_0 : w.heap.size < w4.heap.size := (by omega)
  have y4_0_p1 : w.heap.size < w4.heap.size + 1 := (by omega)
  have y4_0_p2 : w.heap.size < w4.heap.size + 1 + 1 := (by omega)
  have y4_2_1 : w2.heap.size + 1 < w4.heap.size := (by omega)
  have y4_2_0 : w2.heap.size < w4.heap.size := (by omega)
  have y4_2_p1 : w2.heap.size < w4.heap.size + 1 := (by omega)
  have y4_2_p2 : w2.heap.size < w4.heap.size + 1 + 1 := (by omega)
  have y4_3_1 : w3.heap.size + 1 < w4.heap.size := (by omega)
  have y4_3_0 : w3.heap.size < w4.heap.size := (by omega)
  have y4_3_p1 : w3.heap.size < w4.heap.size + 1 := (by omega)
  have y4_3_p2 : w3.heap.size < w4.heap.size + 1 + 1 := (by omega)
  clear hB
  clear A3
  go_wp2_with fail
  refine (A4 _).mono ?_
  rintro e w5 ⟨rfl, hB⟩
  have D5 := dstep w hB (by repeat (first | with_reducible exact D4 | with_reducible apply bdrew | with_reducible apply bdrewN | with_reducible apply balloc | ((with_reducible refine bset ?_ ?_ _); rotate_left; (first | omega | (simp <;> omega)))))
  have d5s := D5.size
  have B5 := bstep B1 hB (by repeat (first | with_reducible exact B4 | with_reducible apply bdrew | with_reducible apply bdrewN | with_reducible apply balloc | ((with_reducible refine bset ?_ ?_ _); rotate_left; (first | omega | (simp <;> omega)))))
  have F5 := C0.below B5
  simp only [Cls, and_true] at F5
  have G5 := Cls.below (l := [(w2.heap.size, 0, .int .i64 p1), (w2.heap.size, 1, .int .i64 q1), (w2.heap.size + 1, 0, .int .i64 0), (w2.heap.size + 1, 1, .int .i64 i1), (w3.heap.size, 0, .int .i64 p2), (w3.heap.size, 1, .int .i64 q2), (w3.heap.size + 1, 0, .int .i64 0), (w3.heap.size + 1, 1, .int .i64 i2), (w4.heap.size, 0, .int .i64 p3), (w4.heap.size, 1, .int .i64 q3), (w4.heap.size + 1, 0, .int .i64 0), (w4.heap.size + 1, 1, .int .i64 i3)]) hB (by simp [Cls, go_sem, F4, G4, y4_0_2, y4_0_1, y4_0_0, y4_0_p1, y4_0_p2, y4_2_1, y4_2_0, y4_2_p1, y4_2_p2, y4_3_1, y4_3_0, y4_3_p1, y4_3_p2])
  simp only [Cls, and_true] at G5
  have hs5 := hB.size
  try simp at hs5
  have y5_0_2 : w.heap.size + 1 + 1 < w5.heap.size := (by omega)
  have y5_0_1 : w.heap.size + 1 < w5.heap.size := (by omega)
  have y5_0_0 : w.heap.size < w5.heap.size := (by omega)
  have y5_0_p1 : w.heap.size < w5.heap.size + 1 := (by omega)
  have y5_0_p2 : w.heap.size < w5.heap.size + 1 + 1 := (by omega)
  have y5_2_1 : w2.heap.size + 1 < w5.heap.size := (by omega)
  have y5_2_0 : w2.heap.size < w5.heap.size := (by omega)
  have y5_2_p1 : w2.heap.size < w5.heap.size + 1 := (by omega)
  have y5_2_p2 : w2.heap.size < w5.heap.size + 1 + 1 := (by omega)
  have y5_3_1 : w3.heap.size + 1 < w5.heap.size := (by omega)
  have y5_3_0 : w3.heap.size < w5.heap.size := (by omega)
  have y5_3_p1 : w3.heap.size < w5.heap.size + 1 := (by omega)
  have y5_3_p2 : w3.heap.size < w5.heap.size + 1 + 1 := (by omega)
  have y5_4_1 : w4.heap.size + 1 < w5.heap.size := (by omega)
  have y5_4_0 : w4.heap.size < w5.heap.size := (by omega)
  have y5_4_p1 : w4.heap.size < w5.heap.size + 1 := (by omega)
  have y5_4_p2 : w4.heap.size < w5.heap.size + 1 + 1 := (by omega)
  clear hB
  clear A4
  go_wp2_with fail
  refine (A5 _).mono ?_
  rintro e w6 ⟨rfl, hB⟩
  have D6 := dstep w hB (by repeat (first | with_reducible exact D5 | with_reducible apply bdrew | with_reducible apply bdrewN | with_reducible apply balloc | ((with_reducible refine bset ?_ ?_ _); rotate_left; (first | omega | (simp <;> omega)))))
  have d6s := D6.size
  have B6 := bstep B1 hB (by repeat (first | with_reducible exact B5 | with_reducible apply bdrew | with_reducible apply bdrewN | with_reducible apply balloc | ((with_reducible refine bset ?_ ?_ _); rotate_left; (first | omega | (simp <;> omega)))))
  have F6 := C0.below B6
  simp only [Cls, and_true] at F6
  have G6 := Cls.below (l := [(w2.heap.size, 0, .int .i64 p1), (w2.heap.size, 1, .int .i64 q1), (w2.heap.size + 1, 0, .int .i64 0), (w2.heap.size + 1, 1, .int .i64 i1), (w3.heap.size, 0, .int .i64 p2), (w3.heap.size, 1, .int .i64 q2), (w3.heap.size + 1, 0, .int .i64 0), (w3.heap.size + 1, 1, .int .i64 i2), (w4.heap.size, 0, .int .i64 p3), (w4.heap.size, 1, .int .i64 q3), (w4.heap.size + 1, 0, .int .i64 0), (w4.heap.size + 1, 1, .int .i64 i3), (w5.heap.size, 0, .int .i64 p3), (w5.heap.size, 1, .int .i64 q3), (w5.heap.size + 1, 0, .int .i64 0), (w5.heap.size + 1, 1, .int .i64 i4)]) hB (by simp [Cls, go_sem, F5, G5, y5_0_2, y5_0_1, y5_0_0, y5_0_p1, y5_0_p2, y5_2_1, y5_2_0, y5_2_p1, y5_2_p2, y5_3_1, y5_3_0, y5_3_p1, y5_3_p2, y5_4_1, y5_4_0, y5_4_p1, y5_4_p2])
  simp only [Cls, and_true] at G6
  have hs6 := hB.size
  try simp at hs6
  have y6_0_2 : w.heap.size + 1 + 1 < w6.heap.size := (by omega)
  have y6_0_1 : w.heap.size + 1 < w6.heap.size := (by omega)
  have y6_0_0 : w.heap.size < w6.heap.size := (by omega)
  have y6_0_p1 : w.heap.size < w6.heap.size + 1 := (by omega)
  have y6_0_p2 : w.heap.size < w6.heap.size + 1 + 1 := (by omega)
  have y6_2_1 : w2.heap.size + 1 < w6.heap.size := (by omega)
  have y6_2_0 : w2.heap.size < w6.heap.size := (by omega)
  have y6_2_p1 : w2.heap.size < w6.heap.size + 1 := (by omega)
  have y6_2_p2 : w2.heap.size < w6.heap.size + 1 + 1 := (by omega)
  have y6_3_1 : w3.heap.size + 1 < w6.heap.size := (by omega)
  have y6_3_0 : w3.heap.size < w6.heap.size := (by omega)
  have y6_3_p1 : w3.heap.size < w6.heap.size + 1 := (by omega)
  have y6_3_p2 : w3.heap.size < w6.heap.size + 1 + 1 := (by omega)
  have y6_4_1 : w4.heap.size + 1 < w6.heap.size := (by omega)
  have y6_4_0 : w4.heap.size < w6.heap.size := (by omega)
  have y6_4_p1 : w4.heap.size < w6.heap.size + 1 := (by omega)
  have y6_4_p2 : w4.heap.size < w6.heap.size + 1 + 1 := (by omega)
  have y6_5_1 : w5.heap.size + 1 < w6.heap.size := (by omega)
  have y6_5_0 : w5.heap.size < w6.heap.size := (by omega)
  have y6_5_p1 : w5.heap.size < w6.heap.size + 1 := (by omega)
  have y6_5_p2 : w5.heap.size < w6.heap.size + 1 + 1 := (by omega)
  clear hB
  clear A5
  go_wp2_with fail
  refine (A6 _).mono ?_
  rintro e w7 ⟨rfl, hB⟩
  have D7 := dstep w hB (by repeat (first | with_reducible exact D6 | with_reducible apply bdrew | with_reducible apply bdrewN | with_reducible apply balloc | ((with_reducible refine bset ?_ ?_ _); rotate_left; (first | omega | (simp <;> omega)))))
  have d7s := D7.size
  have B7 := bstep B1 hB (by repeat (first | with_reducible exact B6 | with_reducible apply bdrew | with_reducible apply bdrewN | with_reducible apply balloc | ((with_reducible refine bset ?_ ?_ _); rotate_left; (first | omega | (simp <;> omega)))))
  have F7 := C0.below B7
  simp only [Cls, and_true] at F7
  have G7 := Cls.below (l := [(w2.heap.size, 0, .int .i64 p1), (w2.heap.size, 1, .int .i64 q1), (w2.heap.size + 1, 0, .int .i64 0), (w2.heap.size + 1, 1, .int .i64 i1), (w3.heap.size, 0, .int .i64 p2), (w3.heap.size, 1, .int .i64 q2), (w3.heap.size + 1, 0, .int .i64 0), (w3.heap.size + 1, 1, .int .i64 i2), (w4.heap.size, 0, .int .i64 p3), (w4.heap.size, 1, .int .i64 q3), (w4.heap.size + 1, 0, .int .i64 0), (w4.heap.size + 1, 1, .int .i64 i3), (w5.heap.size, 0, .int .i64 p3), (w5.heap.size, 1, .int .i64 q3), (w5.heap.size + 1, 0, .int .i64 0), (w5.heap.size + 1, 1, .int .i64 i4), (w6.heap.size, 0, .int .i64 p5), (w6.heap.size, 1, .int .i64 q5), (w6.heap.size + 1, 0, .int .i64 c5), (w6.heap.size + 1, 1, .int .i64 i5)]) hB (by simp [Cls, go_sem, F6, G6, y6_0_2, y6_0_1, y6_0_0, y6_0_p1, y6_0_p2, y6_2_1, y6_2_0, y6_2_p1, y6_2_p2, y6_3_1, y6_3_0, y6_3_p1, y6_3_p2, y6_4_1, y6_4_0, y6_4_p1, y6_4_p2, y6_5_1, y6_5_0, y6_5_p1, y6_5_p2])
  simp only [Cls, and_true] at G7
  have hs7 := hB.size
  try simp at hs7
  have y7_0_2 : w.heap.size + 1 + 1 < w7.heap.size := (by omega)
  have y7_0_1 : w.heap.size + 1 < w7.heap.size := (by omega)
  have y7_0_0 : w.heap.size < w7.heap.size := (by omega)
  have y7_0_p1 : w.heap.size < w7.heap.size + 1 := (by omega)
  have y7_0_p2 : w.heap.size < w7.heap.size + 1 + 1 := (by omega)
  have y7_2_1 : w2.heap.size + 1 < w7.heap.size := (by omega)
  have y7_2_0 : w2.heap.size < w7.heap.size := (by omega)
  have y7_2_p1 : w2.heap.size < w7.heap.size + 1 := (by omega)
  have y7_2_p2 : w2.heap.size < w7.heap.size + 1 + 1 := (by omega)
  have y7_3_1 : w3.heap.size + 1 < w7.heap.size := (by omega)
  have y7_3_0 : w3.heap.size < w7.heap.size := (by omega)
  have y7_3_p1 : w3.heap.size < w7.heap.size + 1 := (by omega)
  have y7_3_p2 : w3.heap.size < w7.heap.size + 1 + 1 := (by omega)
  have y7_4_1 : w4.heap.size + 1 < w7.heap.size := (by omega)
  have y7_4_0 : w4.heap.size < w7.heap.size := (by omega)
  have y7_4_p1 : w4.heap.size < w7.heap.size + 1 := (by omega)
  have y7_4_p2 : w4.heap.size < w7.heap.size + 1 + 1 := (by omega)
  have y7_5_1 : w5.heap.size + 1 < w7.heap.size := (by omega)
  have y7_5_0 : w5.heap.size < w7.heap.size := (by omega)
  have y7_5_p1 : w5.heap.size < w7.heap.size + 1 := (by omega)
  have y7_5_p2 : w5.heap.size < w7.heap.size + 1 + 1 := (by omega)
  have y7_6_1 : w6.heap.size + 1 < w7.heap.size := (by omega)
  have y7_6_0 : w6.heap.size < w7.heap.size := (by omega)
  have y7_6_p1 : w6.heap.size < w7.heap.size + 1 := (by omega)
  have y7_6_p2 : w6.heap.size < w7.heap.size + 1 + 1 := (by omega)
  clear hB
  clear A6
  go_wp2_with fail
  refine (A7 _).mono ?_
  rintro e w8 ⟨rfl, hB⟩
  have D8 := dstep w hB (by repeat (first | with_reducible exact D7 | with_reducible apply bdrew | with_reducible apply bdrewN | with_reducible apply balloc | ((with_reducible refine bset ?_ ?_ _); rotate_left; (first | omega | (simp <;> omega)))))
  have d8s := D8.size
  have B8 := bstep B1 hB (by repeat (first | with_reducible exact B7 | with_reducible apply bdrew | with_reducible apply bdrewN | with_reducible apply balloc | ((with_reducible refine bset ?_ ?_ _); rotate_left; (first | omega | (simp <;> omega)))))
  have F8 := C0.below B8
  simp only [Cls, and_true] at F8
  have G8 := Cls.below (l := [(w2.heap.size, 0, .int .i64 p1), (w2.heap.size, 1, .int .i64 q1), (w2.heap.size + 1, 0, .int .i64 0), (w2.heap.size + 1, 1, .int .i64 i1), (w3.heap.size, 0, .int .i64 p2), (w3.heap.size, 1, .int .i64 q2), (w3.heap.size + 1, 0, .int .i64 0), (w3.heap.size + 1, 1, .int .i64 i2), (w4.heap.size, 0, .int .i64 p3), (w4.heap.size, 1, .int .i64 q3), (w4.heap.size + 1, 0, .int .i64 0), (w4.heap.size + 1, 1, .int .i64 i3), (w5.heap.size, 0, .int .i64 p3), (w5.heap.size, 1, .int .i64 q3), (w5.heap.size + 1, 0, .int .i64 0), (w5.heap.size + 1, 1, .int .i64 i4), (w6.heap.size, 0, .int .i64 p5), (w6.heap.size, 1, .int .i64 q5), (w6.heap.size + 1, 0, .int .i64 c5), (w6.heap.size + 1, 1, .int .i64 i5), (w7.heap.size, 0, .int .i64 p6), (w7.heap.size, 1, .int .i64 q6), (w7.heap.size + 1, 0, .int .i64 c6), (w7.heap.size + 1, 1, .int .i64 i6)]) hB (by simp [Cls, go_sem, F7, G7, y7_0_2, y7_0_1, y7_0_0, y7_0_p1, y7_0_p2, y7_2_1, y7_2_0, y7_2_p1, y7_2_p2, y7_3_1, y7_3_0, y7_3_p1, y7_3_p2, y7_4_1, y7_4_0, y7_4_p1, y7_4_p2, y7_5_1, y7_5_0, y7_5_p1, y7_5_p2, y7_6_1, y7_6_0, y7_6_p1, y7_6_p2])
  simp only [Cls, and_true] at G8
  have hs8 := hB.size
  try simp at hs8
  have y8_0_2 : w.heap.size + 1 + 1 < w8.heap.size := (by omega)
  have y8_0_1 : w.heap.size + 1 < w8.heap.size := (by omega)
  have y8_0_0 : w.heap.size < w8.heap.size := (by omega)
  have y8_0_p1 : w.heap.size < w8.heap.size + 1 := (by omega)
  have y8_0_p2 : w.heap.size < w8.heap.size + 1 + 1 := (by omega)
  have y8_2_1 : w2.heap.size + 1 < w8.heap.size := (by omega)
  have y8_2_0 : w2.heap.size < w8.heap.size := (by omega)
  have y8_2_p1 : w2.heap.size < w8.heap.size + 1 := (by omega)
  have y8_2_p2 : w2.heap.size < w8.heap.size + 1 + 1 := (by omega)
  have y8_3_1 : w3.heap.size + 1 < w8.heap.size := (by omega)
  have y8_3_0 : w3.heap.size < w8.heap.size := (by omega)
  have y8_3_p1 : w3.heap.size < w8.heap.size + 1 := (by omega)
  have y8_3_p2 : w3.heap.size < w8.heap.size + 1 + 1 := (by omega)
  have y8_4_1 : w4.heap.size + 1 < w8.heap.size := (by omega)
  have y8_4_0 : w4.heap.size < w8.heap.size := (by omega)
  have y8_4_p1 : w4.heap.size < w8.heap.size + 1 := (by omega)
  have y8_4_p2 : w4.heap.size < w8.heap.size + 1 + 1 := (by omega)
  have y8_5_1 : w5.heap.size + 1 < w8.heap.size := (by omega)
  have y8_5_0 : w5.heap.size < w8.heap.size := (by omega)
  have y8_5_p1 : w5.heap.size < w8.heap.size + 1 := (by omega)
  have y8_5_p2 : w5.heap.size < w8.heap.size + 1 + 1 := (by omega)
  have y8_6_1 : w6.heap.size + 1 < w8.heap.size := (by omega)
  have y8_6_0 : w6.heap.size < w8.heap.size := (by omega)
  have y8_6_p1 : w6.heap.size < w8.heap.size + 1 := (by omega)
  have y8_6_p2 : w6.heap.size < w8.heap.size + 1 + 1 := (by omega)
  have y8_7_1 : w7.heap.size + 1 < w8.heap.size := (by omega)
  have y8_7_0 : w7.heap.size < w8.heap.size := (by omega)
  have y8_7_p1 : w7.heap.size < w8.heap.size + 1 := (by omega)
  have y8_7_p2 : w7.heap.size < w8.heap.size + 1 + 1 := (by omega)
  clear hB
  clear A7
  go_wp2_with fail
  refine (A8 _).mono ?_
  rintro e w9 ⟨rfl, hB⟩
  have D9 := dstep w hB (by repeat (first | with_reducible exact D8 | with_reducible apply bdrew | with_reducible apply bdrewN | with_reducible apply balloc | ((with_reducible refine bset ?_ ?_ _); rotate_left; (first | omega | (simp <;> omega)))))
  have d9s := D9.size
  have B9 := bstep B1 hB (by repeat (first | with_reducible exact B8 | with_reducible apply bdrew | with_reducible apply bdrewN | with_reducible apply balloc | ((with_reducible refine bset ?_ ?_ _); rotate_left; (first | omega | (simp <;> omega)))))
  have F9 := C0.below B9
  simp only [Cls, and_true] at F9
  have G9 := Cls.below (l := [(w2.heap.size, 0, .int .i64 p1), (w2.heap.size, 1, .int .i64 q1), (w2.heap.size + 1, 0, .int .i64 0), (w2.heap.size + 1, 1, .int .i64 i1), (w3.heap.size, 0, .int .i64 p2), (w3.heap.size, 1, .int .i64 q2), (w3.heap.size + 1, 0, .int .i64 0), (w3.heap.size + 1, 1, .int .i64 i2), (w4.heap.size, 0, .int .i64 p3), (w4.heap.size, 1, .int .i64 q3), (w4.heap.size + 1, 0, .int .i64 0), (w4.heap.size + 1, 1, .int .i64 i3), (w5.heap.size, 0, .int .i64 p3), (w5.heap.size, 1, .int .i64 q3), (w5.heap.size + 1, 0, .int .i64 0), (w5.heap.size + 1, 1, .int .i64 i4), (w6.heap.size, 0, .int .i64 p5), (w6.heap.size, 1, .int .i64 q5), (w6.heap.size + 1, 0, .int .i64 c5), (w6.heap.size + 1, 1, .int .i64 i5), (w7.heap.size, 0, .int .i64 p6), (w7.heap.size, 1, .int .i64 q6), (w7.heap.size + 1, 0, .int .i64 c6), (w7.heap.size + 1, 1, .int .i64 i6), (w8.heap.size, 0, .int .i64 p7), (w8.heap.size, 1, .int .i64 q7), (w8.heap.size + 1, 0, .int .i64 c7), (w8.heap.size + 1, 1, .int .i64 i7)]) hB (by simp [Cls, go_sem, F8, G8, y8_0_2, y8_0_1, y8_0_0, y8_0_p1, y8_0_p2, y8_2_1, y8_2_0, y8_2_p1, y8_2_p2, y8_3_1, y8_3_0, y8_3_p1, y8_3_p2, y8_4_1, y8_4_0, y8_4_p1, y8_4_p2, y8_5_1, y8_5_0, y8_5_p1, y8_5_p2, y8_6_1, y8_6_0, y8_6_p1, y8_6_p2, y8_7_1, y8_7_0, y8_7_p1, y8_7_p2])
  simp only [Cls, and_true] at G9
  have hs9 := hB.size
  try simp at hs9
  have y9_0_2 : w.heap.size + 1 + 1 < w9.heap.size := (by omega)
  have y9_0_1 : w.heap.size + 1 < w9.heap.size := (by omega)
  have y9_0_0 : w.heap.size < w9.heap.size := (by omega)
  have y9_0_p1 : w.heap.size < w9.heap.size + 1 := (by omega)
  have y9_0_p2 : w.heap.size < w9.heap.size + 1 + 1 := (by omega)
  have y9_2_1 : w2.heap.size + 1 < w9.heap.size := (by omega)
  have y9_2_0 : w2.heap.size < w9.heap.size := (by omega)
  have y9_2_p1 : w2.heap.size < w9.heap.size + 1 := (by omega)
  have y9_2_p2 : w2.heap.size < w9.heap.size + 1 + 1 := (by omega)
  have y9_3_1 : w3.heap.size + 1 < w9.heap.size := (by omega)
  have y9_3_0 : w3.heap.size < w9.heap.size := (by omega)
  have y9_3_p1 : w3.heap.size < w9.heap.size + 1 := (by omega)
  have y9_3_p2 : w3.heap.size < w9.heap.size + 1 + 1 := (by omega)
  have y9_4_1 : w4.heap.size + 1 < w9.heap.size := (by omega)
  have y9_4_0 : w4.heap.size < w9.heap.size := (by omega)
  have y9_4_p1 : w4.heap.size < w9.heap.size + 1 := (by omega)
  have y9_4_p2 : w4.heap.size < w9.heap.size + 1 + 1 := (by omega)
  have y9_5_1 : w5.heap.size + 1 < w9.heap.size := (by omega)
  have y9_5_0 : w5.heap.size < w9.heap.size := (by omega)
  have y9_5_p1 : w5.heap.size < w9.heap.size + 1 := (by omega)
  have y9_5_p2 : w5.heap.size < w9.heap.size + 1 + 1 := (by omega)
  have y9_6_1 : w6.heap.size + 1 < w9.heap.size := (by omega)
  have y9_6_0 : w6.heap.size < w9.heap.size := (by omega)
  have y9_6_p1 : w6.heap.size < w9.heap.size + 1 := (by omega)
  have y9_6_p2 : w6.heap.size < w9.heap.size + 1 + 1 := (by omega)
  have y9_7_1 : w7.heap.size + 1 < w9.heap.size := (by omega)
  have y9_7_0 : w7.heap.size < w9.heap.size := (by omega)
  have y9_7_p1 : w7.heap.size < w9.heap.size + 1 := (by omega)
  have y9_7_p2 : w7.heap.size < w9.heap.size + 1 + 1 := (by omega)
  have y9_8_1 : w8.heap.size + 1 < w9.heap.size := (by omega)
  have y9_8_0 : w8.heap.size < w9.heap.size := (by omega)
  have y9_8_p1 : w8.heap.size < w9.heap.size + 1 := (by omega)
  have y9_8_p2 : w8.heap.size < w9.heap.size + 1 + 1 := (by omega)
  clear hB
  clear A8
  go_wp2
  go_ret
  exact ⟨rfl, by repeat (first | with_reducible exact D9 | with_reducible apply bdrew | with_reducible apply bdrewN | with_reducible apply balloc | ((with_reducible refine bset ?_ ?_ _); rotate_left; (first | omega | (simp <;> omega))))⟩

set_option maxHeartbeats 1000000 in
theorem walk_ring_10 (a b c d e f p1 q1 c1 i1 p2 q2 i2 p3 q3 c3 i3 p4 q4 c4 i4 p5 q5 i5 p6 q6 i6 p7 q7 i7 i8 : Int) (l1 : 0 ≤ c1 ∧ c1 ≤ 10) (l3 : 0 ≤ c3 ∧ c3 ≤ 10) (l4 : 0 ≤ c4 ∧ c4 ≤ 10) (n1 : ¬ c1 + 0 + c3 + c4 = 0) (A1 : ∀ w : World, Calls Try.prog 15 #[.agg #[.int .i64 a, .int .i64 b], .agg #[.int .i64 c, .int .i64 d]] w fun e w' => e = .returned (.tuple #[.agg #[.int .i64 p1, .int .i64 q1], .agg #[.int .i64 c1, .int .i64 i1]]) ∧ Below w.heap.size w w') (A2 : ∀ w : World, Calls Try.prog 15 #[.agg #[.int .i64 c, .int .i64 d], .agg #[.int .i64 e, .int .i64 f]] w fun e w' => e = .returned (.tuple #[.agg #[.int .i64 p2, .int .i64 q2], .agg #[.int .i64 0, .int .i64 i2]]) ∧ Below w.heap.size w w') (A3 : ∀ w : World, Calls Try.prog 15 #[.agg #[.int .i64 p1, .int .i64 q1], .agg #[.int .i64 e, .int .i64 f]] w fun e w' => e = .returned (.tuple #[.agg #[.int .i64 p3, .int .i64 q3], .agg #[.int .i64 c3, .int .i64 i3]]) ∧ Below w.heap.size w w') (A4 : ∀ w : World, Calls Try.prog 15 #[.agg #[.int .i64 a, .int .i64 b], .agg #[.int .i64 p2, .int .i64 q2]] w fun e w' => e = .returned (.tuple #[.agg #[.int .i64 p4, .int .i64 q4], .agg #[.int .i64 c4, .int .i64 i4]]) ∧ Below w.heap.size w w') (A5 : ∀ w : World, Calls Try.prog 16 #[.agg #[.int .i64 a, .int .i64 b], .agg #[.int .i64 p2, .int .i64 q2]] w fun e w' => e = .returned (.tuple #[.agg #[.int .i64 p5, .int .i64 q5], .agg #[.int .i64 0, .int .i64 i5]]) ∧ Below w.heap.size w w') (A6 : ∀ w : World, Calls Try.prog 16 #[.agg #[.int .i64 a, .int .i64 b], .agg #[.int .i64 c, .int .i64 d]] w fun e w' => e = .returned (.tuple #[.agg #[.int .i64 p6, .int .i64 q6], .agg #[.int .i64 0, .int .i64 i6]]) ∧ Below w.heap.size w w') (A7 : ∀ w : World, Calls Try.prog 16 #[.agg #[.int .i64 a, .int .i64 b], .agg #[.int .i64 e, .int .i64 f]] w fun e w' => e = .returned (.tuple #[.agg #[.int .i64 p7, .int .i64 q7], .agg #[.int .i64 0, .int .i64 i7]]) ∧ Below w.heap.size w w') (A8 : ∀ w : World, Calls Try.prog 15 #[.agg #[.int .i64 p6, .int .i64 q6], .agg #[.int .i64 p7, .int .i64 q7]] w fun e w' => e = .returned (.tuple #[.agg #[.int .i64 p5, .int .i64 q5], .agg #[.int .i64 0, .int .i64 i8]]) ∧ Below w.heap.size w w') (w : World) :
    Calls Try.prog 5 #[.agg #[.int .i64 a, .int .i64 b], .agg #[.int .i64 c, .int .i64 d], .agg #[.int .i64 e, .int .i64 f]] w fun e w' => e = .returned (.bool true) ∧ Below w.heap.size w w' := by
  obtain ⟨l1a, l1b⟩ := l1
  obtain ⟨l3a, l3b⟩ := l3
  obtain ⟨l4a, l4b⟩ := l4
  have b1 := bb_no n1
  have b1' := bn_yes n1
  go_enter Try.func5, Try.ntmps5
  go_wp2_with fail
  refine (example_any _).mono ?_
  rintro e w1 ⟨rfl, hB⟩
  have D1 := dstep w hB (by repeat (first | with_reducible exact Below.refl _ _ | with_reducible apply bdrew | with_reducible apply bdrewN | with_reducible apply balloc | ((with_reducible refine bset ?_ ?_ _); rotate_left; (first | omega | (simp <;> omega)))))
  have d1s := D1.size
  obtain ⟨C0, F1⟩ := Cls.first (l := [(w.heap.size, 0, .int .i64 a), (w.heap.size, 1, .int .i64 b), (w.heap.size + 1, 0, .int .i64 c), (w.heap.size + 1, 1, .int .i64 d), (w.heap.size + 1 + 1, 0, .int .i64 e), (w.heap.size + 1 + 1, 1, .int .i64 f)]) hB (by simp [Cls, go_sem])
  simp only [Cls, and_true] at F1
  have B1 := hB
  have hs1 := hB.size
  try simp at hs1
  have hb1 := B1.size
  try simp at hb1
  have y1_0_2 : w.heap.size + 1 + 1 < w1.heap.size := (by omega)
  have y1_0_1 : w.heap.size + 1 < w1.heap.size := (by omega)
  have y1_0_0 : w.heap.size < w1.heap.size := (by omega)
  have y1_0_p1 : w.heap.size < w1.heap.size + 1 := (by omega)
  have y1_0_p2 : w.heap.size < w1.heap.size + 1 + 1 := (by omega)
  clear hB
  go_wp2_with fail
  refine (A1 _).mono ?_
  rintro e w2 ⟨rfl, hB⟩
  have D2 := dstep w hB (by repeat (first | with_reducible exact D1 | with_reducible apply bdrew | with_reducible apply bdrewN | with_reducible apply balloc | ((with_reducible refine bset ?_ ?_ _); rotate_left; (first | omega | (simp <;> omega)))))
  have d2s := D2.size
  have B2 := bstep B1 hB (by repeat (first | with_reducible exact B1 | with_reducible apply bdrew | with_reducible apply bdrewN | with_reducible apply balloc | ((with_reducible refine bset ?_ ?_ _); rotate_left; (first | omega | (simp <;> omega)))))
  have F2 := C0.below B2
  simp only [Cls, and_true] at F2
  have hs2 := hB.size
  try simp at hs2
  have y2_0_2 : w.heap.size + 1 + 1 < w2.heap.size := (by omega)
  have y2_0_1 : w.heap.size + 1 < w2.heap.size := (by omega)
  have y2_0_0 : w.heap.size < w2.heap.size := (by omega)
  have y2_0_p1 : w.heap.size < w2.heap.size + 1 := (by omega)
  have y2_0_p2 : w.heap.size < w2.heap.size + 1 + 1 := (by omega)
  clear hB
  clear A1
  go_wp2_with fail
  refine (A2 _).mono ?_
  rintro e w3 ⟨rfl, hB⟩
  have D3 := dstep w hB (by repeat (first | with_reducible exact D2 | with_reducible apply bdrew | with_reducible apply bdrewN | with_reducible apply balloc | ((with_reducible refine bset ?_ ?_ _); rotate_left; (first | omega | (simp <;> omega)))))
  have d3s := D3.size
  have B3 := bstep B1 hB (by repeat (first | with_reducible exact B2 | with_reducible apply bdrew | with_reducible apply bdrewN | with_reducible apply balloc | ((with_reducible refine bset ?_ ?_ _); rotate_left; (first | omega | (simp <;> omega)))))
  have F3 := C0.below B3
  simp only [Cls, and_true] at F3
  have G3 := Cls.below (l := [(w2.heap.size, 0, .int .i64 p1), (w2.heap.size, 1, .int .i64 q1), (w2.heap.size + 1, 0, .int .i64 c1), (w2.heap.size + 1, 1, .int .i64 i1)]) hB (by simp [Cls, go_sem, F2, y2_0_2, y2_0_1, y2_0_0, y2_0_p1, y2_0_p2])
  simp only [Cls, and_true] at G3
  have hs3 := hB.size
  try simp at hs3
  have y3_0_2 : w.heap.size + 1 + 1 < w3.heap.size := (by omega)
  have y3_0_1 : w.heap.size + 1 < w3.heap.size := (by omega)
  have y3_0_0 : w.heap.size < w3.heap.size := (by omega)
  have y3_0_p1 : w.heap.size < w3.heap.size + 1 := (by omega)
  have y3_0_p2 : w.heap.size < w3.heap.size + 1 + 1 := (by omega)
  have y3_2_1 : w2.heap.size + 1 < w3.heap.size := (by omega)
  have y3_2_0 : w2.heap.size < w3.heap.size := (by omega)
  have y3_2_p1 : w2.heap.size < w3.heap.size + 1 := (by omega)
  have y3_2_p2 : w2.heap.size < w3.heap.size + 1 + 1 := (by omega)
  clear hB
  clear A2
  go_wp2_with fail
  refine (A3 _).mono ?_
  rintro e w4 ⟨rfl, hB⟩
  have D4 := dstep w hB (by repeat (first | with_reducible exact D3 | with_reducible apply bdrew | with_reducible apply bdrewN | with_reducible apply balloc | ((with_reducible refine bset ?_ ?_ _); rotate_left; (first | omega | (simp <;> omega)))))
  have d4s := D4.size
  have B4 := bstep B1 hB (by repeat (first | with_reducible exact B3 | with_reducible apply bdrew | with_reducible apply bdrewN | with_reducible apply balloc | ((with_reducible refine bset ?_ ?_ _); rotate_left; (first | omega | (simp <;> omega)))))
  have F4 := C0.below B4
  simp only [Cls, and_true] at F4
  have G4 := Cls.below (l := [(w2.heap.size, 0, .int .i64 p1), (w2.heap.size, 1, .int .i64 q1), (w2.heap.size + 1, 0, .int .i64 c1), (w2.heap.size + 1, 1, .int .i64 i1), (w3.heap.size, 0, .int .i64 p2), (w3.heap.size, 1, .int .i64 q2), (w3.heap.size + 1, 0, .int .i64 0), (w3.heap.size + 1, 1, .int .i64 i2)]) hB (by simp [Cls, go_sem, F3, G3, y3_0_2, y3_0_1, y3_0_0, y3_0_p1, y3_0_p2, y3_2_1, y3_2_0, y3_2_p1, y3_2_p2])
  simp only [Cls, and_true] at G4
  have hs4 := hB.size
  try simp at hs4
  have y4_0_2 : w.heap.size + 1 + 1 < w4.heap.size := (by omega)
  have y4_0_1 : w.heap.size + 1 < w4.heap.size := (by omega)
  have y4_0_0 : w.heap.size < w4.heap.size := (by omega)
  have y4_0_p1 : w.heap.size < w4.heap.size + 1 := (by omega)
  have y4_0_p2 : w.heap.size < w4.heap.size + 1 + 1 := (by omega)
  have y4_2_1 : w2.heap.size + 1 < w4.heap.size := (by omega)
  have y4_2_0 : w2.heap.size < w4.heap.size := (by omega)
  have y4_2_p1 : w2.heap.size < w4.heap.size + 1 := (by omega)
  have y4_2_p2 : w2.heap.size < w4.heap.size + 1 + 1 := (by omega)
  have y4_3_1 : w3.heap.size + 1 < w4.heap.size := (by omega)
  have y4_3_0 : w3.heap.size < w4.heap.size := (by omega)
  have y4_3_p1 : w3.heap.size < w4.heap.size + 1 := (by omega)
  have y4_3_p2 : w3.heap.size < w4.heap.size + 1 + 1 := (by omega)
  clear hB
  clear A3
  go_wp2_with fail
  refine (A4 _).mono ?_
  rintro e w5 ⟨rfl, hB⟩
  have D5 := dstep w hB (by repeat (first | with_reducible exact D4 | with_reducible apply bdrew | with_reducible apply bdrewN | with_reducible apply balloc | ((with_reducible refine bset ?_ ?_ _); rotate_left; (first | omega | (simp <;> omega)))))
  have d5s := D5.size
  have B5 := bstep B1 hB (by repeat (first | with_reducible exact B4 | with_reducible apply bdrew | with_reducible apply bdrewN | with_reducible apply balloc | ((with_reducible refine bset ?_ ?_ _); rotate_left; (first | omega | (simp <;> omega)))))
  have F5 := C0.below B5
  simp only [Cls, and_true] at F5
  have G5 := Cls.below (l := [(w2.heap.size, 0, .int .i64 p1), (w2.heap.size, 1, .int .i64 q1), (w2.heap.size + 1, 0, .int .i64 c1), (w2.heap.size + 1, 1, .int .i64 i1), (w3.heap.size, 0, .int .i64 p2), (w3.heap.size, 1, .int .i64 q2), (w3.heap.size + 1, 0, .int .i64 0), (w3.heap.size + 1, 1, .int .i64 i2), (w4.heap.size, 0, .int .i64 p3), (w4.heap.size, 1, .int .i64 q3), (w4.heap.size + 1, 0, .int .i64 c3), (w4.heap.size + 1, 1, .int .i64 i3)]) hB (by simp [Cls, go_sem, F4, G4, y4_0_2, y4_0_1, y4_0_0, y4_0_p1, y4_0_p2, y4_2_1, y4_2_0, y4_2_p1, y4_2_p2, y4_3_1, y4_3_0, y4_3_p1, y4_3_p2])
  simp only [Cls, and_true] at G5
  have hs5 := hB.size
  try simp at hs5
  have y5_0_2 : w.heap.size + 1 + 1 < w5.heap.size := (by omega)
  have y5_0_1 : w.heap.size + 1 < w5.heap.size := (by omega)
  have y5_0_0 : w.heap.size < w5.heap.size := (by omega)
  have y5_0_p1 : w.heap.size < w5.heap.size + 1 := (by omega)
  have y5_0_p2 : w.heap.size < w5.heap.size + 1 + 1 := (by omega)
  have y5_2_1 : w2.heap.size + 1 < w5.heap.size := (by omega)
  have y5_2_0 : w2.heap.size < w5.heap.size := (by omega)
  have y5_2_p1 : w2.heap.size < w5.heap.size + 1 := (by omega)
  have y5_2_p2 : w2.heap.size < w5.heap.size + 1 + 1 := (by omega)
  have y5_3_1 : w3.heap.size + 1 < w5.heap.size := (by omega)
  have y5_3_0 : w3.heap.size < w5.heap.size := (by omega)
  have y5_3_p1 : w3.heap.size < w5.heap.size + 1 := (by omega)
  have y5_3_p2 : w3.heap.size < w5.heap.size + 1 + 1 := (by omega)
  have y5_4_1 : w4.heap.size + 1 < w5.heap.size := (by omega)
  have y5_4_0 : w4.heap.size < w5.heap.size := (by omega)
  have y5_4_p1 : w4.heap.size < w5.heap.size + 1 := (by omega)
  have y5_4_p2 : w4.heap.size < w5.heap.size + 1 + 1 := (by omega)
  clear hB
  clear A4
  go_wp2_with fail
  refine (A5 _).mono ?_
  rintro e w6 ⟨rfl, hB⟩
  have D6 := dstep w hB (by repeat (first | with_reducible exact D5 | with_reducible apply bdrew | with_reducible apply bdrewN | with_reducible apply balloc | ((with_reducible refine bset ?_ ?_ _); rotate_left; (first | omega | (simp <;> omega)))))
  have d6s := D6.size
  have B6 := bstep B1 hB (by repeat (first | with_reducible exact B5 | with_reducible apply bdrew | with_reducible apply bdrewN | with_reducible apply balloc | ((with_reducible refine bset ?_ ?_ _); rotate_left; (first | omega | (simp <;> omega)))))
  have F6 := C0.below B6
  simp only [Cls, and_true] at F6
  have G6 := Cls.below (l := [(w2.heap.size, 0, .int .i64 p1), (w2.heap.size, 1, .int .i64 q1), (w2.heap.size + 1, 0, .int .i64 c1), (w2.heap.size + 1, 1, .int .i64 i1), (w3.heap.size, 0, .int .i64 p2), (w3.heap.size, 1, .int .i64 q2), (w3.heap.size + 1, 0, .int .i64 0), (w3.heap.size + 1, 1, .int .i64 i2), (w4.heap.size, 0, .int .i64 p3), (w4.heap.size, 1, .int .i64 q3), (w4.heap.size + 1, 0, .int .i64 c3), (w4.heap.size + 1, 1, .int .i64 i3), (w5.heap.size, 0, .int .i64 p4), (w5.heap.size, 1, .int .i64 q4), (w5.heap.size + 1, 0, .int .i64 c4), (w5.heap.size + 1, 1, .int .i64 i4)]) hB (by simp [Cls, go_sem, F5, G5, y5_0_2, y5_0_1, y5_0_0, y5_0_p1, y5_0_p2, y5_2_1, y5_2_0, y5_2_p1, y5_2_p2, y5_3_1, y5_3_0, y5_3_p1, y5_3_p2, y5_4_1, y5_4_0, y5_4_p1, y5_4_p2])
  simp only [Cls, and_true] at G6
  have hs6 := hB.size
  try simp at hs6
  have y6_0_2 : w.heap.size + 1 + 1 < w6.heap.size := (by omega)
  have y6_0_1 : w.heap.size + 1 < w6.heap.size := (by omega)
  have y6_0_0 : w.heap.size < w6.heap.size := (by omega)
  have y6_0_p1 : w.heap.size < w6.heap.size + 1 := (by omega)
  have y6_0_p2 : w.heap.size < w6.heap.size + 1 + 1 := (by omega)
  have y6_2_1 : w2.heap.size + 1 < w6.heap.size := (by omega)
  have y6_2_0 : w2.heap.size < w6.heap.size := (by omega)
  have y6_2_p1 : w2.heap.size < w6.heap.size + 1 := (by omega)
  have y6_2_p2 : w2.heap.size < w6.heap.size + 1 + 1 := (by omega)
  have y6_3_1 : w3.heap.size + 1 < w6.heap.size := (by omega)
  have y6_3_0 : w3.heap.size < w6.heap.size := (by omega)
  have y6_3_p1 : w3.heap.size < w6.heap.size + 1 := (by omega)
  have y6_3_p2 : w3.heap.size < w6.heap.size + 1 + 1 := (by omega)
  have y6_4_1 : w4.heap.size + 1 < w6.heap.size := (by omega)
  have y6_4_0 : w4.heap.size < w6.heap.size := (by omega)
  have y6_4_p1 : w4.heap.size < w6.heap.size + 1 := (by omega)
  have y6_4_p2 : w4.heap.size < w6.heap.size + 1 + 1 := (by omega)
  have y6_5_1 : w5.heap.size + 1 < w6.heap.size := (by omega)
  have y6_5_0 : w5.heap.size < w6.heap.size := (by omega)
  have y6_5_p1 : w5.heap.size < w6.heap.size + 1 := (by omega)
  have y6_5_p2 : w5.heap.size < w6.heap.size + 1 + 1 := (by omega)
  clear hB
  clear A5
  go_wp2_with fail
  refine (A6 _).mono ?_
  rintro e w7 ⟨rfl, hB⟩
  have D7 := dstep w hB (by repeat (first | with_reducible exact D6 | with_reducible apply bdrew | with_reducible apply bdrewN | with_reducible apply balloc | ((with_reducible refine bset ?_ ?_ _); rotate_left; (first | omega | (simp <;> omega)))))
  have d7s := D7.size
  have B7 := bstep B1 hB (by repeat (first | with_reducible exact B6 | with_reducible apply bdrew | with_reducible apply bdrewN | with_reducible apply balloc | ((with_reducible refine bset ?_ ?_ _); rotate_left; (first | omega | (simp <;> omega)))))
  have F7 := C0.below B7
  simp only [Cls, and_true] at F7
  have G7 := Cls.below (l := [(w2.heap.size, 0, .int .i64 p1), (w2.heap.size, 1, .int .i64 q1), (w2.heap.size + 1, 0, .int .i64 c1), (w2.heap.size + 1, 1, .int .i64 i1), (w3.heap.size, 0, .int .i64 p2), (w3.heap.size, 1, .int .i64 q2), (w3.heap.size + 1, 0, .int .i64 0), (w3.heap.size + 1, 1, .int .i64 i2), (w4.heap.size, 0, .int .i64 p3), (w4.heap.size, 1, .int .i64 q3), (w4.heap.size + 1, 0, .int .i64 c3), (w4.heap.size + 1, 1, .int .i64 i3), (w5.heap.size, 0, .int .i64 p4), (w5.heap.size, 1, .int .i64 q4), (w5.heap.size + 1, 0, .int .i64 c4), (w5.heap.size + 1, 1, .int .i64 i4), (w6.heap.size, 0, .int .i64 p5), (w6.heap.size, 1, .int .i64 q5), (w6.heap.size + 1, 0, .int .i64 0), (w6.heap.size + 1, 1, .int .i64 i5)]) hB (by simp [Cls, go_sem, F6, G6, y6_0_2, y6_0_1, y6_0_0, y6_0_p1, y6_0_p2, y6_2_1, y6_2_0, y6_2_p1, y6_2_p2, y6_3_1, y6_3_0, y6_3_p1, y6_3_p2, y6_4_1, y6_4_0, y6_4_p1, y6_4_p2, y6_5_1, y6_5_0, y6_5_p1, y6_5_p2])
  simp only [Cls, and_true] at G7
  have hs7 := hB.size
  try simp at hs7
  have y7_0_2 : w.heap.size + 1 + 1 < w7.heap.size := (by omega)
  have y7_0_1 : w.heap.size + 1 < w7.heap.size := (by omega)
  have y7_0_0 : w.heap.size < w7.heap.size := (by omega)
  have y7_0_p1 : w.heap.size < w7.heap.size + 1 := (by omega)
  have y7_0_p2 : w.heap.size < w7.heap.size + 1 + 1 := (by omega)
  have y7_2_1 : w2.heap.size + 1 < w7.heap.size := (by omega)
  have y7_2_0 : w2.heap.size < w7.heap.size := (by omega)
  have y7_2_p1 : w2.heap.size < w7.heap.size + 1 := (by omega)
  have y7_2_p2 : w2.heap.size < w7.heap.size + 1 + 1 := (by omega)
  have y7_3_1 : w3.heap.size + 1 < w7.heap.size := (by omega)
  have y7_3_0 : w3.heap.size < w7.heap.size := (by omega)
  have y7_3_p1 : w3.heap.size < w7.heap.size + 1 := (by omega)
  have y7_3_p2 : w3.heap.size < w7.heap.size + 1 + 1 := (by omega)
  have y7_4_1 : w4.heap.size + 1 < w7.heap.size := (by omega)
  have y7_4_0 : w4.heap.size < w7.heap.size := (by omega)
  have y7_4_p1 : w4.heap.size < w7.heap.size + 1 := (by omega)
  have y7_4_p2 : w4.heap.size < w7.heap.size + 1 + 1 := (by omega)
  have y7_5_1 : w5.heap.size + 1 < w7.heap.size := (by omega)
  have y7_5_0 : w5.heap.size < w7.heap.size := (by omega)
  have y7_5_p1 : w5.heap.size < w7.heap.size + 1 := (by omega)
  have y7_5_p2 : w5.heap.size < w7.heap.size + 1 + 1 := (by omega)
  have y7_6_1 : w6.heap.size + 1 < w7.heap.size := (by omega)
  have y7_6_0 : w6.heap.size < w7.heap.size := (by omega)
  have y7_6_p1 : w6.heap.size < w7.heap.size + 1 := (by omega)
  have y7_6_p2 : w6.heap.size < w7.heap.size + 1 + 1 := (by omega)
  clear hB
  clear A6
  go_wp2_with fail
  refine (A7 _).mono ?_
  rintro e w8 ⟨rfl, hB⟩
  have D8 := dstep w hB (by repeat (first | with_reducible exact D7 | with_reducible apply bdrew | with_reducible apply bdrewN | with_reducible apply balloc | ((with_reducible refine bset ?_ ?_ _); rotate_left; (first | omega | (simp <;> omega)))))
  have d8s := D8.size
  have B8 := bstep B1 hB (by repeat (first | with_reducible exact B7 | with_reducible apply bdrew | with_reducible apply bdrewN | with_reducible apply balloc | ((with_reducible refine bset ?_ ?_ _); rotate_left; (first | omega | (simp <;> omega)))))
  have F8 := C0.below B8
  simp only [Cls, and_true] at F8
  have G8 := Cls.below (l := [(w2.heap.size, 0, .int .i64 p1), (w2.heap.size, 1, .int .i64 q1), (w2.heap.size + 1, 0, .int .i64 c1), (w2.heap.size + 1, 1, .int .i64 i1), (w3.heap.size, 0, .int .i64 p2), (w3.heap.size, 1, .int .i64 q2), (w3.heap.size + 1, 0, .int .i64 0), (w3.heap.size + 1, 1, .int .i64 i2), (w4.heap.size, 0, .int .i64 p3), (w4.heap.size, 1, .int .i64 q3), (w4.heap.size + 1, 0, .int .i64 c3), (w4.heap.size + 1, 1, .int .i64 i3), (w5.heap.size, 0, .int .i64 p4), (w5.heap.size, 1, .int .i64 q4), (w5.heap.size + 1, 0, .int .i64 c4), (w5.heap.size + 1, 1, .int .i64 i4), (w6.heap.size, 0, .int .i64 p5), (w6.heap.size, 1, .int .i64 q5), (w6.heap.size + 1, 0, .int .i64 0), (w6.heap.size + 1, 1, .int .i64 i5), (w7.heap.size, 0, .int .i64 p6), (w7.heap.size, 1, .int .i64 q6), (w7.heap.size + 1, 0, .int .i64 0), (w7.heap.size + 1, 1, .int .i64 i6)]) hB (by simp [Cls, go_sem, F7, G7, y7_0_2, y7_0_1, y7_0_0, y7_0_p1, y7_0_p2, y7_2_1, y7_2_0, y7_2_p1, y7_2_p2, y7_3_1, y7_3_0, y7_3_p1, y7_3_p2, y7_4_1, y7_4_0, y7_4_p1, y7_4_p2, y7_5_1, y7_5_0, y7_5_p1, y7_5_p2, y7_6_1, y7_6_0, y7_6_p1, y7_6_p2])
  simp only [Cls, and_true] at G8
  have hs8 := hB.size
  try simp at hs8
  have y8_0_2 : w.heap.size + 1 + 1 < w8.heap.size := (by omega)
  have y8_0_1 : w.heap.size + 1 < w8.heap.size := (by omega)
  have y8_0_0 : w.heap.size < w8.heap.size := (by omega)
  have y8_0_p1 : w.heap.size < w8.heap.size + 1 := (by omega)
  have y8_0_p2 : w.heap.size < w8.heap.size + 1 + 1 := (by omega)
  have y8_2_1 : w2.heap.size + 1 < w8.heap.size := (by omega)
  have y8_2_0 : w2.heap.size < w8.heap.size := (by omega)
  have y8_2_p1 : w2.heap.size < w8.heap.size + 1 := (by omega)
  have y8_2_p2 : w2.heap.size < w8.heap.size + 1 + 1 := (by omega)
  have y8_3_1 : w3.heap.size + 1 < w8.heap.size := (by omega)
  have y8_3_0 : w3.heap.size < w8.heap.size := (by omega)
  have y8_3_p1 : w3.heap.size < w8.heap.size + 1 := (by omega)
  have y8_3_p2 : w3.heap.size < w8.heap.size + 1 + 1 := (by omega)
  have y8_4_1 : w4.heap.size + 1 < w8.heap.size := (by omega)
  have y8_4_0 : w4.heap.size < w8.heap.size := (by omega)
  have y8_4_p1 : w4.heap.size < w8.heap.size + 1 := (by omega)
  have y8_4_p2 : w4.heap.size < w8.heap.size + 1 + 1 := (by omega)
  have y8_5_1 : w5.heap.size + 1 < w8.heap.size := (by omega)
  have y8_5_0 : w5.heap.size < w8.heap.size := (by omega)
  have y8_5_p1 : w5.heap.size < w8.heap.size + 1 := (by omega)
  have y8_5_p2 : w5.heap.size < w8.heap.size + 1 + 1 := (by omega)
  have y8_6_1 : w6.heap.size + 1 < w8.heap.size := (by omega)
  have y8_6_0 : w6.heap.size < w8.heap.size := (by omega)
  have y8_6_p1 : w6.heap.size < w8.heap.size + 1 := (by omega)
  have y8_6_p2 : w6.heap.size < w8.heap.size + 1 + 1 := (by omega)
  have y8_7_1 : w7.heap.size + 1 < w8.heap.size := (by omega)
  have y8_7_0 : w7.heap.size < w8.heap.size := (by omega)
  have y8_7_p1 : w7.heap.size < w8.heap.size + 1 := (by omega)
  have y8_7_p2 : w7.heap.size < w8.heap.size + 1 + 1 := (by omega)
  clear hB
  clear A7
  go_wp2_with fail
  refine (A8 _).mono ?_
  rintro e w9 ⟨rfl, hB⟩
  have D9 := dstep w hB (by repeat (first | with_reducible exact D8 | with_reducible apply bdrew | with_reducible apply bdrewN | with_reducible apply balloc | ((with_reducible refine bset ?_ ?_ _); rotate_left; (first | omega | (simp <;> omega)))))
  have d9s := D9.size
  have B9 := bstep B1 hB (by repeat (first | with_reducible exact B8 | with_reducible apply bdrew | with_reducible apply bdrewN | with_reducible apply balloc | ((with_reducible refine bset ?_ ?_ _); rotate_left; (first | omega | (simp <;> omega)))))
  have F9 := C0.below B9
  simp only [Cls, and_true] at F9
  have G9 := Cls.below (l := [(w2.heap.size, 0, .int .i64 p1), (w2.heap.size, 1, .int .i64 q1), (w2.heap.size + 1, 0, .int .i64 c1), (w2.heap.size + 1, 1, .int .i64 i1), (w3.heap.size, 0, .int .i64 p2), (w3.heap.size, 1, .int .i64 q2), (w3.heap.size + 1, 0, .int .i64 0), (w3.heap.size + 1, 1, .int .i64 i2), (w4.heap.size, 0, .int .i64 p3), (w4.heap.size, 1, .int .i64 q3), (w4.heap.size + 1, 0, .int .i64 c3), (w4.heap.size + 1, 1, .int .i64 i3), (w5.heap.size, 0, .int .i64 p4), (w5.heap.size, 1, .int .i64 q4), (w5.heap.size + 1, 0, .int .i64 c4), (w5.heap.size + 1, 1, .int .i64 i4), (w6.heap.size, 0, .int .i64 p5), (w6.heap.size, 1, .int .i64 q5), (w6.heap.size + 1, 0, .int .i64 0), (w6.heap.size + 1, 1, .int .i64 i5), (w7.heap.size, 0, .int .i64 p6), (w7.heap.size, 1, .int .i64 q6), (w7.heap.size + 1, 0, .int .i64 0), (w7.heap.size + 1, 1, .int .i64 i6), (w8.heap.size, 0, .int .i64 p7), (w8.heap.size, 1, .int .i64 q7), (w8.heap.size + 1, 0, .int .i64 0), (w8.heap.size + 1, 1, .int .i64 i7)]) hB (by simp [Cls, go_sem, F8, G8, y8_0_2, y8_0_1, y8_0_0, y8_0_p1, y8_0_p2, y8_2_1, y8_2_0, y8_2_p1, y8_2_p2, y8_3_1, y8_3_0, y8_3_p1, y8_3_p2, y8_4_1, y8_4_0, y8_4_p1, y8_4_p2, y8_5_1, y8_5_0, y8_5_p1, y8_5_p2, y8_6_1, y8_6_0, y8_6_p1, y8_6_p2, y8_7_1, y8_7_0, y8_7_p1, y8_7_p2])
  simp only [Cls, and_true] at G9
  have hs9 := hB.size
  try simp at hs9
  have y9_0_2 : w.heap.size + 1 + 1 < w9.heap.size := (by omega)
  have y9_0_1 : w.heap.size + 1 < w9.heap.size := (by omega)
  have y9_0_0 : w.heap.size < w9.heap.size := (by omega)
  have y9_0_p1 : w.heap.size < w9.heap.size + 1 := (by omega)
  have y9_0_p2 : w.heap.size < w9.heap.size + 1 + 1 := (by omega)
  have y9_2_1 : w2.heap.size + 1 < w9.heap.size := (by omega)
  have y9_2_0 : w2.heap.size < w9.heap.size := (by omega)
  have y9_2_p1 : w2.heap.size < w9.heap.size + 1 := (by omega)
  have y9_2_p2 : w2.heap.size < w9.heap.size + 1 + 1 := (by omega)
  have y9_3_1 : w3.heap.size + 1 < w9.heap.size := (by omega)
  have y9_3_0 : w3.heap.size < w9.heap.size := (by omega)
  have y9_3_p1 : w3.heap.size < w9.heap.size + 1 := (by omega)
  have y9_3_p2 : w3.heap.size < w9.heap.size + 1 + 1 := (by omega)
  have y9_4_1 : w4.heap.size + 1 < w9.heap.size := (by omega)
  have y9_4_0 : w4.heap.size < w9.heap.size := (by omega)
  have y9_4_p1 : w4.heap.size < w9.heap.size + 1 := (by omega)
  have y9_4_p2 : w4.heap.size < w9.heap.size + 1 + 1 := (by omega)
  have y9_5_1 : w5.heap.size + 1 < w9.heap.size := (by omega)
  have y9_5_0 : w5.heap.size < w9.heap.size := (by omega)
  have y9_5_p1 : w5.heap.size < w9.heap.size + 1 := (by omega)
  have y9_5_p2 : w5.heap.size < w9.heap.size + 1 + 1 := (by omega)
  have y9_6_1 : w6.heap.size + 1 < w9.heap.size := (by omega)
  have y9_6_0 : w6.heap.size < w9.heap.size := (by omega)
  have y9_6_p1 : w6.heap.size < w9.heap.size + 1 := (by omega)
  have y9_6_p2 : w6.heap.size < w9.heap.size + 1 + 1 := (by omega)
  have y9_7_1 : w7.heap.size + 1 < w9.heap.size := (by omega)
  have y9_7_0 : w7.heap.size < w9.heap.size := (by omega)
  have y9_7_p1 : w7.heap.size < w9.heap.size + 1 := (by omega)
  have y9_7_p2 : w7.heap.size < w9.heap.size + 1 + 1 := (by omega)
  have y9_8_1 : w8.heap.size + 1 < w9.heap.size := (by omega)
  have y9_8_0 : w8.heap.size < w9.heap.size := (by omega)
  have y9_8_p1 : w8.heap.size < w9.heap.size + 1 := (by omega)
  have y9_8_p2 : w8.heap.size < w9.heap.size + 1 + 1 := (by omega)
  clear hB
  clear A8
  go_wp2
  go_ret
  exact ⟨rfl, by repeat (first | with_reducible exact D9 | with_reducible apply bdrew | with_reducible apply bdrewN | with_reducible apply balloc | ((with_reducible refine bset ?_ ?_ _); rotate_left; (first | omega | (simp <;> omega))))⟩

set_option maxHeartbeats 1000000 in
theorem walk_ring_11 (a b c d e f p1 q1 c1 i1 p2 q2 c2 i2 p3 q3 c3 i3 p4 q4 c4 i4 p5 q5 c5 i5 p6 q6 c6 i6 p7 q7 c7 i7 p8 q8 c8 i8 : Int) (l1 : 0 ≤ c1 ∧ c1 ≤ 10) (l2 : 0 ≤ c2 ∧ c2 ≤ 10) (l3 : 0 ≤ c3 ∧ c3 ≤ 10) (l4 : 0 ≤ c4 ∧ c4 ≤ 10) (l5 : 0 ≤ c5 ∧ c5 ≤ 10) (l6 : 0 ≤ c6 ∧ c6 ≤ 10) (l7 : 0 ≤ c7 ∧ c7 ≤ 10) (l8 : 0 ≤ c8 ∧ c8 ≤ 10) (n1 : ¬ c1 + c2 + c3 + c4 = 0) (n2 : ¬ c2 + c5 + c6 + c7 + c8 = 0) (A1 : ∀ w : World, Calls Try.prog 15 #[.agg #[.int .i64 a, .int .i64 b], .agg #[.int .i64 c, .int .i64 d]] w fun e w' => e = .returned (.tuple #[.agg #[.int .i64 p1, .int .i64 q1], .agg #[.int .i64 c1, .int .i64 i1]]) ∧ Below w.heap.size w w') (A2 : ∀ w : World, Calls Try.prog 15 #[.agg #[.int .i64 c, .int .i64 d], .agg #[.int .i64 e, .int .i64 f]] w fun e w' => e = .returned (.tuple #[.agg #[.int .i64 p2, .int .i64 q2], .agg #[.int .i64 c2, .int .i64 i2]]) ∧ Below w.heap.size w w') (A3 : ∀ w : World, Calls Try.prog 15 #[.agg #[.int .i64 p1, .int .i64 q1], .agg #[.int .i64 e, .int .i64 f]] w fun e w' => e = .returned (.tuple #[.agg #[.int .i64 p3, .int .i64 q3], .agg #[.int .i64 c3, .int .i64 i3]]) ∧ Below w.heap.size w w') (A4 : ∀ w : World, Calls Try.prog 15 #[.agg #[.int .i64 a, .int .i64 b], .agg #[.int .i64 p2, .int .i64 q2]] w fun e w' => e = .returned (.tuple #[.agg #[.int .i64 p4, .int .i64 q4], .agg #[.int .i64 c4, .int .i64 i4]]) ∧ Below w.heap.size w w') (A5 : ∀ w : World, Calls Try.prog 16 #[.agg #[.int .i64 a, .int .i64 b], .agg #[.int .i64 p2, .int .i64 q2]] w fun e w' => e = .returned (.tuple #[.agg #[.int .i64 p5, .int .i64 q5], .agg #[.int .i64 c5, .int .i64 i5]]) ∧ Below w.heap.size w w') (A6 : ∀ w : World, Calls Try.prog 16 #[.agg #[.int .i64 a, .int .i64 b], .agg #[.int .i64 c, .int .i64 d]] w fun e w' => e = .returned (.tuple #[.agg #[.int .i64 p6, .int .i64 q6], .agg #[.int .i64 c6, .int .i64 i6]]) ∧ Below w.heap.size w w') (A7 : ∀ w : World, Calls Try.prog 16 #[.agg #[.int .i64 a, .int .i64 b], .agg #[.int .i64 e, .int .i64 f]] w fun e w' => e = .returned (.tuple #[.agg #[.int .i64 p7, .int .i64 q7], .agg #[.int .i64 c7, .int .i64 i7]]) ∧ Below w.heap.size w w') (A8 : ∀ w : World, Calls Try.prog 15 #[.agg #[.int .i64 p6, .int .i64 q6], .agg #[.int .i64 p7, .int .i64 q7]] w fun e w' => e = .returned (.tuple #[.agg #[.int .i64 p8, .int .i64 q8], .agg #[.int .i64 c8, .int .i64 i8]]) ∧ Below w.heap.size w w') (w : World) :
    Calls Try.prog 5 #[.agg #[.int .i64 a, .int .i64 b], .agg #[.int .i64 c, .int .i64 d], .agg #[.int .i64 e, .int .i64 f]] w fun e w' => e = .returned (.bool true) ∧ Below w.heap.size w w' := by
  obtain ⟨l1a, l1b⟩ := l1
  obtain ⟨l2a, l2b⟩ := l2
  obtain ⟨l3a, l3b⟩ := l3
  obtain ⟨l4a, l4b⟩ := l4
  obtain ⟨l5a, l5b⟩ := l5
  obtain ⟨l6a, l6b⟩ := l6
  obtain ⟨l7a, l7b⟩ := l7
  obtain ⟨l8a, l8b⟩ := l8
  have b1 := bb_no n1
  have b1' := bn_yes n1
  have b2 := bb_no n2
  have b2' := bn_yes n2
  go_enter Try.func5, Try.ntmps5
  go_wp2_with fail
  refine (example_any _).mono ?_
  rintro e w1 ⟨rfl, hB⟩
  have D1 := dstep w hB (by repeat (first | with_reducible exact Below.refl _ _ | with_reducible apply bdrew | with_reducible apply bdrewN | with_reducible apply balloc | ((with_reducible refine bset ?_ ?_ _); rotate_left; (first | omega | (simp <;> omega)))))
  have d1s := D1.size
  obtain ⟨C0, F1⟩ := Cls.first (l := [(w.heap.size, 0, .int .i64 a), (w.heap.size, 1, .int .i64 b), (w.heap.size + 1, 0, .int .i64 c), (w.heap.size + 1, 1, .int .i64 d), (w.heap.size + 1 + 1, 0, .int .i64 e), (w.heap.size + 1 + 1, 1, .int .i64 f)]) hB (by simp [Cls, go_sem])
  simp only [Cls, and_true] at F1
  have B1 := hB
  have hs1 := hB.size
  try simp at hs1
  have hb1 := B1.size
  try simp at hb1
  have y1_0_2 : w.heap.size + 1 + 1 < w1.heap.size := (by omega)
  have y1_0_1 : w.heap.size + 1 < w1.heap.size := (by omega)
  have y1_0_0 : w.heap.size < w1.heap.size := (by omega)
  have y1_0_p1 : w.heap.size < w1.heap.size + 1 := (by omega)
  have y1_0_p2 : w.heap.size < w1.heap.size + 1 + 1 := (by omega)
  clear hB
  go_wp2_with fail
  refine (A1 _).mono ?_
  rintro e w2 ⟨rfl, hB⟩
  have D2 := dstep w hB (by repeat (first | with_reducible exact D1 | with_reducible apply bdrew | with_reducible apply bdrewN | with_reducible apply balloc | ((with_reducible refine bset ?_ ?_ _); rotate_left; (first | omega | (simp <;> omega)))))
  have d2s := D2.size
  have B2 := bstep B1 hB (by repeat (first | with_reducible exact B1 | with_reducible apply bdrew | with_reducible apply bdrewN | with_reducible apply balloc | ((with_reducible refine bset ?_ ?_ _); rotate_left; (first | omega | (simp <;> omega)))))
  have F2 := C0.below B2
  simp only [Cls, and_true] at F2
  have hs2 := hB.size
  try simp at hs2
  have y2_0_2 : w.heap.size + 1 + 1 < w2.heap.size := (by omega)
  have y2_0_1 : w.heap.size + 1 < w2.heap.size := (by omega)
  have y2_0_0 : w.heap.size < w2.heap.size := (by omega)
  have y2_0_p1 : w.heap.size < w2.heap.size + 1 := (by omega)
  have y2_0_p2 : w.heap.size < w2.heap.size + 1 + 1 := (by omega)
  clear hB
  clear A1
  go_wp2_with fail
  refine (A2 _).mono ?_
  rintro e w3 ⟨rfl, hB⟩
  have D3 := dstep w hB (by repeat (first | with_reducible exact D2 | with_reducible apply bdrew | with_reducible apply bdrewN | with_reducible apply balloc | ((with_reducible refine bset ?_ ?_ _); rotate_left; (first | omega | (simp <;> omega)))))
  have d3s := D3.size
  have B3 := bstep B1 hB (by repeat (first | with_reducible exact B2 | with_reducible apply bdrew | with_reducible apply bdrewN | with_reducible apply balloc | ((with_reducible refine bset ?_ ?_ _); rotate_left; (first | omega | (simp <;> omega)))))
  have F3 := C0.below B3
  simp only [Cls, and_true] at F3
  have G3 := Cls.below (l := [(w2.heap.size, 0, .int .i64 p1), (w2.heap.size, 1, .int .i64 q1), (w2.heap.size + 1, 0, .int .i64 c1), (w2.heap.size + 1, 1, .int .i64 i1)]) hB (by simp [Cls, go_sem, F2, y2_0_2, y2_0_1, y2_0_0, y2_0_p1, y2_0_p2])
  simp only [Cls, and_true] at G3
  have hs3 := hB.size
  try simp at hs3
  have y3_0_2 : w.heap.size + 1 + 1 < w3.heap.size := (by omega)
  have y3_0_1 : w.heap.size + 1 < w3.heap.size := (by omega)
  have y3_0_0 : w.heap.size < w3.heap.size := (by omega)
  have y3_0_p1 : w.heap.size < w3.heap.size + 1 := (by omega)
  have y3_0_p2 : w.heap.size < w3.heap.size + 1 + 1 := (by omega)
  have y3_2_1 : w2.heap.size + 1 < w3.heap.size := (by omega)
  have y3_2_0 : w2.heap.size < w3.heap.size := (by omega)
  have y3_2_p1 : w2.heap.size < w3.heap.size + 1 := (by omega)
  have y3_2_p2 : w2.heap.size < w3.heap.size + 1 + 1 := (by omega)
  clear hB
  clear A2
  go_wp2_with fail
  refine (A3 _).mono ?_
  rintro e w4 ⟨rfl, hB⟩
  have D4 := dstep w hB (by repeat (first | with_reducible exact D3 | with_reducible apply bdrew | with_reducible apply bdrewN | with_reducible apply balloc | ((with_reducible refine bset ?_ ?_ _); rotate_left; (first | omega | (simp <;> omega)))))
  have d4s := D4.size
  have B4 := bstep B1 hB (by repeat (first | with_reducible exact B3 | with_reducible apply bdrew | with_reducible apply bdrewN | with_reducible apply balloc | ((with_reducible refine bset ?_ ?_ _); rotate_left; (first | omega | (simp <;> omega)))))
  have F4 := C0.below B4
  simp only [Cls, and_true] at F4
  have G4 := Cls.below (l := [(w2.heap.size, 0, .int .i64 p1), (w2.heap.size, 1, .int .i64 q1), (w2.heap.size + 1, 0, .int .i64 c1), (w2.heap.size + 1, 1, .int .i64 i1), (w3.heap.size, 0, .int .i64 p2), (w3.heap.size, 1, .int .i64 q2), (w3.heap.size + 1, 0, .int .i64 c2), (w3.heap.size + 1, 1, .int .i64 i2)]) hB (by simp [Cls, go_sem, F3, G3, y3_0_2, y3_0_1, y3_0_0, y3_0_p1, y3_0_p2, y3_2_1, y3_2_0, y3_2_p1, y3_2_p2])
  simp only [Cls, and_true] at G4
  have hs4 := hB.size
  try simp at hs4
  have y4_0_2 : w.heap.size + 1 + 1 < w4.heap.size := (by omega)
  have y4_0_1 : w.heap.size + 1 < w4.heap.size := (by omega)
  have y4_0_0 : w.heap.size < w4.heap.size := (by omega)
  have y4_0_p1 : w.heap.size < w4.heap.size + 1 := (by omega)
  have y4_0_p2 : w.heap.size < w4.heap.size + 1 + 1 := (by omega)
  have y4_2_1 : w2.heap.size + 1 < w4.heap.size := (by omega)
  have y4_2_0 : w2.heap.size < w4.heap.size := (by omega)
  have y4_2_p1 : w2.heap.size < w4.heap.size + 1 := (by omega)
  have y4_2_p2 : w2.heap.size < w4.heap.size + 1 + 1 := (by omega)
  have y4_3_1 : w3.heap.size + 1 < w4.heap.size := (by omega)
  have y4_3_0 : w3.heap.size < w4.heap.size := (by omega)
  have y4_3_p1 : w3.heap.size < w4.heap.size + 1 := (by omega)
  have y4_3_p2 : w3.heap.size < w4.heap.size + 1 + 1 := (by omega)
  clear hB
  clear A3
  go_wp2_with fail
  refine (A4 _).mono ?_
  rintro e w5 ⟨rfl, hB⟩
  have D5 := dstep w hB (by repeat (first | with_reducible exact D4 | with_reducible apply bdrew | with_reducible apply bdrewN | with_reducible apply balloc | ((with_reducible refine bset ?_ ?_ _); rotate_left; (first | omega | (simp <;> omega)))))
  have d5s := D5.size
  have B5 := bstep B1 hB (by repeat (first | with_reducible exact B4 | with_reducible apply bdrew | with_reducible apply bdrewN | with_reducible apply balloc | ((with_reducible refine bset ?_ ?_ _); rotate_left; (first | omega | (simp <;> omega)))))
  have F5 := C0.below B5
  simp only [Cls, and_true] at F5
  have G5 := Cls.below (l := [(w2.heap.size, 0, .int .i64 p1), (w2.heap.size, 1, .int .i64 q1), (w2.heap.size + 1, 0, .int .i64 c1), (w2.heap.size + 1, 1, .int .i64 i1), (w3.heap.size, 0, .int .i64 p2), (w3.heap.size, 1, .int .i64 q2), (w3.heap.size + 1, 0, .int .i64 c2), (w3.heap.size + 1, 1, .int .i64 i2), (w4.heap.size, 0, .int .i64 p3), (w4.heap.size, 1, .int .i64 q3), (w4.heap.size + 1, 0, .int .i64 c3), (w4.heap.size + 1, 1, .int .i64 i3)]) hB (by simp [Cls, go_sem, F4, G4, y4_0_2, y4_0_1, y4_0_0, y4_0_p1, y4_0_p2, y4_2_1, y4_2_0, y4_2_p1, y4_2_p2, y4_3_1, y4_3_0, y4_3_p1, y4_3_p2])
  simp only [Cls, and_true] at G5
  have hs5 := hB.size
  try simp at hs5
  have y5_0_2 : w.heap.size + 1 + 1 < w5.heap.size := (by omega)
  have y5_0_1 : w.heap.size + 1 < w5.heap.size := (by omega)
  have y5_0_0 : w.heap.size < w5.heap.size := (by omega)
  have y5_0_p1 : w.heap.size < w5.heap.size + 1 := (by omega)
  have y5_0_p2 : w.heap.size < w5.heap.size + 1 + 1 := (by omega)
  have y5_2_1 : w2.heap.size + 1 < w5.heap.size := (by omega)
  have y5_2_0 : w2.heap.size < w5.heap.size := (by omega)
  have y5_2_p1 : w2.heap.size < w5.heap.size + 1 := (by omega)
  have y5_2_p2 : w2.heap.size < w5.heap.size + 1 + 1 := (by omega)
  have y5_3_1 : w3.heap.size + 1 < w5.heap.size := (by omega)
  have y5_3_0 : w3.heap.size < w5.heap.size := (by omega)
  have y5_3_p1 : w3.heap.size < w5.heap.size + 1 := (by omega)
  have y5_3_p2 : w3.heap.size < w5.heap.size + 1 + 1 := (by omega)
  have y5_4_1 : w4.heap.size + 1 < w5.heap.size := (by omega)
  have y5_4_0 : w4.heap.size < w5.heap.size := (by omega)
  have y5_4_p1 : w4.heap.size < w5.heap.size + 1 := (by omega)
  have y5_4_p2 : w4.heap.size < w5.heap.size + 1 + 1 := (by omega)
  clear hB
  clear A4
  go_wp2_with fail
  refine (A5 _).mono ?_
  rintro e w6 ⟨rfl, hB⟩
  have D6 := dstep w hB (by repeat (first | with_reducible exact D5 | with_reducible apply bdrew | with_reducible apply bdrewN | with_reducible apply balloc | ((with_reducible refine bset ?_ ?_ _); rotate_left; (first | omega | (simp <;> omega)))))
  have d6s := D6.size
  have B6 := bstep B1 hB (by repeat (first | with_reducible exact B5 | with_reducible apply bdrew | with_reducible apply bdrewN | with_reducible apply balloc | ((with_reducible refine bset ?_ ?_ _); rotate_left; (first | omega | (simp <;> omega)))))
  have F6 := C0.below B6
  simp only [Cls, and_true] at F6
  have G6 := Cls.below (l := [(w2.heap.size, 0, .int .i64 p1), (w2.heap.size, 1, .int .i64 q1), (w2.heap.size + 1, 0, .int .i64 c1), (w2.heap.size + 1, 1, .int .i64 i1), (w3.heap.size, 0, .int .i64 p2), (w3.heap.size, 1, .int .i64 q2), (w3.heap.size + 1, 0, .int .i64 c2), (w3.heap.size + 1, 1, .int .i64 i2), (w4.heap.size, 0, .int .i64 p3), (w4.heap.size, 1, .int .i64 q3), (w4.heap.size + 1, 0, .int .i64 c3), (w4.heap.size + 1, 1, .int .i64 i3), (w5.heap.size, 0, .int .i64 p4), (w5.heap.size, 1, .int .i64 q4), (w5.heap.size + 1, 0, .int .i64 c4), (w5.heap.size + 1, 1, .int .i64 i4)]) hB (by simp [Cls, go_sem, F5, G5, y5_0_2, y5_0_1, y5_0_0, y5_0_p1, y5_0_p2, y5_2_1, y5_2_0, y5_2_p1, y5_2_p2, y5_3_1, y5_3_0, y5_3_p1, y5_3_p2, y5_4_1, y5_4_0, y5_4_p1, y5_4_p2])
  simp only [Cls, and_true] at G6
  have hs6 := hB.size
  try simp at hs6
  have y6_0_2 : w.heap.size + 1 + 1 < w6.heap.size := (by omega)
  have y6_0_1 : w.heap.size + 1 < w6.heap.size := (by omega)
  have y6_0_0 : w.heap.size < w6.heap.size := (by omega)
  have y6_0_p1 : w.heap.size < w6.heap.size + 1 := (by omega)
  have y6_0_p2 : w.heap.size < w6.heap.size + 1 + 1 := (by omega)
  have y6_2_1 : w2.heap.size + 1 < w6.heap.size := (by omega)
  have y6_2_0 : w2.heap.size < w6.heap.size := (by omega)
  have y6_2_p1 : w2.heap.size < w6.heap.size + 1 := (by omega)
  have y6_2_p2 : w2.heap.size < w6.heap.size + 1 + 1 := (by omega)
  have y6_3_1 : w3.heap.size + 1 < w6.heap.size := (by omega)
  have y6_3_0 : w3.heap.size < w6.heap.size := (by omega)
  have y6_3_p1 : w3.heap.size < w6.heap.size + 1 := (by omega)
  have y6_3_p2 : w3.heap.size < w6.heap.size + 1 + 1 := (by omega)
  have y6_4_1 : w4.heap.size + 1 < w6.heap.size := (by omega)
  have y6_4_0 : w4.heap.size < w6.heap.size := (by omega)
  have y6_4_p1 : w4.heap.size < w6.heap.size + 1 := (by omega)
  have y6_4_p2 : w4.heap.size < w6.heap.size + 1 + 1 := (by omega)
  have y6_5_1 : w5.heap.size + 1 < w6.heap.size := (by omega)
  have y6_5_0 : w5.heap.size < w6.heap.size := (by omega)
  have y6_5_p1 : w5.heap.size < w6.heap.size + 1 := (by omega)
  have y6_5_p2 : w5.heap.size < w6.heap.size + 1 + 1 := (by omega)
  clear hB
  clear A5
  go_wp2_with fail
  refine (A6 _).mono ?_
  rintro e w7 ⟨rfl, hB⟩
  have D7 := dstep w hB (by repeat (first | with_reducible exact D6 | with_reducible apply bdrew | with_reducible apply bdrewN | with_reducible apply balloc | ((with_reducible refine bset ?_ ?_ _); rotate_left; (first | omega | (simp <;> omega)))))
  have d7s := D7.size
  have B7 := bstep B1 hB (by repeat (first | with_reducible exact B6 | with_reducible apply bdrew | with_reducible apply bdrewN | with_reducible apply balloc | ((with_reducible refine bset ?_ ?_ _); rotate_left; (first | omega | (simp <;> omega)))))
  have F7 := C0.below B7
  simp only [Cls, and_true] at F7
  have G7 := Cls.below (l := [(w2.heap.size, 0, .int .i64 p1), (w2.heap.size, 1, .int .i64 q1), (w2.heap.size + 1, 0, .int .i64 c1), (w2.heap.size + 1, 1, .int .i64 i1), (w3.heap.size, 0, .int .i64 p2), (w3.heap.size, 1, .int .i64 q2), (w3.heap.size + 1, 0, .int .i64 c2), (w3.heap.size + 1, 1, .int .i64 i2), (w4.heap.size, 0, .int .i64 p3), (w4.heap.size, 1, .int .i64 q3), (w4.heap.size + 1, 0, .int .i64 c3), (w4.heap.size + 1, 1, .int .i64 i3), (w5.heap.size, 0, .int .i64 p4), (w5.heap.size, 1, .int .i64 q4), (w5.heap.size + 1, 0, .int .i64 c4), (w5.heap.size + 1, 1, .int .i64 i4), (w6.heap.size, 0, .int .i64 p5), (w6.heap.size, 1, .int .i64 q5), (w6.heap.size + 1, 0, .int .i64 c5), (w6.heap.size + 1, 1, .int .i64 i5)]) hB (by simp [Cls, go_sem, F6, G6, y6_0_2, y6_0_1, y6_0_0, y6_0_p1, y6_0_p2, y6_2_1, y6_2_0, y6_2_p1, y6_2_p2, y6_3_1, y6_3_0, y6_3_p1, y6_3_p2, y6_4_1, y6_4_0, y6_4_p1, y6_4_p2, y6_5_1, y6_5_0, y6_5_p1, y6_5_p2])
  simp only [Cls, and_true] at G7
  have hs7 := hB.size
  try simp at hs7
  have y7_0_2 : w.heap.size + 1 + 1 < w7.heap.size := (by omega)
  have y7_0_1 : w.heap.size + 1 < w7.heap.size := (by omega)
  have y7_0_0 : w.heap.size < w7.heap.size := (by omega)
  have y7_0_p1 : w.heap.size < w7.heap.size + 1 := (by omega)
  have y7_0_p2 : w.heap.size < w7.heap.size + 1 + 1 := (by omega)
  have y7_2_1 : w2.heap.size + 1 < w7.heap.size := (by omega)
  have y7_2_0 : w2.heap.size < w7.heap.size := (by omega)
  have y7_2_p1 : w2.heap.size < w7.heap.size + 1 := (by omega)
  have y7_2_p2 : w2.heap.size < w7.heap.size + 1 + 1 := (by omega)
  have y7_3_1 : w3.heap.size + 1 < w7.heap.size := (by omega)
  have y7_3_0 : w3.heap.size < w7.heap.size := (by omega)
  have y7_3_p1 : w3.heap.size < w7.heap.size + 1 := (by omega)
  have y7_3_p2 : w3.heap.size < w7.heap.size + 1 + 1 := (by omega)
  have y7_4_1 : w4.heap.size + 1 < w7.heap.size := (by omega)
  have y7_4_0 : w4.heap.size < w7.heap.size := (by omega)
  have y7_4_p1 : w4.heap.size < w7.heap.size + 1 := (by omega)
  have y7_4_p2 : w4.heap.size < w7.heap.size + 1 + 1 := (by omega)
  have y7_5_1 : w5.heap.size + 1 < w7.heap.size := (by omega)
  have y7_5_0 : w5.heap.size < w7.heap.size := (by omega)
  have y7_5_p1 : w5.heap.size < w7.heap.size + 1 := (by omega)
  have y7_5_p2 : w5.heap.size < w7.heap.size + 1 + 1 := (by omega)
  have y7_6_1 : w6.heap.size + 1 < w7.heap.size := (by omega)
  have y7_6_0 : w6.heap.size < w7.heap.size := (by omega)
  have y7_6_p1 : w6.heap.size < w7.heap.size + 1 := (by omega)
  have y7_6_p2 : w6.heap.size < w7.heap.size + 1 + 1 := (by omega)
  clear hB
  clear A6
  go_wp2_with fail
  refine (A7 _).mono ?_
  rintro e w8 ⟨rfl, hB⟩
  have D8 := dstep w hB (by repeat (first | with_reducible exact D7 | with_reducible apply bdrew | with_reducible apply bdrewN | with_reducible apply balloc | ((with_reducible refine bset ?_ ?_ _); rotate_left; (first | omega | (simp <;> omega)))))
  have d8s := D8.size
  have B8 := bstep B1 hB (by repeat (first | with_reducible exact B7 | with_reducible apply bdrew | with_reducible apply bdrewN | with_reducible apply balloc | ((with_reducible refine bset ?_ ?_ _); rotate_left; (first | omega | (simp <;> omega)))))
  have F8 := C0.below B8
  simp only [Cls, and_true] at F8
  have G8 := Cls.below (l := [(w2.heap.size, 0, .int .i64 p1), (w2.heap.size, 1, .int .i64 q1), (w2.heap.size + 1, 0, .int .i64 c1), (w2.heap.size + 1, 1, .int .i64 i1), (w3.heap.size, 0, .int .i64 p2), (w3.heap.size, 1, .int .i64 q2), (w3.heap.size + 1, 0, .int .i64 c2), (w3.heap.size + 1, 1, .int .i64 i2), (w4.heap.size, 0, .int .i64 p3), (w4.heap.size, 1, .int .i64 q3), (w4.heap.size + 1, 0, .int .i64 c3), (w4.heap.size + 1, 1, .int .i64 i3), (w5.heap.size, 0, .int .i64 p4), (w5.heap.size, 1, .int .i64 q4), (w5.heap.size + 1, 0, .int .i64 c4), (w5.heap.size + 1, 1, .int .i64 i4), (w6.heap.size, 0, .int .i64 p5), (w6.heap.size, 1, .int .i64 q5), (w6.heap.size + 1, 0, .int .i64 c5), (w6.heap.size + 1, 1, .int .i64 i5), (w7.heap.size, 0, .int .i64 p6), (w7.heap.size, 1, .int .i64 q6), (w7.heap.size + 1, 0, .int .i64 c6), (w7.heap.size + 1, 1, .int .i64 i6)]) hB (by simp [Cls, go_sem, F7, G7, y7_0_2, y7_0_1, y7_0_0, y7_0_p1, y7_0_p2, y7_2_1, y7_2_0, y7_2_p1, y7_2_p2, y7_3_1, y7_3_0, y7_3_p1, y7_3_p2, y7_4_1, y7_4_0, y7_4_p1, y7_4_p2, y7_5_1, y7_5_0, y7_5_p1, y7_5_p2, y7_6_1, y7_6_0, y7_6_p1, y7_6_p2])
  simp only [Cls, and_true] at G8
  have hs8 := hB.size
  try simp at hs8
  have y8_0_2 : w.heap.size + 1 + 1 < w8.heap.size := (by omega)
  have y8_0_1 : w.heap.size + 1 < w8.heap.size := (by omega)
  have y8_0_0 : w.heap.size < w8.heap.size := (by omega)
  have y8_0_p1 : w.heap.size < w8.heap.size + 1 := (by omega)
  have y8_0_p2 : w.heap.size < w8.heap.size + 1 + 1 := (by omega)
  have y8_2_1 : w2.heap.size + 1 < w8.heap.size := (by omega)
  have y8_2_0 : w2.heap.size < w8.heap.size := (by omega)
  have y8_2_p1 : w2.heap.size < w8.heap.size + 1 := (by omega)
  have y8_2_p2 : w2.heap.size < w8.heap.size + 1 + 1 := (by omega)
  have y8_3_1 : w3.heap.size + 1 < w8.heap.size := (by omega)
  have y8_3_0 : w3.heap.size < w8.heap.size := (by omega)
  have y8_3_p1 : w3.heap.size < w8.heap.size + 1 := (by omega)
  have y8_3_p2 : w3.heap.size < w8.heap.size + 1 + 1 := (by omega)
  have y8_4_1 : w4.heap.size + 1 < w8.heap.size := (by omega)
  have y8_4_0 : w4.heap.size < w8.heap.size := (by omega)
  have y8_4_p1 : w4.heap.size < w8.heap.size + 1 := (by omega)
  have y8_4_p2 : w4.heap.size < w8.heap.size + 1 + 1 := (by omega)
  have y8_5_1 : w5.heap.size + 1 < w8.heap.size := (by omega)
  have y8_5_0 : w5.heap.size < w8.heap.size := (by omega)
  have y8_5_p1 : w5.heap.size < w8.heap.size + 1 := (by omega)
  have y8_5_p2 : w5.heap.size < w8.heap.size + 1 + 1 := (by omega)
  have y8_6_1 : w6.heap.size + 1 < w8.heap.size := (by omega)
  have y8_6_0 : w6.heap.size < w8.heap.size := (by omega)
  have y8_6_p1 : w6.heap.size < w8.heap.size + 1 := (by omega)
  have y8_6_p2 : w6.heap.size < w8.heap.size + 1 + 1 := (by omega)
  have y8_7_1 : w7.heap.size + 1 < w8.heap.size := (by omega)
  have y8_7_0 : w7.heap.size < w8.heap.size := (by omega)
  have y8_7_p1 : w7.heap.size < w8.heap.size + 1 := (by omega)
  have y8_7_p2 : w7.heap.size < w8.heap.size + 1 + 1 := (by omega)
  clear hB
  clear A7
  go_wp2_with fail
  refine (A8 _).mono ?_
  rintro e w9 ⟨rfl, hB⟩
  have D9 := dstep w hB (by repeat (first | with_reducible exact D8 | with_reducible apply bdrew | with_reducible apply bdrewN | with_reducible apply balloc | ((with_reducible refine bset ?_ ?_ _); rotate_left; (first | omega | (simp <;> omega)))))
  have d9s := D9.size
  have B9 := bstep B1 hB (by repeat (first | with_reducible exact B8 | with_reducible apply bdrew | with_reducible apply bdrewN | with_reducible apply balloc | ((with_reducible refine bset ?_ ?_ _); rotate_left; (first | omega | (simp <;> omega)))))
  have F9 := C0.below B9
  simp only [Cls, and_true] at F9
  have G9 := Cls.below (l := [(w2.heap.size, 0, .int .i64 p1), (w2.heap.size, 1, .int .i64 q1), (w2.heap.size + 1, 0, .int .i64 c1), (w2.heap.size + 1, 1, .int .i64 i1), (w3.heap.size, 0, .int .i64 p2), (w3.heap.size, 1, .int .i64 q2), (w3.heap.size + 1, 0, .int .i64 c2), (w3.heap.size + 1, 1, .int .i64 i2), (w4.heap.size, 0, .int .i64 p3), (w4.heap.size, 1, .int .i64 q3), (w4.heap.size + 1, 0, .int .i64 c3), (w4.heap.size + 1, 1, .int .i64 i3), (w5.heap.size, 0, .int .i64 p4), (w5.heap.size, 1, .int .i64 q4), (w5.heap.size + 1, 0, .int .i64 c4), (w5.heap.size + 1, 1, .int .i64 i4), (w6.heap.size, 0, .int .i64 p5), (w6.heap.size, 1, .int .i64 q5), (w6.heap.size + 1, 0, .int .i64 c5), (w6.heap.size + 1, 1, .int .i64 i5), (w7.heap.size, 0, .int .i64 p6), (w7.heap.size, 1, .int .i64 q6), (w7.heap.size + 1, 0, .int .i64 c6), (w7.heap.size + 1, 1, .int .i64 i6), (w8.heap.size, 0, .int .i64 p7), (w8.heap.size, 1, .int .i64 q7), (w8.heap.size + 1, 0, .int .i64 c7), (w8.heap.size + 1, 1, .int .i64 i7)]) hB (by simp [Cls, go_sem, F8, G8, y8_0_2, y8_0_1, y8_0_0, y8_0_p1, y8_0_p2, y8_2_1, y8_2_0, y8_2_p1, y8_2_p2, y8_3_1, y8_3_0, y8_3_p1, y8_3_p2, y8_4_1, y8_4_0, y8_4_p1, y8_4_p2, y8_5_1, y8_5_0, y8_5_p1, y8_5_p2, y8_6_1, y8_6_0, y8_6_p1, y8_6_p2, y8_7_1, y8_7_0, y8_7_p1, y8_7_p2])
  simp only [Cls, and_true] at G9
  have hs9 := hB.size
  try simp at hs9
  have y9_0_2 : w.heap.size + 1 + 1 < w9.heap.size := (by omega)
  have y9_0_1 : w.heap.size + 1 < w9.heap.size := (by omega)
  have y9_0_0 : w.heap.size < w9.heap.size := (by omega)
  have y9_0_p1 : w.heap.size < w9.heap.size + 1 := (by omega)
  have y9_0_p2 : w.heap.size < w9.heap.size + 1 + 1 := (by omega)
  have y9_2_1 : w2.heap.size + 1 < w9.heap.size := (by omega)
  have y9_2_0 : w2.heap.size < w9.heap.size := (by omega)
  have y9_2_p1 : w2.heap.size < w9.heap.size + 1 := (by omega)
  have y9_2_p2 : w2.heap.size < w9.heap.size + 1 + 1 := (by omega)
  have y9_3_1 : w3.heap.size + 1 < w9.heap.size := (by omega)
  have y9_3_0 : w3.heap.size < w9.heap.size := (by omega)
  have y9_3_p1 : w3.heap.size < w9.heap.size + 1 := (by omega)
  have y9_3_p2 : w3.heap.size < w9.heap.size + 1 + 1 := (by omega)
  have y9_4_1 : w4.heap.size + 1 < w9.heap.size := (by omega)
  have y9_4_0 : w4.heap.size < w9.heap.size := (by omega)
  have y9_4_p1 : w4.heap.size < w9.heap.size + 1 := (by omega)
  have y9_4_p2 : w4.heap.size < w9.heap.size + 1 + 1 := (by omega)
  have y9_5_1 : w5.heap.size + 1 < w9.heap.size := (by omega)
  have y9_5_0 : w5.heap.size < w9.heap.size := (by omega)
  have y9_5_p1 : w5.heap.size < w9.heap.size + 1 := (by omega)
  have y9_5_p2 : w5.heap.size < w9.heap.size + 1 + 1 := (by omega)
  have y9_6_1 : w6.heap.size + 1 < w9.heap.size := (by omega)
  have y9_6_0 : w6.heap.size < w9.heap.size := (by omega)
  have y9_6_p1 : w6.heap.size < w9.heap.size + 1 := (by omega)
  have y9_6_p2 : w6.heap.size < w9.heap.size + 1 + 1 := (by omega)
  have y9_7_1 : w7.heap.size + 1 < w9.heap.size := (by omega)
  have y9_7_0 : w7.heap.size < w9.heap.size := (by omega)
  have y9_7_p1 : w7.heap.size < w9.heap.size + 1 := (by omega)
  have y9_7_p2 : w7.heap.size < w9.heap.size + 1 + 1 := (by omega)
  have y9_8_1 : w8.heap.size + 1 < w9.heap.size := (by omega)
  have y9_8_0 : w8.heap.size < w9.heap.size := (by omega)
  have y9_8_p1 : w8.heap.size < w9.heap.size + 1 := (by omega)
  have y9_8_p2 : w8.heap.size < w9.heap.size + 1 + 1 := (by omega)
  clear hB
  clear A8
  go_wp2
  go_ret
  exact ⟨rfl, by repeat (first | with_reducible exact D9 | with_reducible apply bdrew | with_reducible apply bdrewN | with_reducible apply balloc | ((with_reducible refine bset ?_ ?_ _); rotate_left; (first | omega | (simp <;> omega))))⟩

theorem walk_ring_all (a b c d e f p1 q1 c1 i1 p2 q2 c2 i2 p3 q3 c3 i3 p4 q4 c4 i4 p5 q5 c5 i5 p6 q6 c6 i6 p7 q7 c7 i7 p8 q8 c8 i8 : Int) (l1 : 0 ≤ c1 ∧ c1 ≤ 10) (l2 : 0 ≤ c2 ∧ c2 ≤ 10) (l3 : 0 ≤ c3 ∧ c3 ≤ 10) (l4 : 0 ≤ c4 ∧ c4 ≤ 10) (l5 : 0 ≤ c5 ∧ c5 ≤ 10) (l6 : 0 ≤ c6 ∧ c6 ≤ 10) (l7 : 0 ≤ c7 ∧ c7 ≤ 10) (l8 : 0 ≤ c8 ∧ c8 ≤ 10) (A1 : ∀ w : World, Calls Try.prog 15 #[.agg #[.int .i64 a, .int .i64 b], .agg #[.int .i64 c, .int .i64 d]] w fun e w' => e = .returned (.tuple #[.agg #[.int .i64 p1, .int .i64 q1], .agg #[.int .i64 c1, .int .i64 i1]]) ∧ Below w.heap.size w w') (A2 : ∀ w : World, Calls Try.prog 15 #[.agg #[.int .i64 c, .int .i64 d], .agg #[.int .i64 e, .int .i64 f]] w fun e w' => e = .returned (.tuple #[.agg #[.int .i64 p2, .int .i64 q2], .agg #[.int .i64 c2, .int .i64 i2]]) ∧ Below w.heap.size w w') (A3 : ∀ w : World, Calls Try.prog 15 #[.agg #[.int .i64 p1, .int .i64 q1], .agg #[.int .i64 e, .int .i64 f]] w fun e w' => e = .returned (.tuple #[.agg #[.int .i64 p3, .int .i64 q3], .agg #[.int .i64 c3, .int .i64 i3]]) ∧ Below w.heap.size w w') (A4 : ∀ w : World, Calls Try.prog 15 #[.agg #[.int .i64 a, .int .i64 b], .agg #[.int .i64 p2, .int .i64 q2]] w fun e w' => e = .returned (.tuple #[.agg #[.int .i64 p4, .int .i64 q4], .agg #[.int .i64 c4, .int .i64 i4]]) ∧ Below w.heap.size w w') (A5 : ∀ w : World, Calls Try.prog 16 #[.agg #[.int .i64 a, .int .i64 b], .agg #[.int .i64 p2, .int .i64 q2]] w fun e w' => e = .returned (.tuple #[.agg #[.int .i64 p5, .int .i64 q5], .agg #[.int .i64 c5, .int .i64 i5]]) ∧ Below w.heap.size w w') (A6 : ∀ w : World, Calls Try.prog 16 #[.agg #[.int .i64 a, .int .i64 b], .agg #[.int .i64 c, .int .i64 d]] w fun e w' => e = .returned (.tuple #[.agg #[.int .i64 p6, .int .i64 q6], .agg #[.int .i64 c6, .int .i64 i6]]) ∧ Below w.heap.size w w') (A7 : ∀ w : World, Calls Try.prog 16 #[.agg #[.int .i64 a, .int .i64 b], .agg #[.int .i64 e, .int .i64 f]] w fun e w' => e = .returned (.tuple #[.agg #[.int .i64 p7, .int .i64 q7], .agg #[.int .i64 c7, .int .i64 i7]]) ∧ Below w.heap.size w w') (A8 : ∀ w : World, Calls Try.prog 15 #[.agg #[.int .i64 p6, .int .i64 q6], .agg #[.int .i64 p7, .int .i64 q7]] w fun e w' => e = .returned (.tuple #[.agg #[.int .i64 p8, .int .i64 q8], .agg #[.int .i64 c8, .int .i64 i8]]) ∧ Below w.heap.size w w')
    (r1 : c1 + c2 + c3 + c4 = 0 → p4 = p3 ∧ q4 = q3) (r2 : c2 + c5 + c6 + c7 + c8 = 0 → p8 = p5 ∧ q8 = q5) (w : World) :
    Calls Try.prog 5 #[.agg #[.int .i64 a, .int .i64 b], .agg #[.int .i64 c, .int .i64 d], .agg #[.int .i64 e, .int .i64 f]] w fun e w' => e = .returned (.bool true) ∧ Below w.heap.size w w' := by
  by_cases s1 : c1 + c2 + c3 + c4 = 0
  · obtain ⟨e1, e2⟩ := r1 s1
    obtain ⟨z1, z2, z3, z4⟩ : c1 = 0 ∧ c2 = 0 ∧ c3 = 0 ∧ c4 = 0 := by omega
    subst e1; subst e2; subst z1; subst z2; subst z3; subst z4
    by_cases s2 : 0 + c5 + c6 + c7 + c8 = 0
    · obtain ⟨e1, e2⟩ := r2 s2
      obtain ⟨z5, z6, z7, z8⟩ : c5 = 0 ∧ c6 = 0 ∧ c7 = 0 ∧ c8 = 0 := by omega
      subst e1; subst e2; subst z5; subst z6; subst z7; subst z8
      exact walk_ring_00 _ _ _ _ _ _ _ _ _ _ _ _ _ _ _ _ _ _ _ _ _ _ _ _ _ _  A1 A2 A3 A4 A5 A6 A7 A8 w
    · exact walk_ring_01 _ _ _ _ _ _ _ _ _ _ _ _ _ _ _ _ _ _ _ _ _ _ _ _ _ _ _ _ _ _ _ _ l5 l6 l7 l8 s2 A1 A2 A3 A4 A5 A6 A7 A8 w
  · by_cases s2 : c2 + c5 + c6 + c7 + c8 = 0
    · obtain ⟨e1, e2⟩ := r2 s2
      obtain ⟨z2, z5, z6, z7, z8⟩ : c2 = 0 ∧ c5 = 0 ∧ c6 = 0 ∧ c7 = 0 ∧ c8 = 0 := by omega
      subst e1; subst e2; subst z2; subst z5; subst z6; subst z7; subst z8
      exact walk_ring_10 _ _ _ _ _ _ _ _ _ _ _ _ _ _ _ _ _ _ _ _ _ _ _ _ _ _ _ _ _ _ _ l1 l3 l4 s1 A1 A2 A3 A4 A5 A6 A7 A8 w
    · exact walk_ring_11 _ _ _ _ _ _ _ _ _ _ _ _ _ _ _ _ _ _ _ _ _ _ _ _ _ _ _ _ _ _ _ _ _ _ _ _ _ _ l1 l2 l3 l4 l5 l6 l7 l8 s1 s2 A1 A2 A3 A4 A5 A6 A7 A8 w

set_option maxHeartbeats 1000000 in
theorem walk_ring (a b c d e f : Int) (w : World) :
    Calls Try.prog 5 #[.agg #[.int .i64 a, .int .i64 b], .agg #[.int .i64 c, .int .i64 d], .agg #[.int .i64 e, .int .i64 f]] w fun e w' => e = .returned (.bool true) ∧ Below w.heap.size w w' := by
  refine walk_ring_all a b c d e f _ _ _ _ _ _ _ _ _ _ _ _ _ _ _ _ _ _ _ _ _ _ _ _ _ _ _ _ _ _ _ _ (gc_bd _ _ _ _ _ _) (gc_bd _ _ _ _ _ _) (gc_bd _ _ _ _ _ _) (gc_bd _ _ _ _ _ _) (gc_bd _ _ _ _ _ _) (gc_bd _ _ _ _ _ _) (gc_bd _ _ _ _ _ _) (gc_bd _ _ _ _ _ _)
    (add_any a b c d) (add_any c d e f) (add_any _ _ e f) (add_any a b _ _) (mul_any a b _ _) (mul_any a b c d) (mul_any a b e f) (add_any _ _ _ _) ?_ ?_ w
  · intro hs
    have l1 := gc_bd a b c d (a * d + c * b) (b * d)
    have l2 := gc_bd c d e f (c * f + e * d) (d * f)
    generalize hp : gn (bc a b c d) (a * d + c * b) (b * d) = p at *
    generalize hq : gd (bc a b c d) (a * d + c * b) (b * d) = q at *
    generalize hr : gn (bc c d e f) (c * f + e * d) (d * f) = r at *
    generalize hv : gd (bc c d e f) (c * f + e * d) (d * f) = s at *
    have l3 := gc_bd p q e f (p * f + e * q) (q * f)
    have l4 := gc_bd a b r s (a * s + r * b) (b * s)
    have f1 := op_fact (a := a) (b := b) (c := c) (d := d) (n := a * d + c * b) (m := b * d) (by omega) bd_ne
    have f2 := op_fact (a := c) (b := d) (c := e) (d := f) (n := c * f + e * d) (m := d * f) (by omega) bd_ne
    have f3 := op_fact (a := p) (b := q) (c := e) (d := f) (n := p * f + e * q) (m := q * f) (by omega) bd_ne
    have f4 := op_fact (a := a) (b := b) (c := r) (d := s) (n := a * s + r * b) (m := b * s) (by omega) bd_ne
    rw [hp, hq] at f1
    rw [hr, hv] at f2
    obtain ⟨e1, e2⟩ := q_congr f3.2.2.1 f4.2.2.1 (assoc_q (den_ne f1.2.1) f1.2.2.2.2.2.2.2 f2.2.2.2.2.2.2.2)
    rw [f3.2.2.2.2.1, f4.2.2.2.2.1, f3.2.2.2.2.2.1, f4.2.2.2.2.2.1]
    exact ⟨e1.symm, e2.symm⟩
  · intro hs
    have l2 := gc_bd c d e f (c * f + e * d) (d * f)
    have l6 := gc_bd a b c d (a * c) (b * d)
    have l7 := gc_bd a b e f (a * e) (b * f)
    generalize hr : gn (bc c d e f) (c * f + e * d) (d * f) = r at *
    generalize hv : gd (bc c d e f) (c * f + e * d) (d * f) = s at *
    generalize hu : gn (bc a b c d) (a * c) (b * d) = u at *
    generalize hx : gd (bc a b c d) (a * c) (b * d) = v at *
    generalize hm : gn (bc a b e f) (a * e) (b * f) = m at *
    generalize hn : gd (bc a b e f) (a * e) (b * f) = n at *
    have l5 := gc_bd a b r s (a * r) (b * s)
    have l8 := gc_bd u v m n (u * n + m * v) (v * n)
    have f2 := op_fact (a := c) (b := d) (c := e) (d := f) (n := c * f + e * d) (m := d * f) (by omega) bd_ne
    have f5 := op_fact (a := a) (b := b) (c := r) (d := s) (n := a * r) (m := b * s) (by omega) bd_ne
    have f6 := op_fact (a := a) (b := b) (c := c) (d := d) (n := a * c) (m := b * d) (by omega) bd_ne
    have f7 := op_fact (a := a) (b := b) (c := e) (d := f) (n := a * e) (m := b * f) (by omega) bd_ne
    have f8 := op_fact (a := u) (b := v) (c := m) (d := n) (n := u * n + m * v) (m := v * n) (by omega) bd_ne
    rw [hr, hv] at f2
    rw [hu, hx] at f6
    rw [hm, hn] at f7
    obtain ⟨e1, e2⟩ := q_congr f5.2.2.1 f8.2.2.1 (distrib_q (den_ne f2.1) (den_ne f2.2.1) f2.2.2.2.2.2.2.2 f6.2.2.2.2.2.2.2 f7.2.2.2.2.2.2.2)
    rw [f5.2.2.2.2.1, f8.2.2.2.2.1, f5.2.2.2.2.2.1, f8.2.2.2.2.2.1]
    exact ⟨e1.symm, e2.symm⟩

namespace fractionRing
open Go.ChangeShapes Go.WideShapes Go.ChangeAt Go.RowKit

set_option maxRecDepth 100000 in
theorem lifted (os : Os) (started : os.Started) (H : Type) (enc : TypeId × Value → H) :
    ReturnsInHanded {} Try.checked os 5 .any (Rows.fractionRingSpec.pre6 enc Try.prog Try.f5 Rows.fractionRingRow.domain false) (Rows.fractionRingSpec.post enc Try.prog Try.f5 false true false false) := by
  refine returnsInHanded_of_change (C := Try.checked) own_knob started (by kernel_rfl) Try.func5
    (ChangeSpec.witness6 (enc := enc) (C := Try.checked) false ⟨#[], #[.agg #[.int .i64 0, .int .i64 0], .agg #[.int .i64 0, .int .i64 0], .agg #[.int .i64 0, .int .i64 0]], []⟩ 8 (by kernel_rfl) (by kernel_rfl) (by kernel_rfl) (by kernel_rfl)) ?_
  intro W base args ds gs before hval0 hW _ hsz
  have hval : ∀ (j : Nat) t v, Try.f5.params[j]? = some t → args[j]? = some v → Value.okWide Try.prog W .any base t v := hval0
  have hpost := fun (W' : World) (hfn : gs = [] → Rows.fractionRingSpec.fn H (ds ++ gs) = { results := [.lit (.bool true)], args := ds }) (hb : Below W.heap.size W W') => law_post (f := Try.f5) (tb := 4) laid_out_B Try.underlying4 rfl (by kernel_rfl) rfl hfn hW hb
  obtain ⟨p, q, hA0, hV, hpq, hfz, hnd⟩ := hW
  have hA : DataW.TrodAll enc Try.prog W 0 (fun _ => true) true Try.f5.params.toList args.toList ds p := hA0
  rw [Try.params5] at hA hval
  obtain ⟨v0, vs0, d0, ds0, p0, q0, hargs, rfl, hp0, h0, r0⟩ := trodAll_cons hA
  obtain ⟨v1, vs1, d1, ds1, p1, q1, rfl, rfl, hp1, h1, r1⟩ := trodAll_cons r0
  obtain ⟨v2, vs2, d2, ds2, p2, q2, rfl, rfl, hp2, h2, r2⟩ := trodAll_cons r1
  obtain ⟨rfl, rfl, hpn⟩ := trodAll_nil r2
  obtain rfl : args = #[v0, v1, v2] := by cases args; simp_all
  obtain ⟨c0, e0, y0, x0, m0, rfl, rfl, rfl, hy0, hx0⟩ := Go.Joins.open_agg2 Try.underlying24 (by kernel_rfl) cells_fraction (hval 0 24 v0 rfl rfl) h0
  obtain ⟨a0, ea0, rfl, wa0⟩ := DataW.trod_int Try.underlying3 hy0
  obtain ⟨b0, eb0, rfl, wb0⟩ := DataW.trod_int Try.underlying3 hx0
  simp at ea0 eb0
  subst ea0 eb0
  obtain ⟨c1, e1, y1, x1, m1, rfl, rfl, rfl, hy1, hx1⟩ := Go.Joins.open_agg2 Try.underlying24 (by kernel_rfl) cells_fraction (hval 1 24 v1 rfl rfl) h1
  obtain ⟨a1, ea1, rfl, wa1⟩ := DataW.trod_int Try.underlying3 hy1
  obtain ⟨b1, eb1, rfl, wb1⟩ := DataW.trod_int Try.underlying3 hx1
  simp at ea1 eb1
  subst ea1 eb1
  obtain ⟨c2, e2, y2, x2, m2, rfl, rfl, rfl, hy2, hx2⟩ := Go.Joins.open_agg2 Try.underlying24 (by kernel_rfl) cells_fraction (hval 2 24 v2 rfl rfl) h2
  obtain ⟨a2, ea2, rfl, wa2⟩ := DataW.trod_int Try.underlying3 hy2
  obtain ⟨b2, eb2, rfl, wb2⟩ := DataW.trod_int Try.underlying3 hx2
  simp at ea2 eb2
  subst ea2 eb2
  refine (walk_ring a0 b0 a1 b1 a2 b2 W).mono fun e W' ⟨he, hb⟩ => ?_
  subst he
  exact ⟨_, rfl, hpost W' (fun hg => by subst hg; rfl) hb⟩

theorem proved : Rows.FractionRingSaid :=
  OpenClaim.holds_of_wide 5 Try.f5 rfl rfl rfl rfl rfl rfl rfl ⟨rfl, rfl, rfl, rfl, rfl⟩ rfl rfl rfl rfl rfl (by kernel_rfl) Try.func5 (by kernel_rfl)
    (of_decide_eq_true (by kernel_rfl)) (by unfold Func.isWrapper; first | (rw [if_pos (by decide +kernel)]; kernel_rfl) | (rw [if_neg (by decide +kernel)]; exact ⟨rfl, rfl⟩))
    (fun os started H enc _ => lifted os started H enc)
#print axioms proved
end fractionRing

end Go.Proofs.Ytmlgaofbifejaaa
