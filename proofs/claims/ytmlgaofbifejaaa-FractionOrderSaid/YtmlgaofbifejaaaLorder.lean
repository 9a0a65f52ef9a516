/-
  FractionOrder returns true: the order is antisymmetric and is kept by addition.
-/
import Derived.Test.YtmlgaofbifejaaaFany
import Derived.Test.YtmlgaofbifejaaaFfact
import Derived.Test.YtmlgaofbifejaaaFcmp
import Derived.Test.YtmlgaofbifejaaaBlaw
import Derived.ProofKit
import Derived.OpenShut
import Derived.Lib.SmallJoins
namespace Go.Proofs.Ytmlgaofbifejaaa
open Go.RowKit
set_option linter.unusedVariables false
set_option linter.unusedSimpArgs false
set_option maxHeartbeats 1000000 in
theorem walk_order_bad (a b c d e f c1 i1 c2 i2 : Int) (n1 : ¬ c1 = 0) (A1 : ∀ w : World, Calls Try.prog 19 #[.agg #[.int .i64 a, .int .i64 b], .agg #[.int .i64 c, .int .i64 d]] w fun e w' => e = .returned (.tuple #[.int .i64 (0), .agg #[.int .i64 c1, .int .i64 i1]]) ∧ Below w.heap.size w w') (A2 : ∀ w : World, Calls Try.prog 19 #[.agg #[.int .i64 c, .int .i64 d], .agg #[.int .i64 a, .int .i64 b]] w fun e w' => e = .returned (.tuple #[.int .i64 (0), .agg #[.int .i64 c2, .int .i64 i2]]) ∧ Below w.heap.size w w') (w : World) :
    Calls Try.prog 7 #[.agg #[.int .i64 a, .int .i64 b], .agg #[.int .i64 c, .int .i64 d], .agg #[.int .i64 e, .int .i64 f]] w fun e w' => e = .returned (.bool true) ∧ Below w.heap.size w w' := by
  have b1 := bn_yes n1
  go_enter Try.func7, Try.ntmps7
  go_wp2_with fail
  refine (example_any _).mono ?_
  rintro e w1 ⟨rfl, hB⟩
  have D1 := dstep w hB (by repeat (first | with_reducible exact Below.refl _ _ | with_reducible apply bdrew | with_reducible apply bdrewN | with_reducible apply balloc | ((with_reducible refine bset ?_ ?_ _); rotate_left; (first | omega | (simp <;> omega)))))
  have d1s := D1.size
  obtain ⟨C0, F1⟩ := Cls.first (l := [(w.heap.size, 0, .int .i64 a), (w.heap.size, 1, .int .i64 b), (w.heap.size + 1, 0, .int .i64 c), (w.heap.size + 1, 1, .int .i64 d), (w.heap.size + 1 + 1, 0, .int .i64 e), (w.heap.size + 1 + 1, 1, .int .i64 f)]) hB (by simp [Cls, go_sem])
  simp only [Cls, and_true] at F1
  have B1 := hB
  have hs1 := hB.size
  try simp at hs1
  have hb1 := B1.size
  try simp at hb1
  have y1_0_2 : w.heap.size + 1 + 1 < w1.heap.size := (by omega)
  have y1_0_1 : w.heap.size + 1 < w1.heap.size := (by omega)
  have y1_0_0 : w.heap.size < w1.heap.size := (by omega)
  have y1_0_p1 : w.heap.size < w1.heap.size + 1 := (by omega)
  have y1_0_p2 : w.heap.size < w1.heap.size + 1 + 1 := (by omega)
  clear hB
  go_wp2_with fail
  refine (A1 _).mono ?_
  rintro e w2 ⟨rfl, hB⟩
  have D2 := dstep w hB (by repeat (first | with_reducible exact D1 | with_reducible apply bdrew | with_reducible apply bdrewN | with_reducible apply balloc | ((with_reducible refine bset ?_ ?_ _); rotate_left; (first | omega | (simp <;> omega)))))
  have d2s := D2.size
  have B2 := bstep B1 hB (by repeat (first | with_reducible exact B1 | with_reducible apply bdrew | with_reducible apply bdrewN | with_reducible apply balloc | ((with_reducible refine bset ?_ ?_ _); rotate_left; (first | omega | (simp <;> omega)))))
  have F2 := C0.below B2
  simp only [Cls, and_true] at F2
  have hs2 := hB.size
  try simp at hs2
  have y2_0_2 : w.heap.size + 1 + 1 < w2.heap.size := (by omega)
  have y2_0_1 : w.heap.size + 1 < w2.heap.size := (by omega)
  have y2_0_0 : w.heap.size < w2.heap.size := (by omega)
  have y2_0_p1 : w.heap.size < w2.heap.size + 1 := (by omega)
  have y2_0_p2 : w.heap.size < w2.heap.size + 1 + 1 := (by omega)
  clear hB
  clear A1
  go_wp2_with fail
  refine (A2 _).mono ?_
  rintro e w3 ⟨rfl, hB⟩
  have D3 := dstep w hB (by repeat (first | with_reducible exact D2 | with_reducible apply bdrew | with_reducible apply bdrewN | with_reducible apply balloc | ((with_reducible refine bset ?_ ?_ _); rotate_left; (first | omega | (simp <;> omega)))))
  have d3s := D3.size
  have B3 := bstep B1 hB (by repeat (first | with_reducible exact B2 | with_reducible apply bdrew | with_reducible apply bdrewN | with_reducible apply balloc | ((with_reducible refine bset ?_ ?_ _); rotate_left; (first | omega | (simp <;> omega)))))
  have F3 := C0.below B3
  simp only [Cls, and_true] at F3
  have G3 := Cls.below (l := [(w2.heap.size, 0, .int .i64 c1), (w2.heap.size, 1, .int .i64 i1)]) hB (by simp [Cls, go_sem, F2, y2_0_2, y2_0_1, y2_0_0, y2_0_p1, y2_0_p2])
  simp only [Cls, and_true] at G3
  have hs3 := hB.size
  try simp at hs3
  have y3_0_2 : w.heap.size + 1 + 1 < w3.heap.size := (by omega)
  have y3_0_1 : w.heap.size + 1 < w3.heap.size := (by omega)
  have y3_0_0 : w.heap.size < w3.heap.size := (by omega)
  have y3_0_p1 : w.heap.size < w3.heap.size + 1 := (by omega)
  have y3_0_p2 : w.heap.size < w3.heap.size + 1 + 1 := (by omega)
  have y3_2_0 : w2.heap.size < w3.heap.size := (by omega)
  have y3_2_p1 : w2.heap.size < w3.heap.size + 1 := (by omega)
  have y3_2_p2 : w2.heap.size < w3.heap.size + 1 + 1 := (by omega)
  clear hB
  clear A2
  go_wp2
  go_ret
  exact ⟨rfl, by repeat (first | with_reducible exact D3 | with_reducible apply bdrew | with_reducible apply bdrewN | with_reducible apply balloc | ((with_reducible refine bset ?_ ?_ _); rotate_left; (first | omega | (simp <;> omega))))⟩

set_option maxHeartbeats 1000000 in
theorem walk_order_eq0 (a b e f i1 i2 p3 q3 i3 p4 q4 i4 i5 : Int) (A1 : ∀ w : World, Calls Try.prog 19 #[.agg #[.int .i64 a, .int .i64 b], .agg #[.int .i64 a, .int .i64 b]] w fun e w' => e = .returned (.tuple #[.int .i64 (0), .agg #[.int .i64 0, .int .i64 i1]]) ∧ Below w.heap.size w w') (A2 : ∀ w : World, Calls Try.prog 19 #[.agg #[.int .i64 a, .int .i64 b], .agg #[.int .i64 a, .int .i64 b]] w fun e w' => e = .returned (.tuple #[.int .i64 (0), .agg #[.int .i64 0, .int .i64 i2]]) ∧ Below w.heap.size w w') (A3 : ∀ w : World, Calls Try.prog 15 #[.agg #[.int .i64 a, .int .i64 b], .agg #[.int .i64 e, .int .i64 f]] w fun e w' => e = .returned (.tuple #[.agg #[.int .i64 p3, .int .i64 q3], .agg #[.int .i64 0, .int .i64 i3]]) ∧ Below w.heap.size w w') (A4 : ∀ w : World, Calls Try.prog 15 #[.agg #[.int .i64 a, .int .i64 b], .agg #[.int .i64 e, .int .i64 f]] w fun e w' => e = .returned (.tuple #[.agg #[.int .i64 p4, .int .i64 q4], .agg #[.int .i64 0, .int .i64 i4]]) ∧ Below w.heap.size w w') (A5 : ∀ w : World, Calls Try.prog 19 #[.agg #[.int .i64 p3, .int .i64 q3], .agg #[.int .i64 p4, .int .i64 q4]] w fun e w' => e = .returned (.tuple #[.int .i64 (0), .agg #[.int .i64 0, .int .i64 i5]]) ∧ Below w.heap.size w w') (w : World) :
    Calls Try.prog 7 #[.agg #[.int .i64 a, .int .i64 b], .agg #[.int .i64 a, .int .i64 b], .agg #[.int .i64 e, .int .i64 f]] w fun e w' => e = .returned (.bool true) ∧ Below w.heap.size w w' := by
  go_enter Try.func7, Try.ntmps7
  go_wp2_with fail
  refine (example_any _).mono ?_
  rintro e w1 ⟨rfl, hB⟩
  have D1 := dstep w hB (by repeat (first | with_reducible exact Below.refl _ _ | with_reducible apply bdrew | with_reducible apply bdrewN | with_reducible apply balloc | ((with_reducible refine bset ?_ ?_ _); rotate_left; (first | omega | (simp <;> omega)))))
  have d1s := D1.size
  obtain ⟨C0, F1⟩ := Cls.first (l := [(w.heap.size, 0, .int .i64 a), (w.heap.size, 1, .int .i64 b), (w.heap.size + 1, 0, .int .i64 a), (w.heap.size + 1, 1, .int .i64 b), (w.heap.size + 1 + 1, 0, .int .i64 e), (w.heap.size + 1 + 1, 1, .int .i64 f)]) hB (by simp [Cls, go_sem])
  simp only [Cls, and_true] at F1
  have B1 := hB
  have hs1 := hB.size
  try simp at hs1
  have hb1 := B1.size
  try simp at hb1
  have y1_0_2 : w.heap.size + 1 + 1 < w1.heap.size := (by omega)
  have y1_0_1 : w.heap.size + 1 < w1.heap.size := (by omega)
  have y1_0_0 : w.heap.size < w1.heap.size := (by omega)
  have y1_0_p1 : w.heap.size < w1.heap.size + 1 := (by omega)
  have y1_0_p2 : w.heap.size < w1.heap.size + 1 + 1 := (by omega)
  clear hB
  go_wp2_with fail
  refine (A1 _).mono ?_
  rintro e w2 ⟨rfl, hB⟩
  have D2 := dstep w hB (by repeat (first | with_reducible exact D1 | with_reducible apply bdrew | with_reducible apply bdrewN | with_reducible apply balloc | ((with_reducible refine bset ?_ ?_ _); rotate_left; (first | omega | (simp <;> omega)))))
  have d2s := D2.size
  have B2 := bstep B1 hB (by repeat (first | with_reducible exact B1 | with_reducible apply bdrew | with_reducible apply bdrewN | with_reducible apply balloc | ((with_reducible refine bset ?_ ?_ _); rotate_left; (first | omega | (simp <;> omega)))))
  have F2 := C0.below B2
  simp only [Cls, and_true] at F2
  have hs2 := hB.size
  try simp at hs2
  have y2_0_2 : w.heap.size + 1 + 1 < w2.heap.size := (by omega)
  have y2_0_1 : w.heap.size + 1 < w2.heap.size := (by omega)
  have y2_0_0 : w.heap.size < w2.heap.size := (by omega)
  have y2_0_p1 : w.heap.size < w2.heap.size + 1 := (by omega)
  have y2_0_p2 : w.heap.size < w2.heap.size + 1 + 1 := (by omega)
  clear hB
  clear A1
  go_wp2_with fail
  refine (A2 _).mono ?_
  rintro e w3 ⟨rfl, hB⟩
  have D3 := dstep w hB (by repeat (first | with_reducible exact D2 | with_reducible apply bdrew | with_reducible apply bdrewN | with_reducible apply balloc | ((with_reducible refine bset ?_ ?_ _); rotate_left; (first | omega | (simp <;> omega)))))
  have d3s := D3.size
  have B3 := bstep B1 hB (by repeat (first | with_reducible exact B2 | with_reducible apply bdrew | with_reducible apply bdrewN | with_reducible apply balloc | ((with_reducible refine bset ?_ ?_ _); rotate_left; (first | omega | (simp <;> omega)))))
  have F3 := C0.below B3
  simp only [Cls, and_true] at F3
  have G3 := Cls.below (l := [(w2.heap.size, 0, .int .i64 0), (w2.heap.size, 1, .int .i64 i1)]) hB (by simp [Cls, go_sem, F2, y2_0_2, y2_0_1, y2_0_0, y2_0_p1, y2_0_p2])
  simp only [Cls, and_true] at G3
  have hs3 := hB.size
  try simp at hs3
  have y3_0_2 : w.heap.size + 1 + 1 < w3.heap.size := (by omega)
  have y3_0_1 : w.heap.size + 1 < w3.heap.size := (by omega)
  have y3_0_0 : w.heap.size < w3.heap.size := (by omega)
  have y3_0_p1 : w.heap.size < w3.heap.size + 1 := (by omega)
  have y3_0_p2 : w.heap.size < w3.heap.size + 1 + 1 := (by omega)
  have y3_2_0 : w2.heap.size < w3.heap.size := (by omega)
  have y3_2_p1 : w2.heap.size < w3.heap.size + 1 := (by omega)
  have y3_2_p2 : w2.heap.size < w3.heap.size + 1 + 1 := (by omega)
  clear hB
  clear A2
  go_wp2_with fail
  refine (A3 _).mono ?_
  rintro e w4 ⟨rfl, hB⟩
  have D4 := dstep w hB (by repeat (first | with_reducible exact D3 | with_reducible apply bdrew | with_reducible apply bdrewN | with_reducible apply balloc | ((with_reducible refine bset ?_ ?_ _); rotate_left; (first | omega | (simp <;> omega)))))
  have d4s := D4.size
  have B4 := bstep B1 hB (by repeat (first | with_reducible exact B3 | with_reducible apply bdrew | with_reducible apply bdrewN | with_reducible apply balloc | ((with_reducible refine bset ?_ ?_ _); rotate_left; (first | omega | (simp <;> omega)))))
  have F4 := C0.below B4
  simp only [Cls, and_true] at F4
  have G4 := Cls.below (l := [(w2.heap.size, 0, .int .i64 0), (w2.heap.size, 1, .int .i64 i1), (w3.heap.size, 0, .int .i64 0), (w3.heap.size, 1, .int .i64 i2)]) hB (by simp [Cls, go_sem, F3, G3, y3_0_2, y3_0_1, y3_0_0, y3_0_p1, y3_0_p2, y3_2_0, y3_2_p1, y3_2_p2])
  simp only [Cls, and_true] at G4
  have hs4 := hB.size
  try simp at hs4
  have y4_0_2 : w.heap.size + 1 + 1 < w4.heap.size := (by omega)
  have y4_0_1 : w.heap.size + 1 < w4.heap.size := (by omega)
  have y4_0_0 : w.heap.size < w4.heap.size := (by omega)
  have y4_0_p1 : w.heap.size < w4.heap.size + 1 := (by omega)
  have y4_0_p2 : w.heap.size < w4.heap.size + 1 + 1 := (by omega)
  have y4_2_0 : w2.heap.size < w4.heap.size := (by omega)
  have y4_2_p1 : w2.heap.size < w4.heap.size + 1 := (by omega)
  have y4_2_p2 : w2.heap.size < w4.heap.size + 1 + 1 := (by omega)
  have y4_3_0 : w3.heap.size < w4.heap.size := (by omega)
  have y4_3_p1 : w3.heap.size < w4.heap.size + 1 := (by omega)
  have y4_3_p2 : w3.heap.size < w4.heap.size + 1 + 1 := (by omega)
  clear hB
  clear A3
  go_wp2_with fail
  refine (A4 _).mono ?_
  rintro e w5 ⟨rfl, hB⟩
  have D5 := dstep w hB (by repeat (first | with_reducible exact D4 | with_reducible apply bdrew | with_reducible apply bdrewN | with_reducible apply balloc | ((with_reducible refine bset ?_ ?_ _); rotate_left; (first | omega | (simp <;> omega)))))
  have d5s := D5.size
  have B5 := bstep B1 hB (by repeat (first | with_reducible exact B4 | with_reducible apply bdrew | with_reducible apply bdrewN | with_reducible apply balloc | ((with_reducible refine bset ?_ ?_ _); rotate_left; (first | omega | (simp <;> omega)))))
  have F5 := C0.below B5
  simp only [Cls, and_true] at F5
  have G5 := Cls.below (l := [(w2.heap.size, 0, .int .i64 0), (w2.heap.size, 1, .int .i64 i1), (w3.heap.size, 0, .int .i64 0), (w3.heap.size, 1, .int .i64 i2), (w4.heap.size, 0, .int .i64 p3), (w4.heap.size, 1, .int .i64 q3), (w4.heap.size + 1, 0, .int .i64 0), (w4.heap.size + 1, 1, .int .i64 i3)]) hB (by simp [Cls, go_sem, F4, G4, y4_0_2, y4_0_1, y4_0_0, y4_0_p1, y4_0_p2, y4_2_0, y4_2_p1, y4_2_p2, y4_3_0, y4_3_p1, y4_3_p2])
  simp only [Cls, and_true] at G5
  have hs5 := hB.size
  try simp at hs5
  have y5_0_2 : w.heap.size + 1 + 1 < w5.heap.size := (by omega)
  have y5_0_1 : w.heap.size + 1 < w5.heap.size := (by omega)
  have y5_0_0 : w.heap.size < w5.heap.size := (by omega)
  have y5_0_p1 : w.heap.size < w5.heap.size + 1 := (by omega)
  have y5_0_p2 : w.heap.size < w5.heap.size + 1 + 1 := (by omega)
  have y5_2_0 : w2.heap.size < w5.heap.size := (by omega)
  have y5_2_p1 : w2.heap.size < w5.heap.size + 1 := (by omega)
  have y5_2_p2 : w2.heap.size < w5.heap.size + 1 + 1 := (by omega)
  have y5_3_0 : w3.heap.size < w5.heap.size := (by omega)
  have y5_3_p1 : w3.heap.size < w5.heap.size + 1 := (by omega)
  have y5_3_p2 : w3.heap.size < w5.heap.size + 1 + 1 := (by omega)
  have y5_4_1 : w4.heap.size + 1 < w5.heap.size := (by omega)
  have y5_4_0 : w4.heap.size < w5.heap.size := (by omega)
  have y5_4_p1 : w4.heap.size < w5.heap.size + 1 := (by omega)
  have y5_4_p2 : w4.heap.size < w5.heap.size + 1 + 1 := (by omega)
  clear hB
  clear A4
  go_wp2_with fail
  refine (A5 _).mono ?_
  rintro e w6 ⟨rfl, hB⟩
  have D6 := dstep w hB (by repeat (first | with_reducible exact D5 | with_reducible apply bdrew | with_reducible apply bdrewN | with_reducible apply balloc | ((with_reducible refine bset ?_ ?_ _); rotate_left; (first | omega | (simp <;> omega)))))
  have d6s := D6.size
  have B6 := bstep B1 hB (by repeat (first | with_reducible exact B5 | with_reducible apply bdrew | with_reducible apply bdrewN | with_reducible apply balloc | ((with_reducible refine bset ?_ ?_ _); rotate_left; (first | omega | (simp <;> omega)))))
  have F6 := C0.below B6
  simp only [Cls, and_true] at F6
  have G6 := Cls.below (l := [(w2.heap.size, 0, .int .i64 0), (w2.heap.size, 1, .int .i64 i1), (w3.heap.size, 0, .int .i64 0), (w3.heap.size, 1, .int .i64 i2), (w4.heap.size, 0, .int .i64 p3), (w4.heap.size, 1, .int .i64 q3), (w4.heap.size + 1, 0, .int .i64 0), (w4.heap.size + 1, 1, .int .i64 i3), (w5.heap.size, 0, .int .i64 p4), (w5.heap.size, 1, .int .i64 q4), (w5.heap.size + 1, 0, .int .i64 0), (w5.heap.size + 1, 1, .int .i64 i4)]) hB (by simp [Cls, go_sem, F5, G5, y5_0_2, y5_0_1, y5_0_0, y5_0_p1, y5_0_p2, y5_2_0, y5_2_p1, y5_2_p2, y5_3_0, y5_3_p1, y5_3_p2, y5_4_1, y5_4_0, y5_4_p1, y5_4_p2])
  simp only [Cls, and_true] at G6
  have hs6 := hB.size
  try simp at hs6
  have y6_0_2 : w.heap.size + 1 + 1 < w6.heap.size := (by omega)
  have y6_0_1 : w.heap.size + 1 < w6.heap.size := (by omega)
  have y6_0_0 : w.heap.size < w6.heap.size := (by omega)
  have y6_0_p1 : w.heap.size < w6.heap.size + 1 := (by omega)
  have y6_0_p2 : w.heap.size < w6.heap.size + 1 + 1 := (by omega)
  have y6_2_0 : w2.heap.size < w6.heap.size := (by omega)
  have y6_2_p1 : w2.heap.size < w6.heap.size + 1 := (by omega)
  have y6_2_p2 : w2.heap.size < w6.heap.size + 1 + 1 := (by omega)
  have y6_3_0 : w3.heap.size < w6.heap.size := (by omega)
  have y6_3_p1 : w3.heap.size < w6.heap.size + 1 := (by omega)
  have y6_3_p2 : w3.heap.size < w6.heap.size + 1 + 1 := (by omega)
  have y6_4_1 : w4.heap.size + 1 < w6.heap.size := (by omega)
  have y6_4_0 : w4.heap.size < w6.heap.size := (by omega)
  have y6_4_p1 : w4.heap.size < w6.heap.size + 1 := (by omega)
  have y6_4_p2 : w4.heap.size < w6.heap.size + 1 + 1 := (by omega)
  have y6_5_1 : w5.heap.size + 1 < w6.heap.size := (by omega)
  have y6_5_0 : w5.heap.size < w6.heap.size := (by omega)
  have y6_5_p1 : w5.heap.size < w6.heap.size + 1 := (by omega)
  have y6_5_p2 : w5.heap.size < w6.heap.size + 1 + 1 := (by omega)
  clear hB
  clear A5
  go_wp2
  go_ret
  exact ⟨rfl, by repeat (first | with_reducible exact D6 | with_reducible apply bdrew | with_reducible apply bdrewN | with_reducible apply balloc | ((with_reducible refine bset ?_ ?_ _); rotate_left; (first | omega | (simp <;> omega))))⟩

set_option maxHeartbeats 1000000 in
theorem walk_order_eq1 (a b e f i1 i2 p3 q3 c3 i3 p4 q4 c4 i4 s5 c5 i5 : Int) (l3 : 0 ≤ c3 ∧ c3 ≤ 10) (l4 : 0 ≤ c4 ∧ c4 ≤ 10) (n3 : ¬ c3 + c4 = 0) (A1 : ∀ w : World, Calls Try.prog 19 #[.agg #[.int .i64 a, .int .i64 b], .agg #[.int .i64 a, .int .i64 b]] w fun e w' => e = .returned (.tuple #[.int .i64 (0), .agg #[.int .i64 0, .int .i64 i1]]) ∧ Below w.heap.size w w') (A2 : ∀ w : World, Calls Try.prog 19 #[.agg #[.int .i64 a, .int .i64 b], .agg #[.int .i64 a, .int .i64 b]] w fun e w' => e = .returned (.tuple #[.int .i64 (0), .agg #[.int .i64 0, .int .i64 i2]]) ∧ Below w.heap.size w w') (A3 : ∀ w : World, Calls Try.prog 15 #[.agg #[.int .i64 a, .int .i64 b], .agg #[.int .i64 e, .int .i64 f]] w fun e w' => e = .returned (.tuple #[.agg #[.int .i64 p3, .int .i64 q3], .agg #[.int .i64 c3, .int .i64 i3]]) ∧ Below w.heap.size w w') (A4 : ∀ w : World, Calls Try.prog 15 #[.agg #[.int .i64 a, .int .i64 b], .agg #[.int .i64 e, .int .i64 f]] w fun e w' => e = .returned (.tuple #[.agg #[.int .i64 p4, .int .i64 q4], .agg #[.int .i64 c4, .int .i64 i4]]) ∧ Below w.heap.size w w') (A5 : ∀ w : World, Calls Try.prog 19 #[.agg #[.int .i64 p3, .int .i64 q3], .agg #[.int .i64 p4, .int .i64 q4]] w fun e w' => e = .returned (.tuple #[.int .i64 (s5), .agg #[.int .i64 c5, .int .i64 i5]]) ∧ Below w.heap.size w w') (w : World) :
    Calls Try.prog 7 #[.agg #[.int .i64 a, .int .i64 b], .agg #[.int .i64 a, .int .i64 b], .agg #[.int .i64 e, .int .i64 f]] w fun e w' => e = .returned (.bool true) ∧ Below w.heap.size w w' := by
  obtain ⟨l3a, l3b⟩ := l3
  obtain ⟨l4a, l4b⟩ := l4
  have b3 := bn_yes n3
  go_enter Try.func7, Try.ntmps7
  go_wp2_with fail
  refine (example_any _).mono ?_
  rintro e w1 ⟨rfl, hB⟩
  have D1 := dstep w hB (by repeat (first | with_reducible exact Below.refl _ _ | with_reducible apply bdrew | with_reducible apply bdrewN | with_reducible apply balloc | ((with_reducible refine bset ?_ ?_ _); rotate_left; (first | omega | (simp <;> omega)))))
  have d1s := D1.size
  obtain ⟨C0, F1⟩ := Cls.first (l := [(w.heap.size, 0, .int .i64 a), (w.heap.size, 1, .int .i64 b), (w.heap.size + 1, 0, .int .i64 a), (w.heap.size + 1, 1, .int .i64 b), (w.heap.size + 1 + 1, 0, .int .i64 e), (w.heap.size + 1 + 1, 1, .int .i64 f)]) hB (by simp [Cls, go_sem])
  simp only [Cls, and_true] at F1
  have B1 := hB
  have hs1 := hB.size
  try simp at hs1
  have hb1 := B1.size
  try simp at hb1
  have y1_0_2 : w.heap.size + 1 + 1 < w1.heap.size := (by omega)
  have y1_0_1 : w.heap.size + 1 < w1.heap.size := (by omega)
  have y1_0_0 : w.heap.size < w1.heap.size := (by omega)
  have y1_0_p1 : w.heap.size < w1.heap.size + 1 := (by omega)
  have y1_0_p2 : w.heap.size < w1.heap.size + 1 + 1 := (by omega)
  clear hB
  go_wp2_with fail
  refine (A1 _).mono ?_
  rintro e w2 ⟨rfl, hB⟩
  have D2 := dstep w hB (by repeat (first | with_reducible exact D1 | with_reducible apply bdrew | with_reducible apply bdrewN | with_reducible apply balloc | ((with_reducible refine bset ?_ ?_ _); rotate_left; (first | omega | (simp <;> omega)))))
  have d2s := D2.size
  have B2 := bstep B1 hB (by repeat (first | with_reducible exact B1 | with_reducible apply bdrew | with_reducible apply bdrewN | with_reducible apply balloc | ((with_reducible refine bset ?_ ?_ _); rotate_left; (first | omega | (simp <;> omega)))))
  have F2 := C0.below B2
  simp only [Cls, and_true] at F2
  have hs2 := hB.size
  try simp at hs2
  have y2_0_2 : w.heap.size + 1 + 1 < w2.heap.size := (by omega)
  have y2_0_1 : w.heap.size + 1 < w2.heap.size := (by omega)
  have y2_0_0 : w.heap.size < w2.heap.size := (by omega)
  have y2_0_p1 : w.heap.size < w2.heap.size + 1 := (by omega)
  have y2_0_p2 : w.heap.size < w2.heap.size + 1 + 1 := (by omega)
  clear hB
  clear A1
  go_wp2_with fail
  refine (A2 _).mono ?_
  rintro e w3 ⟨rfl, hB⟩
  have D3 := dstep w hB (by repeat (first | with_reducible exact D2 | with_reducible apply bdrew | with_reducible apply bdrewN | with_reducible apply balloc | ((with_reducible refine bset ?_ ?_ _); rotate_left; (first | omega | (simp <;> omega)))))
  have d3s := D3.size
  have B3 := bstep B1 hB (by repeat (first | with_reducible exact B2 | with_reducible apply bdrew | with_reducible apply bdrewN | with_reducible apply balloc | ((with_reducible refine bset ?_ ?_ _); rotate_left; (first | omega | (simp <;> omega)))))
  have F3 := C0.below B3
  simp only [Cls, and_true] at F3
  have G3 := Cls.below (l := [(w2.heap.size, 0, .int .i64 0), (w2.heap.size, 1, .int .i64 i1)]) hB (by simp [Cls, go_sem, F2, y2_0_2, y2_0_1, y2_0_0, y2_0_p1, y2_0_p2])
  simp only [Cls, and_true] at G3
  have hs3 := hB.size
  try simp at hs3
  have y3_0_2 : w.heap.size + 1 + 1 < w3.heap.size := (by omega)
  have y3_0_1 : w.heap.size + 1 < w3.heap.size := (by omega)
  have y3_0_0 : w.heap.size < w3.heap.size := (by omega)
  have y3_0_p1 : w.heap.size < w3.heap.size + 1 := (by omega)
  have y3_0_p2 : w.heap.size < w3.heap.size + 1 + 1 := (by omega)
  have y3_2_0 : w2.heap.size < w3.heap.size := (by omega)
  have y3_2_p1 : w2.heap.size < w3.heap.size + 1 := (by omega)
  have y3_2_p2 : w2.heap.size < w3.heap.size + 1 + 1 := (by omega)
  clear hB
  clear A2
  go_wp2_with fail
  refine (A3 _).mono ?_
  rintro e w4 ⟨rfl, hB⟩
  have D4 := dstep w hB (by repeat (first | with_reducible exact D3 | with_reducible apply bdrew | with_reducible apply bdrewN | with_reducible apply balloc | ((with_reducible refine bset ?_ ?_ _); rotate_left; (first | omega | (simp <;> omega)))))
  have d4s := D4.size
  have B4 := bstep B1 hB (by repeat (first | with_reducible exact B3 | with_reducible apply bdrew | with_reducible apply bdrewN | with_reducible apply balloc | ((with_reducible refine bset ?_ ?_ _); rotate_left; (first | omega | (simp <;> omega)))))
  have F4 := C0.below B4
  simp only [Cls, and_true] at F4
  have G4 := Cls.below (l := [(w2.heap.size, 0, .int .i64 0), (w2.heap.size, 1, .int .i64 i1), (w3.heap.size, 0, .int .i64 0), (w3.heap.size, 1, .int .i64 i2)]) hB (by simp [Cls, go_sem, F3, G3, y3_0_2, y3_0_1, y3_0_0, y3_0_p1, y3_0_p2, y3_2_0, y3_2_p1, y3_2_p2])
  simp only [Cls, and_true] at G4
  have hs4 := hB.size
  try simp at hs4
  have y4_0_2 : w.heap.size + 1 + 1 < w4.heap.size := (by omega)
  have y4_0_1 : w.heap.size + 1 < w4.heap.size := (by omega)
  have y4_0_0 : w.heap.size < w4.heap.size := (by omega)
  have y4_0_p1 : w.heap.size < w4.heap.size + 1 := (by omega)
  have y4_0_p2 : w.heap.size < w4.heap.size + 1 + 1 := (by omega)
  have y4_2_0 : w2.heap.size < w4.heap.size := (by omega)
  have y4_2_p1 : w2.heap.size < w4.heap.size + 1 := (by omega)
  have y4_2_p2 : w2.heap.size < w4.heap.size + 1 + 1 := (by omega)
  have y4_3_0 : w3.heap.size < w4.heap.size := (by omega)
  have y4_3_p1 : w3.heap.size < w4.heap.size + 1 := (by omega)
  have y4_3_p2 : w3.heap.size < w4.heap.size + 1 + 1 := (by omega)
  clear hB
  clear A3
  go_wp2_with fail
  refine (A4 _).mono ?_
  rintro e w5 ⟨rfl, hB⟩
  have D5 := dstep w hB (by repeat (first | with_reducible exact D4 | with_reducible apply bdrew | with_reducible apply bdrewN | with_reducible apply balloc | ((with_reducible refine bset ?_ ?_ _); rotate_left; (first | omega | (simp <;> omega)))))
  have d5s := D5.size
  have B5 := bstep B1 hB (by repeat (first | with_reducible exact B4 | with_reducible apply bdrew | with_reducible apply bdrewN | with_reducible apply balloc | ((with_reducible refine bset ?_ ?_ _); rotate_left; (first | omega | (simp <;> omega)))))
  have F5 := C0.below B5
  simp only [Cls, and_true] at F5
  have G5 := Cls.below (l := [(w2.heap.size, 0, .int .i64 0), (w2.heap.size, 1, .int .i64 i1), (w3.heap.size, 0, .int .i64 0), (w3.heap.size, 1, .int .i64 i2), (w4.heap.size, 0, .int .i64 p3), (w4.heap.size, 1, .int .i64 q3), (w4.heap.size + 1, 0, .int .i64 c3), (w4.heap.size + 1, 1, .int .i64 i3)]) hB (by simp [Cls, go_sem, F4, G4, y4_0_2, y4_0_1, y4_0_0, y4_0_p1, y4_0_p2, y4_2_0, y4_2_p1, y4_2_p2, y4_3_0, y4_3_p1, y4_3_p2])
  simp only [Cls, and_true] at G5
  have hs5 := hB.size
  try simp at hs5
  have y5_0_2 : w.heap.size + 1 + 1 < w5.heap.size := (by omega)
  have y5_0_1 : w.heap.size + 1 < w5.heap.size := (by omega)
  have y5_0_0 : w.heap.size < w5.heap.size := (by omega)
  have y5_0_p1 : w.heap.size < w5.heap.size + 1 := (by omega)
  have y5_0_p2 : w.heap.size < w5.heap.size + 1 + 1 := (by omega)
  have y5_2_0 : w2.heap.size < w5.heap.size := (by omega)
  have y5_2_p1 : w2.heap.size < w5.heap.size + 1 := (by omega)
  have y5_2_p2 : w2.heap.size < w5.heap.size + 1 + 1 := (by omega)
  have y5_3_0 : w3.heap.size < w5.heap.size := (by omega)
  have y5_3_p1 : w3.heap.size < w5.heap.size + 1 := (by omega)
  have y5_3_p2 : w3.heap.size < w5.heap.size + 1 + 1 := (by omega)
  have y5_4_1 : w4.heap.size + 1 < w5.heap.size := (by omega)
  have y5_4_0 : w4.heap.size < w5.heap.size := (by omega)
  have y5_4_p1 : w4.heap.size < w5.heap.size + 1 := (by omega)
  have y5_4_p2 : w4.heap.size < w5.heap.size + 1 + 1 := (by omega)
  clear hB
  clear A4
  go_wp2_with fail
  refine (A5 _).mono ?_
  rintro e w6 ⟨rfl, hB⟩
  have D6 := dstep w hB (by repeat (first | with_reducible exact D5 | with_reducible apply bdrew | with_reducible apply bdrewN | with_reducible apply balloc | ((with_reducible refine bset ?_ ?_ _); rotate_left; (first | omega | (simp <;> omega)))))
  have d6s := D6.size
  have B6 := bstep B1 hB (by repeat (first | with_reducible exact B5 | with_reducible apply bdrew | with_reducible apply bdrewN | with_reducible apply balloc | ((with_reducible refine bset ?_ ?_ _); rotate_left; (first | omega | (simp <;> omega)))))
  have F6 := C0.below B6
  simp only [Cls, and_true] at F6
  have G6 := Cls.below (l := [(w2.heap.size, 0, .int .i64 0), (w2.heap.size, 1, .int .i64 i1), (w3.heap.size, 0, .int .i64 0), (w3.heap.size, 1, .int .i64 i2), (w4.heap.size, 0, .int .i64 p3), (w4.heap.size, 1, .int .i64 q3), (w4.heap.size + 1, 0, .int .i64 c3), (w4.heap.size + 1, 1, .int .i64 i3), (w5.heap.size, 0, .int .i64 p4), (w5.heap.size, 1, .int .i64 q4), (w5.heap.size + 1, 0, .int .i64 c4), (w5.heap.size + 1, 1, .int .i64 i4)]) hB (by simp [Cls, go_sem, F5, G5, y5_0_2, y5_0_1, y5_0_0, y5_0_p1, y5_0_p2, y5_2_0, y5_2_p1, y5_2_p2, y5_3_0, y5_3_p1, y5_3_p2, y5_4_1, y5_4_0, y5_4_p1, y5_4_p2])
  simp only [Cls, and_true] at G6
  have hs6 := hB.size
  try simp at hs6
  have y6_0_2 : w.heap.size + 1 + 1 < w6.heap.size := (by omega)
  have y6_0_1 : w.heap.size + 1 < w6.heap.size := (by omega)
  have y6_0_0 : w.heap.size < w6.heap.size := (by omega)
  have y6_0_p1 : w.heap.size < w6.heap.size + 1 := (by omega)
  have y6_0_p2 : w.heap.size < w6.heap.size + 1 + 1 := (by omega)
  have y6_2_0 : w2.heap.size < w6.heap.size := (by omega)
  have y6_2_p1 : w2.heap.size < w6.heap.size + 1 := (by omega)
  have y6_2_p2 : w2.heap.size < w6.heap.size + 1 + 1 := (by omega)
  have y6_3_0 : w3.heap.size < w6.heap.size := (by omega)
  have y6_3_p1 : w3.heap.size < w6.heap.size + 1 := (by omega)
  have y6_3_p2 : w3.heap.size < w6.heap.size + 1 + 1 := (by omega)
  have y6_4_1 : w4.heap.size + 1 < w6.heap.size := (by omega)
  have y6_4_0 : w4.heap.size < w6.heap.size := (by omega)
  have y6_4_p1 : w4.heap.size < w6.heap.size + 1 := (by omega)
  have y6_4_p2 : w4.heap.size < w6.heap.size + 1 + 1 := (by omega)
  have y6_5_1 : w5.heap.size + 1 < w6.heap.size := (by omega)
  have y6_5_0 : w5.heap.size < w6.heap.size := (by omega)
  have y6_5_p1 : w5.heap.size < w6.heap.size + 1 := (by omega)
  have y6_5_p2 : w5.heap.size < w6.heap.size + 1 + 1 := (by omega)
  clear hB
  clear A5
  go_wp2
  go_ret
  exact ⟨rfl, by repeat (first | with_reducible exact D6 | with_reducible apply bdrew | with_reducible apply bdrewN | with_reducible apply balloc | ((with_reducible refine bset ?_ ?_ _); rotate_left; (first | omega | (simp <;> omega))))⟩

set_option maxHeartbeats 1000000 in
theorem walk_order_na0 (a b c d e f s1 i1 i2 p3 q3 i3 p4 q4 i4 i5 : Int) (ns : ¬ s1 = 0) (ls : -1 ≤ s1 ∧ s1 ≤ 1) (nx : ¬ a = c) (A1 : ∀ w : World, Calls Try.prog 19 #[.agg #[.int .i64 a, .int .i64 b], .agg #[.int .i64 c, .int .i64 d]] w fun e w' => e = .returned (.tuple #[.int .i64 (s1), .agg #[.int .i64 0, .int .i64 i1]]) ∧ Below w.heap.size w w') (A2 : ∀ w : World, Calls Try.prog 19 #[.agg #[.int .i64 c, .int .i64 d], .agg #[.int .i64 a, .int .i64 b]] w fun e w' => e = .returned (.tuple #[.int .i64 (-s1), .agg #[.int .i64 0, .int .i64 i2]]) ∧ Below w.heap.size w w') (A3 : ∀ w : World, Calls Try.prog 15 #[.agg #[.int .i64 a, .int .i64 b], .agg #[.int .i64 e, .int .i64 f]] w fun e w' => e = .returned (.tuple #[.agg #[.int .i64 p3, .int .i64 q3], .agg #[.int .i64 0, .int .i64 i3]]) ∧ Below w.heap.size w w') (A4 : ∀ w : World, Calls Try.prog 15 #[.agg #[.int .i64 c, .int .i64 d], .agg #[.int .i64 e, .int .i64 f]] w fun e w' => e = .returned (.tuple #[.agg #[.int .i64 p4, .int .i64 q4], .agg #[.int .i64 0, .int .i64 i4]]) ∧ Below w.heap.size w w') (A5 : ∀ w : World, Calls Try.prog 19 #[.agg #[.int .i64 p3, .int .i64 q3], .agg #[.int .i64 p4, .int .i64 q4]] w fun e w' => e = .returned (.tuple #[.int .i64 (s1), .agg #[.int .i64 0, .int .i64 i5]]) ∧ Below w.heap.size w w') (w : World) :
    Calls Try.prog 7 #[.agg #[.int .i64 a, .int .i64 b], .agg #[.int .i64 c, .int .i64 d], .agg #[.int .i64 e, .int .i64 f]] w fun e w' => e = .returned (.bool true) ∧ Below w.heap.size w w' := by
  have bs := bb_no ns
  obtain ⟨ls1, ls2⟩ := ls
  have bx : (a == c) = false := by simpa using nx
  go_enter Try.func7, Try.ntmps7
  go_wp2_with fail
  refine (example_any _).mono ?_
  rintro e w1 ⟨rfl, hB⟩
  have D1 := dstep w hB (by repeat (first | with_reducible exact Below.refl _ _ | with_reducible apply bdrew | with_reducible apply bdrewN | with_reducible apply balloc | ((with_reducible refine bset ?_ ?_ _); rotate_left; (first | omega | (simp <;> omega)))))
  have d1s := D1.size
  obtain ⟨C0, F1⟩ := Cls.first (l := [(w.heap.size, 0, .int .i64 a), (w.heap.size, 1, .int .i64 b), (w.heap.size + 1, 0, .int .i64 c), (w.heap.size + 1, 1, .int .i64 d), (w.heap.size + 1 + 1, 0, .int .i64 e), (w.heap.size + 1 + 1, 1, .int .i64 f)]) hB (by simp [Cls, go_sem])
  simp only [Cls, and_true] at F1
  have B1 := hB
  have hs1 := hB.size
  try simp at hs1
  have hb1 := B1.size
  try simp at hb1
  have y1_0_2 : w.heap.size + 1 + 1 < w1.heap.size := (by omega)
  have y1_0_1 : w.heap.size + 1 < w1.heap.size := (by omega)
  have y1_0_0 : w.heap.size < w1.heap.size := (by omega)
  have y1_0_p1 : w.heap.size < w1.heap.size + 1 := (by omega)
  have y1_0_p2 : w.heap.size < w1.heap.size + 1 + 1 := (by omega)
  clear hB
  go_wp2_with fail
  refine (A1 _).mono ?_
  rintro e w2 ⟨rfl, hB⟩
  have D2 := dstep w hB (by repeat (first | with_reducible exact D1 | with_reducible apply bdrew | with_reducible apply bdrewN | with_reducible apply balloc | ((with_reducible refine bset ?_ ?_ _); rotate_left; (first | omega | (simp <;> omega)))))
  have d2s := D2.size
  have B2 := bstep B1 hB (by repeat (first | with_reducible exact B1 | with_reducible apply bdrew | with_reducible apply bdrewN | with_reducible apply balloc | ((with_reducible refine bset ?_ ?_ _); rotate_left; (first | omega | (simp <;> omega)))))
  have F2 := C0.below B2
  simp only [Cls, and_true] at F2
  have hs2 := hB.size
  try simp at hs2
  have y2_0_2 : w.heap.size + 1 + 1 < w2.heap.size := (by omega)
  have y2_0_1 : w.heap.size + 1 < w2.heap.size := (by omega)
  have y2_0_0 : w.heap.size < w2.heap.size := (by omega)
  have y2_0_p1 : w.heap.size < w2.heap.size + 1 := (by omega)
  have y2_0_p2 : w.heap.size < w2.heap.size + 1 + 1 := (by omega)
  clear hB
  clear A1
  go_wp2_with fail
  refine (A2 _).mono ?_
  rintro e w3 ⟨rfl, hB⟩
  have D3 := dstep w hB (by repeat (first | with_reducible exact D2 | with_reducible apply bdrew | with_reducible apply bdrewN | with_reducible apply balloc | ((with_reducible refine bset ?_ ?_ _); rotate_left; (first | omega | (simp <;> omega)))))
  have d3s := D3.size
  have B3 := bstep B1 hB (by repeat (first | with_reducible exact B2 | with_reducible apply bdrew | with_reducible apply bdrewN | with_reducible apply balloc | ((with_reducible refine bset ?_ ?_ _); rotate_left; (first | omega | (simp <;> omega)))))
  have F3 := C0.below B3
  simp only [Cls, and_true] at F3
  have G3 := Cls.below (l := [(w2.heap.size, 0, .int .i64 0), (w2.heap.size, 1, .int .i64 i1)]) hB (by simp [Cls, go_sem, F2, y2_0_2, y2_0_1, y2_0_0, y2_0_p1, y2_0_p2])
  simp only [Cls, and_true] at G3
  have hs3 := hB.size
  try simp at hs3
  have y3_0_2 : w.heap.size + 1 + 1 < w3.heap.size := (by omega)
  have y3_0_1 : w.heap.size + 1 < w3.heap.size := (by omega)
  have y3_0_0 : w.heap.size < w3.heap.size := (by omega)
  have y3_0_p1 : w.heap.size < w3.heap.size + 1 := (by omega)
  have y3_0_p2 : w.heap.size < w3.heap.size + 1 + 1 := (by omega)
  have y3_2_0 : w2.heap.size < w3.heap.size := (by omega)
  have y3_2_p1 : w2.heap.size < w3.heap.size + 1 := (by omega)
  have y3_2_p2 : w2.heap.size < w3.heap.size + 1 + 1 := (by omega)
  clear hB
  clear A2
  go_wp2_with fail
  refine (A3 _).mono ?_
  rintro e w4 ⟨rfl, hB⟩
  have D4 := dstep w hB (by repeat (first | with_reducible exact D3 | with_reducible apply bdrew | with_reducible apply bdrewN | with_reducible apply balloc | ((with_reducible refine bset ?_ ?_ _); rotate_left; (first | omega | (simp <;> omega)))))
  have d4s := D4.size
  have B4 := bstep B1 hB (by repeat (first | with_reducible exact B3 | with_reducible apply bdrew | with_reducible apply bdrewN | with_reducible apply balloc | ((with_reducible refine bset ?_ ?_ _); rotate_left; (first | omega | (simp <;> omega)))))
  have F4 := C0.below B4
  simp only [Cls, and_true] at F4
  have G4 := Cls.below (l := [(w2.heap.size, 0, .int .i64 0), (w2.heap.size, 1, .int .i64 i1), (w3.heap.size, 0, .int .i64 0), (w3.heap.size, 1, .int .i64 i2)]) hB (by simp [Cls, go_sem, F3, G3, y3_0_2, y3_0_1, y3_0_0, y3_0_p1, y3_0_p2, y3_2_0, y3_2_p1, y3_2_p2])
  simp only [Cls, and_true] at G4
  have hs4 := hB.size
  try simp at hs4
  have y4_0_2 : w.heap.size + 1 + 1 < w4.heap.size := (by omega)
  have y4_0_1 : w.heap.size + 1 < w4.heap.size := (by omega)
  have y4_0_0 : w.heap.size < w4.heap.size := (by omega)
  have y4_0_p1 : w.heap.size < w4.heap.size + 1 := (by omega)
  have y4_0_p2 : w.heap.size < w4.heap.size + 1 + 1 := (by omega)
  have y4_2_0 : w2.heap.size < w4.heap.size := (by omega)
  have y4_2_p1 : w2.heap.size < w4.heap.size + 1 := (by omega)
  have y4_2_p2 : w2.heap.size < w4.heap.size + 1 + 1 := (by omega)
  have y4_3_0 : w3.heap.size < w4.heap.size := (by omega)
  have y4_3_p1 : w3.heap.size < w4.heap.size + 1 := (by omega)
  have y4_3_p2 : w3.heap.size < w4.heap.size + 1 + 1 := (by omega)
  clear hB
  clear A3
  go_wp2_with fail
  refine (A4 _).mono ?_
  rintro e w5 ⟨rfl, hB⟩
  have D5 := dstep w hB (by repeat (first | with_reducible exact D4 | with_reducible apply bdrew | with_reducible apply bdrewN | with_reducible apply balloc | ((with_reducible refine bset ?_ ?_ _); rotate_left; (first | omega | (simp <;> omega)))))
  have d5s := D5.size
  have B5 := bstep B1 hB (by repeat (first | with_reducible exact B4 | with_reducible apply bdrew | with_reducible apply bdrewN | with_reducible apply balloc | ((with_reducible refine bset ?_ ?_ _); rotate_left; (first | omega | (simp <;> omega)))))
  have F5 := C0.below B5
  simp only [Cls, and_true] at F5
  have G5 := Cls.below (l := [(w2.heap.size, 0, .int .i64 0), (w2.heap.size, 1, .int .i64 i1), (w3.heap.size, 0, .int .i64 0), (w3.heap.size, 1, .int .i64 i2), (w4.heap.size, 0, .int .i64 p3), (w4.heap.size, 1, .int .i64 q3), (w4.heap.size + 1, 0, .int .i64 0), (w4.heap.size + 1, 1, .int .i64 i3)]) hB (by simp [Cls, go_sem, F4, G4, y4_0_2, y4_0_1, y4_0_0, y4_0_p1, y4_0_p2, y4_2_0, y4_2_p1, y4_2_p2, y4_3_0, y4_3_p1, y4_3_p2])
  simp only [Cls, and_true] at G5
  have hs5 := hB.size
  try simp at hs5
  have y5_0_2 : w.heap.size + 1 + 1 < w5.heap.size := (by omega)
  have y5_0_1 : w.heap.size + 1 < w5.heap.size := (by omega)
  have y5_0_0 : w.heap.size < w5.heap.size := (by omega)
  have y5_0_p1 : w.heap.size < w5.heap.size + 1 := (by omega)
  have y5_0_p2 : w.heap.size < w5.heap.size + 1 + 1 := (by omega)
  have y5_2_0 : w2.heap.size < w5.heap.size := (by omega)
  have y5_2_p1 : w2.heap.size < w5.heap.size + 1 := (by omega)
  have y5_2_p2 : w2.heap.size < w5.heap.size + 1 + 1 := (by omega)
  have y5_3_0 : w3.heap.size < w5.heap.size := (by omega)
  have y5_3_p1 : w3.heap.size < w5.heap.size + 1 := (by omega)
  have y5_3_p2 : w3.heap.size < w5.heap.size + 1 + 1 := (by omega)
  have y5_4_1 : w4.heap.size + 1 < w5.heap.size := (by omega)
  have y5_4_0 : w4.heap.size < w5.heap.size := (by omega)
  have y5_4_p1 : w4.heap.size < w5.heap.size + 1 := (by omega)
  have y5_4_p2 : w4.heap.size < w5.heap.size + 1 + 1 := (by omega)
  clear hB
  clear A4
  go_wp2_with fail
  refine (A5 _).mono ?_
  rintro e w6 ⟨rfl, hB⟩
  have D6 := dstep w hB (by repeat (first | with_reducible exact D5 | with_reducible apply bdrew | with_reducible apply bdrewN | with_reducible apply balloc | ((with_reducible refine bset ?_ ?_ _); rotate_left; (first | omega | (simp <;> omega)))))
  have d6s := D6.size
  have B6 := bstep B1 hB (by repeat (first | with_reducible exact B5 | with_reducible apply bdrew | with_reducible apply bdrewN | with_reducible apply balloc | ((with_reducible refine bset ?_ ?_ _); rotate_left; (first | omega | (simp <;> omega)))))
  have F6 := C0.below B6
  simp only [Cls, and_true] at F6
  have G6 := Cls.below (l := [(w2.heap.size, 0, .int .i64 0), (w2.heap.size, 1, .int .i64 i1), (w3.heap.size, 0, .int .i64 0), (w3.heap.size, 1, .int .i64 i2), (w4.heap.size, 0, .int .i64 p3), (w4.heap.size, 1, .int .i64 q3), (w4.heap.size + 1, 0, .int .i64 0), (w4.heap.size + 1, 1, .int .i64 i3), (w5.heap.size, 0, .int .i64 p4), (w5.heap.size, 1, .int .i64 q4), (w5.heap.size + 1, 0, .int .i64 0), (w5.heap.size + 1, 1, .int .i64 i4)]) hB (by simp [Cls, go_sem, F5, G5, y5_0_2, y5_0_1, y5_0_0, y5_0_p1, y5_0_p2, y5_2_0, y5_2_p1, y5_2_p2, y5_3_0, y5_3_p1, y5_3_p2, y5_4_1, y5_4_0, y5_4_p1, y5_4_p2])
  simp only [Cls, and_true] at G6
  have hs6 := hB.size
  try simp at hs6
  have y6_0_2 : w.heap.size + 1 + 1 < w6.heap.size := (by omega)
  have y6_0_1 : w.heap.size + 1 < w6.heap.size := (by omega)
  have y6_0_0 : w.heap.size < w6.heap.size := (by omega)
  have y6_0_p1 : w.heap.size < w6.heap.size + 1 := (by omega)
  have y6_0_p2 : w.heap.size < w6.heap.size + 1 + 1 := (by omega)
  have y6_2_0 : w2.heap.size < w6.heap.size := (by omega)
  have y6_2_p1 : w2.heap.size < w6.heap.size + 1 := (by omega)
  have y6_2_p2 : w2.heap.size < w6.heap.size + 1 + 1 := (by omega)
  have y6_3_0 : w3.heap.size < w6.heap.size := (by omega)
  have y6_3_p1 : w3.heap.size < w6.heap.size + 1 := (by omega)
  have y6_3_p2 : w3.heap.size < w6.heap.size + 1 + 1 := (by omega)
  have y6_4_1 : w4.heap.size + 1 < w6.heap.size := (by omega)
  have y6_4_0 : w4.heap.size < w6.heap.size := (by omega)
  have y6_4_p1 : w4.heap.size < w6.heap.size + 1 := (by omega)
  have y6_4_p2 : w4.heap.size < w6.heap.size + 1 + 1 := (by omega)
  have y6_5_1 : w5.heap.size + 1 < w6.heap.size := (by omega)
  have y6_5_0 : w5.heap.size < w6.heap.size := (by omega)
  have y6_5_p1 : w5.heap.size < w6.heap.size + 1 := (by omega)
  have y6_5_p2 : w5.heap.size < w6.heap.size + 1 + 1 := (by omega)
  clear hB
  clear A5
  go_wp2
  go_ret
  exact ⟨rfl, by repeat (first | with_reducible exact D6 | with_reducible apply bdrew | with_reducible apply bdrewN | with_reducible apply balloc | ((with_reducible refine bset ?_ ?_ _); rotate_left; (first | omega | (simp <;> omega))))⟩

set_option maxHeartbeats 1000000 in
theorem walk_order_na1 (a b c d e f s1 i1 i2 p3 q3 c3 i3 p4 q4 c4 i4 s5 c5 i5 : Int) (ns : ¬ s1 = 0) (ls : -1 ≤ s1 ∧ s1 ≤ 1) (nx : ¬ a = c) (l3 : 0 ≤ c3 ∧ c3 ≤ 10) (l4 : 0 ≤ c4 ∧ c4 ≤ 10) (n3 : ¬ c3 + c4 = 0) (A1 : ∀ w : World, Calls Try.prog 19 #[.agg #[.int .i64 a, .int .i64 b], .agg #[.int .i64 c, .int .i64 d]] w fun e w' => e = .returned (.tuple #[.int .i64 (s1), .agg #[.int .i64 0, .int .i64 i1]]) ∧ Below w.heap.size w w') (A2 : ∀ w : World, Calls Try.prog 19 #[.agg #[.int .i64 c, .int .i64 d], .agg #[.int .i64 a, .int .i64 b]] w fun e w' => e = .returned (.tuple #[.int .i64 (-s1), .agg #[.int .i64 0, .int .i64 i2]]) ∧ Below w.heap.size w w') (A3 : ∀ w : World, Calls Try.prog 15 #[.agg #[.int .i64 a, .int .i64 b], .agg #[.int .i64 e, .int .i64 f]] w fun e w' => e = .returned (.tuple #[.agg #[.int .i64 p3, .int .i64 q3], .agg #[.int .i64 c3, .int .i64 i3]]) ∧ Below w.heap.size w w') (A4 : ∀ w : World, Calls Try.prog 15 #[.agg #[.int .i64 c, .int .i64 d], .agg #[.int .i64 e, .int .i64 f]] w fun e w' => e = .returned (.tuple #[.agg #[.int .i64 p4, .int .i64 q4], .agg #[.int .i64 c4, .int .i64 i4]]) ∧ Below w.heap.size w w') (A5 : ∀ w : World, Calls Try.prog 19 #[.agg #[.int .i64 p3, .int .i64 q3], .agg #[.int .i64 p4, .int .i64 q4]] w fun e w' => e = .returned (.tuple #[.int .i64 (s5), .agg #[.int .i64 c5, .int .i64 i5]]) ∧ Below w.heap.size w w') (w : World) :
    Calls Try.prog 7 #[.agg #[.int .i64 a, .int .i64 b], .agg #[.int .i64 c, .int .i64 d], .agg #[.int .i64 e, .int .i64 f]] w fun e w' => e = .returned (.bool true) ∧ Below w.heap.size w w' := by
  have bs := bb_no ns
  obtain ⟨ls1, ls2⟩ := ls
  have bx : (a == c) = false := by simpa using nx
  obtain ⟨l3a, l3b⟩ := l3
  obtain ⟨l4a, l4b⟩ := l4
  have b3 := bn_yes n3
  go_enter Try.func7, Try.ntmps7
  go_wp2_with fail
  refine (example_any _).mono ?_
  rintro e w1 ⟨rfl, hB⟩
  have D1 := dstep w hB (by repeat (first | with_reducible exact Below.refl _ _ | with_reducible apply bdrew | with_reducible apply bdrewN | with_reducible apply balloc | ((with_reducible refine bset ?_ ?_ _); rotate_left; (first | omega | (simp <;> omega)))))
  have d1s := D1.size
  obtain ⟨C0, F1⟩ := Cls.first (l := [(w.heap.size, 0, .int .i64 a), (w.heap.size, 1, .int .i64 b), (w.heap.size + 1, 0, .int .i64 c), (w.heap.size + 1, 1, .int .i64 d), (w.heap.size + 1 + 1, 0, .int .i64 e), (w.heap.size + 1 + 1, 1, .int .i64 f)]) hB (by simp [Cls, go_sem])
  simp only [Cls, and_true] at F1
  have B1 := hB
  have hs1 := hB.size
  try simp at hs1
  have hb1 := B1.size
  try simp at hb1
  have y1_0_2 : w.heap.size + 1 + 1 < w1.heap.size := (by omega)
  have y1_0_1 : w.heap.size + 1 < w1.heap.size := (by omega)
  have y1_0_0 : w.heap.size < w1.heap.size := (by omega)
  have y1_0_p1 : w.heap.size < w1.heap.size + 1 := (by omega)
  have y1_0_p2 : w.heap.size < w1.heap.size + 1 + 1 := (by omega)
  clear hB
  go_wp2_with fail
  refine (A1 _).mono ?_
  rintro e w2 ⟨rfl, hB⟩
  have D2 := dstep w hB (by repeat (first | with_reducible exact D1 | with_reducible apply bdrew | with_reducible apply bdrewN | with_reducible apply balloc | ((with_reducible refine bset ?_ ?_ _); rotate_left; (first | omega | (simp <;> omega)))))
  have d2s := D2.size
  have B2 := bstep B1 hB (by repeat (first | with_reducible exact B1 | with_reducible apply bdrew | with_reducible apply bdrewN | with_reducible apply balloc | ((with_reducible refine bset ?_ ?_ _); rotate_left; (first | omega | (simp <;> omega)))))
  have F2 := C0.below B2
  simp only [Cls, and_true] at F2
  have hs2 := hB.size
  try simp at hs2
  have y2_0_2 : w.heap.size + 1 + 1 < w2.heap.size := (by omega)
  have y2_0_1 : w.heap.size + 1 < w2.heap.size := (by omega)
  have y2_0_0 : w.heap.size < w2.heap.size := (by omega)
  have y2_0_p1 : w.heap.size < w2.heap.size + 1 := (by omega)
  have y2_0_p2 : w.heap.size < w2.heap.size + 1 + 1 := (by omega)
  clear hB
  clear A1
  go_wp2_with fail
  refine (A2 _).mono ?_
  rintro e w3 ⟨rfl, hB⟩
  have D3 := dstep w hB (by repeat (first | with_reducible exact D2 | with_reducible apply bdrew | with_reducible apply bdrewN | with_reducible apply balloc | ((with_reducible refine bset ?_ ?_ _); rotate_left; (first | omega | (simp <;> omega)))))
  have d3s := D3.size
  have B3 := bstep B1 hB (by repeat (first | with_reducible exact B2 | with_reducible apply bdrew | with_reducible apply bdrewN | with_reducible apply balloc | ((with_reducible refine bset ?_ ?_ _); rotate_left; (first | omega | (simp <;> omega)))))
  have F3 := C0.below B3
  simp only [Cls, and_true] at F3
  have G3 := Cls.below (l := [(w2.heap.size, 0, .int .i64 0), (w2.heap.size, 1, .int .i64 i1)]) hB (by simp [Cls, go_sem, F2, y2_0_2, y2_0_1, y2_0_0, y2_0_p1, y2_0_p2])
  simp only [Cls, and_true] at G3
  have hs3 := hB.size
  try simp at hs3
  have y3_0_2 : w.heap.size + 1 + 1 < w3.heap.size := (by omega)
  have y3_0_1 : w.heap.size + 1 < w3.heap.size := (by omega)
  have y3_0_0 : w.heap.size < w3.heap.size := (by omega)
  have y3_0_p1 : w.heap.size < w3.heap.size + 1 := (by omega)
  have y3_0_p2 : w.heap.size < w3.heap.size + 1 + 1 := (by omega)
  have y3_2_0 : w2.heap.size < w3.heap.size := (by omega)
  have y3_2_p1 : w2.heap.size < w3.heap.size + 1 := (by omega)
  have y3_2_p2 : w2.heap.size < w3.heap.size + 1 + 1 := (by omega)
  clear hB
  clear A2
  go_wp2_with fail
  refine (A3 _).mono ?_
  rintro e w4 ⟨rfl, hB⟩
  have D4 := dstep w hB (by repeat (first | with_reducible exact D3 | with_reducible apply bdrew | with_reducible apply bdrewN | with_reducible apply balloc | ((with_reducible refine bset ?_ ?_ _); rotate_left; (first | omega | (simp <;> omega)))))
  have d4s := D4.size
  have B4 := bstep B1 hB (by repeat (first | with_reducible exact B3 | with_reducible apply bdrew | with_reducible apply bdrewN | with_reducible apply balloc | ((with_reducible refine bset ?_ ?_ _); rotate_left; (first | omega | (simp <;> omega)))))
  have F4 := C0.below B4
  simp only [Cls, and_true] at F4
  have G4 := Cls.below (l := [(w2.heap.size, 0, .int .i64 0), (w2.heap.size, 1, .int .i64 i1), (w3.heap.size, 0, .int .i64 0), (w3.heap.size, 1, .int .i64 i2)]) hB (by simp [Cls, go_sem, F3, G3, y3_0_2, y3_0_1, y3_0_0, y3_0_p1, y3_0_p2, y3_2_0, y3_2_p1, y3_2_p2])
  simp only [Cls, and_true] at G4
  have hs4 := hB.size
  try simp at hs4
  have y4_0_2 : w.heap.size + 1 + 1 < w4.heap.size := (by omega)
  have y4_0_1 : w.heap.size + 1 < w4.heap.size := (by omega)
  have y4_0_0 : w.heap.size < w4.heap.size := (by omega)
  have y4_0_p1 : w.heap.size < w4.heap.size + 1 := (by omega)
  have y4_0_p2 : w.heap.size < w4.heap.size + 1 + 1 := (by omega)
  have y4_2_0 : w2.heap.size < w4.heap.size := (by omega)
  have y4_2_p1 : w2.heap.size < w4.heap.size + 1 := (by omega)
  have y4_2_p2 : w2.heap.size < w4.heap.size + 1 + 1 := (by omega)
  have y4_3_0 : w3.heap.size < w4.heap.size := (by omega)
  have y4_3_p1 : w3.heap.size < w4.heap.size + 1 := (by omega)
  have y4_3_p2 : w3.heap.size < w4.heap.size + 1 + 1 := (by omega)
  clear hB
  clear A3
  go_wp2_with fail
  refine (A4 _).mono ?_
  rintro e w5 ⟨rfl, hB⟩
  have D5 := dstep w hB (by repeat (first | with_reducible exact D4 | with_reducible apply bdrew | with_reducible apply bdrewN | with_reducible apply balloc | ((with_reducible refine bset ?_ ?_ _); rotate_left; (first | omega | (simp <;> omega)))))
  have d5s := D5.size
  have B5 := bstep B1 hB (by repeat (first | with_reducible exact B4 | with_reducible apply bdrew | with_reducible apply bdrewN | with_reducible apply balloc | ((with_reducible refine bset ?_ ?_ _); rotate_left; (first | omega | (simp <;> omega)))))
  have F5 := C0.below B5
  simp only [Cls, and_true] at F5
  have G5 := Cls.below (l := [(w2.heap.size, 0, .int .i64 0), (w2.heap.size, 1, .int .i64 i1), (w3.heap.size, 0, .int .i64 0), (w3.heap.size, 1, .int .i64 i2), (w4.heap.size, 0, .int .i64 p3), (w4.heap.size, 1, .int .i64 q3), (w4.heap.size + 1, 0, .int .i64 c3), (w4.heap.size + 1, 1, .int .i64 i3)]) hB (by simp [Cls, go_sem, F4, G4, y4_0_2, y4_0_1, y4_0_0, y4_0_p1, y4_0_p2, y4_2_0, y4_2_p1, y4_2_p2, y4_3_0, y4_3_p1, y4_3_p2])
  simp only [Cls, and_true] at G5
  have hs5 := hB.size
  try simp at hs5
  have y5_0_2 : w.heap.size + 1 + 1 < w5.heap.size := (by omega)
  have y5_0_1 : w.heap.size + 1 < w5.heap.size := (by omega)
  have y5_0_0 : w.heap.size < w5.heap.size := (by omega)
  have y5_0_p1 : w.heap.size < w5.heap.size + 1 := (by omega)
  have y5_0_p2 : w.heap.size < w5.heap.size + 1 + 1 := (by omega)
  have y5_2_0 : w2.heap.size < w5.heap.size := (by omega)
  have y5_2_p1 : w2.heap.size < w5.heap.size + 1 := (by omega)
  have y5_2_p2 : w2.heap.size < w5.heap.size + 1 + 1 := (by omega)
  have y5_3_0 : w3.heap.size < w5.heap.size := (by omega)
  have y5_3_p1 : w3.heap.size < w5.heap.size + 1 := (by omega)
  have y5_3_p2 : w3.heap.size < w5.heap.size + 1 + 1 := (by omega)
  have y5_4_1 : w4.heap.size + 1 < w5.heap.size := (by omega)
  have y5_4_0 : w4.heap.size < w5.heap.size := (by omega)
  have y5_4_p1 : w4.heap.size < w5.heap.size + 1 := (by omega)
  have y5_4_p2 : w4.heap.size < w5.heap.size + 1 + 1 := (by omega)
  clear hB
  clear A4
  go_wp2_with fail
  refine (A5 _).mono ?_
  rintro e w6 ⟨rfl, hB⟩
  have D6 := dstep w hB (by repeat (first | with_reducible exact D5 | with_reducible apply bdrew | with_reducible apply bdrewN | with_reducible apply balloc | ((with_reducible refine bset ?_ ?_ _); rotate_left; (first | omega | (simp <;> omega)))))
  have d6s := D6.size
  have B6 := bstep B1 hB (by repeat (first | with_reducible exact B5 | with_reducible apply bdrew | with_reducible apply bdrewN | with_reducible apply balloc | ((with_reducible refine bset ?_ ?_ _); rotate_left; (first | omega | (simp <;> omega)))))
  have F6 := C0.below B6
  simp only [Cls, and_true] at F6
  have G6 := Cls.below (l := [(w2.heap.size, 0, .int .i64 0), (w2.heap.size, 1, .int .i64 i1), (w3.heap.size, 0, .int .i64 0), (w3.heap.size, 1, .int .i64 i2), (w4.heap.size, 0, .int .i64 p3), (w4.heap.size, 1, .int .i64 q3), (w4.heap.size + 1, 0, .int .i64 c3), (w4.heap.size + 1, 1, .int .i64 i3), (w5.heap.size, 0, .int .i64 p4), (w5.heap.size, 1, .int .i64 q4), (w5.heap.size + 1, 0, .int .i64 c4), (w5.heap.size + 1, 1, .int .i64 i4)]) hB (by simp [Cls, go_sem, F5, G5, y5_0_2, y5_0_1, y5_0_0, y5_0_p1, y5_0_p2, y5_2_0, y5_2_p1, y5_2_p2, y5_3_0, y5_3_p1, y5_3_p2, y5_4_1, y5_4_0, y5_4_p1, y5_4_p2])
  simp only [Cls, and_true] at G6
  have hs6 := hB.size
  try simp at hs6
  have y6_0_2 : w.heap.size + 1 + 1 < w6.heap.size := (by omega)
  have y6_0_1 : w.heap.size + 1 < w6.heap.size := (by omega)
  have y6_0_0 : w.heap.size < w6.heap.size := (by omega)
  have y6_0_p1 : w.heap.size < w6.heap.size + 1 := (by omega)
  have y6_0_p2 : w.heap.size < w6.heap.size + 1 + 1 := (by omega)
  have y6_2_0 : w2.heap.size < w6.heap.size := (by omega)
  have y6_2_p1 : w2.heap.size < w6.heap.size + 1 := (by omega)
  have y6_2_p2 : w2.heap.size < w6.heap.size + 1 + 1 := (by omega)
  have y6_3_0 : w3.heap.size < w6.heap.size := (by omega)
  have y6_3_p1 : w3.heap.size < w6.heap.size + 1 := (by omega)
  have y6_3_p2 : w3.heap.size < w6.heap.size + 1 + 1 := (by omega)
  have y6_4_1 : w4.heap.size + 1 < w6.heap.size := (by omega)
  have y6_4_0 : w4.heap.size < w6.heap.size := (by omega)
  have y6_4_p1 : w4.heap.size < w6.heap.size + 1 := (by omega)
  have y6_4_p2 : w4.heap.size < w6.heap.size + 1 + 1 := (by omega)
  have y6_5_1 : w5.heap.size + 1 < w6.heap.size := (by omega)
  have y6_5_0 : w5.heap.size < w6.heap.size := (by omega)
  have y6_5_p1 : w5.heap.size < w6.heap.size + 1 := (by omega)
  have y6_5_p2 : w5.heap.size < w6.heap.size + 1 + 1 := (by omega)
  clear hB
  clear A5
  go_wp2
  go_ret
  exact ⟨rfl, by repeat (first | with_reducible exact D6 | with_reducible apply bdrew | with_reducible apply bdrewN | with_reducible apply balloc | ((with_reducible refine bset ?_ ?_ _); rotate_left; (first | omega | (simp <;> omega))))⟩

set_option maxHeartbeats 1000000 in
theorem walk_order_nb0 (a b d e f s1 i1 i2 p3 q3 i3 p4 q4 i4 i5 : Int) (ns : ¬ s1 = 0) (ls : -1 ≤ s1 ∧ s1 ≤ 1) (nx : ¬ b = d) (A1 : ∀ w : World, Calls Try.prog 19 #[.agg #[.int .i64 a, .int .i64 b], .agg #[.int .i64 a, .int .i64 d]] w fun e w' => e = .returned (.tuple #[.int .i64 (s1), .agg #[.int .i64 0, .int .i64 i1]]) ∧ Below w.heap.size w w') (A2 : ∀ w : World, Calls Try.prog 19 #[.agg #[.int .i64 a, .int .i64 d], .agg #[.int .i64 a, .int .i64 b]] w fun e w' => e = .returned (.tuple #[.int .i64 (-s1), .agg #[.int .i64 0, .int .i64 i2]]) ∧ Below w.heap.size w w') (A3 : ∀ w : World, Calls Try.prog 15 #[.agg #[.int .i64 a, .int .i64 b], .agg #[.int .i64 e, .int .i64 f]] w fun e w' => e = .returned (.tuple #[.agg #[.int .i64 p3, .int .i64 q3], .agg #[.int .i64 0, .int .i64 i3]]) ∧ Below w.heap.size w w') (A4 : ∀ w : World, Calls Try.prog 15 #[.agg #[.int .i64 a, .int .i64 d], .agg #[.int .i64 e, .int .i64 f]] w fun e w' => e = .returned (.tuple #[.agg #[.int .i64 p4, .int .i64 q4], .agg #[.int .i64 0, .int .i64 i4]]) ∧ Below w.heap.size w w') (A5 : ∀ w : World, Calls Try.prog 19 #[.agg #[.int .i64 p3, .int .i64 q3], .agg #[.int .i64 p4, .int .i64 q4]] w fun e w' => e = .returned (.tuple #[.int .i64 (s1), .agg #[.int .i64 0, .int .i64 i5]]) ∧ Below w.heap.size w w') (w : World) :
    Calls Try.prog 7 #[.agg #[.int .i64 a, .int .i64 b], .agg #[.int .i64 a, .int .i64 d], .agg #[.int .i64 e, .int .i64 f]] w fun e w' => e = .returned (.bool true) ∧ Below w.heap.size w w' := by
  have bs := bb_no ns
  obtain ⟨ls1, ls2⟩ := ls
  have bx : (b == d) = false := by simpa using nx
  go_enter Try.func7, Try.ntmps7
  go_wp2_with fail
  refine (example_any _).mono ?_
  rintro e w1 ⟨rfl, hB⟩
  have D1 := dstep w hB (by repeat (first | with_reducible exact Below.refl _ _ | with_reducible apply bdrew | with_reducible apply bdrewN | with_reducible apply balloc | ((with_reducible refine bset ?_ ?_ _); rotate_left; (first | omega | (simp <;> omega)))))
  have d1s := D1.size
  obtain ⟨C0, F1⟩ := Cls.first (l := [(w.heap.size, 0, .int .i64 a), (w.heap.size, 1, .int .i64 b), (w.heap.size + 1, 0, .int .i64 a), (w.heap.size + 1, 1, .int .i64 d), (w.heap.size + 1 + 1, 0, .int .i64 e), (w.heap.size + 1 + 1, 1, .int .i64 f)]) hB (by simp [Cls, go_sem])
  simp only [Cls, and_true] at F1
  have B1 := hB
  have hs1 := hB.size
  try simp at hs1
  have hb1 := B1.size
  try simp at hb1
  have y1_0_2 : w.heap.size + 1 + 1 < w1.heap.size := (by omega)
  have y1_0_1 : w.heap.size + 1 < w1.heap.size := (by omega)
  have y1_0_0 : w.heap.size < w1.heap.size := (by omega)
  have y1_0_p1 : w.heap.size < w1.heap.size + 1 := (by omega)
  have y1_0_p2 : w.heap.size < w1.heap.size + 1 + 1 := (by omega)
  clear hB
  go_wp2_with fail
  refine (A1 _).mono ?_
  rintro e w2 ⟨rfl, hB⟩
  have D2 := dstep w hB (by repeat (first | with_reducible exact D1 | with_reducible apply bdrew | with_reducible apply bdrewN | with_reducible apply balloc | ((with_reducible refine bset ?_ ?_ _); rotate_left; (first | omega | (simp <;> omega)))))
  have d2s := D2.size
  have B2 := bstep B1 hB (by repeat (first | with_reducible exact B1 | with_reducible apply bdrew | with_reducible apply bdrewN | with_reducible apply balloc | ((with_reducible refine bset ?_ ?_ _); rotate_left; (first | omega | (simp <;> omega)))))
  have F2 := C0.below B2
  simp only [Cls, and_true] at F2
  have hs2 := hB.size
  try simp at hs2
  have y2_0_2 : w.heap.size + 1 + 1 < w2.heap.size := (by omega)
  have y2_0_1 : w.heap.size + 1 < w2.heap.size := (by omega)
  have y2_0_0 : w.heap.size < w2.heap.size := (by omega)
  have y2_0_p1 : w.heap.size < w2.heap.size + 1 := (by omega)
  have y2_0_p2 : w.heap.size < w2.heap.size + 1 + 1 := (by omega)
  clear hB
  clear A1
  go_wp2_with fail
  refine (A2 _).mono ?_
  rintro e w3 ⟨rfl, hB⟩
  have D3 := dstep w hB (by repeat (first | with_reducible exact D2 | with_reducible apply bdrew | with_reducible apply bdrewN | with_reducible apply balloc | ((with_reducible refine bset ?_ ?_ _); rotate_left; (first | omega | (simp <;> omega)))))
  have d3s := D3.size
  have B3 := bstep B1 hB (by repeat (first | with_reducible exact B2 | with_reducible apply bdrew | with_reducible apply bdrewN | with_reducible apply balloc | ((with_reducible refine bset ?_ ?_ _); rotate_left; (first | omega | (simp <;> omega)))))
  have F3 := C0.below B3
  simp only [Cls, and_true] at F3
  have G3 := Cls.below (l := [(w2.heap.size, 0, .int .i64 0), (w2.heap.size, 1, .int .i64 i1)]) hB (by simp [Cls, go_sem, F2, y2_0_2, y2_0_1, y2_0_0, y2_0_p1, y2_0_p2])
  simp only [Cls, and_true] at G3
  have hs3 := hB.size
  try simp at hs3
  have y3_0_2 : w.heap.size + 1 + 1 < w3.heap.size := (by omega)
  have y3_0_1 : w.heap.size + 1 < w3.heap.size := (by omega)
  have y3_0_0 : w.heap.size < w3.heap.size := (by omega)
  have y3_0_p1 : w.heap.size < w3.heap.size + 1 := (by omega)
  have y3_0_p2 : w.heap.size < w3.heap.size + 1 + 1 := (by omega)
  have y3_2_0 : w2.heap.size < w3.heap.size := (by omega)
  have y3_2_p1 : w2.heap.size < w3.heap.size + 1 := (by omega)
  have y3_2_p2 : w2.heap.size < w3.heap.size + 1 + 1 := (by omega)
  clear hB
  clear A2
  go_wp2_with fail
  refine (A3 _).mono ?_
  rintro e w4 ⟨rfl, hB⟩
  have D4 := dstep w hB (by repeat (first | with_reducible exact D3 | with_reducible apply bdrew | with_reducible apply bdrewN | with_reducible apply balloc | ((with_reducible refine bset ?_ ?_ _); rotate_left; (first | omega | (simp <;> omega)))))
  have d4s := D4.size
  have B4 := bstep B1 hB (by repeat (first | with_reducible exact B3 | with_reducible apply bdrew | with_reducible apply bdrewN | with_reducible apply balloc | ((with_reducible refine bset ?_ ?_ _); rotate_left; (first | omega | (simp <;> omega)))))
  have F4 := C0.below B4
  simp only [Cls, and_true] at F4
  have G4 := Cls.below (l := [(w2.heap.size, 0, .int .i64 0), (w2.heap.size, 1, .int .i64 i1), (w3.heap.size, 0, .int .i64 0), (w3.heap.size, 1, .int .i64 i2)]) hB (by simp [Cls, go_sem, F3, G3, y3_0_2, y3_0_1, y3_0_0, y3_0_p1, y3_0_p2, y3_2_0, y3_2_p1, y3_2_p2])
  simp only [Cls, and_true] at G4
  have hs4 := hB.size
  try simp at hs4
  have y4_0_2 : w.heap.size + 1 + 1 < w4.heap.size := (by omega)
  have y4_0_1 : w.heap.size + 1 < w4.heap.size := (by omega)
  have y4_0_0 : w.heap.size < w4.heap.size := (by omega)
  have y4_0_p1 : w.heap.size < w4.heap.size + 1 := (by omega)
  have y4_0_p2 : w.heap.size < w4.heap.size + 1 + 1 := (by omega)
  have y4_2_0 : w2.heap.size < w4.heap.size := (by omega)
  have y4_2_p1 : w2.heap.size < w4.heap.size + 1 := (by omega)
  have y4_2_p2 : w2.heap.size < w4.heap.size + 1 + 1 := (by omega)
  have y4_3_0 : w3.heap.size < w4.heap.size := (by omega)
  have y4_3_p1 : w3.heap.size < w4.heap.size + 1 := (by omega)
  have y4_3_p2 : w3.heap.size < w4.heap.size + 1 + 1 := (by omega)
  clear hB
  clear A3
  go_wp2_with fail
  refine (A4 _).mono ?_
  rintro e w5 ⟨rfl, hB⟩
  have D5 := dstep w hB (by repeat (first | with_reducible exact D4 | with_reducible apply bdrew | with_reducible apply bdrewN | with_reducible apply balloc | ((with_reducible refine bset ?_ ?_ _); rotate_left; (first | omega | (simp <;> omega)))))
  have d5s := D5.size
  have B5 := bstep B1 hB (by repeat (first | with_reducible exact B4 | with_reducible apply bdrew | with_reducible apply bdrewN | with_reducible apply balloc | ((with_reducible refine bset ?_ ?_ _); rotate_left; (first | omega | (simp <;> omega)))))
  have F5 := C0.below B5
  simp only [Cls, and_true] at F5
  have G5 := Cls.below (l := [(w2.heap.size, 0, .int .i64 0), (w2.heap.size, 1, .int .i64 i1), (w3.heap.size, 0, .int .i64 0), (w3.heap.size, 1, .int .i64 i2), (w4.heap.size, 0, .int .i64 p3), (w4.heap.size, 1, .int .i64 q3), (w4.heap.size + 1, 0, .int .i64 0), (w4.heap.size + 1, 1, .int .i64 i3)]) hB (by simp [Cls, go_sem, F4, G4, y4_0_2, y4_0_1, y4_0_0, y4_0_p1, y4_0_p2, y4_2_0, y4_2_p1, y4_2_p2, y4_3_0, y4_3_p1, y4_3_p2])
  simp only [Cls, and_true] at G5
  have hs5 := hB.size
  try simp at hs5
  have y5_0_2 : w.heap.size + 1 + 1 < w5.heap.size := (by omega)
  have y5_0_1 : w.heap.size + 1 < w5.heap.size := (by omega)
  have y5_0_0 : w.heap.size < w5.heap.size := (by omega)
  have y5_0_p1 : w.heap.size < w5.heap.size + 1 := (by omega)
  have y5_0_p2 : w.heap.size < w5.heap.size + 1 + 1 := (by omega)
  have y5_2_0 : w2.heap.size < w5.heap.size := (by omega)
  have y5_2_p1 : w2.heap.size < w5.heap.size + 1 := (by omega)
  have y5_2_p2 : w2.heap.size < w5.heap.size + 1 + 1 := (by omega)
  have y5_3_0 : w3.heap.size < w5.heap.size := (by omega)
  have y5_3_p1 : w3.heap.size < w5.heap.size + 1 := (by omega)
  have y5_3_p2 : w3.heap.size < w5.heap.size + 1 + 1 := (by omega)
  have y5_4_1 : w4.heap.size + 1 < w5.heap.size := (by omega)
  have y5_4_0 : w4.heap.size < w5.heap.size := (by omega)
  have y5_4_p1 : w4.heap.size < w5.heap.size + 1 := (by omega)
  have y5_4_p2 : w4.heap.size < w5.heap.size + 1 + 1 := (by omega)
  clear hB
  clear A4
  go_wp2_with fail
  refine (A5 _).mono ?_
  rintro e w6 ⟨rfl, hB⟩
  have D6 := dstep w hB (by repeat (first | with_reducible exact D5 | with_reducible apply bdrew | with_reducible apply bdrewN | with_reducible apply balloc | ((with_reducible refine bset ?_ ?_ _); rotate_left; (first | omega | (simp <;> omega)))))
  have d6s := D6.size
  have B6 := bstep B1 hB (by repeat (first | with_reducible exact B5 | with_reducible apply bdrew | with_reducible apply bdrewN | with_reducible apply balloc | ((with_reducible refine bset ?_ ?_ _); rotate_left; (first | omega | (simp <;> omega)))))
  have F6 := C0.below B6
  simp only [Cls, and_true] at F6
  have G6 := Cls.below (l := [(w2.heap.size, 0, .int .i64 0), (w2.heap.size, 1, .int .i64 i1), (w3.heap.size, 0, .int .i64 0), (w3.heap.size, 1, .int .i64 i2), (w4.heap.size, 0, .int .i64 p3), (w4.heap.size, 1, .int .i64 q3), (w4.heap.size + 1, 0, .int .i64 0), (w4.heap.size + 1, 1, .int .i64 i3), (w5.heap.size, 0, .int .i64 p4), (w5.heap.size, 1, .int .i64 q4), (w5.heap.size + 1, 0, .int .i64 0), (w5.heap.size + 1, 1, .int .i64 i4)]) hB (by simp [Cls, go_sem, F5, G5, y5_0_2, y5_0_1, y5_0_0, y5_0_p1, y5_0_p2, y5_2_0, y5_2_p1, y5_2_p2, y5_3_0, y5_3_p1, y5_3_p2, y5_4_1, y5_4_0, y5_4_p1, y5_4_p2])
  simp only [Cls, and_true] at G6
  have hs6 := hB.size
  try simp at hs6
  have y6_0_2 : w.heap.size + 1 + 1 < w6.heap.size := (by omega)
  have y6_0_1 : w.heap.size + 1 < w6.heap.size := (by omega)
  have y6_0_0 : w.heap.size < w6.heap.size := (by omega)
  have y6_0_p1 : w.heap.size < w6.heap.size + 1 := (by omega)
  have y6_0_p2 : w.heap.size < w6.heap.size + 1 + 1 := (by omega)
  have y6_2_0 : w2.heap.size < w6.heap.size := (by omega)
  have y6_2_p1 : w2.heap.size < w6.heap.size + 1 := (by omega)
  have y6_2_p2 : w2.heap.size < w6.heap.size + 1 + 1 := (by omega)
  have y6_3_0 : w3.heap.size < w6.heap.size := (by omega)
  have y6_3_p1 : w3.heap.size < w6.heap.size + 1 := (by omega)
  have y6_3_p2 : w3.heap.size < w6.heap.size + 1 + 1 := (by omega)
  have y6_4_1 : w4.heap.size + 1 < w6.heap.size := (by omega)
  have y6_4_0 : w4.heap.size < w6.heap.size := (by omega)
  have y6_4_p1 : w4.heap.size < w6.heap.size + 1 := (by omega)
  have y6_4_p2 : w4.heap.size < w6.heap.size + 1 + 1 := (by omega)
  have y6_5_1 : w5.heap.size + 1 < w6.heap.size := (by omega)
  have y6_5_0 : w5.heap.size < w6.heap.size := (by omega)
  have y6_5_p1 : w5.heap.size < w6.heap.size + 1 := (by omega)
  have y6_5_p2 : w5.heap.size < w6.heap.size + 1 + 1 := (by omega)
  clear hB
  clear A5
  go_wp2
  go_ret
  exact ⟨rfl, by repeat (first | with_reducible exact D6 | with_reducible apply bdrew | with_reducible apply bdrewN | with_reducible apply balloc | ((with_reducible refine bset ?_ ?_ _); rotate_left; (first | omega | (simp <;> omega))))⟩

set_option maxHeartbeats 1000000 in
theorem walk_order_nb1 (a b d e f s1 i1 i2 p3 q3 c3 i3 p4 q4 c4 i4 s5 c5 i5 : Int) (ns : ¬ s1 = 0) (ls : -1 ≤ s1 ∧ s1 ≤ 1) (nx : ¬ b = d) (l3 : 0 ≤ c3 ∧ c3 ≤ 10) (l4 : 0 ≤ c4 ∧ c4 ≤ 10) (n3 : ¬ c3 + c4 = 0) (A1 : ∀ w : World, Calls Try.prog 19 #[.agg #[.int .i64 a, .int .i64 b], .agg #[.int .i64 a, .int .i64 d]] w fun e w' => e = .returned (.tuple #[.int .i64 (s1), .agg #[.int .i64 0, .int .i64 i1]]) ∧ Below w.heap.size w w') (A2 : ∀ w : World, Calls Try.prog 19 #[.agg #[.int .i64 a, .int .i64 d], .agg #[.int .i64 a, .int .i64 b]] w fun e w' => e = .returned (.tuple #[.int .i64 (-s1), .agg #[.int .i64 0, .int .i64 i2]]) ∧ Below w.heap.size w w') (A3 : ∀ w : World, Calls Try.prog 15 #[.agg #[.int .i64 a, .int .i64 b], .agg #[.int .i64 e, .int .i64 f]] w fun e w' => e = .returned (.tuple #[.agg #[.int .i64 p3, .int .i64 q3], .agg #[.int .i64 c3, .int .i64 i3]]) ∧ Below w.heap.size w w') (A4 : ∀ w : World, Calls Try.prog 15 #[.agg #[.int .i64 a, .int .i64 d], .agg #[.int .i64 e, .int .i64 f]] w fun e w' => e = .returned (.tuple #[.agg #[.int .i64 p4, .int .i64 q4], .agg #[.int .i64 c4, .int .i64 i4]]) ∧ Below w.heap.size w w') (A5 : ∀ w : World, Calls Try.prog 19 #[.agg #[.int .i64 p3, .int .i64 q3], .agg #[.int .i64 p4, .int .i64 q4]] w fun e w' => e = .returned (.tuple #[.int .i64 (s5), .agg #[.int .i64 c5, .int .i64 i5]]) ∧ Below w.heap.size w w') (w : World) :
    Calls Try.prog 7 #[.agg #[.int .i64 a, .int .i64 b], .agg #[.int .i64 a, .int .i64 d], .agg #[.int .i64 e, .int .i64 f]] w fun e w' => e = .returned (.bool true) ∧ Below w.heap.size w w' := by
  have bs := bb_no ns
  obtain ⟨ls1, ls2⟩ := ls
  have bx : (b == d) = false := by simpa using nx
  obtain ⟨l3a, l3b⟩ := l3
  obtain ⟨l4a, l4b⟩ := l4
  have b3 := bn_yes n3
  go_enter Try.func7, Try.ntmps7
  go_wp2_with fail
  refine (example_any _).mono ?_
  rintro e w1 ⟨rfl, hB⟩
  have D1 := dstep w hB (by repeat (first | with_reducible exact Below.refl _ _ | with_reducible apply bdrew | with_reducible apply bdrewN | with_reducible apply balloc | ((with_reducible refine bset ?_ ?_ _); rotate_left; (first | omega | (simp <;> omega)))))
  have d1s := D1.size
  obtain ⟨C0, F1⟩ := Cls.first (l := [(w.heap.size, 0, .int .i64 a), (w.heap.size, 1, .int .i64 b), (w.heap.size + 1, 0, .int .i64 a), (w.heap.size + 1, 1, .int .i64 d), (w.heap.size + 1 + 1, 0, .int .i64 e), (w.heap.size + 1 + 1, 1, .int .i64 f)]) hB (by simp [Cls, go_sem])
  simp only [Cls, and_true] at F1
  have B1 := hB
  have hs1 := hB.size
  try simp at hs1
  have hb1 := B1.size
  try simp at hb1
  have y1_0_2 : w.heap.size + 1 + 1 < w1.heap.size := (by omega)
  have y1_0_1 : w.heap.size + 1 < w1.heap.size := (by omega)
  have y1_0_0 : w.heap.size < w1.heap.size := (by omega)
  have y1_0_p1 : w.heap.size < w1.heap.size + 1 := (by omega)
  have y1_0_p2 : w.heap.size < w1.heap.size + 1 + 1 := (by omega)
  clear hB
  go_wp2_with fail
  refine (A1 _).mono ?_
  rintro e w2 ⟨rfl, hB⟩
  have D2 := dstep w hB (by repeat (first | with_reducible exact D1 | with_reducible apply bdrew | with_reducible apply bdrewN | with_reducible apply balloc | ((with_reducible refine bset ?_ ?_ _); rotate_left; (first | omega | (simp <;> omega)))))
  have d2s := D2.size
  have B2 := bstep B1 hB (by repeat (first | with_reducible exact B1 | with_reducible apply bdrew | with_reducible apply bdrewN | with_reducible apply balloc | ((with_reducible refine bset ?_ ?_ _); rotate_left; (first | omega | (simp <;> omega)))))
  have F2 := C0.below B2
  simp only [Cls, and_true] at F2
  have hs2 := hB.size
  try simp at hs2
  have y2_0_2 : w.heap.size + 1 + 1 < w2.heap.size := (by omega)
  have y2_0_1 : w.heap.size + 1 < w2.heap.size := (by omega)
  have y2_0_0 : w.heap.size < w2.heap.size := (by omega)
  have y2_0_p1 : w.heap.size < w2.heap.size + 1 := (by omega)
  have y2_0_p2 : w.heap.size < w2.heap.size + 1 + 1 := (by omega)
  clear hB
  clear A1
  go_wp2_with fail
  refine (A2 _).mono ?_
  rintro e w3 ⟨rfl, hB⟩
  have D3 := dstep w hB (by repeat (first | with_reducible exact D2 | with_reducible apply bdrew | with_reducible apply bdrewN | with_reducible apply balloc | ((with_reducible refine bset ?_ ?_ _); rotate_left; (first | omega | (simp <;> omega)))))
  have d3s := D3.size
  have B3 := bstep B1 hB (by repeat (first | with_reducible exact B2 | with_reducible apply bdrew | with_reducible apply bdrewN | with_reducible apply balloc | ((with_reducible refine bset ?_ ?_ _); rotate_left; (first | omega | (simp <;> omega)))))
  have F3 := C0.below B3
  simp only [Cls, and_true] at F3
  have G3 := Cls.below (l := [(w2.heap.size, 0, .int .i64 0), (w2.heap.size, 1, .int .i64 i1)]) hB (by simp [Cls, go_sem, F2, y2_0_2, y2_0_1, y2_0_0, y2_0_p1, y2_0_p2])
  simp only [Cls, and_true] at G3
  have hs3 := hB.size
  try simp at hs3
  have y3_0_2 : w.heap.size + 1 + 1 < w3.heap.size := (by omega)
  have y3_0_1 : w.heap.size + 1 < w3.heap.size := (by omega)
  have y3_0_0 : w.heap.size < w3.heap.size := (by omega)
  have y3_0_p1 : w.heap.size < w3.heap.size + 1 := (by omega)
  have y3_0_p2 : w.heap.size < w3.heap.size + 1 + 1 := (by omega)
  have y3_2_0 : w2.heap.size < w3.heap.size := (by omega)
  have y3_2_p1 : w2.heap.size < w3.heap.size + 1 := (by omega)
  have y3_2_p2 : w2.heap.size < w3.heap.size + 1 + 1 := (by omega)
  clear hB
  clear A2
  go_wp2_with fail
  refine (A3 _).mono ?_
  rintro e w4 ⟨rfl, hB⟩
  have D4 := dstep w hB (by repeat (first | with_reducible exact D3 | with_reducible apply bdrew | with_reducible apply bdrewN | with_reducible apply balloc | ((with_reducible refine bset ?_ ?_ _); rotate_left; (first | omega | (simp <;> omega)))))
  have d4s := D4.size
  have B4 := bstep B1 hB (by repeat (first | with_reducible exact B3 | with_reducible apply bdrew | with_reducible apply bdrewN | with_reducible apply balloc | ((with_reducible refine bset ?_ ?_ _); rotate_left; (first | omega | (simp <;> omega)))))
  have F4 := C0.below B4
  simp only [Cls, and_true] at F4
  have G4 := Cls.below (l := [(w2.heap.size, 0, .int .i64 0), (w2.heap.size, 1, .int .i64 i1), (w3.heap.size, 0, .int .i64 0), (w3.heap.size, 1, .int .i64 i2)]) hB (by simp [Cls, go_sem, F3, G3, y3_0_2, y3_0_1, y3_0_0, y3_0_p1, y3_0_p2, y3_2_0, y3_2_p1, y3_2_p2])
  simp only [Cls, and_true] at G4
  have hs4 := hB.size
  try simp at hs4
  have y4_0_2 : w.heap.size + 1 + 1 < w4.heap.size := (by omega)
  have y4_0_1 : w.heap.size + 1 < w4.heap.size := (by omega)
  have y4_0_0 : w.heap.size < w4.heap.size := (by omega)
  have y4_0_p1 : w.heap.size < w4.heap.size + 1 := (by omega)
  have y4_0_p2 : w.heap.size < w4.heap.size + 1 + 1 := (by omega)
  have y4_2_0 : w2.heap.size < w4.heap.size := (by omega)
  have y4_2_p1 : w2.heap.size < w4.heap.size + 1 := (by omega)
  have y4_2_p2 : w2.heap.size < w4.heap.size + 1 + 1 := (by omega)
  have y4_3_0 : w3.heap.size < w4.heap.size := (by omega)
  have y4_3_p1 : w3.heap.size < w4.heap.size + 1 := (by omega)
  have y4_3_p2 : w3.heap.size < w4.heap.size + 1 + 1 := (by omega)
  clear hB
  clear A3
  go_wp2_with fail
  refine (A4 _).mono ?_
  rintro e w5 ⟨rfl, hB⟩
  have D5 := dstep w hB (by repeat (first | with_reducible exact D4 | with_reducible apply bdrew | with_reducible apply bdrewN | with_reducible apply balloc | ((with_reducible refine bset ?_ ?_ _); rotate_left; (first | omega | (simp <;> omega)))))
  have d5s := D5.size
  have B5 := bstep B1 hB (by repeat (first | with_reducible exact B4 | with_reducible apply bdrew | with_reducible apply bdrewN | with_reducible apply balloc | ((with_reducible refine bset ?_ ?_ _); rotate_left; (first | omega | (simp <;> omega)))))
  have F5 := C0.below B5
  simp only [Cls, and_true] at F5
  have G5 := Cls.below (l := [(w2.heap.size, 0, .int .i64 0), (w2.heap.size, 1, .int .i64 i1), (w3.heap.size, 0, .int .i64 0), (w3.heap.size, 1, .int .i64 i2), (w4.heap.size, 0, .int .i64 p3), (w4.heap.size, 1, .int .i64 q3), (w4.heap.size + 1, 0, .int .i64 c3), (w4.heap.size + 1, 1, .int .i64 i3)]) hB (by simp [Cls, go_sem, F4, G4, y4_0_2, y4_0_1, y4_0_0, y4_0_p1, y4_0_p2, y4_2_0, y4_2_p1, y4_2_p2, y4_3_0, y4_3_p1, y4_3_p2])
  simp only [Cls, and_true] at G5
  have hs5 := hB.size
  try simp at hs5
  have y5_0_2 : w.heap.size + 1 + 1 < w5.heap.size := (by omega)
  have y5_0_1 : w.heap.size + 1 < w5.heap.size := (by omega)
  have y5_0_0 : w.heap.size < w5.heap.size := (by omega)
  have y5_0_p1 : w.heap.size < w5.heap.size + 1 := (by omega)
  have y5_0_p2 : w.heap.size < w5.heap.size + 1 + 1 := (by omega)
  have y5_2_0 : w2.heap.size < w5.heap.size := (by omega)
  have y5_2_p1 : w2.heap.size < w5.heap.size + 1 := (by omega)
  have y5_2_p2 : w2.heap.size < w5.heap.size + 1 + 1 := (by omega)
  have y5_3_0 : w3.heap.size < w5.heap.size := (by omega)
  have y5_3_p1 : w3.heap.size < w5.heap.size + 1 := (by omega)
  have y5_3_p2 : w3.heap.size < w5.heap.size + 1 + 1 := (by omega)
  have y5_4_1 : w4.heap.size + 1 < w5.heap.size := (by omega)
  have y5_4_0 : w4.heap.size < w5.heap.size := (by omega)
  have y5_4_p1 : w4.heap.size < w5.heap.size + 1 := (by omega)
  have y5_4_p2 : w4.heap.size < w5.heap.size + 1 + 1 := (by omega)
  clear hB
  clear A4
  go_wp2_with fail
  refine (A5 _).mono ?_
  rintro e w6 ⟨rfl, hB⟩
  have D6 := dstep w hB (by repeat (first | with_reducible exact D5 | with_reducible apply bdrew | with_reducible apply bdrewN | with_reducible apply balloc | ((with_reducible refine bset ?_ ?_ _); rotate_left; (first | omega | (simp <;> omega)))))
  have d6s := D6.size
  have B6 := bstep B1 hB (by repeat (first | with_reducible exact B5 | with_reducible apply bdrew | with_reducible apply bdrewN | with_reducible apply balloc | ((with_reducible refine bset ?_ ?_ _); rotate_left; (first | omega | (simp <;> omega)))))
  have F6 := C0.below B6
  simp only [Cls, and_true] at F6
  have G6 := Cls.below (l := [(w2.heap.size, 0, .int .i64 0), (w2.heap.size, 1, .int .i64 i1), (w3.heap.size, 0, .int .i64 0), (w3.heap.size, 1, .int .i64 i2), (w4.heap.size, 0, .int .i64 p3), (w4.heap.size, 1, .int .i64 q3), (w4.heap.size + 1, 0, .int .i64 c3), (w4.heap.size + 1, 1, .int .i64 i3), (w5.heap.size, 0, .int .i64 p4), (w5.heap.size, 1, .int .i64 q4), (w5.heap.size + 1, 0, .int .i64 c4), (w5.heap.size + 1, 1, .int .i64 i4)]) hB (by simp [Cls, go_sem, F5, G5, y5_0_2, y5_0_1, y5_0_0, y5_0_p1, y5_0_p2, y5_2_0, y5_2_p1, y5_2_p2, y5_3_0, y5_3_p1, y5_3_p2, y5_4_1, y5_4_0, y5_4_p1, y5_4_p2])
  simp only [Cls, and_true] at G6
  have hs6 := hB.size
  try simp at hs6
  have y6_0_2 : w.heap.size + 1 + 1 < w6.heap.size := (by omega)
  have y6_0_1 : w.heap.size + 1 < w6.heap.size := (by omega)
  have y6_0_0 : w.heap.size < w6.heap.size := (by omega)
  have y6_0_p1 : w.heap.size < w6.heap.size + 1 := (by omega)
  have y6_0_p2 : w.heap.size < w6.heap.size + 1 + 1 := (by omega)
  have y6_2_0 : w2.heap.size < w6.heap.size := (by omega)
  have y6_2_p1 : w2.heap.size < w6.heap.size + 1 := (by omega)
  have y6_2_p2 : w2.heap.size < w6.heap.size + 1 + 1 := (by omega)
  have y6_3_0 : w3.heap.size < w6.heap.size := (by omega)
  have y6_3_p1 : w3.heap.size < w6.heap.size + 1 := (by omega)
  have y6_3_p2 : w3.heap.size < w6.heap.size + 1 + 1 := (by omega)
  have y6_4_1 : w4.heap.size + 1 < w6.heap.size := (by omega)
  have y6_4_0 : w4.heap.size < w6.heap.size := (by omega)
  have y6_4_p1 : w4.heap.size < w6.heap.size + 1 := (by omega)
  have y6_4_p2 : w4.heap.size < w6.heap.size + 1 + 1 := (by omega)
  have y6_5_1 : w5.heap.size + 1 < w6.heap.size := (by omega)
  have y6_5_0 : w5.heap.size < w6.heap.size := (by omega)
  have y6_5_p1 : w5.heap.size < w6.heap.size + 1 := (by omega)
  have y6_5_p2 : w5.heap.size < w6.heap.size + 1 + 1 := (by omega)
  clear hB
  clear A5
  go_wp2
  go_ret
  exact ⟨rfl, by repeat (first | with_reducible exact D6 | with_reducible apply bdrew | with_reducible apply bdrewN | with_reducible apply balloc | ((with_reducible refine bset ?_ ?_ _); rotate_left; (first | omega | (simp <;> omega))))⟩

theorem walk_order_all (a b c d e f s1 c1 i1 s2 c2 i2 p3 q3 c3 i3 p4 q4 c4 i4 s5 c5 i5 : Int) (l3 : 0 ≤ c3 ∧ c3 ≤ 10) (l4 : 0 ≤ c4 ∧ c4 ≤ 10) (ls : -1 ≤ s1 ∧ s1 ≤ 1)
    (A1 : ∀ w : World, Calls Try.prog 19 #[.agg #[.int .i64 a, .int .i64 b], .agg #[.int .i64 c, .int .i64 d]] w fun e w' => e = .returned (.tuple #[.int .i64 (s1), .agg #[.int .i64 c1, .int .i64 i1]]) ∧ Below w.heap.size w w') (A2 : ∀ w : World, Calls Try.prog 19 #[.agg #[.int .i64 c, .int .i64 d], .agg #[.int .i64 a, .int .i64 b]] w fun e w' => e = .returned (.tuple #[.int .i64 (s2), .agg #[.int .i64 c2, .int .i64 i2]]) ∧ Below w.heap.size w w') (A3 : ∀ w : World, Calls Try.prog 15 #[.agg #[.int .i64 a, .int .i64 b], .agg #[.int .i64 e, .int .i64 f]] w fun e w' => e = .returned (.tuple #[.agg #[.int .i64 p3, .int .i64 q3], .agg #[.int .i64 c3, .int .i64 i3]]) ∧ Below w.heap.size w w') (A4 : ∀ w : World, Calls Try.prog 15 #[.agg #[.int .i64 c, .int .i64 d], .agg #[.int .i64 e, .int .i64 f]] w fun e w' => e = .returned (.tuple #[.agg #[.int .i64 p4, .int .i64 q4], .agg #[.int .i64 c4, .int .i64 i4]]) ∧ Below w.heap.size w w') (A5 : ∀ w : World, Calls Try.prog 19 #[.agg #[.int .i64 p3, .int .i64 q3], .agg #[.int .i64 p4, .int .i64 q4]] w fun e w' => e = .returned (.tuple #[.int .i64 (s5), .agg #[.int .i64 c5, .int .i64 i5]]) ∧ Below w.heap.size w w')
    (r1 : ¬ c1 = 0 → s1 = 0 ∧ s2 = 0) (r2 : c1 = 0 → c2 = 0 ∧ s2 = -s1) (r3 : c1 = 0 → s1 = 0 → c = a ∧ d = b) (r4 : c1 = 0 → ¬ s1 = 0 → a = c → ¬ b = d) (r5 : c1 = 0 → c3 + c4 = 0 → c5 = 0 ∧ s5 = s1) (w : World) :
    Calls Try.prog 7 #[.agg #[.int .i64 a, .int .i64 b], .agg #[.int .i64 c, .int .i64 d], .agg #[.int .i64 e, .int .i64 f]] w fun e w' => e = .returned (.bool true) ∧ Below w.heap.size w w' := by
  by_cases n1 : c1 = 0
  · obtain ⟨e1, e2⟩ := r2 n1
    subst e1; subst e2
    by_cases ns : s1 = 0
    · obtain ⟨e3, e4⟩ := r3 n1 ns
      subst n1; subst ns; subst e3; subst e4
      by_cases n3 : c3 + c4 = 0
      · obtain ⟨e1, e2⟩ := r5 rfl n3
        obtain ⟨z3, z4⟩ : c3 = 0 ∧ c4 = 0 := by omega
        subst z3; subst z4; subst e1; subst e2
        exact walk_order_eq0 _ _ _ _ _ _ _ _ _ _ _ _ _ A1 A2 A3 A4 A5 w
      · exact walk_order_eq1 _ _ _ _ _ _ _ _ _ _ _ _ _ _ _ _ _ l3 l4 n3 A1 A2 A3 A4 A5 w
    · by_cases nx : a = c
      · have nx2 := r4 n1 ns nx
        subst n1; subst nx
        have nx := nx2
        by_cases n3 : c3 + c4 = 0
        · obtain ⟨e1, e2⟩ := r5 rfl n3
          obtain ⟨z3, z4⟩ : c3 = 0 ∧ c4 = 0 := by omega
          subst z3; subst z4; subst e1; subst e2
          exact walk_order_nb0 _ _ _ _ _ _ _ _ _ _ _ _ _ _ _ ns ls nx A1 A2 A3 A4 A5 w
        · exact walk_order_nb1 _ _ _ _ _ _ _ _ _ _ _ _ _ _ _ _ _ _ _ ns ls nx l3 l4 n3 A1 A2 A3 A4 A5 w
      · subst n1
        by_cases n3 : c3 + c4 = 0
        · obtain ⟨e1, e2⟩ := r5 rfl n3
          obtain ⟨z3, z4⟩ : c3 = 0 ∧ c4 = 0 := by omega
          subst z3; subst z4; subst e1; subst e2
          exact walk_order_na0 _ _ _ _ _ _ _ _ _ _ _ _ _ _ _ _ ns ls nx A1 A2 A3 A4 A5 w
        · exact walk_order_na1 _ _ _ _ _ _ _ _ _ _ _ _ _ _ _ _ _ _ _ _ ns ls nx l3 l4 n3 A1 A2 A3 A4 A5 w
  · obtain ⟨e1, e2⟩ := r1 n1
    subst e1; subst e2
    exact walk_order_bad _ _ _ _ _ _ _ _ _ _ n1 A1 A2 w

theorem bc_comm_zero (a b c d : Int) (h : bc a b c d = 0) : bc c d a b = 0 := (bc_mk (bc_zero h).2.1 (bc_zero h).1).1
theorem order_q {a b c d e f p q r s : Int} (hb : 1 ≤ b) (hd : 1 ≤ d) (hf : 1 ≤ f) (hq : 1 ≤ q) (hs : 1 ≤ s) (h1 : p * (b * f) = (a * f + e * b) * q) (h2 : r * (d * f) = (c * f + e * d) * s) :
    sg (p * s) (r * q) = sg (a * d) (c * b) := by
  have k1 : 0 < b * d := Int.mul_pos (by omega) (by omega)
  have k2 : 0 < q * s := Int.mul_pos (by omega) (by omega)
  refine sg_scale k1 k2 (cancel (show f ≠ 0 by omega) ?_)
  have e1 : (p * s - r * q) * (b * d) * f = (p * (b * f)) * s * d - (r * (d * f)) * q * b := by grind
  rw [e1, h1, h2]
  grind

theorem walk_order (a b c d e f : Int) (w : World) :
    Calls Try.prog 7 #[.agg #[.int .i64 a, .int .i64 b], .agg #[.int .i64 c, .int .i64 d], .agg #[.int .i64 e, .int .i64 f]] w fun e w' => e = .returned (.bool true) ∧ Below w.heap.size w w' := by
  refine walk_order_all a b c d e f _ _ _ _ _ _ _ _ _ _ _ _ _ _ _ _ _ (gc_bd _ _ _ _ _ _) (gc_bd _ _ _ _ _ _) (sk_bd _ _ _ _) (compare_any a b c d) (compare_any c d a b) (add_any a b e f) (add_any c d e f) (compare_any _ _ _ _) ?_ ?_ ?_ ?_ ?_ w
  · intro h
    have h' : ¬ bc c d a b = 0 := fun k => h (bc_comm_zero _ _ _ _ k)
    unfold sk
    exact ⟨if_neg h, if_neg h'⟩
  · intro h
    have h' := bc_comm_zero _ _ _ _ h
    refine ⟨h', ?_⟩
    unfold sk
    rw [if_pos h, if_pos h', sg_flip]
  · intro h hs
    unfold sk at hs
    rw [if_pos h] at hs
    obtain ⟨e1, e2⟩ := same_frac (bc_zero h).1 (bc_zero h).2.1 (sg_zero.1 hs)
    exact ⟨e1.symm, e2.symm⟩
  · intro h hs hac hbd
    subst hac; subst hbd
    unfold sk at hs
    rw [if_pos h] at hs
    exact hs (sg_zero.2 rfl)
  · intro h hs
    have l3 := gc_bd a b e f (a * f + e * b) (b * f)
    have l4 := gc_bd c d e f (c * f + e * d) (d * f)
    have f3 := op_fact (a := a) (b := b) (c := e) (d := f) (n := a * f + e * b) (m := b * f) (by omega) bd_ne
    have f4 := op_fact (a := c) (b := d) (c := e) (d := f) (n := c * f + e * d) (m := d * f) (by omega) bd_ne
    have h' := (bc_mk f3.2.2.2.2.2.2.1 f4.2.2.2.2.2.2.1).1
    refine ⟨h', ?_⟩
    unfold sk
    rw [if_pos h, if_pos h']
    obtain ⟨_, _, v3, _⟩ := vcode_zero f3.1
    obtain ⟨_, _, v4, _⟩ := vcode_zero f4.1
    obtain ⟨_, _, v5, _⟩ := vcode_zero f3.2.1
    obtain ⟨_, _, v6, _⟩ := vcode_zero f3.2.2.2.2.2.2.1
    obtain ⟨_, _, v7, _⟩ := vcode_zero f4.2.2.2.2.2.2.1
    exact order_q v3 v4 v5 v6 v7 f3.2.2.2.2.2.2.2 f4.2.2.2.2.2.2.2

namespace fractionOrder
open Go.ChangeShapes Go.WideShapes Go.ChangeAt Go.RowKit

set_option maxRecDepth 100000 in
theorem lifted (os : Os) (started : os.Started) (H : Type) (enc : TypeId × Value → H) :
    ReturnsInHanded {} Try.checked os 7 .any (Rows.fractionOrderSpec.pre6 enc Try.prog Try.f7 Rows.fractionOrderRow.domain false) (Rows.fractionOrderSpec.post enc Try.prog Try.f7 false true false false) := by
  refine returnsInHanded_of_change (C := Try.checked) own_knob started (by kernel_rfl) Try.func7
    (ChangeSpec.witness6 (enc := enc) (C := Try.checked) false ⟨#[], #[.agg #[.int .i64 0, .int .i64 0], .agg #[.int .i64 0, .int .i64 0], .agg #[.int .i64 0, .int .i64 0]], []⟩ 8 (by kernel_rfl) (by kernel_rfl) (by kernel_rfl) (by kernel_rfl)) ?_
  intro W base args ds gs before hval0 hW _ hsz
  have hval : ∀ (j : Nat) t v, Try.f7.params[j]? = some t → args[j]? = some v → Value.okWide Try.prog W .any base t v := hval0
  have hpost := fun (W' : World) (hfn : gs = [] → Rows.fractionOrderSpec.fn H (ds ++ gs) = { results := [.lit (.bool true)], args := ds }) (hb : Below W.heap.size W W') => law_post (f := Try.f7) (tb := 4) laid_out_B Try.underlying4 rfl (by kernel_rfl) rfl hfn hW hb
  obtain ⟨p, q, hA0, hV, hpq, hfz, hnd⟩ := hW
  have hA : DataW.TrodAll enc Try.prog W 0 (fun _ => true) true Try.f7.params.toList args.toList ds p := hA0
  rw [Try.params7] at hA hval
  obtain ⟨v0, vs0, d0, ds0, p0, q0, hargs, rfl, hp0, h0, r0⟩ := trodAll_cons hA
  obtain ⟨v1, vs1, d1, ds1, p1, q1, rfl, rfl, hp1, h1, r1⟩ := trodAll_cons r0
  obtain ⟨v2, vs2, d2, ds2, p2, q2, rfl, rfl, hp2, h2, r2⟩ := trodAll_cons r1
  obtain ⟨rfl, rfl, hpn⟩ := trodAll_nil r2
  obtain rfl : args = #[v0, v1, v2] := by cases args; simp_all
  obtain ⟨c0, e0, y0, x0, m0, rfl, rfl, rfl, hy0, hx0⟩ := Go.Joins.open_agg2 Try.underlying24 (by kernel_rfl) cells_fraction (hval 0 24 v0 rfl rfl) h0
  obtain ⟨a0, ea0, rfl, wa0⟩ := DataW.trod_int Try.underlying3 hy0
  obtain ⟨b0, eb0, rfl, wb0⟩ := DataW.trod_int Try.underlying3 hx0
  simp at ea0 eb0
  subst ea0 eb0
  obtain ⟨c1, e1, y1, x1, m1, rfl, rfl, rfl, hy1, hx1⟩ := Go.Joins.open_agg2 Try.underlying24 (by kernel_rfl) cells_fraction (hval 1 24 v1 rfl rfl) h1
  obtain ⟨a1, ea1, rfl, wa1⟩ := DataW.trod_int Try.underlying3 hy1
  obtain ⟨b1, eb1, rfl, wb1⟩ := DataW.trod_int Try.underlying3 hx1
  simp at ea1 eb1
  subst ea1 eb1
  obtain ⟨c2, e2, y2, x2, m2, rfl, rfl, rfl, hy2, hx2⟩ := Go.Joins.open_agg2 Try.underlying24 (by kernel_rfl) cells_fraction (hval 2 24 v2 rfl rfl) h2
  obtain ⟨a2, ea2, rfl, wa2⟩ := DataW.trod_int Try.underlying3 hy2
  obtain ⟨b2, eb2, rfl, wb2⟩ := DataW.trod_int Try.underlying3 hx2
  simp at ea2 eb2
  subst ea2 eb2
  refine (walk_order a0 b0 a1 b1 a2 b2 W).mono fun e W' ⟨he, hb⟩ => ?_
  subst he
  exact ⟨_, rfl, hpost W' (fun hg => by subst hg; rfl) hb⟩

theorem proved : Rows.FractionOrderSaid :=
  OpenClaim.holds_of_wide 7 Try.f7 rfl rfl rfl rfl rfl rfl rfl ⟨rfl, rfl, rfl, rfl, rfl⟩ rfl rfl rfl rfl rfl (by kernel_rfl) Try.func7 (by kernel_rfl)
    (of_decide_eq_true (by kernel_rfl)) (by unfold Func.isWrapper; first | (rw [if_pos (by decide +kernel)]; kernel_rfl) | (rw [if_neg (by decide +kernel)]; exact ⟨rfl, rfl⟩))
    (fun os started H enc _ => lifted os started H enc)
#print axioms proved
end fractionOrder

end Go.Proofs.Ytmlgaofbifejaaa
