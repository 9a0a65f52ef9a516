/-
  FractionArithmeticMatchesSpec returns true: Validate, Add, Sub, Mul, Div, Compare and Floor return the specified results.
-/
import Derived.Test.YtmlgaofbifejaaaFany
import Derived.Test.YtmlgaofbifejaaaFfact
import Derived.Test.YtmlgaofbifejaaaFcmp
import Derived.Deep.RegionHeld3
import Derived.Test.YtmlgaofbifejaaaBlaw
import Derived.ProofKit
import Derived.OpenShut
import Derived.Lib.SmallJoins
namespace Go.Proofs.Ytmlgaofbifejaaa
open Go.RowKit
set_option linter.unusedVariables false
set_option linter.unusedSimpArgs false

set_option maxRecDepth 100000 in
set_option maxHeartbeats 1000000 in
theorem walk_arith_x (a b c d v : Int) (h : ¬ v = 0) (Ac : ∀ w : World, Calls Try.prog 21 #[.agg #[.int .i64 a, .int .i64 b]] w fun e w' => e = .returned (.int .i64 v) ∧ Below w.heap.size w w') (Av : ∀ w : World, Calls Try.prog 22 #[.agg #[.int .i64 a, .int .i64 b]] w fun e w' => e = .returned (.agg #[.int .i64 v, .int .i64 0]) ∧ Below w.heap.size w w') (Af : ∀ w : World, Calls Try.prog 20 #[.agg #[.int .i64 a, .int .i64 b]] w fun e w' => e = .returned (.tuple #[.int .i64 (0), .agg #[.int .i64 v, .int .i64 0]]) ∧ Below w.heap.size w w') (AAdd : ∀ w : World, Calls Try.prog 15 #[.agg #[.int .i64 a, .int .i64 b], .agg #[.int .i64 c, .int .i64 d]] w fun e w' => e = .returned (.tuple #[.agg #[.int .i64 0, .int .i64 0], .agg #[.int .i64 v, .int .i64 0]]) ∧ Below w.heap.size w w') (ASub : ∀ w : World, Calls Try.prog 17 #[.agg #[.int .i64 a, .int .i64 b], .agg #[.int .i64 c, .int .i64 d]] w fun e w' => e = .returned (.tuple #[.agg #[.int .i64 0, .int .i64 0], .agg #[.int .i64 v, .int .i64 0]]) ∧ Below w.heap.size w w') (AMul : ∀ w : World, Calls Try.prog 16 #[.agg #[.int .i64 a, .int .i64 b], .agg #[.int .i64 c, .int .i64 d]] w fun e w' => e = .returned (.tuple #[.agg #[.int .i64 0, .int .i64 0], .agg #[.int .i64 v, .int .i64 0]]) ∧ Below w.heap.size w w') (ADiv : ∀ w : World, Calls Try.prog 18 #[.agg #[.int .i64 a, .int .i64 b], .agg #[.int .i64 c, .int .i64 d]] w fun e w' => e = .returned (.tuple #[.agg #[.int .i64 0, .int .i64 0], .agg #[.int .i64 v, .int .i64 0]]) ∧ Below w.heap.size w w') (ACmp : ∀ w : World, Calls Try.prog 19 #[.agg #[.int .i64 a, .int .i64 b], .agg #[.int .i64 c, .int .i64 d]] w fun e w' => e = .returned (.tuple #[.int .i64 (0), .agg #[.int .i64 v, .int .i64 0]]) ∧ Below w.heap.size w w') (w : World) :
    Calls Try.prog 9 #[.agg #[.int .i64 a, .int .i64 b], .agg #[.int .i64 c, .int .i64 d]] w fun e w' => e = .returned (.bool true) ∧ Below w.heap.size w w' := by
  have bh := bn_yes h
  have bh' := bb_no h
  go_enter Try.func9, Try.ntmps9
  go_wp2_with fail
  refine (example_any _).mono ?_
  rintro e w1 ⟨rfl, hB⟩
  have D1 := dstep w hB (by repeat (first | with_reducible exact Below.refl _ _ | with_reducible apply bdrew | with_reducible apply bdrewN | with_reducible apply balloc | ((with_reducible refine bset ?_ ?_ _); rotate_left; (first | omega | (simp <;> omega)))))
  have d1s := D1.size
  obtain ⟨C0, F1⟩ := Cls.first (l := [(w.heap.size, 0, .int .i64 a), (w.heap.size, 1, .int .i64 b), (w.heap.size + 1, 0, .int .i64 c), (w.heap.size + 1, 1, .int .i64 d)]) hB (by simp [Cls, go_sem])
  simp only [Cls, and_true] at F1
  have B1 := hB
  have hs1 := hB.size
  try simp at hs1
  have hb1 := B1.size
  try simp at hb1
  have y1_0_1 : w.heap.size + 1 < w1.heap.size := (by omega)
  have y1_0_0 : w.heap.size < w1.heap.size := (by omega)
  have y1_0_p1 : w.heap.size < w1.heap.size + 1 := (by omega)
  have y1_0_p2 : w.heap.size < w1.heap.size + 1 + 1 := (by omega)
  clear hB
  go_wp2_with fail
  refine (Ac _).mono ?_
  rintro e w2 ⟨rfl, hB⟩
  have D2 := dstep w hB (by repeat (first | with_reducible exact D1 | with_reducible apply bdrew | with_reducible apply bdrewN | with_reducible apply balloc | ((with_reducible refine bset ?_ ?_ _); rotate_left; (first | omega | (simp <;> omega)))))
  have d2s := D2.size
  have B2 := bstep B1 hB (by repeat (first | with_reducible exact B1 | with_reducible apply bdrew | with_reducible apply bdrewN | with_reducible apply balloc | ((with_reducible refine bset ?_ ?_ _); rotate_left; (first | omega | (simp <;> omega)))))
  have F2 := C0.below B2
  simp only [Cls, and_true] at F2
  have hs2 := hB.size
  try simp at hs2
  have y2_0_1 : w.heap.size + 1 < w2.heap.size := (by omega)
  have y2_0_0 : w.heap.size < w2.heap.size := (by omega)
  have y2_0_p1 : w.heap.size < w2.heap.size + 1 := (by omega)
  have y2_0_p2 : w.heap.size < w2.heap.size + 1 + 1 := (by omega)
  clear hB
  go_wp2_with fail
  refine (at_any _ _ _).mono ?_
  rintro e w3 ⟨rfl, hB⟩
  have D3 := dstep w hB (by repeat (first | with_reducible exact D2 | with_reducible apply bdrew | with_reducible apply bdrewN | with_reducible apply balloc | ((with_reducible refine bset ?_ ?_ _); rotate_left; (first | omega | (simp <;> omega)))))
  have d3s := D3.size
  have B3 := bstep B1 hB (by repeat (first | with_reducible exact B2 | with_reducible apply bdrew | with_reducible apply bdrewN | with_reducible apply balloc | ((with_reducible refine bset ?_ ?_ _); rotate_left; (first | omega | (simp <;> omega)))))
  have F3 := C0.below B3
  simp only [Cls, and_true] at F3
  have hs3 := hB.size
  try simp at hs3
  have y3_0_1 : w.heap.size + 1 < w3.heap.size := (by omega)
  have y3_0_0 : w.heap.size < w3.heap.size := (by omega)
  have y3_0_p1 : w.heap.size < w3.heap.size + 1 := (by omega)
  have y3_0_p2 : w.heap.size < w3.heap.size + 1 + 1 := (by omega)
  clear hB
  go_wp2_with fail
  go_region_held3 (fun w' => w'.cell? ⟨w.heap.size, 0, none⟩ = some (.int .i64 a) ∧ w'.cell? ⟨w.heap.size, 1, none⟩ = some (.int .i64 b) ∧ w'.cell? ⟨w3.heap.size, 0, none⟩ = some (.int .i64 v) ∧ w'.cell? ⟨w3.heap.size, 1, none⟩ = some (.int .i64 0)) (first | exact hK | go_keep) (first | (go_at_call 22; refine (Av _).mono ?_; rintro e w4 ⟨rfl, hB⟩; have D4 := dstep w hB (by repeat (first | with_reducible exact D3 | with_reducible apply bdrew | with_reducible apply bdrewN | with_reducible apply balloc | ((with_reducible refine bset ?_ ?_ _); rotate_left; (first | omega | (simp <;> omega))))); have d4s := D4.size; have B4 := bstep B1 hB (by repeat (first | with_reducible exact B3 | with_reducible apply bdrew | with_reducible apply bdrewN | with_reducible apply balloc | ((with_reducible refine bset ?_ ?_ _); rotate_left; (first | omega | (simp <;> omega))))); have F4 := C0.below B4; simp only [Cls, and_true] at F4; have G4 := Cls.below (l := [(w3.heap.size, 0, .int .i64 v), (w3.heap.size, 1, .int .i64 0)]) hB (by simp [Cls, go_sem, F3, y3_0_1, y3_0_0, y3_0_p1, y3_0_p2]); simp only [Cls, and_true] at G4; have hs4 := hB.size; try simp at hs4; have y4_0_1 : w.heap.size + 1 < w4.heap.size := (by omega); have y4_0_0 : w.heap.size < w4.heap.size := (by omega); have y4_0_p1 : w.heap.size < w4.heap.size + 1 := (by omega); have y4_0_p2 : w.heap.size < w4.heap.size + 1 + 1 := (by omega); have y4_3_0 : w3.heap.size < w4.heap.size := (by omega); have y4_3_p1 : w3.heap.size < w4.heap.size + 1 := (by omega); have y4_3_p2 : w3.heap.size < w4.heap.size + 1 + 1 := (by omega); clear hB; have hK : w4.cell? ⟨w.heap.size, 0, none⟩ = some (.int .i64 a) ∧ w4.cell? ⟨w.heap.size, 1, none⟩ = some (.int .i64 b) ∧ w4.cell? ⟨w3.heap.size, 0, none⟩ = some (.int .i64 v) ∧ w4.cell? ⟨w3.heap.size, 1, none⟩ = some (.int .i64 0) := (by simp [F4, G4])))
  go_wp2_with fail
  refine (Af _).mono ?_
  rintro e w5 ⟨rfl, hB⟩
  have D5 := dstep w hB (by repeat (first | with_reducible exact D4 | with_reducible apply bdrew | with_reducible apply bdrewN | with_reducible apply balloc | ((with_reducible refine bset ?_ ?_ _); rotate_left; (first | omega | (simp <;> omega)))))
  have d5s := D5.size
  have B5 := bstep B1 hB (by repeat (first | with_reducible exact B4 | with_reducible apply bdrew | with_reducible apply bdrewN | with_reducible apply balloc | ((with_reducible refine bset ?_ ?_ _); rotate_left; (first | omega | (simp <;> omega)))))
  have F5 := C0.below B5
  simp only [Cls, and_true] at F5
  have G5 := Cls.below (l := [(w3.heap.size, 0, .int .i64 v), (w3.heap.size, 1, .int .i64 0)]) hB (by simp [Cls, go_sem, F4, G4, y4_0_1, y4_0_0, y4_0_p1, y4_0_p2, y4_3_0, y4_3_p1, y4_3_p2])
  simp only [Cls, and_true] at G5
  have hs5 := hB.size
  try simp at hs5
  have y5_0_1 : w.heap.size + 1 < w5.heap.size := (by omega)
  have y5_0_0 : w.heap.size < w5.heap.size := (by omega)
  have y5_0_p1 : w.heap.size < w5.heap.size + 1 := (by omega)
  have y5_0_p2 : w.heap.size < w5.heap.size + 1 + 1 := (by omega)
  have y5_3_0 : w3.heap.size < w5.heap.size := (by omega)
  have y5_3_p1 : w3.heap.size < w5.heap.size + 1 := (by omega)
  have y5_3_p2 : w3.heap.size < w5.heap.size + 1 + 1 := (by omega)
  clear hB
  go_wp2_with fail
  refine (AAdd _).mono ?_
  rintro e w6 ⟨rfl, hB⟩
  have D6 := dstep w hB (by repeat (first | with_reducible exact D5 | with_reducible apply bdrew | with_reducible apply bdrewN | with_reducible apply balloc | ((with_reducible refine bset ?_ ?_ _); rotate_left; (first | omega | (simp <;> omega)))))
  have d6s := D6.size
  have B6 := bstep B1 hB (by repeat (first | with_reducible exact B5 | with_reducible apply bdrew | with_reducible apply bdrewN | with_reducible apply balloc | ((with_reducible refine bset ?_ ?_ _); rotate_left; (first | omega | (simp <;> omega)))))
  have F6 := C0.below B6
  simp only [Cls, and_true] at F6
  have G6 := Cls.below (l := [(w3.heap.size, 0, .int .i64 v), (w3.heap.size, 1, .int .i64 0), (w5.heap.size, 0, .int .i64 v), (w5.heap.size, 1, .int .i64 0)]) hB (by simp [Cls, go_sem, F5, G5, y5_0_1, y5_0_0, y5_0_p1, y5_0_p2, y5_3_0, y5_3_p1, y5_3_p2])
  simp only [Cls, and_true] at G6
  have hs6 := hB.size
  try simp at hs6
  have y6_0_1 : w.heap.size + 1 < w6.heap.size := (by omega)
  have y6_0_0 : w.heap.size < w6.heap.size := (by omega)
  have y6_0_p1 : w.heap.size < w6.heap.size + 1 := (by omega)
  have y6_0_p2 : w.heap.size < w6.heap.size + 1 + 1 := (by omega)
  have y6_3_0 : w3.heap.size < w6.heap.size := (by omega)
  have y6_3_p1 : w3.heap.size < w6.heap.size + 1 := (by omega)
  have y6_3_p2 : w3.heap.size < w6.heap.size + 1 + 1 := (by omega)
  have y6_5_0 : w5.heap.size < w6.heap.size := (by omega)
  have y6_5_p1 : w5.heap.size < w6.heap.size + 1 := (by omega)
  have y6_5_p2 : w5.heap.size < w6.heap.size + 1 + 1 := (by omega)
  clear hB
  clear AAdd
  go_wp2_with fail
  refine (ASub _).mono ?_
  rintro e w7 ⟨rfl, hB⟩
  have D7 := dstep w hB (by repeat (first | with_reducible exact D6 | with_reducible apply bdrew | with_reducible apply bdrewN | with_reducible apply balloc | ((with_reducible refine bset ?_ ?_ _); rotate_left; (first | omega | (simp <;> omega)))))
  have d7s := D7.size
  have B7 := bstep B1 hB (by repeat (first | with_reducible exact B6 | with_reducible apply bdrew | with_reducible apply bdrewN | with_reducible apply balloc | ((with_reducible refine bset ?_ ?_ _); rotate_left; (first | omega | (simp <;> omega)))))
  have F7 := C0.below B7
  simp only [Cls, and_true] at F7
  have G7 := Cls.below (l := [(w3.heap.size, 0, .int .i64 v), (w3.heap.size, 1, .int .i64 0), (w5.heap.size, 0, .int .i64 v), (w5.heap.size, 1, .int .i64 0), (w6.heap.size, 0, .int .i64 0), (w6.heap.size, 1, .int .i64 0), (w6.heap.size + 1, 0, .int .i64 v), (w6.heap.size + 1, 1, .int .i64 0)]) hB (by simp [Cls, go_sem, F6, G6, y6_0_1, y6_0_0, y6_0_p1, y6_0_p2, y6_3_0, y6_3_p1, y6_3_p2, y6_5_0, y6_5_p1, y6_5_p2])
  simp only [Cls, and_true] at G7
  have hs7 := hB.size
  try simp at hs7
  have y7_0_1 : w.heap.size + 1 < w7.heap.size := (by omega)
  have y7_0_0 : w.heap.size < w7.heap.size := (by omega)
  have y7_0_p1 : w.heap.size < w7.heap.size + 1 := (by omega)
  have y7_0_p2 : w.heap.size < w7.heap.size + 1 + 1 := (by omega)
  have y7_3_0 : w3.heap.size < w7.heap.size := (by omega)
  have y7_3_p1 : w3.heap.size < w7.heap.size + 1 := (by omega)
  have y7_3_p2 : w3.heap.size < w7.heap.size + 1 + 1 := (by omega)
  have y7_5_0 : w5.heap.size < w7.heap.size := (by omega)
  have y7_5_p1 : w5.heap.size < w7.heap.size + 1 := (by omega)
  have y7_5_p2 : w5.heap.size < w7.heap.size + 1 + 1 := (by omega)
  have y7_6_1 : w6.heap.size + 1 < w7.heap.size := (by omega)
  have y7_6_0 : w6.heap.size < w7.heap.size := (by omega)
  have y7_6_p1 : w6.heap.size < w7.heap.size + 1 := (by omega)
  have y7_6_p2 : w6.heap.size < w7.heap.size + 1 + 1 := (by omega)
  clear hB
  clear ASub
  go_wp2_with fail
  refine (AMul _).mono ?_
  rintro e w8 ⟨rfl, hB⟩
  have D8 := dstep w hB (by repeat (first | with_reducible exact D7 | with_reducible apply bdrew | with_reducible apply bdrewN | with_reducible apply balloc | ((with_reducible refine bset ?_ ?_ _); rotate_left; (first | omega | (simp <;> omega)))))
  have d8s := D8.size
  have B8 := bstep B1 hB (by repeat (first | with_reducible exact B7 | with_reducible apply bdrew | with_reducible apply bdrewN | with_reducible apply balloc | ((with_reducible refine bset ?_ ?_ _); rotate_left; (first | omega | (simp <;> omega)))))
  have F8 := C0.below B8
  simp only [Cls, and_true] at F8
  have G8 := Cls.below (l := [(w3.heap.size, 0, .int .i64 v), (w3.heap.size, 1, .int .i64 0), (w5.heap.size, 0, .int .i64 v), (w5.heap.size, 1, .int .i64 0), (w6.heap.size, 0, .int .i64 0), (w6.heap.size, 1, .int .i64 0), (w6.heap.size + 1, 0, .int .i64 v), (w6.heap.size + 1, 1, .int .i64 0), (w7.heap.size, 0, .int .i64 0), (w7.heap.size, 1, .int .i64 0), (w7.heap.size + 1, 0, .int .i64 v), (w7.heap.size + 1, 1, .int .i64 0)]) hB (by simp [Cls, go_sem, F7, G7, y7_0_1, y7_0_0, y7_0_p1, y7_0_p2, y7_3_0, y7_3_p1, y7_3_p2, y7_5_0, y7_5_p1, y7_5_p2, y7_6_1, y7_6_0, y7_6_p1, y7_6_p2])
  simp only [Cls, and_true] at G8
  have hs8 := hB.size
  try simp at hs8
  have y8_0_1 : w.heap.size + 1 < w8.heap.size := (by omega)
  have y8_0_0 : w.heap.size < w8.heap.size := (by omega)
  have y8_0_p1 : w.heap.size < w8.heap.size + 1 := (by omega)
  have y8_0_p2 : w.heap.size < w8.heap.size + 1 + 1 := (by omega)
  have y8_3_0 : w3.heap.size < w8.heap.size := (by omega)
  have y8_3_p1 : w3.heap.size < w8.heap.size + 1 := (by omega)
  have y8_3_p2 : w3.heap.size < w8.heap.size + 1 + 1 := (by omega)
  have y8_5_0 : w5.heap.size < w8.heap.size := (by omega)
  have y8_5_p1 : w5.heap.size < w8.heap.size + 1 := (by omega)
  have y8_5_p2 : w5.heap.size < w8.heap.size + 1 + 1 := (by omega)
  have y8_6_1 : w6.heap.size + 1 < w8.heap.size := (by omega)
  have y8_6_0 : w6.heap.size < w8.heap.size := (by omega)
  have y8_6_p1 : w6.heap.size < w8.heap.size + 1 := (by omega)
  have y8_6_p2 : w6.heap.size < w8.heap.size + 1 + 1 := (by omega)
  have y8_7_1 : w7.heap.size + 1 < w8.heap.size := (by omega)
  have y8_7_0 : w7.heap.size < w8.heap.size := (by omega)
  have y8_7_p1 : w7.heap.size < w8.heap.size + 1 := (by omega)
  have y8_7_p2 : w7.heap.size < w8.heap.size + 1 + 1 := (by omega)
  clear hB
  clear AMul
  go_wp2_with fail
  refine (ADiv _).mono ?_
  rintro e w9 ⟨rfl, hB⟩
  have D9 := dstep w hB (by repeat (first | with_reducible exact D8 | with_reducible apply bdrew | with_reducible apply bdrewN | with_reducible apply balloc | ((with_reducible refine bset ?_ ?_ _); rotate_left; (first | omega | (simp <;> omega)))))
  have d9s := D9.size
  have B9 := bstep B1 hB (by repeat (first | with_reducible exact B8 | with_reducible apply bdrew | with_reducible apply bdrewN | with_reducible apply balloc | ((with_reducible refine bset ?_ ?_ _); rotate_left; (first | omega | (simp <;> omega)))))
  have F9 := C0.below B9
  simp only [Cls, and_true] at F9
  have G9 := Cls.below (l := [(w3.heap.size, 0, .int .i64 v), (w3.heap.size, 1, .int .i64 0), (w5.heap.size, 0, .int .i64 v), (w5.heap.size, 1, .int .i64 0), (w6.heap.size, 0, .int .i64 0), (w6.heap.size, 1, .int .i64 0), (w6.heap.size + 1, 0, .int .i64 v), (w6.heap.size + 1, 1, .int .i64 0), (w7.heap.size, 0, .int .i64 0), (w7.heap.size, 1, .int .i64 0), (w7.heap.size + 1, 0, .int .i64 v), (w7.heap.size + 1, 1, .int .i64 0), (w8.heap.size, 0, .int .i64 0), (w8.heap.size, 1, .int .i64 0), (w8.heap.size + 1, 0, .int .i64 v), (w8.heap.size + 1, 1, .int .i64 0)]) hB (by simp [Cls, go_sem, F8, G8, y8_0_1, y8_0_0, y8_0_p1, y8_0_p2, y8_3_0, y8_3_p1, y8_3_p2, y8_5_0, y8_5_p1, y8_5_p2, y8_6_1, y8_6_0, y8_6_p1, y8_6_p2, y8_7_1, y8_7_0, y8_7_p1, y8_7_p2])
  simp only [Cls, and_true] at G9
  have hs9 := hB.size
  try simp at hs9
  have y9_0_1 : w.heap.size + 1 < w9.heap.size := (by omega)
  have y9_0_0 : w.heap.size < w9.heap.size := (by omega)
  have y9_0_p1 : w.heap.size < w9.heap.size + 1 := (by omega)
  have y9_0_p2 : w.heap.size < w9.heap.size + 1 + 1 := (by omega)
  have y9_3_0 : w3.heap.size < w9.heap.size := (by omega)
  have y9_3_p1 : w3.heap.size < w9.heap.size + 1 := (by omega)
  have y9_3_p2 : w3.heap.size < w9.heap.size + 1 + 1 := (by omega)
  have y9_5_0 : w5.heap.size < w9.heap.size := (by omega)
  have y9_5_p1 : w5.heap.size < w9.heap.size + 1 := (by omega)
  have y9_5_p2 : w5.heap.size < w9.heap.size + 1 + 1 := (by omega)
  have y9_6_1 : w6.heap.size + 1 < w9.heap.size := (by omega)
  have y9_6_0 : w6.heap.size < w9.heap.size := (by omega)
  have y9_6_p1 : w6.heap.size < w9.heap.size + 1 := (by omega)
  have y9_6_p2 : w6.heap.size < w9.heap.size + 1 + 1 := (by omega)
  have y9_7_1 : w7.heap.size + 1 < w9.heap.size := (by omega)
  have y9_7_0 : w7.heap.size < w9.heap.size := (by omega)
  have y9_7_p1 : w7.heap.size < w9.heap.size + 1 := (by omega)
  have y9_7_p2 : w7.heap.size < w9.heap.size + 1 + 1 := (by omega)
  have y9_8_1 : w8.heap.size + 1 < w9.heap.size := (by omega)
  have y9_8_0 : w8.heap.size < w9.heap.size := (by omega)
  have y9_8_p1 : w8.heap.size < w9.heap.size + 1 := (by omega)
  have y9_8_p2 : w8.heap.size < w9.heap.size + 1 + 1 := (by omega)
  clear hB
  clear ADiv
  go_wp2_with fail
  refine (ACmp _).mono ?_
  rintro e w10 ⟨rfl, hB⟩
  have D10 := dstep w hB (by repeat (first | with_reducible exact D9 | with_reducible apply bdrew | with_reducible apply bdrewN | with_reducible apply balloc | ((with_reducible refine bset ?_ ?_ _); rotate_left; (first | omega | (simp <;> omega)))))
  have d10s := D10.size
  have B10 := bstep B1 hB (by repeat (first | with_reducible exact B9 | with_reducible apply bdrew | with_reducible apply bdrewN | with_reducible apply balloc | ((with_reducible refine bset ?_ ?_ _); rotate_left; (first | omega | (simp <;> omega)))))
  have F10 := C0.below B10
  simp only [Cls, and_true] at F10
  have G10 := Cls.below (l := [(w3.heap.size, 0, .int .i64 v), (w3.heap.size, 1, .int .i64 0), (w5.heap.size, 0, .int .i64 v), (w5.heap.size, 1, .int .i64 0), (w6.heap.size, 0, .int .i64 0), (w6.heap.size, 1, .int .i64 0), (w6.heap.size + 1, 0, .int .i64 v), (w6.heap.size + 1, 1, .int .i64 0), (w7.heap.size, 0, .int .i64 0), (w7.heap.size, 1, .int .i64 0), (w7.heap.size + 1, 0, .int .i64 v), (w7.heap.size + 1, 1, .int .i64 0), (w8.heap.size, 0, .int .i64 0), (w8.heap.size, 1, .int .i64 0), (w8.heap.size + 1, 0, .int .i64 v), (w8.heap.size + 1, 1, .int .i64 0), (w9.heap.size, 0, .int .i64 0), (w9.heap.size, 1, .int .i64 0), (w9.heap.size + 1, 0, .int .i64 v), (w9.heap.size + 1, 1, .int .i64 0)]) hB (by simp [Cls, go_sem, F9, G9, y9_0_1, y9_0_0, y9_0_p1, y9_0_p2, y9_3_0, y9_3_p1, y9_3_p2, y9_5_0, y9_5_p1, y9_5_p2, y9_6_1, y9_6_0, y9_6_p1, y9_6_p2, y9_7_1, y9_7_0, y9_7_p1, y9_7_p2, y9_8_1, y9_8_0, y9_8_p1, y9_8_p2])
  simp only [Cls, and_true] at G10
  have hs10 := hB.size
  try simp at hs10
  have y10_0_1 : w.heap.size + 1 < w10.heap.size := (by omega)
  have y10_0_0 : w.heap.size < w10.heap.size := (by omega)
  have y10_0_p1 : w.heap.size < w10.heap.size + 1 := (by omega)
  have y10_0_p2 : w.heap.size < w10.heap.size + 1 + 1 := (by omega)
  have y10_3_0 : w3.heap.size < w10.heap.size := (by omega)
  have y10_3_p1 : w3.heap.size < w10.heap.size + 1 := (by omega)
  have y10_3_p2 : w3.heap.size < w10.heap.size + 1 + 1 := (by omega)
  have y10_5_0 : w5.heap.size < w10.heap.size := (by omega)
  have y10_5_p1 : w5.heap.size < w10.heap.size + 1 := (by omega)
  have y10_5_p2 : w5.heap.size < w10.heap.size + 1 + 1 := (by omega)
  have y10_6_1 : w6.heap.size + 1 < w10.heap.size := (by omega)
  have y10_6_0 : w6.heap.size < w10.heap.size := (by omega)
  have y10_6_p1 : w6.heap.size < w10.heap.size + 1 := (by omega)
  have y10_6_p2 : w6.heap.size < w10.heap.size + 1 + 1 := (by omega)
  have y10_7_1 : w7.heap.size + 1 < w10.heap.size := (by omega)
  have y10_7_0 : w7.heap.size < w10.heap.size := (by omega)
  have y10_7_p1 : w7.heap.size < w10.heap.size + 1 := (by omega)
  have y10_7_p2 : w7.heap.size < w10.heap.size + 1 + 1 := (by omega)
  have y10_8_1 : w8.heap.size + 1 < w10.heap.size := (by omega)
  have y10_8_0 : w8.heap.size < w10.heap.size := (by omega)
  have y10_8_p1 : w8.heap.size < w10.heap.size + 1 := (by omega)
  have y10_8_p2 : w8.heap.size < w10.heap.size + 1 + 1 := (by omega)
  have y10_9_1 : w9.heap.size + 1 < w10.heap.size := (by omega)
  have y10_9_0 : w9.heap.size < w10.heap.size := (by omega)
  have y10_9_p1 : w9.heap.size < w10.heap.size + 1 := (by omega)
  have y10_9_p2 : w9.heap.size < w10.heap.size + 1 + 1 := (by omega)
  clear hB
  clear ACmp
  go_wp2
  go_ret
  exact ⟨rfl, by repeat (first | with_reducible exact D10 | with_reducible apply bdrew | with_reducible apply bdrewN | with_reducible apply balloc | ((with_reducible refine bset ?_ ?_ _); rotate_left; (first | omega | (simp <;> omega))))⟩

set_option maxRecDepth 100000 in
set_option maxHeartbeats 1000000 in
theorem walk_arith_y (a b c d k u : Int) (h : ¬ u = 0) (Ac : ∀ w : World, Calls Try.prog 21 #[.agg #[.int .i64 a, .int .i64 b]] w fun e w' => e = .returned (.int .i64 0) ∧ Below w.heap.size w w') (Av : ∀ w : World, Calls Try.prog 22 #[.agg #[.int .i64 a, .int .i64 b]] w fun e w' => e = .returned (.agg #[.int .i64 0, .int .i64 0]) ∧ Below w.heap.size w w') (Af : ∀ w : World, Calls Try.prog 20 #[.agg #[.int .i64 a, .int .i64 b]] w fun e w' => e = .returned (.tuple #[.int .i64 (k), .agg #[.int .i64 0, .int .i64 0]]) ∧ Below w.heap.size w w') (Ab : ∀ w : World, Calls Try.prog 23 #[.agg #[.int .i64 a, .int .i64 b]] w fun e w' => e = .returned (.int .i64 k) ∧ Below w.heap.size w w') (Ad : ∀ w : World, Calls Try.prog 21 #[.agg #[.int .i64 c, .int .i64 d]] w fun e w' => e = .returned (.int .i64 u) ∧ Below w.heap.size w w') (AAdd : ∀ w : World, Calls Try.prog 15 #[.agg #[.int .i64 a, .int .i64 b], .agg #[.int .i64 c, .int .i64 d]] w fun e w' => e = .returned (.tuple #[.agg #[.int .i64 0, .int .i64 0], .agg #[.int .i64 u, .int .i64 1]]) ∧ Below w.heap.size w w') (ASub : ∀ w : World, Calls Try.prog 17 #[.agg #[.int .i64 a, .int .i64 b], .agg #[.int .i64 c, .int .i64 d]] w fun e w' => e = .returned (.tuple #[.agg #[.int .i64 0, .int .i64 0], .agg #[.int .i64 u, .int .i64 1]]) ∧ Below w.heap.size w w') (AMul : ∀ w : World, Calls Try.prog 16 #[.agg #[.int .i64 a, .int .i64 b], .agg #[.int .i64 c, .int .i64 d]] w fun e w' => e = .returned (.tuple #[.agg #[.int .i64 0, .int .i64 0], .agg #[.int .i64 u, .int .i64 1]]) ∧ Below w.heap.size w w') (ADiv : ∀ w : World, Calls Try.prog 18 #[.agg #[.int .i64 a, .int .i64 b], .agg #[.int .i64 c, .int .i64 d]] w fun e w' => e = .returned (.tuple #[.agg #[.int .i64 0, .int .i64 0], .agg #[.int .i64 u, .int .i64 1]]) ∧ Below w.heap.size w w') (ACmp : ∀ w : World, Calls Try.prog 19 #[.agg #[.int .i64 a, .int .i64 b], .agg #[.int .i64 c, .int .i64 d]] w fun e w' => e = .returned (.tuple #[.int .i64 (0), .agg #[.int .i64 u, .int .i64 1]]) ∧ Below w.heap.size w w') (w : World) :
    Calls Try.prog 9 #[.agg #[.int .i64 a, .int .i64 b], .agg #[.int .i64 c, .int .i64 d]] w fun e w' => e = .returned (.bool true) ∧ Below w.heap.size w w' := by
  have bh := bn_yes h
  have bh' := bb_no h
  go_enter Try.func9, Try.ntmps9
  go_wp2_with fail
  refine (example_any _).mono ?_
  rintro e w1 ⟨rfl, hB⟩
  have D1 := dstep w hB (by repeat (first | with_reducible exact Below.refl _ _ | with_reducible apply bdrew | with_reducible apply bdrewN | with_reducible apply balloc | ((with_reducible refine bset ?_ ?_ _); rotate_left; (first | omega | (simp <;> omega)))))
  have d1s := D1.size
  obtain ⟨C0, F1⟩ := Cls.first (l := [(w.heap.size, 0, .int .i64 a), (w.heap.size, 1, .int .i64 b), (w.heap.size + 1, 0, .int .i64 c), (w.heap.size + 1, 1, .int .i64 d)]) hB (by simp [Cls, go_sem])
  simp only [Cls, and_true] at F1
  have B1 := hB
  have hs1 := hB.size
  try simp at hs1
  have hb1 := B1.size
  try simp at hb1
  have y1_0_1 : w.heap.size + 1 < w1.heap.size := (by omega)
  have y1_0_0 : w.heap.size < w1.heap.size := (by omega)
  have y1_0_p1 : w.heap.size < w1.heap.size + 1 := (by omega)
  have y1_0_p2 : w.heap.size < w1.heap.size + 1 + 1 := (by omega)
  clear hB
  go_wp2_with fail
  refine (Ac _).mono ?_
  rintro e w2 ⟨rfl, hB⟩
  have D2 := dstep w hB (by repeat (first | with_reducible exact D1 | with_reducible apply bdrew | with_reducible apply bdrewN | with_reducible apply balloc | ((with_reducible refine bset ?_ ?_ _); rotate_left; (first | omega | (simp <;> omega)))))
  have d2s := D2.size
  have B2 := bstep B1 hB (by repeat (first | with_reducible exact B1 | with_reducible apply bdrew | with_reducible apply bdrewN | with_reducible apply balloc | ((with_reducible refine bset ?_ ?_ _); rotate_left; (first | omega | (simp <;> omega)))))
  have F2 := C0.below B2
  simp only [Cls, and_true] at F2
  have hs2 := hB.size
  try simp at hs2
  have y2_0_1 : w.heap.size + 1 < w2.heap.size := (by omega)
  have y2_0_0 : w.heap.size < w2.heap.size := (by omega)
  have y2_0_p1 : w.heap.size < w2.heap.size + 1 := (by omega)
  have y2_0_p2 : w.heap.size < w2.heap.size + 1 + 1 := (by omega)
  clear hB
  go_wp2_with fail
  refine (at_any _ _ _).mono ?_
  rintro e w3 ⟨rfl, hB⟩
  have D3 := dstep w hB (by repeat (first | with_reducible exact D2 | with_reducible apply bdrew | with_reducible apply bdrewN | with_reducible apply balloc | ((with_reducible refine bset ?_ ?_ _); rotate_left; (first | omega | (simp <;> omega)))))
  have d3s := D3.size
  have B3 := bstep B1 hB (by repeat (first | with_reducible exact B2 | with_reducible apply bdrew | with_reducible apply bdrewN | with_reducible apply balloc | ((with_reducible refine bset ?_ ?_ _); rotate_left; (first | omega | (simp <;> omega)))))
  have F3 := C0.below B3
  simp only [Cls, and_true] at F3
  have hs3 := hB.size
  try simp at hs3
  have y3_0_1 : w.heap.size + 1 < w3.heap.size := (by omega)
  have y3_0_0 : w.heap.size < w3.heap.size := (by omega)
  have y3_0_p1 : w.heap.size < w3.heap.size + 1 := (by omega)
  have y3_0_p2 : w.heap.size < w3.heap.size + 1 + 1 := (by omega)
  clear hB
  go_wp2_with fail
  go_region_held3 (fun w' => w'.cell? ⟨w.heap.size, 0, none⟩ = some (.int .i64 a) ∧ w'.cell? ⟨w.heap.size, 1, none⟩ = some (.int .i64 b) ∧ w'.cell? ⟨w3.heap.size, 0, none⟩ = some (.int .i64 0) ∧ w'.cell? ⟨w3.heap.size, 1, none⟩ = some (.int .i64 0)) (first | exact hK | go_keep) (first | (go_at_call 22; refine (Av _).mono ?_; rintro e w4 ⟨rfl, hB⟩; have D4 := dstep w hB (by repeat (first | with_reducible exact D3 | with_reducible apply bdrew | with_reducible apply bdrewN | with_reducible apply balloc | ((with_reducible refine bset ?_ ?_ _); rotate_left; (first | omega | (simp <;> omega))))); have d4s := D4.size; have B4 := bstep B1 hB (by repeat (first | with_reducible exact B3 | with_reducible apply bdrew | with_reducible apply bdrewN | with_reducible apply balloc | ((with_reducible refine bset ?_ ?_ _); rotate_left; (first | omega | (simp <;> omega))))); have F4 := C0.below B4; simp only [Cls, and_true] at F4; have G4 := Cls.below (l := [(w3.heap.size, 0, .int .i64 0), (w3.heap.size, 1, .int .i64 0)]) hB (by simp [Cls, go_sem, F3, y3_0_1, y3_0_0, y3_0_p1, y3_0_p2]); simp only [Cls, and_true] at G4; have hs4 := hB.size; try simp at hs4; have y4_0_1 : w.heap.size + 1 < w4.heap.size := (by omega); have y4_0_0 : w.heap.size < w4.heap.size := (by omega); have y4_0_p1 : w.heap.size < w4.heap.size + 1 := (by omega); have y4_0_p2 : w.heap.size < w4.heap.size + 1 + 1 := (by omega); have y4_3_0 : w3.heap.size < w4.heap.size := (by omega); have y4_3_p1 : w3.heap.size < w4.heap.size + 1 := (by omega); have y4_3_p2 : w3.heap.size < w4.heap.size + 1 + 1 := (by omega); clear hB; have hK : w4.cell? ⟨w.heap.size, 0, none⟩ = some (.int .i64 a) ∧ w4.cell? ⟨w.heap.size, 1, none⟩ = some (.int .i64 b) ∧ w4.cell? ⟨w3.heap.size, 0, none⟩ = some (.int .i64 0) ∧ w4.cell? ⟨w3.heap.size, 1, none⟩ = some (.int .i64 0) := (by simp [F4, G4])))
  go_wp2_with fail
  refine (Af _).mono ?_
  rintro e w5 ⟨rfl, hB⟩
  have D5 := dstep w hB (by repeat (first | with_reducible exact D4 | with_reducible apply bdrew | with_reducible apply bdrewN | with_reducible apply balloc | ((with_reducible refine bset ?_ ?_ _); rotate_left; (first | omega | (simp <;> omega)))))
  have d5s := D5.size
  have B5 := bstep B1 hB (by repeat (first | with_reducible exact B4 | with_reducible apply bdrew | with_reducible apply bdrewN | with_reducible apply balloc | ((with_reducible refine bset ?_ ?_ _); rotate_left; (first | omega | (simp <;> omega)))))
  have F5 := C0.below B5
  simp only [Cls, and_true] at F5
  have G5 := Cls.below (l := [(w3.heap.size, 0, .int .i64 0), (w3.heap.size, 1, .int .i64 0)]) hB (by simp [Cls, go_sem, F4, G4, y4_0_1, y4_0_0, y4_0_p1, y4_0_p2, y4_3_0, y4_3_p1, y4_3_p2])
  simp only [Cls, and_true] at G5
  have hs5 := hB.size
  try simp at hs5
  have y5_0_1 : w.heap.size + 1 < w5.heap.size := (by omega)
  have y5_0_0 : w.heap.size < w5.heap.size := (by omega)
  have y5_0_p1 : w.heap.size < w5.heap.size + 1 := (by omega)
  have y5_0_p2 : w.heap.size < w5.heap.size + 1 + 1 := (by omega)
  have y5_3_0 : w3.heap.size < w5.heap.size := (by omega)
  have y5_3_p1 : w3.heap.size < w5.heap.size + 1 := (by omega)
  have y5_3_p2 : w3.heap.size < w5.heap.size + 1 + 1 := (by omega)
  clear hB
  go_wp2_with fail
  refine (Ab _).mono ?_
  rintro e w6 ⟨rfl, hB⟩
  have D6 := dstep w hB (by repeat (first | with_reducible exact D5 | with_reducible apply bdrew | with_reducible apply bdrewN | with_reducible apply balloc | ((with_reducible refine bset ?_ ?_ _); rotate_left; (first | omega | (simp <;> omega)))))
  have d6s := D6.size
  have B6 := bstep B1 hB (by repeat (first | with_reducible exact B5 | with_reducible apply bdrew | with_reducible apply bdrewN | with_reducible apply balloc | ((with_reducible refine bset ?_ ?_ _); rotate_left; (first | omega | (simp <;> omega)))))
  have F6 := C0.below B6
  simp only [Cls, and_true] at F6
  have G6 := Cls.below (l := [(w3.heap.size, 0, .int .i64 0), (w3.heap.size, 1, .int .i64 0), (w5.heap.size, 0, .int .i64 0), (w5.heap.size, 1, .int .i64 0)]) hB (by simp [Cls, go_sem, F5, G5, y5_0_1, y5_0_0, y5_0_p1, y5_0_p2, y5_3_0, y5_3_p1, y5_3_p2])
  simp only [Cls, and_true] at G6
  have hs6 := hB.size
  try simp at hs6
  have y6_0_1 : w.heap.size + 1 < w6.heap.size := (by omega)
  have y6_0_0 : w.heap.size < w6.heap.size := (by omega)
  have y6_0_p1 : w.heap.size < w6.heap.size + 1 := (by omega)
  have y6_0_p2 : w.heap.size < w6.heap.size + 1 + 1 := (by omega)
  have y6_3_0 : w3.heap.size < w6.heap.size := (by omega)
  have y6_3_p1 : w3.heap.size < w6.heap.size + 1 := (by omega)
  have y6_3_p2 : w3.heap.size < w6.heap.size + 1 + 1 := (by omega)
  have y6_5_0 : w5.heap.size < w6.heap.size := (by omega)
  have y6_5_p1 : w5.heap.size < w6.heap.size + 1 := (by omega)
  have y6_5_p2 : w5.heap.size < w6.heap.size + 1 + 1 := (by omega)
  clear hB
  go_wp2_with fail
  refine (Ad _).mono ?_
  rintro e w7 ⟨rfl, hB⟩
  have D7 := dstep w hB (by repeat (first | with_reducible exact D6 | with_reducible apply bdrew | with_reducible apply bdrewN | with_reducible apply balloc | ((with_reducible refine bset ?_ ?_ _); rotate_left; (first | omega | (simp <;> omega)))))
  have d7s := D7.size
  have B7 := bstep B1 hB (by repeat (first | with_reducible exact B6 | with_reducible apply bdrew | with_reducible apply bdrewN | with_reducible apply balloc | ((with_reducible refine bset ?_ ?_ _); rotate_left; (first | omega | (simp <;> omega)))))
  have F7 := C0.below B7
  simp only [Cls, and_true] at F7
  have G7 := Cls.below (l := [(w3.heap.size, 0, .int .i64 0), (w3.heap.size, 1, .int .i64 0), (w5.heap.size, 0, .int .i64 0), (w5.heap.size, 1, .int .i64 0)]) hB (by simp [Cls, go_sem, F6, G6, y6_0_1, y6_0_0, y6_0_p1, y6_0_p2, y6_3_0, y6_3_p1, y6_3_p2, y6_5_0, y6_5_p1, y6_5_p2])
  simp only [Cls, and_true] at G7
  have hs7 := hB.size
  try simp at hs7
  have y7_0_1 : w.heap.size + 1 < w7.heap.size := (by omega)
  have y7_0_0 : w.heap.size < w7.heap.size := (by omega)
  have y7_0_p1 : w.heap.size < w7.heap.size + 1 := (by omega)
  have y7_0_p2 : w.heap.size < w7.heap.size + 1 + 1 := (by omega)
  have y7_3_0 : w3.heap.size < w7.heap.size := (by omega)
  have y7_3_p1 : w3.heap.size < w7.heap.size + 1 := (by omega)
  have y7_3_p2 : w3.heap.size < w7.heap.size + 1 + 1 := (by omega)
  have y7_5_0 : w5.heap.size < w7.heap.size := (by omega)
  have y7_5_p1 : w5.heap.size < w7.heap.size + 1 := (by omega)
  have y7_5_p2 : w5.heap.size < w7.heap.size + 1 + 1 := (by omega)
  clear hB
  go_wp2_with fail
  refine (Ad _).mono ?_
  rintro e w8 ⟨rfl, hB⟩
  have D8 := dstep w hB (by repeat (first | with_reducible exact D7 | with_reducible apply bdrew | with_reducible apply bdrewN | with_reducible apply balloc | ((with_reducible refine bset ?_ ?_ _); rotate_left; (first | omega | (simp <;> omega)))))
  have d8s := D8.size
  have B8 := bstep B1 hB (by repeat (first | with_reducible exact B7 | with_reducible apply bdrew | with_reducible apply bdrewN | with_reducible apply balloc | ((with_reducible refine bset ?_ ?_ _); rotate_left; (first | omega | (simp <;> omega)))))
  have F8 := C0.below B8
  simp only [Cls, and_true] at F8
  have G8 := Cls.below (l := [(w3.heap.size, 0, .int .i64 0), (w3.heap.size, 1, .int .i64 0), (w5.heap.size, 0, .int .i64 0), (w5.heap.size, 1, .int .i64 0)]) hB (by simp [Cls, go_sem, F7, G7, y7_0_1, y7_0_0, y7_0_p1, y7_0_p2, y7_3_0, y7_3_p1, y7_3_p2, y7_5_0, y7_5_p1, y7_5_p2])
  simp only [Cls, and_true] at G8
  have hs8 := hB.size
  try simp at hs8
  have y8_0_1 : w.heap.size + 1 < w8.heap.size := (by omega)
  have y8_0_0 : w.heap.size < w8.heap.size := (by omega)
  have y8_0_p1 : w.heap.size < w8.heap.size + 1 := (by omega)
  have y8_0_p2 : w.heap.size < w8.heap.size + 1 + 1 := (by omega)
  have y8_3_0 : w3.heap.size < w8.heap.size := (by omega)
  have y8_3_p1 : w3.heap.size < w8.heap.size + 1 := (by omega)
  have y8_3_p2 : w3.heap.size < w8.heap.size + 1 + 1 := (by omega)
  have y8_5_0 : w5.heap.size < w8.heap.size := (by omega)
  have y8_5_p1 : w5.heap.size < w8.heap.size + 1 := (by omega)
  have y8_5_p2 : w5.heap.size < w8.heap.size + 1 + 1 := (by omega)
  clear hB
  go_wp2_with fail
  refine (at_any _ _ _).mono ?_
  rintro e w9 ⟨rfl, hB⟩
  have D9 := dstep w hB (by repeat (first | with_reducible exact D8 | with_reducible apply bdrew | with_reducible apply bdrewN | with_reducible apply balloc | ((with_reducible refine bset ?_ ?_ _); rotate_left; (first | omega | (simp <;> omega)))))
  have d9s := D9.size
  have B9 := bstep B1 hB (by repeat (first | with_reducible exact B8 | with_reducible apply bdrew | with_reducible apply bdrewN | with_reducible apply balloc | ((with_reducible refine bset ?_ ?_ _); rotate_left; (first | omega | (simp <;> omega)))))
  have F9 := C0.below B9
  simp only [Cls, and_true] at F9
  have G9 := Cls.below (l := [(w3.heap.size, 0, .int .i64 0), (w3.heap.size, 1, .int .i64 0), (w5.heap.size, 0, .int .i64 0), (w5.heap.size, 1, .int .i64 0)]) hB (by simp [Cls, go_sem, F8, G8, y8_0_1, y8_0_0, y8_0_p1, y8_0_p2, y8_3_0, y8_3_p1, y8_3_p2, y8_5_0, y8_5_p1, y8_5_p2])
  simp only [Cls, and_true] at G9
  have hs9 := hB.size
  try simp at hs9
  have y9_0_1 : w.heap.size + 1 < w9.heap.size := (by omega)
  have y9_0_0 : w.heap.size < w9.heap.size := (by omega)
  have y9_0_p1 : w.heap.size < w9.heap.size + 1 := (by omega)
  have y9_0_p2 : w.heap.size < w9.heap.size + 1 + 1 := (by omega)
  have y9_3_0 : w3.heap.size < w9.heap.size := (by omega)
  have y9_3_p1 : w3.heap.size < w9.heap.size + 1 := (by omega)
  have y9_3_p2 : w3.heap.size < w9.heap.size + 1 + 1 := (by omega)
  have y9_5_0 : w5.heap.size < w9.heap.size := (by omega)
  have y9_5_p1 : w5.heap.size < w9.heap.size + 1 := (by omega)
  have y9_5_p2 : w5.heap.size < w9.heap.size + 1 + 1 := (by omega)
  clear hB
  go_wp2_with fail
  refine (AAdd _).mono ?_
  rintro e w10 ⟨rfl, hB⟩
  have D10 := dstep w hB (by repeat (first | with_reducible exact D9 | with_reducible apply bdrew | with_reducible apply bdrewN | with_reducible apply balloc | ((with_reducible refine bset ?_ ?_ _); rotate_left; (first | omega | (simp <;> omega)))))
  have d10s := D10.size
  have B10 := bstep B1 hB (by repeat (first | with_reducible exact B9 | with_reducible apply bdrew | with_reducible apply bdrewN | with_reducible apply balloc | ((with_reducible refine bset ?_ ?_ _); rotate_left; (first | omega | (simp <;> omega)))))
  have F10 := C0.below B10
  simp only [Cls, and_true] at F10
  have G10 := Cls.below (l := [(w5.heap.size, 0, .int .i64 0), (w5.heap.size, 1, .int .i64 0), (w3.heap.size, 0, .int .i64 u), (w3.heap.size, 1, .int .i64 1)]) hB (by simp [Cls, go_sem, F9, G9, y9_0_1, y9_0_0, y9_0_p1, y9_0_p2, y9_3_0, y9_3_p1, y9_3_p2, y9_5_0, y9_5_p1, y9_5_p2])
  simp only [Cls, and_true] at G10
  have hs10 := hB.size
  try simp at hs10
  have y10_0_1 : w.heap.size + 1 < w10.heap.size := (by omega)
  have y10_0_0 : w.heap.size < w10.heap.size := (by omega)
  have y10_0_p1 : w.heap.size < w10.heap.size + 1 := (by omega)
  have y10_0_p2 : w.heap.size < w10.heap.size + 1 + 1 := (by omega)
  have y10_3_0 : w3.heap.size < w10.heap.size := (by omega)
  have y10_3_p1 : w3.heap.size < w10.heap.size + 1 := (by omega)
  have y10_3_p2 : w3.heap.size < w10.heap.size + 1 + 1 := (by omega)
  have y10_5_0 : w5.heap.size < w10.heap.size := (by omega)
  have y10_5_p1 : w5.heap.size < w10.heap.size + 1 := (by omega)
  have y10_5_p2 : w5.heap.size < w10.heap.size + 1 + 1 := (by omega)
  clear hB
  clear AAdd
  go_wp2_with fail
  refine (ASub _).mono ?_
  rintro e w11 ⟨rfl, hB⟩
  have D11 := dstep w hB (by repeat (first | with_reducible exact D10 | with_reducible apply bdrew | with_reducible apply bdrewN | with_reducible apply balloc | ((with_reducible refine bset ?_ ?_ _); rotate_left; (first | omega | (simp <;> omega)))))
  have d11s := D11.size
  have B11 := bstep B1 hB (by repeat (first | with_reducible exact B10 | with_reducible apply bdrew | with_reducible apply bdrewN | with_reducible apply balloc | ((with_reducible refine bset ?_ ?_ _); rotate_left; (first | omega | (simp <;> omega)))))
  have F11 := C0.below B11
  simp only [Cls, and_true] at F11
  have G11 := Cls.below (l := [(w5.heap.size, 0, .int .i64 0), (w5.heap.size, 1, .int .i64 0), (w3.heap.size, 0, .int .i64 u), (w3.heap.size, 1, .int .i64 1), (w10.heap.size, 0, .int .i64 0), (w10.heap.size, 1, .int .i64 0), (w10.heap.size + 1, 0, .int .i64 u), (w10.heap.size + 1, 1, .int .i64 1)]) hB (by simp [Cls, go_sem, F10, G10, y10_0_1, y10_0_0, y10_0_p1, y10_0_p2, y10_3_0, y10_3_p1, y10_3_p2, y10_5_0, y10_5_p1, y10_5_p2])
  simp only [Cls, and_true] at G11
  have hs11 := hB.size
  try simp at hs11
  have y11_0_1 : w.heap.size + 1 < w11.heap.size := (by omega)
  have y11_0_0 : w.heap.size < w11.heap.size := (by omega)
  have y11_0_p1 : w.heap.size < w11.heap.size + 1 := (by omega)
  have y11_0_p2 : w.heap.size < w11.heap.size + 1 + 1 := (by omega)
  have y11_3_0 : w3.heap.size < w11.heap.size := (by omega)
  have y11_3_p1 : w3.heap.size < w11.heap.size + 1 := (by omega)
  have y11_3_p2 : w3.heap.size < w11.heap.size + 1 + 1 := (by omega)
  have y11_5_0 : w5.heap.size < w11.heap.size := (by omega)
  have y11_5_p1 : w5.heap.size < w11.heap.size + 1 := (by omega)
  have y11_5_p2 : w5.heap.size < w11.heap.size + 1 + 1 := (by omega)
  have y11_10_1 : w10.heap.size + 1 < w11.heap.size := (by omega)
  have y11_10_0 : w10.heap.size < w11.heap.size := (by omega)
  have y11_10_p1 : w10.heap.size < w11.heap.size + 1 := (by omega)
  have y11_10_p2 : w10.heap.size < w11.heap.size + 1 + 1 := (by omega)
  clear hB
  clear ASub
  go_wp2_with fail
  refine (AMul _).mono ?_
  rintro e w12 ⟨rfl, hB⟩
  have D12 := dstep w hB (by repeat (first | with_reducible exact D11 | with_reducible apply bdrew | with_reducible apply bdrewN | with_reducible apply balloc | ((with_reducible refine bset ?_ ?_ _); rotate_left; (first | omega | (simp <;> omega)))))
  have d12s := D12.size
  have B12 := bstep B1 hB (by repeat (first | with_reducible exact B11 | with_reducible apply bdrew | with_reducible apply bdrewN | with_reducible apply balloc | ((with_reducible refine bset ?_ ?_ _); rotate_left; (first | omega | (simp <;> omega)))))
  have F12 := C0.below B12
  simp only [Cls, and_true] at F12
  have G12 := Cls.below (l := [(w5.heap.size, 0, .int .i64 0), (w5.heap.size, 1, .int .i64 0), (w3.heap.size, 0, .int .i64 u), (w3.heap.size, 1, .int .i64 1), (w10.heap.size, 0, .int .i64 0), (w10.heap.size, 1, .int .i64 0), (w10.heap.size + 1, 0, .int .i64 u), (w10.heap.size + 1, 1, .int .i64 1), (w11.heap.size, 0, .int .i64 0), (w11.heap.size, 1, .int .i64 0), (w11.heap.size + 1, 0, .int .i64 u), (w11.heap.size + 1, 1, .int .i64 1)]) hB (by simp [Cls, go_sem, F11, G11, y11_0_1, y11_0_0, y11_0_p1, y11_0_p2, y11_3_0, y11_3_p1, y11_3_p2, y11_5_0, y11_5_p1, y11_5_p2, y11_10_1, y11_10_0, y11_10_p1, y11_10_p2])
  simp only [Cls, and_true] at G12
  have hs12 := hB.size
  try simp at hs12
  have y12_0_1 : w.heap.size + 1 < w12.heap.size := (by omega)
  have y12_0_0 : w.heap.size < w12.heap.size := (by omega)
  have y12_0_p1 : w.heap.size < w12.heap.size + 1 := (by omega)
  have y12_0_p2 : w.heap.size < w12.heap.size + 1 + 1 := (by omega)
  have y12_3_0 : w3.heap.size < w12.heap.size := (by omega)
  have y12_3_p1 : w3.heap.size < w12.heap.size + 1 := (by omega)
  have y12_3_p2 : w3.heap.size < w12.heap.size + 1 + 1 := (by omega)
  have y12_5_0 : w5.heap.size < w12.heap.size := (by omega)
  have y12_5_p1 : w5.heap.size < w12.heap.size + 1 := (by omega)
  have y12_5_p2 : w5.heap.size < w12.heap.size + 1 + 1 := (by omega)
  have y12_10_1 : w10.heap.size + 1 < w12.heap.size := (by omega)
  have y12_10_0 : w10.heap.size < w12.heap.size := (by omega)
  have y12_10_p1 : w10.heap.size < w12.heap.size + 1 := (by omega)
  have y12_10_p2 : w10.heap.size < w12.heap.size + 1 + 1 := (by omega)
  have y12_11_1 : w11.heap.size + 1 < w12.heap.size := (by omega)
  have y12_11_0 : w11.heap.size < w12.heap.size := (by omega)
  have y12_11_p1 : w11.heap.size < w12.heap.size + 1 := (by omega)
  have y12_11_p2 : w11.heap.size < w12.heap.size + 1 + 1 := (by omega)
  clear hB
  clear AMul
  go_wp2_with fail
  refine (ADiv _).mono ?_
  rintro e w13 ⟨rfl, hB⟩
  have D13 := dstep w hB (by repeat (first | with_reducible exact D12 | with_reducible apply bdrew | with_reducible apply bdrewN | with_reducible apply balloc | ((with_reducible refine bset ?_ ?_ _); rotate_left; (first | omega | (simp <;> omega)))))
  have d13s := D13.size
  have B13 := bstep B1 hB (by repeat (first | with_reducible exact B12 | with_reducible apply bdrew | with_reducible apply bdrewN | with_reducible apply balloc | ((with_reducible refine bset ?_ ?_ _); rotate_left; (first | omega | (simp <;> omega)))))
  have F13 := C0.below B13
  simp only [Cls, and_true] at F13
  have G13 := Cls.below (l := [(w5.heap.size, 0, .int .i64 0), (w5.heap.size, 1, .int .i64 0), (w3.heap.size, 0, .int .i64 u), (w3.heap.size, 1, .int .i64 1), (w10.heap.size, 0, .int .i64 0), (w10.heap.size, 1, .int .i64 0), (w10.heap.size + 1, 0, .int .i64 u), (w10.heap.size + 1, 1, .int .i64 1), (w11.heap.size, 0, .int .i64 0), (w11.heap.size, 1, .int .i64 0), (w11.heap.size + 1, 0, .int .i64 u), (w11.heap.size + 1, 1, .int .i64 1), (w12.heap.size, 0, .int .i64 0), (w12.heap.size, 1, .int .i64 0), (w12.heap.size + 1, 0, .int .i64 u), (w12.heap.size + 1, 1, .int .i64 1)]) hB (by simp [Cls, go_sem, F12, G12, y12_0_1, y12_0_0, y12_0_p1, y12_0_p2, y12_3_0, y12_3_p1, y12_3_p2, y12_5_0, y12_5_p1, y12_5_p2, y12_10_1, y12_10_0, y12_10_p1, y12_10_p2, y12_11_1, y12_11_0, y12_11_p1, y12_11_p2])
  simp only [Cls, and_true] at G13
  have hs13 := hB.size
  try simp at hs13
  have y13_0_1 : w.heap.size + 1 < w13.heap.size := (by omega)
  have y13_0_0 : w.heap.size < w13.heap.size := (by omega)
  have y13_0_p1 : w.heap.size < w13.heap.size + 1 := (by omega)
  have y13_0_p2 : w.heap.size < w13.heap.size + 1 + 1 := (by omega)
  have y13_3_0 : w3.heap.size < w13.heap.size := (by omega)
  have y13_3_p1 : w3.heap.size < w13.heap.size + 1 := (by omega)
  have y13_3_p2 : w3.heap.size < w13.heap.size + 1 + 1 := (by omega)
  have y13_5_0 : w5.heap.size < w13.heap.size := (by omega)
  have y13_5_p1 : w5.heap.size < w13.heap.size + 1 := (by omega)
  have y13_5_p2 : w5.heap.size < w13.heap.size + 1 + 1 := (by omega)
  have y13_10_1 : w10.heap.size + 1 < w13.heap.size := (by omega)
  have y13_10_0 : w10.heap.size < w13.heap.size := (by omega)
  have y13_10_p1 : w10.heap.size < w13.heap.size + 1 := (by omega)
  have y13_10_p2 : w10.heap.size < w13.heap.size + 1 + 1 := (by omega)
  have y13_11_1 : w11.heap.size + 1 < w13.heap.size := (by omega)
  have y13_11_0 : w11.heap.size < w13.heap.size := (by omega)
  have y13_11_p1 : w11.heap.size < w13.heap.size + 1 := (by omega)
  have y13_11_p2 : w11.heap.size < w13.heap.size + 1 + 1 := (by omega)
  have y13_12_1 : w12.heap.size + 1 < w13.heap.size := (by omega)
  have y13_12_0 : w12.heap.size < w13.heap.size := (by omega)
  have y13_12_p1 : w12.heap.size < w13.heap.size + 1 := (by omega)
  have y13_12_p2 : w12.heap.size < w13.heap.size + 1 + 1 := (by omega)
  clear hB
  clear ADiv
  go_wp2_with fail
  refine (ACmp _).mono ?_
  rintro e w14 ⟨rfl, hB⟩
  have D14 := dstep w hB (by repeat (first | with_reducible exact D13 | with_reducible apply bdrew | with_reducible apply bdrewN | with_reducible apply balloc | ((with_reducible refine bset ?_ ?_ _); rotate_left; (first | omega | (simp <;> omega)))))
  have d14s := D14.size
  have B14 := bstep B1 hB (by repeat (first | with_reducible exact B13 | with_reducible apply bdrew | with_reducible apply bdrewN | with_reducible apply balloc | ((with_reducible refine bset ?_ ?_ _); rotate_left; (first | omega | (simp <;> omega)))))
  have F14 := C0.below B14
  simp only [Cls, and_true] at F14
  have G14 := Cls.below (l := [(w5.heap.size, 0, .int .i64 0), (w5.heap.size, 1, .int .i64 0), (w3.heap.size, 0, .int .i64 u), (w3.heap.size, 1, .int .i64 1), (w10.heap.size, 0, .int .i64 0), (w10.heap.size, 1, .int .i64 0), (w10.heap.size + 1, 0, .int .i64 u), (w10.heap.size + 1, 1, .int .i64 1), (w11.heap.size, 0, .int .i64 0), (w11.heap.size, 1, .int .i64 0), (w11.heap.size + 1, 0, .int .i64 u), (w11.heap.size + 1, 1, .int .i64 1), (w12.heap.size, 0, .int .i64 0), (w12.heap.size, 1, .int .i64 0), (w12.heap.size + 1, 0, .int .i64 u), (w12.heap.size + 1, 1, .int .i64 1), (w13.heap.size, 0, .int .i64 0), (w13.heap.size, 1, .int .i64 0), (w13.heap.size + 1, 0, .int .i64 u), (w13.heap.size + 1, 1, .int .i64 1)]) hB (by simp [Cls, go_sem, F13, G13, y13_0_1, y13_0_0, y13_0_p1, y13_0_p2, y13_3_0, y13_3_p1, y13_3_p2, y13_5_0, y13_5_p1, y13_5_p2, y13_10_1, y13_10_0, y13_10_p1, y13_10_p2, y13_11_1, y13_11_0, y13_11_p1, y13_11_p2, y13_12_1, y13_12_0, y13_12_p1, y13_12_p2])
  simp only [Cls, and_true] at G14
  have hs14 := hB.size
  try simp at hs14
  have y14_0_1 : w.heap.size + 1 < w14.heap.size := (by omega)
  have y14_0_0 : w.heap.size < w14.heap.size := (by omega)
  have y14_0_p1 : w.heap.size < w14.heap.size + 1 := (by omega)
  have y14_0_p2 : w.heap.size < w14.heap.size + 1 + 1 := (by omega)
  have y14_3_0 : w3.heap.size < w14.heap.size := (by omega)
  have y14_3_p1 : w3.heap.size < w14.heap.size + 1 := (by omega)
  have y14_3_p2 : w3.heap.size < w14.heap.size + 1 + 1 := (by omega)
  have y14_5_0 : w5.heap.size < w14.heap.size := (by omega)
  have y14_5_p1 : w5.heap.size < w14.heap.size + 1 := (by omega)
  have y14_5_p2 : w5.heap.size < w14.heap.size + 1 + 1 := (by omega)
  have y14_10_1 : w10.heap.size + 1 < w14.heap.size := (by omega)
  have y14_10_0 : w10.heap.size < w14.heap.size := (by omega)
  have y14_10_p1 : w10.heap.size < w14.heap.size + 1 := (by omega)
  have y14_10_p2 : w10.heap.size < w14.heap.size + 1 + 1 := (by omega)
  have y14_11_1 : w11.heap.size + 1 < w14.heap.size := (by omega)
  have y14_11_0 : w11.heap.size < w14.heap.size := (by omega)
  have y14_11_p1 : w11.heap.size < w14.heap.size + 1 := (by omega)
  have y14_11_p2 : w11.heap.size < w14.heap.size + 1 + 1 := (by omega)
  have y14_12_1 : w12.heap.size + 1 < w14.heap.size := (by omega)
  have y14_12_0 : w12.heap.size < w14.heap.size := (by omega)
  have y14_12_p1 : w12.heap.size < w14.heap.size + 1 := (by omega)
  have y14_12_p2 : w12.heap.size < w14.heap.size + 1 + 1 := (by omega)
  have y14_13_1 : w13.heap.size + 1 < w14.heap.size := (by omega)
  have y14_13_0 : w13.heap.size < w14.heap.size := (by omega)
  have y14_13_p1 : w13.heap.size < w14.heap.size + 1 := (by omega)
  have y14_13_p2 : w13.heap.size < w14.heap.size + 1 + 1 := (by omega)
  clear hB
  clear ACmp
  go_wp2
  go_ret
  exact ⟨rfl, by repeat (first | with_reducible exact D14 | with_reducible apply bdrew | with_reducible apply bdrewN | with_reducible apply balloc | ((with_reducible refine bset ?_ ?_ _); rotate_left; (first | omega | (simp <;> omega))))⟩

set_option maxRecDepth 100000 in
set_option maxHeartbeats 1000000 in
theorem walk_arith_zero (a b d k s pAdd qAdd cAdd iAdd pSub qSub cSub iSub pMul qMul cMul iMul  : Int) (Ac : ∀ w : World, Calls Try.prog 21 #[.agg #[.int .i64 a, .int .i64 b]] w fun e w' => e = .returned (.int .i64 0) ∧ Below w.heap.size w w') (Av : ∀ w : World, Calls Try.prog 22 #[.agg #[.int .i64 a, .int .i64 b]] w fun e w' => e = .returned (.agg #[.int .i64 0, .int .i64 0]) ∧ Below w.heap.size w w') (Af : ∀ w : World, Calls Try.prog 20 #[.agg #[.int .i64 a, .int .i64 b]] w fun e w' => e = .returned (.tuple #[.int .i64 (k), .agg #[.int .i64 0, .int .i64 0]]) ∧ Below w.heap.size w w') (Ab : ∀ w : World, Calls Try.prog 23 #[.agg #[.int .i64 a, .int .i64 b]] w fun e w' => e = .returned (.int .i64 k) ∧ Below w.heap.size w w') (Ad : ∀ w : World, Calls Try.prog 21 #[.agg #[.int .i64 0, .int .i64 d]] w fun e w' => e = .returned (.int .i64 0) ∧ Below w.heap.size w w') (AAdd : ∀ w : World, Calls Try.prog 15 #[.agg #[.int .i64 a, .int .i64 b], .agg #[.int .i64 0, .int .i64 d]] w fun e w' => e = .returned (.tuple #[.agg #[.int .i64 pAdd, .int .i64 qAdd], .agg #[.int .i64 cAdd, .int .i64 iAdd]]) ∧ Below w.heap.size w w') (ASub : ∀ w : World, Calls Try.prog 17 #[.agg #[.int .i64 a, .int .i64 b], .agg #[.int .i64 0, .int .i64 d]] w fun e w' => e = .returned (.tuple #[.agg #[.int .i64 pSub, .int .i64 qSub], .agg #[.int .i64 cSub, .int .i64 iSub]]) ∧ Below w.heap.size w w') (AMul : ∀ w : World, Calls Try.prog 16 #[.agg #[.int .i64 a, .int .i64 b], .agg #[.int .i64 0, .int .i64 d]] w fun e w' => e = .returned (.tuple #[.agg #[.int .i64 pMul, .int .i64 qMul], .agg #[.int .i64 cMul, .int .i64 iMul]]) ∧ Below w.heap.size w w') (ADiv : ∀ w : World, Calls Try.prog 18 #[.agg #[.int .i64 a, .int .i64 b], .agg #[.int .i64 0, .int .i64 d]] w fun e w' => e = .returned (.tuple #[.agg #[.int .i64 0, .int .i64 0], .agg #[.int .i64 3, .int .i64 (-2)]]) ∧ Below w.heap.size w w') (ACmp : ∀ w : World, Calls Try.prog 19 #[.agg #[.int .i64 a, .int .i64 b], .agg #[.int .i64 0, .int .i64 d]] w fun e w' => e = .returned (.tuple #[.int .i64 (s), .agg #[.int .i64 0, .int .i64 0]]) ∧ Below w.heap.size w w') (Ao : ∀ w : World, Calls Try.prog 24 #[.agg #[.int .i64 a, .int .i64 b], .agg #[.int .i64 0, .int .i64 d]] w fun e w' => e = .returned (.int .i64 s) ∧ Below w.heap.size w w') (AC1 : ∀ w : World, Calls Try.prog 25 #[.int .i64 1, .agg #[.int .i64 a, .int .i64 b], .agg #[.int .i64 0, .int .i64 d], .agg #[.int .i64 pAdd, .int .i64 qAdd], .agg #[.int .i64 cAdd, .int .i64 iAdd]] w fun e w' => e = .returned (.bool true) ∧ Below w.heap.size w w') (AC2 : ∀ w : World, Calls Try.prog 25 #[.int .i64 2, .agg #[.int .i64 a, .int .i64 b], .agg #[.int .i64 0, .int .i64 d], .agg #[.int .i64 pSub, .int .i64 qSub], .agg #[.int .i64 cSub, .int .i64 iSub]] w fun e w' => e = .returned (.bool true) ∧ Below w.heap.size w w') (AC3 : ∀ w : World, Calls Try.prog 25 #[.int .i64 3, .agg #[.int .i64 a, .int .i64 b], .agg #[.int .i64 0, .int .i64 d], .agg #[.int .i64 pMul, .int .i64 qMul], .agg #[.int .i64 cMul, .int .i64 iMul]] w fun e w' => e = .returned (.bool true) ∧ Below w.heap.size w w') (w : World) :
    Calls Try.prog 9 #[.agg #[.int .i64 a, .int .i64 b], .agg #[.int .i64 0, .int .i64 d]] w fun e w' => e = .returned (.bool true) ∧ Below w.heap.size w w' := by
  go_enter Try.func9, Try.ntmps9
  go_wp2_with fail
  refine (example_any _).mono ?_
  rintro e w1 ⟨rfl, hB⟩
  have D1 := dstep w hB (by repeat (first | with_reducible exact Below.refl _ _ | with_reducible apply bdrew | with_reducible apply bdrewN | with_reducible apply balloc | ((with_reducible refine bset ?_ ?_ _); rotate_left; (first | omega | (simp <;> omega)))))
  have d1s := D1.size
  obtain ⟨C0, F1⟩ := Cls.first (l := [(w.heap.size, 0, .int .i64 a), (w.heap.size, 1, .int .i64 b), (w.heap.size + 1, 0, .int .i64 0), (w.heap.size + 1, 1, .int .i64 d)]) hB (by simp [Cls, go_sem])
  simp only [Cls, and_true] at F1
  have B1 := hB
  have hs1 := hB.size
  try simp at hs1
  have hb1 := B1.size
  try simp at hb1
  have y1_0_1 : w.heap.size + 1 < w1.heap.size := (by omega)
  have y1_0_0 : w.heap.size < w1.heap.size := (by omega)
  have y1_0_p1 : w.heap.size < w1.heap.size + 1 := (by omega)
  have y1_0_p2 : w.heap.size < w1.heap.size + 1 + 1 := (by omega)
  clear hB
  go_wp2_with fail
  refine (Ac _).mono ?_
  rintro e w2 ⟨rfl, hB⟩
  have D2 := dstep w hB (by repeat (first | with_reducible exact D1 | with_reducible apply bdrew | with_reducible apply bdrewN | with_reducible apply balloc | ((with_reducible refine bset ?_ ?_ _); rotate_left; (first | omega | (simp <;> omega)))))
  have d2s := D2.size
  have B2 := bstep B1 hB (by repeat (first | with_reducible exact B1 | with_reducible apply bdrew | with_reducible apply bdrewN | with_reducible apply balloc | ((with_reducible refine bset ?_ ?_ _); rotate_left; (first | omega | (simp <;> omega)))))
  have F2 := C0.below B2
  simp only [Cls, and_true] at F2
  have hs2 := hB.size
  try simp at hs2
  have y2_0_1 : w.heap.size + 1 < w2.heap.size := (by omega)
  have y2_0_0 : w.heap.size < w2.heap.size := (by omega)
  have y2_0_p1 : w.heap.size < w2.heap.size + 1 := (by omega)
  have y2_0_p2 : w.heap.size < w2.heap.size + 1 + 1 := (by omega)
  clear hB
  go_wp2_with fail
  refine (at_any _ _ _).mono ?_
  rintro e w3 ⟨rfl, hB⟩
  have D3 := dstep w hB (by repeat (first | with_reducible exact D2 | with_reducible apply bdrew | with_reducible apply bdrewN | with_reducible apply balloc | ((with_reducible refine bset ?_ ?_ _); rotate_left; (first | omega | (simp <;> omega)))))
  have d3s := D3.size
  have B3 := bstep B1 hB (by repeat (first | with_reducible exact B2 | with_reducible apply bdrew | with_reducible apply bdrewN | with_reducible apply balloc | ((with_reducible refine bset ?_ ?_ _); rotate_left; (first | omega | (simp <;> omega)))))
  have F3 := C0.below B3
  simp only [Cls, and_true] at F3
  have hs3 := hB.size
  try simp at hs3
  have y3_0_1 : w.heap.size + 1 < w3.heap.size := (by omega)
  have y3_0_0 : w.heap.size < w3.heap.size := (by omega)
  have y3_0_p1 : w.heap.size < w3.heap.size + 1 := (by omega)
  have y3_0_p2 : w.heap.size < w3.heap.size + 1 + 1 := (by omega)
  clear hB
  go_wp2_with fail
  go_region_held3 (fun w' => w'.cell? ⟨w.heap.size, 0, none⟩ = some (.int .i64 a) ∧ w'.cell? ⟨w.heap.size, 1, none⟩ = some (.int .i64 b) ∧ w'.cell? ⟨w3.heap.size, 0, none⟩ = some (.int .i64 0) ∧ w'.cell? ⟨w3.heap.size, 1, none⟩ = some (.int .i64 0)) (first | exact hK | go_keep) (first | (go_at_call 22; refine (Av _).mono ?_; rintro e w4 ⟨rfl, hB⟩; have D4 := dstep w hB (by repeat (first | with_reducible exact D3 | with_reducible apply bdrew | with_reducible apply bdrewN | with_reducible apply balloc | ((with_reducible refine bset ?_ ?_ _); rotate_left; (first | omega | (simp <;> omega))))); have d4s := D4.size; have B4 := bstep B1 hB (by repeat (first | with_reducible exact B3 | with_reducible apply bdrew | with_reducible apply bdrewN | with_reducible apply balloc | ((with_reducible refine bset ?_ ?_ _); rotate_left; (first | omega | (simp <;> omega))))); have F4 := C0.below B4; simp only [Cls, and_true] at F4; have G4 := Cls.below (l := [(w3.heap.size, 0, .int .i64 0), (w3.heap.size, 1, .int .i64 0)]) hB (by simp [Cls, go_sem, F3, y3_0_1, y3_0_0, y3_0_p1, y3_0_p2]); simp only [Cls, and_true] at G4; have hs4 := hB.size; try simp at hs4; have y4_0_1 : w.heap.size + 1 < w4.heap.size := (by omega); have y4_0_0 : w.heap.size < w4.heap.size := (by omega); have y4_0_p1 : w.heap.size < w4.heap.size + 1 := (by omega); have y4_0_p2 : w.heap.size < w4.heap.size + 1 + 1 := (by omega); have y4_3_0 : w3.heap.size < w4.heap.size := (by omega); have y4_3_p1 : w3.heap.size < w4.heap.size + 1 := (by omega); have y4_3_p2 : w3.heap.size < w4.heap.size + 1 + 1 := (by omega); clear hB; have hK : w4.cell? ⟨w.heap.size, 0, none⟩ = some (.int .i64 a) ∧ w4.cell? ⟨w.heap.size, 1, none⟩ = some (.int .i64 b) ∧ w4.cell? ⟨w3.heap.size, 0, none⟩ = some (.int .i64 0) ∧ w4.cell? ⟨w3.heap.size, 1, none⟩ = some (.int .i64 0) := (by simp [F4, G4])))
  go_wp2_with fail
  refine (Af _).mono ?_
  rintro e w5 ⟨rfl, hB⟩
  have D5 := dstep w hB (by repeat (first | with_reducible exact D4 | with_reducible apply bdrew | with_reducible apply bdrewN | with_reducible apply balloc | ((with_reducible refine bset ?_ ?_ _); rotate_left; (first | omega | (simp <;> omega)))))
  have d5s := D5.size
  have B5 := bstep B1 hB (by repeat (first | with_reducible exact B4 | with_reducible apply bdrew | with_reducible apply bdrewN | with_reducible apply balloc | ((with_reducible refine bset ?_ ?_ _); rotate_left; (first | omega | (simp <;> omega)))))
  have F5 := C0.below B5
  simp only [Cls, and_true] at F5
  have G5 := Cls.below (l := [(w3.heap.size, 0, .int .i64 0), (w3.heap.size, 1, .int .i64 0)]) hB (by simp [Cls, go_sem, F4, G4, y4_0_1, y4_0_0, y4_0_p1, y4_0_p2, y4_3_0, y4_3_p1, y4_3_p2])
  simp only [Cls, and_true] at G5
  have hs5 := hB.size
  try simp at hs5
  have y5_0_1 : w.heap.size + 1 < w5.heap.size := (by omega)
  have y5_0_0 : w.heap.size < w5.heap.size := (by omega)
  have y5_0_p1 : w.heap.size < w5.heap.size + 1 := (by omega)
  have y5_0_p2 : w.heap.size < w5.heap.size + 1 + 1 := (by omega)
  have y5_3_0 : w3.heap.size < w5.heap.size := (by omega)
  have y5_3_p1 : w3.heap.size < w5.heap.size + 1 := (by omega)
  have y5_3_p2 : w3.heap.size < w5.heap.size + 1 + 1 := (by omega)
  clear hB
  go_wp2_with fail
  refine (Ab _).mono ?_
  rintro e w6 ⟨rfl, hB⟩
  have D6 := dstep w hB (by repeat (first | with_reducible exact D5 | with_reducible apply bdrew | with_reducible apply bdrewN | with_reducible apply balloc | ((with_reducible refine bset ?_ ?_ _); rotate_left; (first | omega | (simp <;> omega)))))
  have d6s := D6.size
  have B6 := bstep B1 hB (by repeat (first | with_reducible exact B5 | with_reducible apply bdrew | with_reducible apply bdrewN | with_reducible apply balloc | ((with_reducible refine bset ?_ ?_ _); rotate_left; (first | omega | (simp <;> omega)))))
  have F6 := C0.below B6
  simp only [Cls, and_true] at F6
  have G6 := Cls.below (l := [(w3.heap.size, 0, .int .i64 0), (w3.heap.size, 1, .int .i64 0), (w5.heap.size, 0, .int .i64 0), (w5.heap.size, 1, .int .i64 0)]) hB (by simp [Cls, go_sem, F5, G5, y5_0_1, y5_0_0, y5_0_p1, y5_0_p2, y5_3_0, y5_3_p1, y5_3_p2])
  simp only [Cls, and_true] at G6
  have hs6 := hB.size
  try simp at hs6
  have y6_0_1 : w.heap.size + 1 < w6.heap.size := (by omega)
  have y6_0_0 : w.heap.size < w6.heap.size := (by omega)
  have y6_0_p1 : w.heap.size < w6.heap.size + 1 := (by omega)
  have y6_0_p2 : w.heap.size < w6.heap.size + 1 + 1 := (by omega)
  have y6_3_0 : w3.heap.size < w6.heap.size := (by omega)
  have y6_3_p1 : w3.heap.size < w6.heap.size + 1 := (by omega)
  have y6_3_p2 : w3.heap.size < w6.heap.size + 1 + 1 := (by omega)
  have y6_5_0 : w5.heap.size < w6.heap.size := (by omega)
  have y6_5_p1 : w5.heap.size < w6.heap.size + 1 := (by omega)
  have y6_5_p2 : w5.heap.size < w6.heap.size + 1 + 1 := (by omega)
  clear hB
  go_wp2_with fail
  refine (Ad _).mono ?_
  rintro e w7 ⟨rfl, hB⟩
  have D7 := dstep w hB (by repeat (first | with_reducible exact D6 | with_reducible apply bdrew | with_reducible apply bdrewN | with_reducible apply balloc | ((with_reducible refine bset ?_ ?_ _); rotate_left; (first | omega | (simp <;> omega)))))
  have d7s := D7.size
  have B7 := bstep B1 hB (by repeat (first | with_reducible exact B6 | with_reducible apply bdrew | with_reducible apply bdrewN | with_reducible apply balloc | ((with_reducible refine bset ?_ ?_ _); rotate_left; (first | omega | (simp <;> omega)))))
  have F7 := C0.below B7
  simp only [Cls, and_true] at F7
  have G7 := Cls.below (l := [(w3.heap.size, 0, .int .i64 0), (w3.heap.size, 1, .int .i64 0), (w5.heap.size, 0, .int .i64 0), (w5.heap.size, 1, .int .i64 0)]) hB (by simp [Cls, go_sem, F6, G6, y6_0_1, y6_0_0, y6_0_p1, y6_0_p2, y6_3_0, y6_3_p1, y6_3_p2, y6_5_0, y6_5_p1, y6_5_p2])
  simp only [Cls, and_true] at G7
  have hs7 := hB.size
  try simp at hs7
  have y7_0_1 : w.heap.size + 1 < w7.heap.size := (by omega)
  have y7_0_0 : w.heap.size < w7.heap.size := (by omega)
  have y7_0_p1 : w.heap.size < w7.heap.size + 1 := (by omega)
  have y7_0_p2 : w.heap.size < w7.heap.size + 1 + 1 := (by omega)
  have y7_3_0 : w3.heap.size < w7.heap.size := (by omega)
  have y7_3_p1 : w3.heap.size < w7.heap.size + 1 := (by omega)
  have y7_3_p2 : w3.heap.size < w7.heap.size + 1 + 1 := (by omega)
  have y7_5_0 : w5.heap.size < w7.heap.size := (by omega)
  have y7_5_p1 : w5.heap.size < w7.heap.size + 1 := (by omega)
  have y7_5_p2 : w5.heap.size < w7.heap.size + 1 + 1 := (by omega)
  clear hB
  go_wp2_with fail
  refine (AAdd _).mono ?_
  rintro e w8 ⟨rfl, hB⟩
  have D8 := dstep w hB (by repeat (first | with_reducible exact D7 | with_reducible apply bdrew | with_reducible apply bdrewN | with_reducible apply balloc | ((with_reducible refine bset ?_ ?_ _); rotate_left; (first | omega | (simp <;> omega)))))
  have d8s := D8.size
  have B8 := bstep B1 hB (by repeat (first | with_reducible exact B7 | with_reducible apply bdrew | with_reducible apply bdrewN | with_reducible apply balloc | ((with_reducible refine bset ?_ ?_ _); rotate_left; (first | omega | (simp <;> omega)))))
  have F8 := C0.below B8
  simp only [Cls, and_true] at F8
  have G8 := Cls.below (l := [(w3.heap.size, 0, .int .i64 0), (w3.heap.size, 1, .int .i64 0), (w5.heap.size, 0, .int .i64 0), (w5.heap.size, 1, .int .i64 0)]) hB (by simp [Cls, go_sem, F7, G7, y7_0_1, y7_0_0, y7_0_p1, y7_0_p2, y7_3_0, y7_3_p1, y7_3_p2, y7_5_0, y7_5_p1, y7_5_p2])
  simp only [Cls, and_true] at G8
  have hs8 := hB.size
  try simp at hs8
  have y8_0_1 : w.heap.size + 1 < w8.heap.size := (by omega)
  have y8_0_0 : w.heap.size < w8.heap.size := (by omega)
  have y8_0_p1 : w.heap.size < w8.heap.size + 1 := (by omega)
  have y8_0_p2 : w.heap.size < w8.heap.size + 1 + 1 := (by omega)
  have y8_3_0 : w3.heap.size < w8.heap.size := (by omega)
  have y8_3_p1 : w3.heap.size < w8.heap.size + 1 := (by omega)
  have y8_3_p2 : w3.heap.size < w8.heap.size + 1 + 1 := (by omega)
  have y8_5_0 : w5.heap.size < w8.heap.size := (by omega)
  have y8_5_p1 : w5.heap.size < w8.heap.size + 1 := (by omega)
  have y8_5_p2 : w5.heap.size < w8.heap.size + 1 + 1 := (by omega)
  clear hB
  clear AAdd
  go_wp2_with fail
  refine (ASub _).mono ?_
  rintro e w9 ⟨rfl, hB⟩
  have D9 := dstep w hB (by repeat (first | with_reducible exact D8 | with_reducible apply bdrew | with_reducible apply bdrewN | with_reducible apply balloc | ((with_reducible refine bset ?_ ?_ _); rotate_left; (first | omega | (simp <;> omega)))))
  have d9s := D9.size
  have B9 := bstep B1 hB (by repeat (first | with_reducible exact B8 | with_reducible apply bdrew | with_reducible apply bdrewN | with_reducible apply balloc | ((with_reducible refine bset ?_ ?_ _); rotate_left; (first | omega | (simp <;> omega)))))
  have F9 := C0.below B9
  simp only [Cls, and_true] at F9
  have G9 := Cls.below (l := [(w3.heap.size, 0, .int .i64 0), (w3.heap.size, 1, .int .i64 0), (w5.heap.size, 0, .int .i64 0), (w5.heap.size, 1, .int .i64 0), (w8.heap.size, 0, .int .i64 pAdd), (w8.heap.size, 1, .int .i64 qAdd), (w8.heap.size + 1, 0, .int .i64 cAdd), (w8.heap.size + 1, 1, .int .i64 iAdd)]) hB (by simp [Cls, go_sem, F8, G8, y8_0_1, y8_0_0, y8_0_p1, y8_0_p2, y8_3_0, y8_3_p1, y8_3_p2, y8_5_0, y8_5_p1, y8_5_p2])
  simp only [Cls, and_true] at G9
  have hs9 := hB.size
  try simp at hs9
  have y9_0_1 : w.heap.size + 1 < w9.heap.size := (by omega)
  have y9_0_0 : w.heap.size < w9.heap.size := (by omega)
  have y9_0_p1 : w.heap.size < w9.heap.size + 1 := (by omega)
  have y9_0_p2 : w.heap.size < w9.heap.size + 1 + 1 := (by omega)
  have y9_3_0 : w3.heap.size < w9.heap.size := (by omega)
  have y9_3_p1 : w3.heap.size < w9.heap.size + 1 := (by omega)
  have y9_3_p2 : w3.heap.size < w9.heap.size + 1 + 1 := (by omega)
  have y9_5_0 : w5.heap.size < w9.heap.size := (by omega)
  have y9_5_p1 : w5.heap.size < w9.heap.size + 1 := (by omega)
  have y9_5_p2 : w5.heap.size < w9.heap.size + 1 + 1 := (by omega)
  have y9_8_1 : w8.heap.size + 1 < w9.heap.size := (by omega)
  have y9_8_0 : w8.heap.size < w9.heap.size := (by omega)
  have y9_8_p1 : w8.heap.size < w9.heap.size + 1 := (by omega)
  have y9_8_p2 : w8.heap.size < w9.heap.size + 1 + 1 := (by omega)
  clear hB
  clear ASub
  go_wp2_with fail
  refine (AMul _).mono ?_
  rintro e w10 ⟨rfl, hB⟩
  have D10 := dstep w hB (by repeat (first | with_reducible exact D9 | with_reducible apply bdrew | with_reducible apply bdrewN | with_reducible apply balloc | ((with_reducible refine bset ?_ ?_ _); rotate_left; (first | omega | (simp <;> omega)))))
  have d10s := D10.size
  have B10 := bstep B1 hB (by repeat (first | with_reducible exact B9 | with_reducible apply bdrew | with_reducible apply bdrewN | with_reducible apply balloc | ((with_reducible refine bset ?_ ?_ _); rotate_left; (first | omega | (simp <;> omega)))))
  have F10 := C0.below B10
  simp only [Cls, and_true] at F10
  have G10 := Cls.below (l := [(w3.heap.size, 0, .int .i64 0), (w3.heap.size, 1, .int .i64 0), (w5.heap.size, 0, .int .i64 0), (w5.heap.size, 1, .int .i64 0), (w8.heap.size, 0, .int .i64 pAdd), (w8.heap.size, 1, .int .i64 qAdd), (w8.heap.size + 1, 0, .int .i64 cAdd), (w8.heap.size + 1, 1, .int .i64 iAdd), (w9.heap.size, 0, .int .i64 pSub), (w9.heap.size, 1, .int .i64 qSub), (w9.heap.size + 1, 0, .int .i64 cSub), (w9.heap.size + 1, 1, .int .i64 iSub)]) hB (by simp [Cls, go_sem, F9, G9, y9_0_1, y9_0_0, y9_0_p1, y9_0_p2, y9_3_0, y9_3_p1, y9_3_p2, y9_5_0, y9_5_p1, y9_5_p2, y9_8_1, y9_8_0, y9_8_p1, y9_8_p2])
  simp only [Cls, and_true] at G10
  have hs10 := hB.size
  try simp at hs10
  have y10_0_1 : w.heap.size + 1 < w10.heap.size := (by omega)
  have y10_0_0 : w.heap.size < w10.heap.size := (by omega)
  have y10_0_p1 : w.heap.size < w10.heap.size + 1 := (by omega)
  have y10_0_p2 : w.heap.size < w10.heap.size + 1 + 1 := (by omega)
  have y10_3_0 : w3.heap.size < w10.heap.size := (by omega)
  have y10_3_p1 : w3.heap.size < w10.heap.size + 1 := (by omega)
  have y10_3_p2 : w3.heap.size < w10.heap.size + 1 + 1 := (by omega)
  have y10_5_0 : w5.heap.size < w10.heap.size := (by omega)
  have y10_5_p1 : w5.heap.size < w10.heap.size + 1 := (by omega)
  have y10_5_p2 : w5.heap.size < w10.heap.size + 1 + 1 := (by omega)
  have y10_8_1 : w8.heap.size + 1 < w10.heap.size := (by omega)
  have y10_8_0 : w8.heap.size < w10.heap.size := (by omega)
  have y10_8_p1 : w8.heap.size < w10.heap.size + 1 := (by omega)
  have y10_8_p2 : w8.heap.size < w10.heap.size + 1 + 1 := (by omega)
  have y10_9_1 : w9.heap.size + 1 < w10.heap.size := (by omega)
  have y10_9_0 : w9.heap.size < w10.heap.size := (by omega)
  have y10_9_p1 : w9.heap.size < w10.heap.size + 1 := (by omega)
  have y10_9_p2 : w9.heap.size < w10.heap.size + 1 + 1 := (by omega)
  clear hB
  clear AMul
  go_wp2_with fail
  refine (ADiv _).mono ?_
  rintro e w11 ⟨rfl, hB⟩
  have D11 := dstep w hB (by repeat (first | with_reducible exact D10 | with_reducible apply bdrew | with_reducible apply bdrewN | with_reducible apply balloc | ((with_reducible refine bset ?_ ?_ _); rotate_left; (first | omega | (simp <;> omega)))))
  have d11s := D11.size
  have B11 := bstep B1 hB (by repeat (first | with_reducible exact B10 | with_reducible apply bdrew | with_reducible apply bdrewN | with_reducible apply balloc | ((with_reducible refine bset ?_ ?_ _); rotate_left; (first | omega | (simp <;> omega)))))
  have F11 := C0.below B11
  simp only [Cls, and_true] at F11
  have G11 := Cls.below (l := [(w3.heap.size, 0, .int .i64 0), (w3.heap.size, 1, .int .i64 0), (w5.heap.size, 0, .int .i64 0), (w5.heap.size, 1, .int .i64 0), (w8.heap.size, 0, .int .i64 pAdd), (w8.heap.size, 1, .int .i64 qAdd), (w8.heap.size + 1, 0, .int .i64 cAdd), (w8.heap.size + 1, 1, .int .i64 iAdd), (w9.heap.size, 0, .int .i64 pSub), (w9.heap.size, 1, .int .i64 qSub), (w9.heap.size + 1, 0, .int .i64 cSub), (w9.heap.size + 1, 1, .int .i64 iSub), (w10.heap.size, 0, .int .i64 pMul), (w10.heap.size, 1, .int .i64 qMul), (w10.heap.size + 1, 0, .int .i64 cMul), (w10.heap.size + 1, 1, .int .i64 iMul)]) hB (by simp [Cls, go_sem, F10, G10, y10_0_1, y10_0_0, y10_0_p1, y10_0_p2, y10_3_0, y10_3_p1, y10_3_p2, y10_5_0, y10_5_p1, y10_5_p2, y10_8_1, y10_8_0, y10_8_p1, y10_8_p2, y10_9_1, y10_9_0, y10_9_p1, y10_9_p2])
  simp only [Cls, and_true] at G11
  have hs11 := hB.size
  try simp at hs11
  have y11_0_1 : w.heap.size + 1 < w11.heap.size := (by omega)
  have y11_0_0 : w.heap.size < w11.heap.size := (by omega)
  have y11_0_p1 : w.heap.size < w11.heap.size + 1 := (by omega)
  have y11_0_p2 : w.heap.size < w11.heap.size + 1 + 1 := (by omega)
  have y11_3_0 : w3.heap.size < w11.heap.size := (by omega)
  have y11_3_p1 : w3.heap.size < w11.heap.size + 1 := (by omega)
  have y11_3_p2 : w3.heap.size < w11.heap.size + 1 + 1 := (by omega)
  have y11_5_0 : w5.heap.size < w11.heap.size := (by omega)
  have y11_5_p1 : w5.heap.size < w11.heap.size + 1 := (by omega)
  have y11_5_p2 : w5.heap.size < w11.heap.size + 1 + 1 := (by omega)
  have y11_8_1 : w8.heap.size + 1 < w11.heap.size := (by omega)
  have y11_8_0 : w8.heap.size < w11.heap.size := (by omega)
  have y11_8_p1 : w8.heap.size < w11.heap.size + 1 := (by omega)
  have y11_8_p2 : w8.heap.size < w11.heap.size + 1 + 1 := (by omega)
  have y11_9_1 : w9.heap.size + 1 < w11.heap.size := (by omega)
  have y11_9_0 : w9.heap.size < w11.heap.size := (by omega)
  have y11_9_p1 : w9.heap.size < w11.heap.size + 1 := (by omega)
  have y11_9_p2 : w9.heap.size < w11.heap.size + 1 + 1 := (by omega)
  have y11_10_1 : w10.heap.size + 1 < w11.heap.size := (by omega)
  have y11_10_0 : w10.heap.size < w11.heap.size := (by omega)
  have y11_10_p1 : w10.heap.size < w11.heap.size + 1 := (by omega)
  have y11_10_p2 : w10.heap.size < w11.heap.size + 1 + 1 := (by omega)
  clear hB
  clear ADiv
  go_wp2_with fail
  refine (ACmp _).mono ?_
  rintro e w12 ⟨rfl, hB⟩
  have D12 := dstep w hB (by repeat (first | with_reducible exact D11 | with_reducible apply bdrew | with_reducible apply bdrewN | with_reducible apply balloc | ((with_reducible refine bset ?_ ?_ _); rotate_left; (first | omega | (simp <;> omega)))))
  have d12s := D12.size
  have B12 := bstep B1 hB (by repeat (first | with_reducible exact B11 | with_reducible apply bdrew | with_reducible apply bdrewN | with_reducible apply balloc | ((with_reducible refine bset ?_ ?_ _); rotate_left; (first | omega | (simp <;> omega)))))
  have F12 := C0.below B12
  simp only [Cls, and_true] at F12
  have G12 := Cls.below (l := [(w3.heap.size, 0, .int .i64 0), (w3.heap.size, 1, .int .i64 0), (w5.heap.size, 0, .int .i64 0), (w5.heap.size, 1, .int .i64 0), (w8.heap.size, 0, .int .i64 pAdd), (w8.heap.size, 1, .int .i64 qAdd), (w8.heap.size + 1, 0, .int .i64 cAdd), (w8.heap.size + 1, 1, .int .i64 iAdd), (w9.heap.size, 0, .int .i64 pSub), (w9.heap.size, 1, .int .i64 qSub), (w9.heap.size + 1, 0, .int .i64 cSub), (w9.heap.size + 1, 1, .int .i64 iSub), (w10.heap.size, 0, .int .i64 pMul), (w10.heap.size, 1, .int .i64 qMul), (w10.heap.size + 1, 0, .int .i64 cMul), (w10.heap.size + 1, 1, .int .i64 iMul), (w11.heap.size, 0, .int .i64 0), (w11.heap.size, 1, .int .i64 0), (w11.heap.size + 1, 0, .int .i64 3), (w11.heap.size + 1, 1, .int .i64 (-2))]) hB (by simp [Cls, go_sem, F11, G11, y11_0_1, y11_0_0, y11_0_p1, y11_0_p2, y11_3_0, y11_3_p1, y11_3_p2, y11_5_0, y11_5_p1, y11_5_p2, y11_8_1, y11_8_0, y11_8_p1, y11_8_p2, y11_9_1, y11_9_0, y11_9_p1, y11_9_p2, y11_10_1, y11_10_0, y11_10_p1, y11_10_p2])
  simp only [Cls, and_true] at G12
  have hs12 := hB.size
  try simp at hs12
  have y12_0_1 : w.heap.size + 1 < w12.heap.size := (by omega)
  have y12_0_0 : w.heap.size < w12.heap.size := (by omega)
  have y12_0_p1 : w.heap.size < w12.heap.size + 1 := (by omega)
  have y12_0_p2 : w.heap.size < w12.heap.size + 1 + 1 := (by omega)
  have y12_3_0 : w3.heap.size < w12.heap.size := (by omega)
  have y12_3_p1 : w3.heap.size < w12.heap.size + 1 := (by omega)
  have y12_3_p2 : w3.heap.size < w12.heap.size + 1 + 1 := (by omega)
  have y12_5_0 : w5.heap.size < w12.heap.size := (by omega)
  have y12_5_p1 : w5.heap.size < w12.heap.size + 1 := (by omega)
  have y12_5_p2 : w5.heap.size < w12.heap.size + 1 + 1 := (by omega)
  have y12_8_1 : w8.heap.size + 1 < w12.heap.size := (by omega)
  have y12_8_0 : w8.heap.size < w12.heap.size := (by omega)
  have y12_8_p1 : w8.heap.size < w12.heap.size + 1 := (by omega)
  have y12_8_p2 : w8.heap.size < w12.heap.size + 1 + 1 := (by omega)
  have y12_9_1 : w9.heap.size + 1 < w12.heap.size := (by omega)
  have y12_9_0 : w9.heap.size < w12.heap.size := (by omega)
  have y12_9_p1 : w9.heap.size < w12.heap.size + 1 := (by omega)
  have y12_9_p2 : w9.heap.size < w12.heap.size + 1 + 1 := (by omega)
  have y12_10_1 : w10.heap.size + 1 < w12.heap.size := (by omega)
  have y12_10_0 : w10.heap.size < w12.heap.size := (by omega)
  have y12_10_p1 : w10.heap.size < w12.heap.size + 1 := (by omega)
  have y12_10_p2 : w10.heap.size < w12.heap.size + 1 + 1 := (by omega)
  have y12_11_1 : w11.heap.size + 1 < w12.heap.size := (by omega)
  have y12_11_0 : w11.heap.size < w12.heap.size := (by omega)
  have y12_11_p1 : w11.heap.size < w12.heap.size + 1 := (by omega)
  have y12_11_p2 : w11.heap.size < w12.heap.size + 1 + 1 := (by omega)
  clear hB
  clear ACmp
  go_wp2_with fail
  refine (Ao _).mono ?_
  rintro e w13 ⟨rfl, hB⟩
  have D13 := dstep w hB (by repeat (first | with_reducible exact D12 | with_reducible apply bdrew | with_reducible apply bdrewN | with_reducible apply balloc | ((with_reducible refine bset ?_ ?_ _); rotate_left; (first | omega | (simp <;> omega)))))
  have d13s := D13.size
  have B13 := bstep B1 hB (by repeat (first | with_reducible exact B12 | with_reducible apply bdrew | with_reducible apply bdrewN | with_reducible apply balloc | ((with_reducible refine bset ?_ ?_ _); rotate_left; (first | omega | (simp <;> omega)))))
  have F13 := C0.below B13
  simp only [Cls, and_true] at F13
  have G13 := Cls.below (l := [(w3.heap.size, 0, .int .i64 0), (w3.heap.size, 1, .int .i64 0), (w5.heap.size, 0, .int .i64 0), (w5.heap.size, 1, .int .i64 0), (w8.heap.size, 0, .int .i64 pAdd), (w8.heap.size, 1, .int .i64 qAdd), (w8.heap.size + 1, 0, .int .i64 cAdd), (w8.heap.size + 1, 1, .int .i64 iAdd), (w9.heap.size, 0, .int .i64 pSub), (w9.heap.size, 1, .int .i64 qSub), (w9.heap.size + 1, 0, .int .i64 cSub), (w9.heap.size + 1, 1, .int .i64 iSub), (w10.heap.size, 0, .int .i64 pMul), (w10.heap.size, 1, .int .i64 qMul), (w10.heap.size + 1, 0, .int .i64 cMul), (w10.heap.size + 1, 1, .int .i64 iMul), (w11.heap.size, 0, .int .i64 0), (w11.heap.size, 1, .int .i64 0), (w11.heap.size + 1, 0, .int .i64 3), (w11.heap.size + 1, 1, .int .i64 (-2)), (w12.heap.size, 0, .int .i64 0), (w12.heap.size, 1, .int .i64 0), (w12.heap.size + 1, 0, .int .i64 0), (w12.heap.size + 1, 1, .int .i64 0)]) hB (by simp [Cls, go_sem, F12, G12, y12_0_1, y12_0_0, y12_0_p1, y12_0_p2, y12_3_0, y12_3_p1, y12_3_p2, y12_5_0, y12_5_p1, y12_5_p2, y12_8_1, y12_8_0, y12_8_p1, y12_8_p2, y12_9_1, y12_9_0, y12_9_p1, y12_9_p2, y12_10_1, y12_10_0, y12_10_p1, y12_10_p2, y12_11_1, y12_11_0, y12_11_p1, y12_11_p2])
  simp only [Cls, and_true] at G13
  have hs13 := hB.size
  try simp at hs13
  have y13_0_1 : w.heap.size + 1 < w13.heap.size := (by omega)
  have y13_0_0 : w.heap.size < w13.heap.size := (by omega)
  have y13_0_p1 : w.heap.size < w13.heap.size + 1 := (by omega)
  have y13_0_p2 : w.heap.size < w13.heap.size + 1 + 1 := (by omega)
  have y13_3_0 : w3.heap.size < w13.heap.size := (by omega)
  have y13_3_p1 : w3.heap.size < w13.heap.size + 1 := (by omega)
  have y13_3_p2 : w3.heap.size < w13.heap.size + 1 + 1 := (by omega)
  have y13_5_0 : w5.heap.size < w13.heap.size := (by omega)
  have y13_5_p1 : w5.heap.size < w13.heap.size + 1 := (by omega)
  have y13_5_p2 : w5.heap.size < w13.heap.size + 1 + 1 := (by omega)
  have y13_8_1 : w8.heap.size + 1 < w13.heap.size := (by omega)
  have y13_8_0 : w8.heap.size < w13.heap.size := (by omega)
  have y13_8_p1 : w8.heap.size < w13.heap.size + 1 := (by omega)
  have y13_8_p2 : w8.heap.size < w13.heap.size + 1 + 1 := (by omega)
  have y13_9_1 : w9.heap.size + 1 < w13.heap.size := (by omega)
  have y13_9_0 : w9.heap.size < w13.heap.size := (by omega)
  have y13_9_p1 : w9.heap.size < w13.heap.size + 1 := (by omega)
  have y13_9_p2 : w9.heap.size < w13.heap.size + 1 + 1 := (by omega)
  have y13_10_1 : w10.heap.size + 1 < w13.heap.size := (by omega)
  have y13_10_0 : w10.heap.size < w13.heap.size := (by omega)
  have y13_10_p1 : w10.heap.size < w13.heap.size + 1 := (by omega)
  have y13_10_p2 : w10.heap.size < w13.heap.size + 1 + 1 := (by omega)
  have y13_11_1 : w11.heap.size + 1 < w13.heap.size := (by omega)
  have y13_11_0 : w11.heap.size < w13.heap.size := (by omega)
  have y13_11_p1 : w11.heap.size < w13.heap.size + 1 := (by omega)
  have y13_11_p2 : w11.heap.size < w13.heap.size + 1 + 1 := (by omega)
  have y13_12_1 : w12.heap.size + 1 < w13.heap.size := (by omega)
  have y13_12_0 : w12.heap.size < w13.heap.size := (by omega)
  have y13_12_p1 : w12.heap.size < w13.heap.size + 1 := (by omega)
  have y13_12_p2 : w12.heap.size < w13.heap.size + 1 + 1 := (by omega)
  clear hB
  go_wp2_with fail
  refine (AC1 _).mono ?_
  rintro e w14 ⟨rfl, hB⟩
  have D14 := dstep w hB (by repeat (first | with_reducible exact D13 | with_reducible apply bdrew | with_reducible apply bdrewN | with_reducible apply balloc | ((with_reducible refine bset ?_ ?_ _); rotate_left; (first | omega | (simp <;> omega)))))
  have d14s := D14.size
  have B14 := bstep B1 hB (by repeat (first | with_reducible exact B13 | with_reducible apply bdrew | with_reducible apply bdrewN | with_reducible apply balloc | ((with_reducible refine bset ?_ ?_ _); rotate_left; (first | omega | (simp <;> omega)))))
  have F14 := C0.below B14
  simp only [Cls, and_true] at F14
  have G14 := Cls.below (l := [(w3.heap.size, 0, .int .i64 0), (w3.heap.size, 1, .int .i64 0), (w5.heap.size, 0, .int .i64 0), (w5.heap.size, 1, .int .i64 0), (w8.heap.size, 0, .int .i64 pAdd), (w8.heap.size, 1, .int .i64 qAdd), (w8.heap.size + 1, 0, .int .i64 cAdd), (w8.heap.size + 1, 1, .int .i64 iAdd), (w9.heap.size, 0, .int .i64 pSub), (w9.heap.size, 1, .int .i64 qSub), (w9.heap.size + 1, 0, .int .i64 cSub), (w9.heap.size + 1, 1, .int .i64 iSub), (w10.heap.size, 0, .int .i64 pMul), (w10.heap.size, 1, .int .i64 qMul), (w10.heap.size + 1, 0, .int .i64 cMul), (w10.heap.size + 1, 1, .int .i64 iMul), (w11.heap.size, 0, .int .i64 0), (w11.heap.size, 1, .int .i64 0), (w11.heap.size + 1, 0, .int .i64 3), (w11.heap.size + 1, 1, .int .i64 (-2)), (w12.heap.size, 0, .int .i64 0), (w12.heap.size, 1, .int .i64 0), (w12.heap.size + 1, 0, .int .i64 0), (w12.heap.size + 1, 1, .int .i64 0)]) hB (by simp [Cls, go_sem, F13, G13, y13_0_1, y13_0_0, y13_0_p1, y13_0_p2, y13_3_0, y13_3_p1, y13_3_p2, y13_5_0, y13_5_p1, y13_5_p2, y13_8_1, y13_8_0, y13_8_p1, y13_8_p2, y13_9_1, y13_9_0, y13_9_p1, y13_9_p2, y13_10_1, y13_10_0, y13_10_p1, y13_10_p2, y13_11_1, y13_11_0, y13_11_p1, y13_11_p2, y13_12_1, y13_12_0, y13_12_p1, y13_12_p2])
  simp only [Cls, and_true] at G14
  have hs14 := hB.size
  try simp at hs14
  have y14_0_1 : w.heap.size + 1 < w14.heap.size := (by omega)
  have y14_0_0 : w.heap.size < w14.heap.size := (by omega)
  have y14_0_p1 : w.heap.size < w14.heap.size + 1 := (by omega)
  have y14_0_p2 : w.heap.size < w14.heap.size + 1 + 1 := (by omega)
  have y14_3_0 : w3.heap.size < w14.heap.size := (by omega)
  have y14_3_p1 : w3.heap.size < w14.heap.size + 1 := (by omega)
  have y14_3_p2 : w3.heap.size < w14.heap.size + 1 + 1 := (by omega)
  have y14_5_0 : w5.heap.size < w14.heap.size := (by omega)
  have y14_5_p1 : w5.heap.size < w14.heap.size + 1 := (by omega)
  have y14_5_p2 : w5.heap.size < w14.heap.size + 1 + 1 := (by omega)
  have y14_8_1 : w8.heap.size + 1 < w14.heap.size := (by omega)
  have y14_8_0 : w8.heap.size < w14.heap.size := (by omega)
  have y14_8_p1 : w8.heap.size < w14.heap.size + 1 := (by omega)
  have y14_8_p2 : w8.heap.size < w14.heap.size + 1 + 1 := (by omega)
  have y14_9_1 : w9.heap.size + 1 < w14.heap.size := (by omega)
  have y14_9_0 : w9.heap.size < w14.heap.size := (by omega)
  have y14_9_p1 : w9.heap.size < w14.heap.size + 1 := (by omega)
  have y14_9_p2 : w9.heap.size < w14.heap.size + 1 + 1 := (by omega)
  have y14_10_1 : w10.heap.size + 1 < w14.heap.size := (by omega)
  have y14_10_0 : w10.heap.size < w14.heap.size := (by omega)
  have y14_10_p1 : w10.heap.size < w14.heap.size + 1 := (by omega)
  have y14_10_p2 : w10.heap.size < w14.heap.size + 1 + 1 := (by omega)
  have y14_11_1 : w11.heap.size + 1 < w14.heap.size := (by omega)
  have y14_11_0 : w11.heap.size < w14.heap.size := (by omega)
  have y14_11_p1 : w11.heap.size < w14.heap.size + 1 := (by omega)
  have y14_11_p2 : w11.heap.size < w14.heap.size + 1 + 1 := (by omega)
  have y14_12_1 : w12.heap.size + 1 < w14.heap.size := (by omega)
  have y14_12_0 : w12.heap.size < w14.heap.size := (by omega)
  have y14_12_p1 : w12.heap.size < w14.heap.size + 1 := (by omega)
  have y14_12_p2 : w12.heap.size < w14.heap.size + 1 + 1 := (by omega)
  clear hB
  go_wp2_with fail
  refine (AC2 _).mono ?_
  rintro e w15 ⟨rfl, hB⟩
  have D15 := dstep w hB (by repeat (first | with_reducible exact D14 | with_reducible apply bdrew | with_reducible apply bdrewN | with_reducible apply balloc | ((with_reducible refine bset ?_ ?_ _); rotate_left; (first | omega | (simp <;> omega)))))
  have d15s := D15.size
  have B15 := bstep B1 hB (by repeat (first | with_reducible exact B14 | with_reducible apply bdrew | with_reducible apply bdrewN | with_reducible apply balloc | ((with_reducible refine bset ?_ ?_ _); rotate_left; (first | omega | (simp <;> omega)))))
  have F15 := C0.below B15
  simp only [Cls, and_true] at F15
  have G15 := Cls.below (l := [(w3.heap.size, 0, .int .i64 0), (w3.heap.size, 1, .int .i64 0), (w5.heap.size, 0, .int .i64 0), (w5.heap.size, 1, .int .i64 0), (w8.heap.size, 0, .int .i64 pAdd), (w8.heap.size, 1, .int .i64 qAdd), (w8.heap.size + 1, 0, .int .i64 cAdd), (w8.heap.size + 1, 1, .int .i64 iAdd), (w9.heap.size, 0, .int .i64 pSub), (w9.heap.size, 1, .int .i64 qSub), (w9.heap.size + 1, 0, .int .i64 cSub), (w9.heap.size + 1, 1, .int .i64 iSub), (w10.heap.size, 0, .int .i64 pMul), (w10.heap.size, 1, .int .i64 qMul), (w10.heap.size + 1, 0, .int .i64 cMul), (w10.heap.size + 1, 1, .int .i64 iMul), (w11.heap.size, 0, .int .i64 0), (w11.heap.size, 1, .int .i64 0), (w11.heap.size + 1, 0, .int .i64 3), (w11.heap.size + 1, 1, .int .i64 (-2)), (w12.heap.size, 0, .int .i64 0), (w12.heap.size, 1, .int .i64 0), (w12.heap.size + 1, 0, .int .i64 0), (w12.heap.size + 1, 1, .int .i64 0)]) hB (by simp [Cls, go_sem, F14, G14, y14_0_1, y14_0_0, y14_0_p1, y14_0_p2, y14_3_0, y14_3_p1, y14_3_p2, y14_5_0, y14_5_p1, y14_5_p2, y14_8_1, y14_8_0, y14_8_p1, y14_8_p2, y14_9_1, y14_9_0, y14_9_p1, y14_9_p2, y14_10_1, y14_10_0, y14_10_p1, y14_10_p2, y14_11_1, y14_11_0, y14_11_p1, y14_11_p2, y14_12_1, y14_12_0, y14_12_p1, y14_12_p2])
  simp only [Cls, and_true] at G15
  have hs15 := hB.size
  try simp at hs15
  have y15_0_1 : w.heap.size + 1 < w15.heap.size := (by omega)
  have y15_0_0 : w.heap.size < w15.heap.size := (by omega)
  have y15_0_p1 : w.heap.size < w15.heap.size + 1 := (by omega)
  have y15_0_p2 : w.heap.size < w15.heap.size + 1 + 1 := (by omega)
  have y15_3_0 : w3.heap.size < w15.heap.size := (by omega)
  have y15_3_p1 : w3.heap.size < w15.heap.size + 1 := (by omega)
  have y15_3_p2 : w3.heap.size < w15.heap.size + 1 + 1 := (by omega)
  have y15_5_0 : w5.heap.size < w15.heap.size := (by omega)
  have y15_5_p1 : w5.heap.size < w15.heap.size + 1 := (by omega)
  have y15_5_p2 : w5.heap.size < w15.heap.size + 1 + 1 := (by omega)
  have y15_8_1 : w8.heap.size + 1 < w15.heap.size := (by omega)
  have y15_8_0 : w8.heap.size < w15.heap.size := (by omega)
  have y15_8_p1 : w8.heap.size < w15.heap.size + 1 := (by omega)
  have y15_8_p2 : w8.heap.size < w15.heap.size + 1 + 1 := (by omega)
  have y15_9_1 : w9.heap.size + 1 < w15.heap.size := (by omega)
  have y15_9_0 : w9.heap.size < w15.heap.size := (by omega)
  have y15_9_p1 : w9.heap.size < w15.heap.size + 1 := (by omega)
  have y15_9_p2 : w9.heap.size < w15.heap.size + 1 + 1 := (by omega)
  have y15_10_1 : w10.heap.size + 1 < w15.heap.size := (by omega)
  have y15_10_0 : w10.heap.size < w15.heap.size := (by omega)
  have y15_10_p1 : w10.heap.size < w15.heap.size + 1 := (by omega)
  have y15_10_p2 : w10.heap.size < w15.heap.size + 1 + 1 := (by omega)
  have y15_11_1 : w11.heap.size + 1 < w15.heap.size := (by omega)
  have y15_11_0 : w11.heap.size < w15.heap.size := (by omega)
  have y15_11_p1 : w11.heap.size < w15.heap.size + 1 := (by omega)
  have y15_11_p2 : w11.heap.size < w15.heap.size + 1 + 1 := (by omega)
  have y15_12_1 : w12.heap.size + 1 < w15.heap.size := (by omega)
  have y15_12_0 : w12.heap.size < w15.heap.size := (by omega)
  have y15_12_p1 : w12.heap.size < w15.heap.size + 1 := (by omega)
  have y15_12_p2 : w12.heap.size < w15.heap.size + 1 + 1 := (by omega)
  clear hB
  go_wp2_with fail
  refine (AC3 _).mono ?_
  rintro e w16 ⟨rfl, hB⟩
  have D16 := dstep w hB (by repeat (first | with_reducible exact D15 | with_reducible apply bdrew | with_reducible apply bdrewN | with_reducible apply balloc | ((with_reducible refine bset ?_ ?_ _); rotate_left; (first | omega | (simp <;> omega)))))
  have d16s := D16.size
  have B16 := bstep B1 hB (by repeat (first | with_reducible exact B15 | with_reducible apply bdrew | with_reducible apply bdrewN | with_reducible apply balloc | ((with_reducible refine bset ?_ ?_ _); rotate_left; (first | omega | (simp <;> omega)))))
  have F16 := C0.below B16
  simp only [Cls, and_true] at F16
  have G16 := Cls.below (l := [(w3.heap.size, 0, .int .i64 0), (w3.heap.size, 1, .int .i64 0), (w5.heap.size, 0, .int .i64 0), (w5.heap.size, 1, .int .i64 0), (w8.heap.size, 0, .int .i64 pAdd), (w8.heap.size, 1, .int .i64 qAdd), (w8.heap.size + 1, 0, .int .i64 cAdd), (w8.heap.size + 1, 1, .int .i64 iAdd), (w9.heap.size, 0, .int .i64 pSub), (w9.heap.size, 1, .int .i64 qSub), (w9.heap.size + 1, 0, .int .i64 cSub), (w9.heap.size + 1, 1, .int .i64 iSub), (w10.heap.size, 0, .int .i64 pMul), (w10.heap.size, 1, .int .i64 qMul), (w10.heap.size + 1, 0, .int .i64 cMul), (w10.heap.size + 1, 1, .int .i64 iMul), (w11.heap.size, 0, .int .i64 0), (w11.heap.size, 1, .int .i64 0), (w11.heap.size + 1, 0, .int .i64 3), (w11.heap.size + 1, 1, .int .i64 (-2)), (w12.heap.size, 0, .int .i64 0), (w12.heap.size, 1, .int .i64 0), (w12.heap.size + 1, 0, .int .i64 0), (w12.heap.size + 1, 1, .int .i64 0)]) hB (by simp [Cls, go_sem, F15, G15, y15_0_1, y15_0_0, y15_0_p1, y15_0_p2, y15_3_0, y15_3_p1, y15_3_p2, y15_5_0, y15_5_p1, y15_5_p2, y15_8_1, y15_8_0, y15_8_p1, y15_8_p2, y15_9_1, y15_9_0, y15_9_p1, y15_9_p2, y15_10_1, y15_10_0, y15_10_p1, y15_10_p2, y15_11_1, y15_11_0, y15_11_p1, y15_11_p2, y15_12_1, y15_12_0, y15_12_p1, y15_12_p2])
  simp only [Cls, and_true] at G16
  have hs16 := hB.size
  try simp at hs16
  have y16_0_1 : w.heap.size + 1 < w16.heap.size := (by omega)
  have y16_0_0 : w.heap.size < w16.heap.size := (by omega)
  have y16_0_p1 : w.heap.size < w16.heap.size + 1 := (by omega)
  have y16_0_p2 : w.heap.size < w16.heap.size + 1 + 1 := (by omega)
  have y16_3_0 : w3.heap.size < w16.heap.size := (by omega)
  have y16_3_p1 : w3.heap.size < w16.heap.size + 1 := (by omega)
  have y16_3_p2 : w3.heap.size < w16.heap.size + 1 + 1 := (by omega)
  have y16_5_0 : w5.heap.size < w16.heap.size := (by omega)
  have y16_5_p1 : w5.heap.size < w16.heap.size + 1 := (by omega)
  have y16_5_p2 : w5.heap.size < w16.heap.size + 1 + 1 := (by omega)
  have y16_8_1 : w8.heap.size + 1 < w16.heap.size := (by omega)
  have y16_8_0 : w8.heap.size < w16.heap.size := (by omega)
  have y16_8_p1 : w8.heap.size < w16.heap.size + 1 := (by omega)
  have y16_8_p2 : w8.heap.size < w16.heap.size + 1 + 1 := (by omega)
  have y16_9_1 : w9.heap.size + 1 < w16.heap.size := (by omega)
  have y16_9_0 : w9.heap.size < w16.heap.size := (by omega)
  have y16_9_p1 : w9.heap.size < w16.heap.size + 1 := (by omega)
  have y16_9_p2 : w9.heap.size < w16.heap.size + 1 + 1 := (by omega)
  have y16_10_1 : w10.heap.size + 1 < w16.heap.size := (by omega)
  have y16_10_0 : w10.heap.size < w16.heap.size := (by omega)
  have y16_10_p1 : w10.heap.size < w16.heap.size + 1 := (by omega)
  have y16_10_p2 : w10.heap.size < w16.heap.size + 1 + 1 := (by omega)
  have y16_11_1 : w11.heap.size + 1 < w16.heap.size := (by omega)
  have y16_11_0 : w11.heap.size < w16.heap.size := (by omega)
  have y16_11_p1 : w11.heap.size < w16.heap.size + 1 := (by omega)
  have y16_11_p2 : w11.heap.size < w16.heap.size + 1 + 1 := (by omega)
  have y16_12_1 : w12.heap.size + 1 < w16.heap.size := (by omega)
  have y16_12_0 : w12.heap.size < w16.heap.size := (by omega)
  have y16_12_p1 : w12.heap.size < w16.heap.size + 1 := (by omega)
  have y16_12_p2 : w12.heap.size < w16.heap.size + 1 + 1 := (by omega)
  clear hB
  go_wp2_with fail
  go_region_held3 (fun w' => w'.cell? ⟨w11.heap.size, 0, none⟩ = some (.int .i64 0) ∧ w'.cell? ⟨w11.heap.size, 1, none⟩ = some (.int .i64 0) ∧ w'.cell? ⟨w11.heap.size + 1, 0, none⟩ = some (.int .i64 3) ∧ w'.cell? ⟨w11.heap.size + 1, 1, none⟩ = some (.int .i64 (-2)) ∧ w'.cell? ⟨w12.heap.size + 1, 0, none⟩ = some (.int .i64 0) ∧ w'.cell? ⟨w12.heap.size + 1, 1, none⟩ = some (.int .i64 0)) (first | exact hK | go_keep) (first | (go_at_call 13; refine (at_any _ _ _).mono ?_; rintro e w17 ⟨rfl, hB⟩; have D17 := dstep w hB (by repeat (first | with_reducible exact D16 | with_reducible apply bdrew | with_reducible apply bdrewN | with_reducible apply balloc | ((with_reducible refine bset ?_ ?_ _); rotate_left; (first | omega | (simp <;> omega))))); have d17s := D17.size; have B17 := bstep B1 hB (by repeat (first | with_reducible exact B16 | with_reducible apply bdrew | with_reducible apply bdrewN | with_reducible apply balloc | ((with_reducible refine bset ?_ ?_ _); rotate_left; (first | omega | (simp <;> omega))))); have F17 := C0.below B17; simp only [Cls, and_true] at F17; have G17 := Cls.below (l := [(w3.heap.size, 0, .int .i64 0), (w3.heap.size, 1, .int .i64 0), (w5.heap.size, 0, .int .i64 0), (w5.heap.size, 1, .int .i64 0), (w8.heap.size, 0, .int .i64 pAdd), (w8.heap.size, 1, .int .i64 qAdd), (w8.heap.size + 1, 0, .int .i64 cAdd), (w8.heap.size + 1, 1, .int .i64 iAdd), (w9.heap.size, 0, .int .i64 pSub), (w9.heap.size, 1, .int .i64 qSub), (w9.heap.size + 1, 0, .int .i64 cSub), (w9.heap.size + 1, 1, .int .i64 iSub), (w10.heap.size, 0, .int .i64 pMul), (w10.heap.size, 1, .int .i64 qMul), (w10.heap.size + 1, 0, .int .i64 cMul), (w10.heap.size + 1, 1, .int .i64 iMul), (w11.heap.size, 0, .int .i64 0), (w11.heap.size, 1, .int .i64 0), (w11.heap.size + 1, 0, .int .i64 3), (w11.heap.size + 1, 1, .int .i64 (-2)), (w12.heap.size, 0, .int .i64 0), (w12.heap.size, 1, .int .i64 0), (w12.heap.size + 1, 0, .int .i64 0), (w12.heap.size + 1, 1, .int .i64 0)]) hB (by simp [Cls, go_sem, F16, G16, y16_0_1, y16_0_0, y16_0_p1, y16_0_p2, y16_3_0, y16_3_p1, y16_3_p2, y16_5_0, y16_5_p1, y16_5_p2, y16_8_1, y16_8_0, y16_8_p1, y16_8_p2, y16_9_1, y16_9_0, y16_9_p1, y16_9_p2, y16_10_1, y16_10_0, y16_10_p1, y16_10_p2, y16_11_1, y16_11_0, y16_11_p1, y16_11_p2, y16_12_1, y16_12_0, y16_12_p1, y16_12_p2]); simp only [Cls, and_true] at G17; have hs17 := hB.size; try simp at hs17; have y17_0_1 : w.heap.size + 1 < w17.heap.size := (by omega); have y17_0_0 : w.heap.size < w17.heap.size := (by omega); have y17_0_p1 : w.heap.size < w17.heap.size + 1 := (by omega); have y17_0_p2 : w.heap.size < w17.heap.size + 1 + 1 := (by omega); have y17_3_0 : w3.heap.size < w17.heap.size := (by omega); have y17_3_p1 : w3.heap.size < w17.heap.size + 1 := (by omega); have y17_3_p2 : w3.heap.size < w17.heap.size + 1 + 1 := (by omega); have y17_5_0 : w5.heap.size < w17.heap.size := (by omega); have y17_5_p1 : w5.heap.size < w17.heap.size + 1 := (by omega); have y17_5_p2 : w5.heap.size < w17.heap.size + 1 + 1 := (by omega); have y17_8_1 : w8.heap.size + 1 < w17.heap.size := (by omega); have y17_8_0 : w8.heap.size < w17.heap.size := (by omega); have y17_8_p1 : w8.heap.size < w17.heap.size + 1 := (by omega); have y17_8_p2 : w8.heap.size < w17.heap.size + 1 + 1 := (by omega); have y17_9_1 : w9.heap.size + 1 < w17.heap.size := (by omega); have y17_9_0 : w9.heap.size < w17.heap.size := (by omega); have y17_9_p1 : w9.heap.size < w17.heap.size + 1 := (by omega); have y17_9_p2 : w9.heap.size < w17.heap.size + 1 + 1 := (by omega); have y17_10_1 : w10.heap.size + 1 < w17.heap.size := (by omega); have y17_10_0 : w10.heap.size < w17.heap.size := (by omega); have y17_10_p1 : w10.heap.size < w17.heap.size + 1 := (by omega); have y17_10_p2 : w10.heap.size < w17.heap.size + 1 + 1 := (by omega); have y17_11_1 : w11.heap.size + 1 < w17.heap.size := (by omega); have y17_11_0 : w11.heap.size < w17.heap.size := (by omega); have y17_11_p1 : w11.heap.size < w17.heap.size + 1 := (by omega); have y17_11_p2 : w11.heap.size < w17.heap.size + 1 + 1 := (by omega); have y17_12_1 : w12.heap.size + 1 < w17.heap.size := (by omega); have y17_12_0 : w12.heap.size < w17.heap.size := (by omega); have y17_12_p1 : w12.heap.size < w17.heap.size + 1 := (by omega); have y17_12_p2 : w12.heap.size < w17.heap.size + 1 + 1 := (by omega); clear hB; have hK : w17.cell? ⟨w11.heap.size, 0, none⟩ = some (.int .i64 0) ∧ w17.cell? ⟨w11.heap.size, 1, none⟩ = some (.int .i64 0) ∧ w17.cell? ⟨w11.heap.size + 1, 0, none⟩ = some (.int .i64 3) ∧ w17.cell? ⟨w11.heap.size + 1, 1, none⟩ = some (.int .i64 (-2)) ∧ w17.cell? ⟨w12.heap.size + 1, 0, none⟩ = some (.int .i64 0) ∧ w17.cell? ⟨w12.heap.size + 1, 1, none⟩ = some (.int .i64 0) := (by simp [F17, G17])))
  go_wp2
  go_ret
  exact ⟨rfl, by repeat (first | with_reducible exact D17 | with_reducible apply bdrew | with_reducible apply bdrewN | with_reducible apply balloc | ((with_reducible refine bset ?_ ?_ _); rotate_left; (first | omega | (simp <;> omega))))⟩

set_option maxRecDepth 100000 in
set_option maxHeartbeats 1000000 in
theorem walk_arith_all (a b c d k s pAdd qAdd cAdd iAdd pSub qSub cSub iSub pMul qMul cMul iMul pDiv qDiv cDiv iDiv : Int) (h : ¬ c = 0) (Ac : ∀ w : World, Calls Try.prog 21 #[.agg #[.int .i64 a, .int .i64 b]] w fun e w' => e = .returned (.int .i64 0) ∧ Below w.heap.size w w') (Av : ∀ w : World, Calls Try.prog 22 #[.agg #[.int .i64 a, .int .i64 b]] w fun e w' => e = .returned (.agg #[.int .i64 0, .int .i64 0]) ∧ Below w.heap.size w w') (Af : ∀ w : World, Calls Try.prog 20 #[.agg #[.int .i64 a, .int .i64 b]] w fun e w' => e = .returned (.tuple #[.int .i64 (k), .agg #[.int .i64 0, .int .i64 0]]) ∧ Below w.heap.size w w') (Ab : ∀ w : World, Calls Try.prog 23 #[.agg #[.int .i64 a, .int .i64 b]] w fun e w' => e = .returned (.int .i64 k) ∧ Below w.heap.size w w') (Ad : ∀ w : World, Calls Try.prog 21 #[.agg #[.int .i64 c, .int .i64 d]] w fun e w' => e = .returned (.int .i64 0) ∧ Below w.heap.size w w') (AAdd : ∀ w : World, Calls Try.prog 15 #[.agg #[.int .i64 a, .int .i64 b], .agg #[.int .i64 c, .int .i64 d]] w fun e w' => e = .returned (.tuple #[.agg #[.int .i64 pAdd, .int .i64 qAdd], .agg #[.int .i64 cAdd, .int .i64 iAdd]]) ∧ Below w.heap.size w w') (ASub : ∀ w : World, Calls Try.prog 17 #[.agg #[.int .i64 a, .int .i64 b], .agg #[.int .i64 c, .int .i64 d]] w fun e w' => e = .returned (.tuple #[.agg #[.int .i64 pSub, .int .i64 qSub], .agg #[.int .i64 cSub, .int .i64 iSub]]) ∧ Below w.heap.size w w') (AMul : ∀ w : World, Calls Try.prog 16 #[.agg #[.int .i64 a, .int .i64 b], .agg #[.int .i64 c, .int .i64 d]] w fun e w' => e = .returned (.tuple #[.agg #[.int .i64 pMul, .int .i64 qMul], .agg #[.int .i64 cMul, .int .i64 iMul]]) ∧ Below w.heap.size w w') (ADiv : ∀ w : World, Calls Try.prog 18 #[.agg #[.int .i64 a, .int .i64 b], .agg #[.int .i64 c, .int .i64 d]] w fun e w' => e = .returned (.tuple #[.agg #[.int .i64 pDiv, .int .i64 qDiv], .agg #[.int .i64 cDiv, .int .i64 iDiv]]) ∧ Below w.heap.size w w') (ACmp : ∀ w : World, Calls Try.prog 19 #[.agg #[.int .i64 a, .int .i64 b], .agg #[.int .i64 c, .int .i64 d]] w fun e w' => e = .returned (.tuple #[.int .i64 (s), .agg #[.int .i64 0, .int .i64 0]]) ∧ Below w.heap.size w w') (Ao : ∀ w : World, Calls Try.prog 24 #[.agg #[.int .i64 a, .int .i64 b], .agg #[.int .i64 c, .int .i64 d]] w fun e w' => e = .returned (.int .i64 s) ∧ Below w.heap.size w w') (AC1 : ∀ w : World, Calls Try.prog 25 #[.int .i64 1, .agg #[.int .i64 a, .int .i64 b], .agg #[.int .i64 c, .int .i64 d], .agg #[.int .i64 pAdd, .int .i64 qAdd], .agg #[.int .i64 cAdd, .int .i64 iAdd]] w fun e w' => e = .returned (.bool true) ∧ Below w.heap.size w w') (AC2 : ∀ w : World, Calls Try.prog 25 #[.int .i64 2, .agg #[.int .i64 a, .int .i64 b], .agg #[.int .i64 c, .int .i64 d], .agg #[.int .i64 pSub, .int .i64 qSub], .agg #[.int .i64 cSub, .int .i64 iSub]] w fun e w' => e = .returned (.bool true) ∧ Below w.heap.size w w') (AC3 : ∀ w : World, Calls Try.prog 25 #[.int .i64 3, .agg #[.int .i64 a, .int .i64 b], .agg #[.int .i64 c, .int .i64 d], .agg #[.int .i64 pMul, .int .i64 qMul], .agg #[.int .i64 cMul, .int .i64 iMul]] w fun e w' => e = .returned (.bool true) ∧ Below w.heap.size w w') (AC4 : ∀ w : World, Calls Try.prog 25 #[.int .i64 4, .agg #[.int .i64 a, .int .i64 b], .agg #[.int .i64 c, .int .i64 d], .agg #[.int .i64 pDiv, .int .i64 qDiv], .agg #[.int .i64 cDiv, .int .i64 iDiv]] w fun e w' => e = .returned (.bool true) ∧ Below w.heap.size w w') (w : World) :
    Calls Try.prog 9 #[.agg #[.int .i64 a, .int .i64 b], .agg #[.int .i64 c, .int .i64 d]] w fun e w' => e = .returned (.bool true) ∧ Below w.heap.size w w' := by
  have bh := bb_no h
  go_enter Try.func9, Try.ntmps9
  go_wp2_with fail
  refine (example_any _).mono ?_
  rintro e w1 ⟨rfl, hB⟩
  have D1 := dstep w hB (by repeat (first | with_reducible exact Below.refl _ _ | with_reducible apply bdrew | with_reducible apply bdrewN | with_reducible apply balloc | ((with_reducible refine bset ?_ ?_ _); rotate_left; (first | omega | (simp <;> omega)))))
  have d1s := D1.size
  obtain ⟨C0, F1⟩ := Cls.first (l := [(w.heap.size, 0, .int .i64 a), (w.heap.size, 1, .int .i64 b), (w.heap.size + 1, 0, .int .i64 c), (w.heap.size + 1, 1, .int .i64 d)]) hB (by simp [Cls, go_sem])
  simp only [Cls, and_true] at F1
  have B1 := hB
  have hs1 := hB.size
  try simp at hs1
  have hb1 := B1.size
  try simp at hb1
  have y1_0_1 : w.heap.size + 1 < w1.heap.size := (by omega)
  have y1_0_0 : w.heap.size < w1.heap.size := (by omega)
  have y1_0_p1 : w.heap.size < w1.heap.size + 1 := (by omega)
  have y1_0_p2 : w.heap.size < w1.heap.size + 1 + 1 := (by omega)
  clear hB
  go_wp2_with fail
  refine (Ac _).mono ?_
  rintro e w2 ⟨rfl, hB⟩
  have D2 := dstep w hB (by repeat (first | with_reducible exact D1 | with_reducible apply bdrew | with_reducible apply bdrewN | with_reducible apply balloc | ((with_reducible refine bset ?_ ?_ _); rotate_left; (first | omega | (simp <;> omega)))))
  have d2s := D2.size
  have B2 := bstep B1 hB (by repeat (first | with_reducible exact B1 | with_reducible apply bdrew | with_reducible apply bdrewN | with_reducible apply balloc | ((with_reducible refine bset ?_ ?_ _); rotate_left; (first | omega | (simp <;> omega)))))
  have F2 := C0.below B2
  simp only [Cls, and_true] at F2
  have hs2 := hB.size
  try simp at hs2
  have y2_0_1 : w.heap.size + 1 < w2.heap.size := (by omega)
  have y2_0_0 : w.heap.size < w2.heap.size := (by omega)
  have y2_0_p1 : w.heap.size < w2.heap.size + 1 := (by omega)
  have y2_0_p2 : w.heap.size < w2.heap.size + 1 + 1 := (by omega)
  clear hB
  go_wp2_with fail
  refine (at_any _ _ _).mono ?_
  rintro e w3 ⟨rfl, hB⟩
  have D3 := dstep w hB (by repeat (first | with_reducible exact D2 | with_reducible apply bdrew | with_reducible apply bdrewN | with_reducible apply balloc | ((with_reducible refine bset ?_ ?_ _); rotate_left; (first | omega | (simp <;> omega)))))
  have d3s := D3.size
  have B3 := bstep B1 hB (by repeat (first | with_reducible exact B2 | with_reducible apply bdrew | with_reducible apply bdrewN | with_reducible apply balloc | ((with_reducible refine bset ?_ ?_ _); rotate_left; (first | omega | (simp <;> omega)))))
  have F3 := C0.below B3
  simp only [Cls, and_true] at F3
  have hs3 := hB.size
  try simp at hs3
  have y3_0_1 : w.heap.size + 1 < w3.heap.size := (by omega)
  have y3_0_0 : w.heap.size < w3.heap.size := (by omega)
  have y3_0_p1 : w.heap.size < w3.heap.size + 1 := (by omega)
  have y3_0_p2 : w.heap.size < w3.heap.size + 1 + 1 := (by omega)
  clear hB
  go_wp2_with fail
  go_region_held3 (fun w' => w'.cell? ⟨w.heap.size, 0, none⟩ = some (.int .i64 a) ∧ w'.cell? ⟨w.heap.size, 1, none⟩ = some (.int .i64 b) ∧ w'.cell? ⟨w3.heap.size, 0, none⟩ = some (.int .i64 0) ∧ w'.cell? ⟨w3.heap.size, 1, none⟩ = some (.int .i64 0)) (first | exact hK | go_keep) (first | (go_at_call 22; refine (Av _).mono ?_; rintro e w4 ⟨rfl, hB⟩; have D4 := dstep w hB (by repeat (first | with_reducible exact D3 | with_reducible apply bdrew | with_reducible apply bdrewN | with_reducible apply balloc | ((with_reducible refine bset ?_ ?_ _); rotate_left; (first | omega | (simp <;> omega))))); have d4s := D4.size; have B4 := bstep B1 hB (by repeat (first | with_reducible exact B3 | with_reducible apply bdrew | with_reducible apply bdrewN | with_reducible apply balloc | ((with_reducible refine bset ?_ ?_ _); rotate_left; (first | omega | (simp <;> omega))))); have F4 := C0.below B4; simp only [Cls, and_true] at F4; have G4 := Cls.below (l := [(w3.heap.size, 0, .int .i64 0), (w3.heap.size, 1, .int .i64 0)]) hB (by simp [Cls, go_sem, F3, y3_0_1, y3_0_0, y3_0_p1, y3_0_p2]); simp only [Cls, and_true] at G4; have hs4 := hB.size; try simp at hs4; have y4_0_1 : w.heap.size + 1 < w4.heap.size := (by omega); have y4_0_0 : w.heap.size < w4.heap.size := (by omega); have y4_0_p1 : w.heap.size < w4.heap.size + 1 := (by omega); have y4_0_p2 : w.heap.size < w4.heap.size + 1 + 1 := (by omega); have y4_3_0 : w3.heap.size < w4.heap.size := (by omega); have y4_3_p1 : w3.heap.size < w4.heap.size + 1 := (by omega); have y4_3_p2 : w3.heap.size < w4.heap.size + 1 + 1 := (by omega); clear hB; have hK : w4.cell? ⟨w.heap.size, 0, none⟩ = some (.int .i64 a) ∧ w4.cell? ⟨w.heap.size, 1, none⟩ = some (.int .i64 b) ∧ w4.cell? ⟨w3.heap.size, 0, none⟩ = some (.int .i64 0) ∧ w4.cell? ⟨w3.heap.size, 1, none⟩ = some (.int .i64 0) := (by simp [F4, G4])))
  go_wp2_with fail
  refine (Af _).mono ?_
  rintro e w5 ⟨rfl, hB⟩
  have D5 := dstep w hB (by repeat (first | with_reducible exact D4 | with_reducible apply bdrew | with_reducible apply bdrewN | with_reducible apply balloc | ((with_reducible refine bset ?_ ?_ _); rotate_left; (first | omega | (simp <;> omega)))))
  have d5s := D5.size
  have B5 := bstep B1 hB (by repeat (first | with_reducible exact B4 | with_reducible apply bdrew | with_reducible apply bdrewN | with_reducible apply balloc | ((with_reducible refine bset ?_ ?_ _); rotate_left; (first | omega | (simp <;> omega)))))
  have F5 := C0.below B5
  simp only [Cls, and_true] at F5
  have G5 := Cls.below (l := [(w3.heap.size, 0, .int .i64 0), (w3.heap.size, 1, .int .i64 0)]) hB (by simp [Cls, go_sem, F4, G4, y4_0_1, y4_0_0, y4_0_p1, y4_0_p2, y4_3_0, y4_3_p1, y4_3_p2])
  simp only [Cls, and_true] at G5
  have hs5 := hB.size
  try simp at hs5
  have y5_0_1 : w.heap.size + 1 < w5.heap.size := (by omega)
  have y5_0_0 : w.heap.size < w5.heap.size := (by omega)
  have y5_0_p1 : w.heap.size < w5.heap.size + 1 := (by omega)
  have y5_0_p2 : w.heap.size < w5.heap.size + 1 + 1 := (by omega)
  have y5_3_0 : w3.heap.size < w5.heap.size := (by omega)
  have y5_3_p1 : w3.heap.size < w5.heap.size + 1 := (by omega)
  have y5_3_p2 : w3.heap.size < w5.heap.size + 1 + 1 := (by omega)
  clear hB
  go_wp2_with fail
  refine (Ab _).mono ?_
  rintro e w6 ⟨rfl, hB⟩
  have D6 := dstep w hB (by repeat (first | with_reducible exact D5 | with_reducible apply bdrew | with_reducible apply bdrewN | with_reducible apply balloc | ((with_reducible refine bset ?_ ?_ _); rotate_left; (first | omega | (simp <;> omega)))))
  have d6s := D6.size
  have B6 := bstep B1 hB (by repeat (first | with_reducible exact B5 | with_reducible apply bdrew | with_reducible apply bdrewN | with_reducible apply balloc | ((with_reducible refine bset ?_ ?_ _); rotate_left; (first | omega | (simp <;> omega)))))
  have F6 := C0.below B6
  simp only [Cls, and_true] at F6
  have G6 := Cls.below (l := [(w3.heap.size, 0, .int .i64 0), (w3.heap.size, 1, .int .i64 0), (w5.heap.size, 0, .int .i64 0), (w5.heap.size, 1, .int .i64 0)]) hB (by simp [Cls, go_sem, F5, G5, y5_0_1, y5_0_0, y5_0_p1, y5_0_p2, y5_3_0, y5_3_p1, y5_3_p2])
  simp only [Cls, and_true] at G6
  have hs6 := hB.size
  try simp at hs6
  have y6_0_1 : w.heap.size + 1 < w6.heap.size := (by omega)
  have y6_0_0 : w.heap.size < w6.heap.size := (by omega)
  have y6_0_p1 : w.heap.size < w6.heap.size + 1 := (by omega)
  have y6_0_p2 : w.heap.size < w6.heap.size + 1 + 1 := (by omega)
  have y6_3_0 : w3.heap.size < w6.heap.size := (by omega)
  have y6_3_p1 : w3.heap.size < w6.heap.size + 1 := (by omega)
  have y6_3_p2 : w3.heap.size < w6.heap.size + 1 + 1 := (by omega)
  have y6_5_0 : w5.heap.size < w6.heap.size := (by omega)
  have y6_5_p1 : w5.heap.size < w6.heap.size + 1 := (by omega)
  have y6_5_p2 : w5.heap.size < w6.heap.size + 1 + 1 := (by omega)
  clear hB
  go_wp2_with fail
  refine (Ad _).mono ?_
  rintro e w7 ⟨rfl, hB⟩
  have D7 := dstep w hB (by repeat (first | with_reducible exact D6 | with_reducible apply bdrew | with_reducible apply bdrewN | with_reducible apply balloc | ((with_reducible refine bset ?_ ?_ _); rotate_left; (first | omega | (simp <;> omega)))))
  have d7s := D7.size
  have B7 := bstep B1 hB (by repeat (first | with_reducible exact B6 | with_reducible apply bdrew | with_reducible apply bdrewN | with_reducible apply balloc | ((with_reducible refine bset ?_ ?_ _); rotate_left; (first | omega | (simp <;> omega)))))
  have F7 := C0.below B7
  simp only [Cls, and_true] at F7
  have G7 := Cls.below (l := [(w3.heap.size, 0, .int .i64 0), (w3.heap.size, 1, .int .i64 0), (w5.heap.size, 0, .int .i64 0), (w5.heap.size, 1, .int .i64 0)]) hB (by simp [Cls, go_sem, F6, G6, y6_0_1, y6_0_0, y6_0_p1, y6_0_p2, y6_3_0, y6_3_p1, y6_3_p2, y6_5_0, y6_5_p1, y6_5_p2])
  simp only [Cls, and_true] at G7
  have hs7 := hB.size
  try simp at hs7
  have y7_0_1 : w.heap.size + 1 < w7.heap.size := (by omega)
  have y7_0_0 : w.heap.size < w7.heap.size := (by omega)
  have y7_0_p1 : w.heap.size < w7.heap.size + 1 := (by omega)
  have y7_0_p2 : w.heap.size < w7.heap.size + 1 + 1 := (by omega)
  have y7_3_0 : w3.heap.size < w7.heap.size := (by omega)
  have y7_3_p1 : w3.heap.size < w7.heap.size + 1 := (by omega)
  have y7_3_p2 : w3.heap.size < w7.heap.size + 1 + 1 := (by omega)
  have y7_5_0 : w5.heap.size < w7.heap.size := (by omega)
  have y7_5_p1 : w5.heap.size < w7.heap.size + 1 := (by omega)
  have y7_5_p2 : w5.heap.size < w7.heap.size + 1 + 1 := (by omega)
  clear hB
  go_wp2_with fail
  refine (AAdd _).mono ?_
  rintro e w8 ⟨rfl, hB⟩
  have D8 := dstep w hB (by repeat (first | with_reducible exact D7 | with_reducible apply bdrew | with_reducible apply bdrewN | with_reducible apply balloc | ((with_reducible refine bset ?_ ?_ _); rotate_left; (first | omega | (simp <;> omega)))))
  have d8s := D8.size
  have B8 := bstep B1 hB (by repeat (first | with_reducible exact B7 | with_reducible apply bdrew | with_reducible apply bdrewN | with_reducible apply balloc | ((with_reducible refine bset ?_ ?_ _); rotate_left; (first | omega | (simp <;> omega)))))
  have F8 := C0.below B8
  simp only [Cls, and_true] at F8
  have G8 := Cls.below (l := [(w3.heap.size, 0, .int .i64 0), (w3.heap.size, 1, .int .i64 0), (w5.heap.size, 0, .int .i64 0), (w5.heap.size, 1, .int .i64 0)]) hB (by simp [Cls, go_sem, F7, G7, y7_0_1, y7_0_0, y7_0_p1, y7_0_p2, y7_3_0, y7_3_p1, y7_3_p2, y7_5_0, y7_5_p1, y7_5_p2])
  simp only [Cls, and_true] at G8
  have hs8 := hB.size
  try simp at hs8
  have y8_0_1 : w.heap.size + 1 < w8.heap.size := (by omega)
  have y8_0_0 : w.heap.size < w8.heap.size := (by omega)
  have y8_0_p1 : w.heap.size < w8.heap.size + 1 := (by omega)
  have y8_0_p2 : w.heap.size < w8.heap.size + 1 + 1 := (by omega)
  have y8_3_0 : w3.heap.size < w8.heap.size := (by omega)
  have y8_3_p1 : w3.heap.size < w8.heap.size + 1 := (by omega)
  have y8_3_p2 : w3.heap.size < w8.heap.size + 1 + 1 := (by omega)
  have y8_5_0 : w5.heap.size < w8.heap.size := (by omega)
  have y8_5_p1 : w5.heap.size < w8.heap.size + 1 := (by omega)
  have y8_5_p2 : w5.heap.size < w8.heap.size + 1 + 1 := (by omega)
  clear hB
  clear AAdd
  go_wp2_with fail
  refine (ASub _).mono ?_
  rintro e w9 ⟨rfl, hB⟩
  have D9 := dstep w hB (by repeat (first | with_reducible exact D8 | with_reducible apply bdrew | with_reducible apply bdrewN | with_reducible apply balloc | ((with_reducible refine bset ?_ ?_ _); rotate_left; (first | omega | (simp <;> omega)))))
  have d9s := D9.size
  have B9 := bstep B1 hB (by repeat (first | with_reducible exact B8 | with_reducible apply bdrew | with_reducible apply bdrewN | with_reducible apply balloc | ((with_reducible refine bset ?_ ?_ _); rotate_left; (first | omega | (simp <;> omega)))))
  have F9 := C0.below B9
  simp only [Cls, and_true] at F9
  have G9 := Cls.below (l := [(w3.heap.size, 0, .int .i64 0), (w3.heap.size, 1, .int .i64 0), (w5.heap.size, 0, .int .i64 0), (w5.heap.size, 1, .int .i64 0), (w8.heap.size, 0, .int .i64 pAdd), (w8.heap.size, 1, .int .i64 qAdd), (w8.heap.size + 1, 0, .int .i64 cAdd), (w8.heap.size + 1, 1, .int .i64 iAdd)]) hB (by simp [Cls, go_sem, F8, G8, y8_0_1, y8_0_0, y8_0_p1, y8_0_p2, y8_3_0, y8_3_p1, y8_3_p2, y8_5_0, y8_5_p1, y8_5_p2])
  simp only [Cls, and_true] at G9
  have hs9 := hB.size
  try simp at hs9
  have y9_0_1 : w.heap.size + 1 < w9.heap.size := (by omega)
  have y9_0_0 : w.heap.size < w9.heap.size := (by omega)
  have y9_0_p1 : w.heap.size < w9.heap.size + 1 := (by omega)
  have y9_0_p2 : w.heap.size < w9.heap.size + 1 + 1 := (by omega)
  have y9_3_0 : w3.heap.size < w9.heap.size := (by omega)
  have y9_3_p1 : w3.heap.size < w9.heap.size + 1 := (by omega)
  have y9_3_p2 : w3.heap.size < w9.heap.size + 1 + 1 := (by omega)
  have y9_5_0 : w5.heap.size < w9.heap.size := (by omega)
  have y9_5_p1 : w5.heap.size < w9.heap.size + 1 := (by omega)
  have y9_5_p2 : w5.heap.size < w9.heap.size + 1 + 1 := (by omega)
  have y9_8_1 : w8.heap.size + 1 < w9.heap.size := (by omega)
  have y9_8_0 : w8.heap.size < w9.heap.size := (by omega)
  have y9_8_p1 : w8.heap.size < w9.heap.size + 1 := (by omega)
  have y9_8_p2 : w8.heap.size < w9.heap.size + 1 + 1 := (by omega)
  clear hB
  clear ASub
  go_wp2_with fail
  refine (AMul _).mono ?_
  rintro e w10 ⟨rfl, hB⟩
  have D10 := dstep w hB (by repeat (first | with_reducible exact D9 | with_reducible apply bdrew | with_reducible apply bdrewN | with_reducible apply balloc | ((with_reducible refine bset ?_ ?_ _); rotate_left; (first | omega | (simp <;> omega)))))
  have d10s := D10.size
  have B10 := bstep B1 hB (by repeat (first | with_reducible exact B9 | with_reducible apply bdrew | with_reducible apply bdrewN | with_reducible apply balloc | ((with_reducible refine bset ?_ ?_ _); rotate_left; (first | omega | (simp <;> omega)))))
  have F10 := C0.below B10
  simp only [Cls, and_true] at F10
  have G10 := Cls.below (l := [(w3.heap.size, 0, .int .i64 0), (w3.heap.size, 1, .int .i64 0), (w5.heap.size, 0, .int .i64 0), (w5.heap.size, 1, .int .i64 0), (w8.heap.size, 0, .int .i64 pAdd), (w8.heap.size, 1, .int .i64 qAdd), (w8.heap.size + 1, 0, .int .i64 cAdd), (w8.heap.size + 1, 1, .int .i64 iAdd), (w9.heap.size, 0, .int .i64 pSub), (w9.heap.size, 1, .int .i64 qSub), (w9.heap.size + 1, 0, .int .i64 cSub), (w9.heap.size + 1, 1, .int .i64 iSub)]) hB (by simp [Cls, go_sem, F9, G9, y9_0_1, y9_0_0, y9_0_p1, y9_0_p2, y9_3_0, y9_3_p1, y9_3_p2, y9_5_0, y9_5_p1, y9_5_p2, y9_8_1, y9_8_0, y9_8_p1, y9_8_p2])
  simp only [Cls, and_true] at G10
  have hs10 := hB.size
  try simp at hs10
  have y10_0_1 : w.heap.size + 1 < w10.heap.size := (by omega)
  have y10_0_0 : w.heap.size < w10.heap.size := (by omega)
  have y10_0_p1 : w.heap.size < w10.heap.size + 1 := (by omega)
  have y10_0_p2 : w.heap.size < w10.heap.size + 1 + 1 := (by omega)
  have y10_3_0 : w3.heap.size < w10.heap.size := (by omega)
  have y10_3_p1 : w3.heap.size < w10.heap.size + 1 := (by omega)
  have y10_3_p2 : w3.heap.size < w10.heap.size + 1 + 1 := (by omega)
  have y10_5_0 : w5.heap.size < w10.heap.size := (by omega)
  have y10_5_p1 : w5.heap.size < w10.heap.size + 1 := (by omega)
  have y10_5_p2 : w5.heap.size < w10.heap.size + 1 + 1 := (by omega)
  have y10_8_1 : w8.heap.size + 1 < w10.heap.size := (by omega)
  have y10_8_0 : w8.heap.size < w10.heap.size := (by omega)
  have y10_8_p1 : w8.heap.size < w10.heap.size + 1 := (by omega)
  have y10_8_p2 : w8.heap.size < w10.heap.size + 1 + 1 := (by omega)
  have y10_9_1 : w9.heap.size + 1 < w10.heap.size := (by omega)
  have y10_9_0 : w9.heap.size < w10.heap.size := (by omega)
  have y10_9_p1 : w9.heap.size < w10.heap.size + 1 := (by omega)
  have y10_9_p2 : w9.heap.size < w10.heap.size + 1 + 1 := (by omega)
  clear hB
  clear AMul
  go_wp2_with fail
  refine (ADiv _).mono ?_
  rintro e w11 ⟨rfl, hB⟩
  have D11 := dstep w hB (by repeat (first | with_reducible exact D10 | with_reducible apply bdrew | with_reducible apply bdrewN | with_reducible apply balloc | ((with_reducible refine bset ?_ ?_ _); rotate_left; (first | omega | (simp <;> omega)))))
  have d11s := D11.size
  have B11 := bstep B1 hB (by repeat (first | with_reducible exact B10 | with_reducible apply bdrew | with_reducible apply bdrewN | with_reducible apply balloc | ((with_reducible refine bset ?_ ?_ _); rotate_left; (first | omega | (simp <;> omega)))))
  have F11 := C0.below B11
  simp only [Cls, and_true] at F11
  have G11 := Cls.below (l := [(w3.heap.size, 0, .int .i64 0), (w3.heap.size, 1, .int .i64 0), (w5.heap.size, 0, .int .i64 0), (w5.heap.size, 1, .int .i64 0), (w8.heap.size, 0, .int .i64 pAdd), (w8.heap.size, 1, .int .i64 qAdd), (w8.heap.size + 1, 0, .int .i64 cAdd), (w8.heap.size + 1, 1, .int .i64 iAdd), (w9.heap.size, 0, .int .i64 pSub), (w9.heap.size, 1, .int .i64 qSub), (w9.heap.size + 1, 0, .int .i64 cSub), (w9.heap.size + 1, 1, .int .i64 iSub), (w10.heap.size, 0, .int .i64 pMul), (w10.heap.size, 1, .int .i64 qMul), (w10.heap.size + 1, 0, .int .i64 cMul), (w10.heap.size + 1, 1, .int .i64 iMul)]) hB (by simp [Cls, go_sem, F10, G10, y10_0_1, y10_0_0, y10_0_p1, y10_0_p2, y10_3_0, y10_3_p1, y10_3_p2, y10_5_0, y10_5_p1, y10_5_p2, y10_8_1, y10_8_0, y10_8_p1, y10_8_p2, y10_9_1, y10_9_0, y10_9_p1, y10_9_p2])
  simp only [Cls, and_true] at G11
  have hs11 := hB.size
  try simp at hs11
  have y11_0_1 : w.heap.size + 1 < w11.heap.size := (by omega)
  have y11_0_0 : w.heap.size < w11.heap.size := (by omega)
  have y11_0_p1 : w.heap.size < w11.heap.size + 1 := (by omega)
  have y11_0_p2 : w.heap.size < w11.heap.size + 1 + 1 := (by omega)
  have y11_3_0 : w3.heap.size < w11.heap.size := (by omega)
  have y11_3_p1 : w3.heap.size < w11.heap.size + 1 := (by omega)
  have y11_3_p2 : w3.heap.size < w11.heap.size + 1 + 1 := (by omega)
  have y11_5_0 : w5.heap.size < w11.heap.size := (by omega)
  have y11_5_p1 : w5.heap.size < w11.heap.size + 1 := (by omega)
  have y11_5_p2 : w5.heap.size < w11.heap.size + 1 + 1 := (by omega)
  have y11_8_1 : w8.heap.size + 1 < w11.heap.size := (by omega)
  have y11_8_0 : w8.heap.size < w11.heap.size := (by omega)
  have y11_8_p1 : w8.heap.size < w11.heap.size + 1 := (by omega)
  have y11_8_p2 : w8.heap.size < w11.heap.size + 1 + 1 := (by omega)
  have y11_9_1 : w9.heap.size + 1 < w11.heap.size := (by omega)
  have y11_9_0 : w9.heap.size < w11.heap.size := (by omega)
  have y11_9_p1 : w9.heap.size < w11.heap.size + 1 := (by omega)
  have y11_9_p2 : w9.heap.size < w11.heap.size + 1 + 1 := (by omega)
  have y11_10_1 : w10.heap.size + 1 < w11.heap.size := (by omega)
  have y11_10_0 : w10.heap.size < w11.heap.size := (by omega)
  have y11_10_p1 : w10.heap.size < w11.heap.size + 1 := (by omega)
  have y11_10_p2 : w10.heap.size < w11.heap.size + 1 + 1 := (by omega)
  clear hB
  clear ADiv
  go_wp2_with fail
  refine (ACmp _).mono ?_
  rintro e w12 ⟨rfl, hB⟩
  have D12 := dstep w hB (by repeat (first | with_reducible exact D11 | with_reducible apply bdrew | with_reducible apply bdrewN | with_reducible apply balloc | ((with_reducible refine bset ?_ ?_ _); rotate_left; (first | omega | (simp <;> omega)))))
  have d12s := D12.size
  have B12 := bstep B1 hB (by repeat (first | with_reducible exact B11 | with_reducible apply bdrew | with_reducible apply bdrewN | with_reducible apply balloc | ((with_reducible refine bset ?_ ?_ _); rotate_left; (first | omega | (simp <;> omega)))))
  have F12 := C0.below B12
  simp only [Cls, and_true] at F12
  have G12 := Cls.below (l := [(w3.heap.size, 0, .int .i64 0), (w3.heap.size, 1, .int .i64 0), (w5.heap.size, 0, .int .i64 0), (w5.heap.size, 1, .int .i64 0), (w8.heap.size, 0, .int .i64 pAdd), (w8.heap.size, 1, .int .i64 qAdd), (w8.heap.size + 1, 0, .int .i64 cAdd), (w8.heap.size + 1, 1, .int .i64 iAdd), (w9.heap.size, 0, .int .i64 pSub), (w9.heap.size, 1, .int .i64 qSub), (w9.heap.size + 1, 0, .int .i64 cSub), (w9.heap.size + 1, 1, .int .i64 iSub), (w10.heap.size, 0, .int .i64 pMul), (w10.heap.size, 1, .int .i64 qMul), (w10.heap.size + 1, 0, .int .i64 cMul), (w10.heap.size + 1, 1, .int .i64 iMul), (w11.heap.size, 0, .int .i64 pDiv), (w11.heap.size, 1, .int .i64 qDiv), (w11.heap.size + 1, 0, .int .i64 cDiv), (w11.heap.size + 1, 1, .int .i64 iDiv)]) hB (by simp [Cls, go_sem, F11, G11, y11_0_1, y11_0_0, y11_0_p1, y11_0_p2, y11_3_0, y11_3_p1, y11_3_p2, y11_5_0, y11_5_p1, y11_5_p2, y11_8_1, y11_8_0, y11_8_p1, y11_8_p2, y11_9_1, y11_9_0, y11_9_p1, y11_9_p2, y11_10_1, y11_10_0, y11_10_p1, y11_10_p2])
  simp only [Cls, and_true] at G12
  have hs12 := hB.size
  try simp at hs12
  have y12_0_1 : w.heap.size + 1 < w12.heap.size := (by omega)
  have y12_0_0 : w.heap.size < w12.heap.size := (by omega)
  have y12_0_p1 : w.heap.size < w12.heap.size + 1 := (by omega)
  have y12_0_p2 : w.heap.size < w12.heap.size + 1 + 1 := (by omega)
  have y12_3_0 : w3.heap.size < w12.heap.size := (by omega)
  have y12_3_p1 : w3.heap.size < w12.heap.size + 1 := (by omega)
  have y12_3_p2 : w3.heap.size < w12.heap.size + 1 + 1 := (by omega)
  have y12_5_0 : w5.heap.size < w12.heap.size := (by omega)
  have y12_5_p1 : w5.heap.size < w12.heap.size + 1 := (by omega)
  have y12_5_p2 : w5.heap.size < w12.heap.size + 1 + 1 := (by omega)
  have y12_8_1 : w8.heap.size + 1 < w12.heap.size := (by omega)
  have y12_8_0 : w8.heap.size < w12.heap.size := (by omega)
  have y12_8_p1 : w8.heap.size < w12.heap.size + 1 := (by omega)
  have y12_8_p2 : w8.heap.size < w12.heap.size + 1 + 1 := (by omega)
  have y12_9_1 : w9.heap.size + 1 < w12.heap.size := (by omega)
  have y12_9_0 : w9.heap.size < w12.heap.size := (by omega)
  have y12_9_p1 : w9.heap.size < w12.heap.size + 1 := (by omega)
  have y12_9_p2 : w9.heap.size < w12.heap.size + 1 + 1 := (by omega)
  have y12_10_1 : w10.heap.size + 1 < w12.heap.size := (by omega)
  have y12_10_0 : w10.heap.size < w12.heap.size := (by omega)
  have y12_10_p1 : w10.heap.size < w12.heap.size + 1 := (by omega)
  have y12_10_p2 : w10.heap.size < w12.heap.size + 1 + 1 := (by omega)
  have y12_11_1 : w11.heap.size + 1 < w12.heap.size := (by omega)
  have y12_11_0 : w11.heap.size < w12.heap.size := (by omega)
  have y12_11_p1 : w11.heap.size < w12.heap.size + 1 := (by omega)
  have y12_11_p2 : w11.heap.size < w12.heap.size + 1 + 1 := (by omega)
  clear hB
  clear ACmp
  go_wp2_with fail
  refine (Ao _).mono ?_
  rintro e w13 ⟨rfl, hB⟩
  have D13 := dstep w hB (by repeat (first | with_reducible exact D12 | with_reducible apply bdrew | with_reducible apply bdrewN | with_reducible apply balloc | ((with_reducible refine bset ?_ ?_ _); rotate_left; (first | omega | (simp <;> omega)))))
  have d13s := D13.size
  have B13 := bstep B1 hB (by repeat (first | with_reducible exact B12 | with_reducible apply bdrew | with_reducible apply bdrewN | with_reducible apply balloc | ((with_reducible refine bset ?_ ?_ _); rotate_left; (first | omega | (simp <;> omega)))))
  have F13 := C0.below B13
  simp only [Cls, and_true] at F13
  have G13 := Cls.below (l := [(w3.heap.size, 0, .int .i64 0), (w3.heap.size, 1, .int .i64 0), (w5.heap.size, 0, .int .i64 0), (w5.heap.size, 1, .int .i64 0), (w8.heap.size, 0, .int .i64 pAdd), (w8.heap.size, 1, .int .i64 qAdd), (w8.heap.size + 1, 0, .int .i64 cAdd), (w8.heap.size + 1, 1, .int .i64 iAdd), (w9.heap.size, 0, .int .i64 pSub), (w9.heap.size, 1, .int .i64 qSub), (w9.heap.size + 1, 0, .int .i64 cSub), (w9.heap.size + 1, 1, .int .i64 iSub), (w10.heap.size, 0, .int .i64 pMul), (w10.heap.size, 1, .int .i64 qMul), (w10.heap.size + 1, 0, .int .i64 cMul), (w10.heap.size + 1, 1, .int .i64 iMul), (w11.heap.size, 0, .int .i64 pDiv), (w11.heap.size, 1, .int .i64 qDiv), (w11.heap.size + 1, 0, .int .i64 cDiv), (w11.heap.size + 1, 1, .int .i64 iDiv), (w12.heap.size, 0, .int .i64 0), (w12.heap.size, 1, .int .i64 0), (w12.heap.size + 1, 0, .int .i64 0), (w12.heap.size + 1, 1, .int .i64 0)]) hB (by simp [Cls, go_sem, F12, G12, y12_0_1, y12_0_0, y12_0_p1, y12_0_p2, y12_3_0, y12_3_p1, y12_3_p2, y12_5_0, y12_5_p1, y12_5_p2, y12_8_1, y12_8_0, y12_8_p1, y12_8_p2, y12_9_1, y12_9_0, y12_9_p1, y12_9_p2, y12_10_1, y12_10_0, y12_10_p1, y12_10_p2, y12_11_1, y12_11_0, y12_11_p1, y12_11_p2])
  simp only [Cls, and_true] at G13
  have hs13 := hB.size
  try simp at hs13
  have y13_0_1 : w.heap.size + 1 < w13.heap.size := (by omega)
  have y13_0_0 : w.heap.size < w13.heap.size := (by omega)
  have y13_0_p1 : w.heap.size < w13.heap.size + 1 := (by omega)
  have y13_0_p2 : w.heap.size < w13.heap.size + 1 + 1 := (by omega)
  have y13_3_0 : w3.heap.size < w13.heap.size := (by omega)
  have y13_3_p1 : w3.heap.size < w13.heap.size + 1 := (by omega)
  have y13_3_p2 : w3.heap.size < w13.heap.size + 1 + 1 := (by omega)
  have y13_5_0 : w5.heap.size < w13.heap.size := (by omega)
  have y13_5_p1 : w5.heap.size < w13.heap.size + 1 := (by omega)
  have y13_5_p2 : w5.heap.size < w13.heap.size + 1 + 1 := (by omega)
  have y13_8_1 : w8.heap.size + 1 < w13.heap.size := (by omega)
  have y13_8_0 : w8.heap.size < w13.heap.size := (by omega)
  have y13_8_p1 : w8.heap.size < w13.heap.size + 1 := (by omega)
  have y13_8_p2 : w8.heap.size < w13.heap.size + 1 + 1 := (by omega)
  have y13_9_1 : w9.heap.size + 1 < w13.heap.size := (by omega)
  have y13_9_0 : w9.heap.size < w13.heap.size := (by omega)
  have y13_9_p1 : w9.heap.size < w13.heap.size + 1 := (by omega)
  have y13_9_p2 : w9.heap.size < w13.heap.size + 1 + 1 := (by omega)
  have y13_10_1 : w10.heap.size + 1 < w13.heap.size := (by omega)
  have y13_10_0 : w10.heap.size < w13.heap.size := (by omega)
  have y13_10_p1 : w10.heap.size < w13.heap.size + 1 := (by omega)
  have y13_10_p2 : w10.heap.size < w13.heap.size + 1 + 1 := (by omega)
  have y13_11_1 : w11.heap.size + 1 < w13.heap.size := (by omega)
  have y13_11_0 : w11.heap.size < w13.heap.size := (by omega)
  have y13_11_p1 : w11.heap.size < w13.heap.size + 1 := (by omega)
  have y13_11_p2 : w11.heap.size < w13.heap.size + 1 + 1 := (by omega)
  have y13_12_1 : w12.heap.size + 1 < w13.heap.size := (by omega)
  have y13_12_0 : w12.heap.size < w13.heap.size := (by omega)
  have y13_12_p1 : w12.heap.size < w13.heap.size + 1 := (by omega)
  have y13_12_p2 : w12.heap.size < w13.heap.size + 1 + 1 := (by omega)
  clear hB
  go_wp2_with fail
  refine (AC1 _).mono ?_
  rintro e w14 ⟨rfl, hB⟩
  have D14 := dstep w hB (by repeat (first | with_reducible exact D13 | with_reducible apply bdrew | with_reducible apply bdrewN | with_reducible apply balloc | ((with_reducible refine bset ?_ ?_ _); rotate_left; (first | omega | (simp <;> omega)))))
  have d14s := D14.size
  have B14 := bstep B1 hB (by repeat (first | with_reducible exact B13 | with_reducible apply bdrew | with_reducible apply bdrewN | with_reducible apply balloc | ((with_reducible refine bset ?_ ?_ _); rotate_left; (first | omega | (simp <;> omega)))))
  have F14 := C0.below B14
  simp only [Cls, and_true] at F14
  have G14 := Cls.below (l := [(w3.heap.size, 0, .int .i64 0), (w3.heap.size, 1, .int .i64 0), (w5.heap.size, 0, .int .i64 0), (w5.heap.size, 1, .int .i64 0), (w8.heap.size, 0, .int .i64 pAdd), (w8.heap.size, 1, .int .i64 qAdd), (w8.heap.size + 1, 0, .int .i64 cAdd), (w8.heap.size + 1, 1, .int .i64 iAdd), (w9.heap.size, 0, .int .i64 pSub), (w9.heap.size, 1, .int .i64 qSub), (w9.heap.size + 1, 0, .int .i64 cSub), (w9.heap.size + 1, 1, .int .i64 iSub), (w10.heap.size, 0, .int .i64 pMul), (w10.heap.size, 1, .int .i64 qMul), (w10.heap.size + 1, 0, .int .i64 cMul), (w10.heap.size + 1, 1, .int .i64 iMul), (w11.heap.size, 0, .int .i64 pDiv), (w11.heap.size, 1, .int .i64 qDiv), (w11.heap.size + 1, 0, .int .i64 cDiv), (w11.heap.size + 1, 1, .int .i64 iDiv), (w12.heap.size, 0, .int .i64 0), (w12.heap.size, 1, .int .i64 0), (w12.heap.size + 1, 0, .int .i64 0), (w12.heap.size + 1, 1, .int .i64 0)]) hB (by simp [Cls, go_sem, F13, G13, y13_0_1, y13_0_0, y13_0_p1, y13_0_p2, y13_3_0, y13_3_p1, y13_3_p2, y13_5_0, y13_5_p1, y13_5_p2, y13_8_1, y13_8_0, y13_8_p1, y13_8_p2, y13_9_1, y13_9_0, y13_9_p1, y13_9_p2, y13_10_1, y13_10_0, y13_10_p1, y13_10_p2, y13_11_1, y13_11_0, y13_11_p1, y13_11_p2, y13_12_1, y13_12_0, y13_12_p1, y13_12_p2])
  simp only [Cls, and_true] at G14
  have hs14 := hB.size
  try simp at hs14
  have y14_0_1 : w.heap.size + 1 < w14.heap.size := (by omega)
  have y14_0_0 : w.heap.size < w14.heap.size := (by omega)
  have y14_0_p1 : w.heap.size < w14.heap.size + 1 := (by omega)
  have y14_0_p2 : w.heap.size < w14.heap.size + 1 + 1 := (by omega)
  have y14_3_0 : w3.heap.size < w14.heap.size := (by omega)
  have y14_3_p1 : w3.heap.size < w14.heap.size + 1 := (by omega)
  have y14_3_p2 : w3.heap.size < w14.heap.size + 1 + 1 := (by omega)
  have y14_5_0 : w5.heap.size < w14.heap.size := (by omega)
  have y14_5_p1 : w5.heap.size < w14.heap.size + 1 := (by omega)
  have y14_5_p2 : w5.heap.size < w14.heap.size + 1 + 1 := (by omega)
  have y14_8_1 : w8.heap.size + 1 < w14.heap.size := (by omega)
  have y14_8_0 : w8.heap.size < w14.heap.size := (by omega)
  have y14_8_p1 : w8.heap.size < w14.heap.size + 1 := (by omega)
  have y14_8_p2 : w8.heap.size < w14.heap.size + 1 + 1 := (by omega)
  have y14_9_1 : w9.heap.size + 1 < w14.heap.size := (by omega)
  have y14_9_0 : w9.heap.size < w14.heap.size := (by omega)
  have y14_9_p1 : w9.heap.size < w14.heap.size + 1 := (by omega)
  have y14_9_p2 : w9.heap.size < w14.heap.size + 1 + 1 := (by omega)
  have y14_10_1 : w10.heap.size + 1 < w14.heap.size := (by omega)
  have y14_10_0 : w10.heap.size < w14.heap.size := (by omega)
  have y14_10_p1 : w10.heap.size < w14.heap.size + 1 := (by omega)
  have y14_10_p2 : w10.heap.size < w14.heap.size + 1 + 1 := (by omega)
  have y14_11_1 : w11.heap.size + 1 < w14.heap.size := (by omega)
  have y14_11_0 : w11.heap.size < w14.heap.size := (by omega)
  have y14_11_p1 : w11.heap.size < w14.heap.size + 1 := (by omega)
  have y14_11_p2 : w11.heap.size < w14.heap.size + 1 + 1 := (by omega)
  have y14_12_1 : w12.heap.size + 1 < w14.heap.size := (by omega)
  have y14_12_0 : w12.heap.size < w14.heap.size := (by omega)
  have y14_12_p1 : w12.heap.size < w14.heap.size + 1 := (by omega)
  have y14_12_p2 : w12.heap.size < w14.heap.size + 1 + 1 := (by omega)
  clear hB
  go_wp2_with fail
  refine (AC2 _).mono ?_
  rintro e w15 ⟨rfl, hB⟩
  have D15 := dstep w hB (by repeat (first | with_reducible exact D14 | with_reducible apply bdrew | with_reducible apply bdrewN | with_reducible apply balloc | ((with_reducible refine bset ?_ ?_ _); rotate_left; (first | omega | (simp <;> omega)))))
  have d15s := D15.size
  have B15 := bstep B1 hB (by repeat (first | with_reducible exact B14 | with_reducible apply bdrew | with_reducible apply bdrewN | with_reducible apply balloc | ((with_reducible refine bset ?_ ?_ _); rotate_left; (first | omega | (simp <;> omega)))))
  have F15 := C0.below B15
  simp only [Cls, and_true] at F15
  have G15 := Cls.below (l := [(w3.heap.size, 0, .int .i64 0), (w3.heap.size, 1, .int .i64 0), (w5.heap.size, 0, .int .i64 0), (w5.heap.size, 1, .int .i64 0), (w8.heap.size, 0, .int .i64 pAdd), (w8.heap.size, 1, .int .i64 qAdd), (w8.heap.size + 1, 0, .int .i64 cAdd), (w8.heap.size + 1, 1, .int .i64 iAdd), (w9.heap.size, 0, .int .i64 pSub), (w9.heap.size, 1, .int .i64 qSub), (w9.heap.size + 1, 0, .int .i64 cSub), (w9.heap.size + 1, 1, .int .i64 iSub), (w10.heap.size, 0, .int .i64 pMul), (w10.heap.size, 1, .int .i64 qMul), (w10.heap.size + 1, 0, .int .i64 cMul), (w10.heap.size + 1, 1, .int .i64 iMul), (w11.heap.size, 0, .int .i64 pDiv), (w11.heap.size, 1, .int .i64 qDiv), (w11.heap.size + 1, 0, .int .i64 cDiv), (w11.heap.size + 1, 1, .int .i64 iDiv), (w12.heap.size, 0, .int .i64 0), (w12.heap.size, 1, .int .i64 0), (w12.heap.size + 1, 0, .int .i64 0), (w12.heap.size + 1, 1, .int .i64 0)]) hB (by simp [Cls, go_sem, F14, G14, y14_0_1, y14_0_0, y14_0_p1, y14_0_p2, y14_3_0, y14_3_p1, y14_3_p2, y14_5_0, y14_5_p1, y14_5_p2, y14_8_1, y14_8_0, y14_8_p1, y14_8_p2, y14_9_1, y14_9_0, y14_9_p1, y14_9_p2, y14_10_1, y14_10_0, y14_10_p1, y14_10_p2, y14_11_1, y14_11_0, y14_11_p1, y14_11_p2, y14_12_1, y14_12_0, y14_12_p1, y14_12_p2])
  simp only [Cls, and_true] at G15
  have hs15 := hB.size
  try simp at hs15
  have y15_0_1 : w.heap.size + 1 < w15.heap.size := (by omega)
  have y15_0_0 : w.heap.size < w15.heap.size := (by omega)
  have y15_0_p1 : w.heap.size < w15.heap.size + 1 := (by omega)
  have y15_0_p2 : w.heap.size < w15.heap.size + 1 + 1 := (by omega)
  have y15_3_0 : w3.heap.size < w15.heap.size := (by omega)
  have y15_3_p1 : w3.heap.size < w15.heap.size + 1 := (by omega)
  have y15_3_p2 : w3.heap.size < w15.heap.size + 1 + 1 := (by omega)
  have y15_5_0 : w5.heap.size < w15.heap.size := (by omega)
  have y15_5_p1 : w5.heap.size < w15.heap.size + 1 := (by omega)
  have y15_5_p2 : w5.heap.size < w15.heap.size + 1 + 1 := (by omega)
  have y15_8_1 : w8.heap.size + 1 < w15.heap.size := (by omega)
  have y15_8_0 : w8.heap.size < w15.heap.size := (by omega)
  have y15_8_p1 : w8.heap.size < w15.heap.size + 1 := (by omega)
  have y15_8_p2 : w8.heap.size < w15.heap.size + 1 + 1 := (by omega)
  have y15_9_1 : w9.heap.size + 1 < w15.heap.size := (by omega)
  have y15_9_0 : w9.heap.size < w15.heap.size := (by omega)
  have y15_9_p1 : w9.heap.size < w15.heap.size + 1 := (by omega)
  have y15_9_p2 : w9.heap.size < w15.heap.size + 1 + 1 := (by omega)
  have y15_10_1 : w10.heap.size + 1 < w15.heap.size := (by omega)
  have y15_10_0 : w10.heap.size < w15.heap.size := (by omega)
  have y15_10_p1 : w10.heap.size < w15.heap.size + 1 := (by omega)
  have y15_10_p2 : w10.heap.size < w15.heap.size + 1 + 1 := (by omega)
  have y15_11_1 : w11.heap.size + 1 < w15.heap.size := (by omega)
  have y15_11_0 : w11.heap.size < w15.heap.size := (by omega)
  have y15_11_p1 : w11.heap.size < w15.heap.size + 1 := (by omega)
  have y15_11_p2 : w11.heap.size < w15.heap.size + 1 + 1 := (by omega)
  have y15_12_1 : w12.heap.size + 1 < w15.heap.size := (by omega)
  have y15_12_0 : w12.heap.size < w15.heap.size := (by omega)
  have y15_12_p1 : w12.heap.size < w15.heap.size + 1 := (by omega)
  have y15_12_p2 : w12.heap.size < w15.heap.size + 1 + 1 := (by omega)
  clear hB
  go_wp2_with fail
  refine (AC3 _).mono ?_
  rintro e w16 ⟨rfl, hB⟩
  have D16 := dstep w hB (by repeat (first | with_reducible exact D15 | with_reducible apply bdrew | with_reducible apply bdrewN | with_reducible apply balloc | ((with_reducible refine bset ?_ ?_ _); rotate_left; (first | omega | (simp <;> omega)))))
  have d16s := D16.size
  have B16 := bstep B1 hB (by repeat (first | with_reducible exact B15 | with_reducible apply bdrew | with_reducible apply bdrewN | with_reducible apply balloc | ((with_reducible refine bset ?_ ?_ _); rotate_left; (first | omega | (simp <;> omega)))))
  have F16 := C0.below B16
  simp only [Cls, and_true] at F16
  have G16 := Cls.below (l := [(w3.heap.size, 0, .int .i64 0), (w3.heap.size, 1, .int .i64 0), (w5.heap.size, 0, .int .i64 0), (w5.heap.size, 1, .int .i64 0), (w8.heap.size, 0, .int .i64 pAdd), (w8.heap.size, 1, .int .i64 qAdd), (w8.heap.size + 1, 0, .int .i64 cAdd), (w8.heap.size + 1, 1, .int .i64 iAdd), (w9.heap.size, 0, .int .i64 pSub), (w9.heap.size, 1, .int .i64 qSub), (w9.heap.size + 1, 0, .int .i64 cSub), (w9.heap.size + 1, 1, .int .i64 iSub), (w10.heap.size, 0, .int .i64 pMul), (w10.heap.size, 1, .int .i64 qMul), (w10.heap.size + 1, 0, .int .i64 cMul), (w10.heap.size + 1, 1, .int .i64 iMul), (w11.heap.size, 0, .int .i64 pDiv), (w11.heap.size, 1, .int .i64 qDiv), (w11.heap.size + 1, 0, .int .i64 cDiv), (w11.heap.size + 1, 1, .int .i64 iDiv), (w12.heap.size, 0, .int .i64 0), (w12.heap.size, 1, .int .i64 0), (w12.heap.size + 1, 0, .int .i64 0), (w12.heap.size + 1, 1, .int .i64 0)]) hB (by simp [Cls, go_sem, F15, G15, y15_0_1, y15_0_0, y15_0_p1, y15_0_p2, y15_3_0, y15_3_p1, y15_3_p2, y15_5_0, y15_5_p1, y15_5_p2, y15_8_1, y15_8_0, y15_8_p1, y15_8_p2, y15_9_1, y15_9_0, y15_9_p1, y15_9_p2, y15_10_1, y15_10_0, y15_10_p1, y15_10_p2, y15_11_1, y15_11_0, y15_11_p1, y15_11_p2, y15_12_1, y15_12_0, y15_12_p1, y15_12_p2])
  simp only [Cls, and_true] at G16
  have hs16 := hB.size
  try simp at hs16
  have y16_0_1 : w.heap.size + 1 < w16.heap.size := (by omega)
  have y16_0_0 : w.heap.size < w16.heap.size := (by omega)
  have y16_0_p1 : w.heap.size < w16.heap.size + 1 := (by omega)
  have y16_0_p2 : w.heap.size < w16.heap.size + 1 + 1 := (by omega)
  have y16_3_0 : w3.heap.size < w16.heap.size := (by omega)
  have y16_3_p1 : w3.heap.size < w16.heap.size + 1 := (by omega)
  have y16_3_p2 : w3.heap.size < w16.heap.size + 1 + 1 := (by omega)
  have y16_5_0 : w5.heap.size < w16.heap.size := (by omega)
  have y16_5_p1 : w5.heap.size < w16.heap.size + 1 := (by omega)
  have y16_5_p2 : w5.heap.size < w16.heap.size + 1 + 1 := (by omega)
  have y16_8_1 : w8.heap.size + 1 < w16.heap.size := (by omega)
  have y16_8_0 : w8.heap.size < w16.heap.size := (by omega)
  have y16_8_p1 : w8.heap.size < w16.heap.size + 1 := (by omega)
  have y16_8_p2 : w8.heap.size < w16.heap.size + 1 + 1 := (by omega)
  have y16_9_1 : w9.heap.size + 1 < w16.heap.size := (by omega)
  have y16_9_0 : w9.heap.size < w16.heap.size := (by omega)
  have y16_9_p1 : w9.heap.size < w16.heap.size + 1 := (by omega)
  have y16_9_p2 : w9.heap.size < w16.heap.size + 1 + 1 := (by omega)
  have y16_10_1 : w10.heap.size + 1 < w16.heap.size := (by omega)
  have y16_10_0 : w10.heap.size < w16.heap.size := (by omega)
  have y16_10_p1 : w10.heap.size < w16.heap.size + 1 := (by omega)
  have y16_10_p2 : w10.heap.size < w16.heap.size + 1 + 1 := (by omega)
  have y16_11_1 : w11.heap.size + 1 < w16.heap.size := (by omega)
  have y16_11_0 : w11.heap.size < w16.heap.size := (by omega)
  have y16_11_p1 : w11.heap.size < w16.heap.size + 1 := (by omega)
  have y16_11_p2 : w11.heap.size < w16.heap.size + 1 + 1 := (by omega)
  have y16_12_1 : w12.heap.size + 1 < w16.heap.size := (by omega)
  have y16_12_0 : w12.heap.size < w16.heap.size := (by omega)
  have y16_12_p1 : w12.heap.size < w16.heap.size + 1 := (by omega)
  have y16_12_p2 : w12.heap.size < w16.heap.size + 1 + 1 := (by omega)
  clear hB
  go_wp2_with fail
  refine (AC4 _).mono ?_
  rintro e w17 ⟨rfl, hB⟩
  have D17 := dstep w hB (by repeat (first | with_reducible exact D16 | with_reducible apply bdrew | with_reducible apply bdrewN | with_reducible apply balloc | ((with_reducible refine bset ?_ ?_ _); rotate_left; (first | omega | (simp <;> omega)))))
  have d17s := D17.size
  have B17 := bstep B1 hB (by repeat (first | with_reducible exact B16 | with_reducible apply bdrew | with_reducible apply bdrewN | with_reducible apply balloc | ((with_reducible refine bset ?_ ?_ _); rotate_left; (first | omega | (simp <;> omega)))))
  have F17 := C0.below B17
  simp only [Cls, and_true] at F17
  have G17 := Cls.below (l := [(w3.heap.size, 0, .int .i64 0), (w3.heap.size, 1, .int .i64 0), (w5.heap.size, 0, .int .i64 0), (w5.heap.size, 1, .int .i64 0), (w8.heap.size, 0, .int .i64 pAdd), (w8.heap.size, 1, .int .i64 qAdd), (w8.heap.size + 1, 0, .int .i64 cAdd), (w8.heap.size + 1, 1, .int .i64 iAdd), (w9.heap.size, 0, .int .i64 pSub), (w9.heap.size, 1, .int .i64 qSub), (w9.heap.size + 1, 0, .int .i64 cSub), (w9.heap.size + 1, 1, .int .i64 iSub), (w10.heap.size, 0, .int .i64 pMul), (w10.heap.size, 1, .int .i64 qMul), (w10.heap.size + 1, 0, .int .i64 cMul), (w10.heap.size + 1, 1, .int .i64 iMul), (w11.heap.size, 0, .int .i64 pDiv), (w11.heap.size, 1, .int .i64 qDiv), (w11.heap.size + 1, 0, .int .i64 cDiv), (w11.heap.size + 1, 1, .int .i64 iDiv), (w12.heap.size, 0, .int .i64 0), (w12.heap.size, 1, .int .i64 0), (w12.heap.size + 1, 0, .int .i64 0), (w12.heap.size + 1, 1, .int .i64 0)]) hB (by simp [Cls, go_sem, F16, G16, y16_0_1, y16_0_0, y16_0_p1, y16_0_p2, y16_3_0, y16_3_p1, y16_3_p2, y16_5_0, y16_5_p1, y16_5_p2, y16_8_1, y16_8_0, y16_8_p1, y16_8_p2, y16_9_1, y16_9_0, y16_9_p1, y16_9_p2, y16_10_1, y16_10_0, y16_10_p1, y16_10_p2, y16_11_1, y16_11_0, y16_11_p1, y16_11_p2, y16_12_1, y16_12_0, y16_12_p1, y16_12_p2])
  simp only [Cls, and_true] at G17
  have hs17 := hB.size
  try simp at hs17
  have y17_0_1 : w.heap.size + 1 < w17.heap.size := (by omega)
  have y17_0_0 : w.heap.size < w17.heap.size := (by omega)
  have y17_0_p1 : w.heap.size < w17.heap.size + 1 := (by omega)
  have y17_0_p2 : w.heap.size < w17.heap.size + 1 + 1 := (by omega)
  have y17_3_0 : w3.heap.size < w17.heap.size := (by omega)
  have y17_3_p1 : w3.heap.size < w17.heap.size + 1 := (by omega)
  have y17_3_p2 : w3.heap.size < w17.heap.size + 1 + 1 := (by omega)
  have y17_5_0 : w5.heap.size < w17.heap.size := (by omega)
  have y17_5_p1 : w5.heap.size < w17.heap.size + 1 := (by omega)
  have y17_5_p2 : w5.heap.size < w17.heap.size + 1 + 1 := (by omega)
  have y17_8_1 : w8.heap.size + 1 < w17.heap.size := (by omega)
  have y17_8_0 : w8.heap.size < w17.heap.size := (by omega)
  have y17_8_p1 : w8.heap.size < w17.heap.size + 1 := (by omega)
  have y17_8_p2 : w8.heap.size < w17.heap.size + 1 + 1 := (by omega)
  have y17_9_1 : w9.heap.size + 1 < w17.heap.size := (by omega)
  have y17_9_0 : w9.heap.size < w17.heap.size := (by omega)
  have y17_9_p1 : w9.heap.size < w17.heap.size + 1 := (by omega)
  have y17_9_p2 : w9.heap.size < w17.heap.size + 1 + 1 := (by omega)
  have y17_10_1 : w10.heap.size + 1 < w17.heap.size := (by omega)
  have y17_10_0 : w10.heap.size < w17.heap.size := (by omega)
  have y17_10_p1 : w10.heap.size < w17.heap.size + 1 := (by omega)
  have y17_10_p2 : w10.heap.size < w17.heap.size + 1 + 1 := (by omega)
  have y17_11_1 : w11.heap.size + 1 < w17.heap.size := (by omega)
  have y17_11_0 : w11.heap.size < w17.heap.size := (by omega)
  have y17_11_p1 : w11.heap.size < w17.heap.size + 1 := (by omega)
  have y17_11_p2 : w11.heap.size < w17.heap.size + 1 + 1 := (by omega)
  have y17_12_1 : w12.heap.size + 1 < w17.heap.size := (by omega)
  have y17_12_0 : w12.heap.size < w17.heap.size := (by omega)
  have y17_12_p1 : w12.heap.size < w17.heap.size + 1 := (by omega)
  have y17_12_p2 : w12.heap.size < w17.heap.size + 1 + 1 := (by omega)
  clear hB
  go_wp2
  go_ret
  exact ⟨rfl, by repeat (first | with_reducible exact D17 | with_reducible apply bdrew | with_reducible apply bdrewN | with_reducible apply balloc | ((with_reducible refine bset ?_ ?_ _); rotate_left; (first | omega | (simp <;> omega))))⟩


theorem g_bad {k : Int} (j n m : Int) (h : ¬ k = 0) : gn k n m = 0 ∧ gd k n m = 0 ∧ gc k n m = k ∧ gi k j n m = j := by
  unfold gn gd gc gi
  exact ⟨if_neg h, if_neg h, if_neg h, if_neg h⟩
theorem g_good (j n m : Int) : gn 0 n m = rn n m ∧ gd 0 n m = rd n m ∧ gc 0 n m = rc n m ∧ gi 0 j n m = ri n m := by
  unfold gn gd gc gi
  exact ⟨if_pos rfl, if_pos rfl, if_pos rfl, if_pos rfl⟩
theorem walk_arith (a b c d : Int) (w : World) :
    Calls Try.prog 9 #[.agg #[.int .i64 a, .int .i64 b], .agg #[.int .i64 c, .int .i64 d]] w fun e w' => e = .returned (.bool true) ∧ Below w.heap.size w w' := by
  have A1 := add_any a b c d
  have A2 := sub_any a b c d
  have A3 := mul_any a b c d
  have A4 := div_any a b c d
  have A5 := compare_any a b c d
  have Ac := fcode_any a b
  have Av := validate_any a b
  by_cases h : vcode a b = 0
  · have Af := floor_ok a b h
    have Ab := bottom_any a b h
    have Ad := fcode_any c d
    rw [h] at Ac Av
    by_cases h2 : vcode c d = 0
    · obtain ⟨e1, e2⟩ := bc_mk h h2
      rw [h2] at Ad
      have hk : sk a b c d = sg (a * d) (c * b) := by unfold sk; rw [if_pos e1]
      have Ao := order_any a b c d h h2
      have z1 : b * d ≠ 0 := bd_ne h h2
      have C1 := calced 1 a b c d _ _ z1 (calc1 a b c d h h2)
      have C2 := calced 2 a b c d _ _ z1 (calc2 a b c d h h2)
      have C3 := calced 3 a b c d _ _ z1 (calc3 a b c d h h2)
      rw [e1, e2] at A1 A2 A3
      obtain ⟨x1, x2, x3, x4⟩ := g_good 0 (a * d + c * b) (b * d)
      rw [x1, x2, x3, x4] at A1
      obtain ⟨x1, x2, x3, x4⟩ := g_good 0 (a * d - c * b) (b * d)
      rw [x1, x2, x3, x4] at A2
      obtain ⟨x1, x2, x3, x4⟩ := g_good 0 (a * c) (b * d)
      rw [x1, x2, x3, x4] at A3
      rw [e1, e2, hk] at A5
      by_cases hc : c = 0
      · subst hc
        have A4 := div_zero a b d e1
        exact walk_arith_zero a b d _ _ _ _ _ _ _ _ _ _ _ _ _ _ Ac Av Af Ab Ad A1 A2 A3 A4 A5 Ao C1 C2 C3 w
      · have z2 : b * c ≠ 0 := Int.mul_ne_zero (den_ne h) hc
        have C4 := calced 4 a b c d _ _ z2 (calc4 a b c d h h2 hc)
        have A4 := div_ok a b c d e1 hc
        exact walk_arith_all a b c d _ _ _ _ _ _ _ _ _ _ _ _ _ _ _ _ _ _ hc Ac Av Af Ab Ad A1 A2 A3 A4 A5 Ao C1 C2 C3 C4 w
    · have e1 : bc a b c d = vcode c d := by unfold bc; rw [if_pos h]
      have e2 : bi a b c d = 1 := by unfold bi; rw [if_pos h, if_neg h2]
      have hn : ¬ bc a b c d = 0 := by rw [e1]; exact h2
      have hk : sk a b c d = 0 := by unfold sk; rw [if_neg hn]
      have k1 : dk a b c d = vcode c d := by unfold dk; rw [if_neg hn, e1]
      have k2 : dj a b c d = 1 := by unfold dj; rw [if_neg hn, e2]
      rw [e1, e2] at A1 A2 A3 A5
      rw [k1, k2] at A4
      rw [hk] at A5
      obtain ⟨x1, x2, x3, x4⟩ := g_bad 1 (a * d + c * b) (b * d) h2
      rw [x1, x2, x3, x4] at A1
      obtain ⟨x1, x2, x3, x4⟩ := g_bad 1 (a * d - c * b) (b * d) h2
      rw [x1, x2, x3, x4] at A2
      obtain ⟨x1, x2, x3, x4⟩ := g_bad 1 (a * c) (b * d) h2
      rw [x1, x2, x3, x4] at A3
      obtain ⟨x1, x2, x3, x4⟩ := g_bad 1 (a * d) (b * c) h2
      rw [x1, x2, x3, x4] at A4
      exact walk_arith_y a b c d _ _ h2 Ac Av Af Ab Ad A1 A2 A3 A4 A5 w
  · have Af := floor_bad a b h
    have e1 : bc a b c d = vcode a b := by unfold bc; rw [if_neg h]
    have e2 : bi a b c d = 0 := by unfold bi; rw [if_neg h]
    have hn : ¬ bc a b c d = 0 := by rw [e1]; exact h
    have hk : sk a b c d = 0 := by unfold sk; rw [if_neg hn]
    have k1 : dk a b c d = vcode a b := by unfold dk; rw [if_neg hn, e1]
    have k2 : dj a b c d = 0 := by unfold dj; rw [if_neg hn, e2]
    rw [e1, e2] at A1 A2 A3 A5
    rw [k1, k2] at A4
    rw [hk] at A5
    obtain ⟨x1, x2, x3, x4⟩ := g_bad 0 (a * d + c * b) (b * d) h
    rw [x1, x2, x3, x4] at A1
    obtain ⟨x1, x2, x3, x4⟩ := g_bad 0 (a * d - c * b) (b * d) h
    rw [x1, x2, x3, x4] at A2
    obtain ⟨x1, x2, x3, x4⟩ := g_bad 0 (a * c) (b * d) h
    rw [x1, x2, x3, x4] at A3
    obtain ⟨x1, x2, x3, x4⟩ := g_bad 0 (a * d) (b * c) h
    rw [x1, x2, x3, x4] at A4
    exact walk_arith_x a b c d _ h Ac Av Af A1 A2 A3 A4 A5 w

namespace fractionArithmeticMatchesSpec
open Go.ChangeShapes Go.WideShapes Go.ChangeAt Go.RowKit

set_option maxRecDepth 100000 in
theorem lifted (os : Os) (started : os.Started) (H : Type) (enc : TypeId × Value → H) :
    ReturnsInHanded {} Try.checked os 9 .any (Rows.fractionArithmeticMatchesSpecSpec.pre6 enc Try.prog Try.f9 Rows.fractionArithmeticMatchesSpecRow.domain false) (Rows.fractionArithmeticMatchesSpecSpec.post enc Try.prog Try.f9 false true false false) := by
  refine returnsInHanded_of_change (C := Try.checked) own_knob started (by kernel_rfl) Try.func9
    (ChangeSpec.witness6 (enc := enc) (C := Try.checked) false ⟨#[], #[.agg #[.int .i64 0, .int .i64 0], .agg #[.int .i64 0, .int .i64 0]], []⟩ 8 (by kernel_rfl) (by kernel_rfl) (by kernel_rfl) (by kernel_rfl)) ?_
  intro W base args ds gs before hval0 hW _ hsz
  have hval : ∀ (j : Nat) t v, Try.f9.params[j]? = some t → args[j]? = some v → Value.okWide Try.prog W .any base t v := hval0
  have hpost := fun (W' : World) (hfn : gs = [] → Rows.fractionArithmeticMatchesSpecSpec.fn H (ds ++ gs) = { results := [.lit (.bool true)], args := ds }) (hb : Below W.heap.size W W') => law_post (f := Try.f9) (tb := 4) laid_out_B Try.underlying4 rfl (by kernel_rfl) rfl hfn hW hb
  obtain ⟨p, q, hA0, hV, hpq, hfz, hnd⟩ := hW
  have hA : DataW.TrodAll enc Try.prog W 0 (fun _ => true) true Try.f9.params.toList args.toList ds p := hA0
  rw [Try.params9] at hA hval
  obtain ⟨v0, vs0, d0, ds0, p0, q0, hargs, rfl, hp0, h0, r0⟩ := trodAll_cons hA
  obtain ⟨v1, vs1, d1, ds1, p1, q1, rfl, rfl, hp1, h1, r1⟩ := trodAll_cons r0
  obtain ⟨rfl, rfl, hpn⟩ := trodAll_nil r1
  obtain rfl : args = #[v0, v1] := by cases args; simp_all
  obtain ⟨c0, e0, y0, x0, m0, rfl, rfl, rfl, hy0, hx0⟩ := Go.Joins.open_agg2 Try.underlying24 (by kernel_rfl) cells_fraction (hval 0 24 v0 rfl rfl) h0
  obtain ⟨a0, ea0, rfl, wa0⟩ := DataW.trod_int Try.underlying3 hy0
  obtain ⟨b0, eb0, rfl, wb0⟩ := DataW.trod_int Try.underlying3 hx0
  simp at ea0 eb0
  subst ea0 eb0
  obtain ⟨c1, e1, y1, x1, m1, rfl, rfl, rfl, hy1, hx1⟩ := Go.Joins.open_agg2 Try.underlying24 (by kernel_rfl) cells_fraction (hval 1 24 v1 rfl rfl) h1
  obtain ⟨a1, ea1, rfl, wa1⟩ := DataW.trod_int Try.underlying3 hy1
  obtain ⟨b1, eb1, rfl, wb1⟩ := DataW.trod_int Try.underlying3 hx1
  simp at ea1 eb1
  subst ea1 eb1
  refine (walk_arith a0 b0 a1 b1 W).mono fun e W' ⟨he, hb⟩ => ?_
  subst he
  exact ⟨_, rfl, hpost W' (fun hg => by subst hg; rfl) hb⟩

theorem proved : Rows.FractionArithmeticMatchesSpecSaid :=
  OpenClaim.holds_of_wide 9 Try.f9 rfl rfl rfl rfl rfl rfl rfl ⟨rfl, rfl, rfl, rfl, rfl⟩ rfl rfl rfl rfl rfl (by kernel_rfl) Try.func9 (by kernel_rfl)
    (of_decide_eq_true (by kernel_rfl)) (by unfold Func.isWrapper; first | (rw [if_pos (by decide +kernel)]; kernel_rfl) | (rw [if_neg (by decide +kernel)]; exact ⟨rfl, rfl⟩))
    (fun os started H enc _ => lifted os started H enc)
#print axioms proved
end fractionArithmeticMatchesSpec

end Go.Proofs.Ytmlgaofbifejaaa
