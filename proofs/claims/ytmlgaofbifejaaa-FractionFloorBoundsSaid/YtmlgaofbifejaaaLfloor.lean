/-
  FractionFloorBounds returns true: the floor is at most the number, and the next integer is greater.
-/
import Derived.Test.YtmlgaofbifejaaaFany
import Derived.Test.YtmlgaofbifejaaaFfact
import Derived.Test.YtmlgaofbifejaaaFcmp
import Derived.Test.YtmlgaofbifejaaaBlaw
import Derived.ProofKit
import Derived.OpenShut
import Derived.Lib.SmallJoins
namespace Go.Proofs.Ytmlgaofbifejaaa
open Go.RowKit
set_option linter.unusedVariables false
set_option linter.unusedSimpArgs false

set_option maxHeartbeats 1000000 in
theorem walk_floor_bad (n d c i : Int) (h : ¬ c = 0) (A1 : ∀ w : World, Calls Try.prog 20 #[.agg #[.int .i64 n, .int .i64 d]] w fun e w' => e = .returned (.tuple #[.int .i64 (0), .agg #[.int .i64 c, .int .i64 i]]) ∧ Below w.heap.size w w') (w : World) :
    Calls Try.prog 8 #[.agg #[.int .i64 n, .int .i64 d]] w fun e w' => e = .returned (.bool true) ∧ Below w.heap.size w w' := by
  have b := bn_yes h
  go_enter Try.func8, Try.ntmps8
  go_wp2_with fail
  refine (example_any _).mono ?_
  rintro e w1 ⟨rfl, hB⟩
  have D1 := dstep w hB (by repeat (first | with_reducible exact Below.refl _ _ | with_reducible apply bdrew | with_reducible apply bdrewN | with_reducible apply balloc | ((with_reducible refine bset ?_ ?_ _); rotate_left; (first | omega | (simp <;> omega)))))
  have d1s := D1.size
  obtain ⟨C0, F1⟩ := Cls.first (l := [(w.heap.size, 0, .int .i64 n), (w.heap.size, 1, .int .i64 d)]) hB (by simp [Cls, go_sem])
  simp only [Cls, and_true] at F1
  have B1 := hB
  have hs1 := hB.size
  try simp at hs1
  have hb1 := B1.size
  try simp at hb1
  have y1_0_0 : w.heap.size < w1.heap.size := (by omega)
  have y1_0_p1 : w.heap.size < w1.heap.size + 1 := (by omega)
  have y1_0_p2 : w.heap.size < w1.heap.size + 1 + 1 := (by omega)
  clear hB
  go_wp2_with fail
  refine (A1 _).mono ?_
  rintro e w2 ⟨rfl, hB⟩
  have D2 := dstep w hB (by repeat (first | with_reducible exact D1 | with_reducible apply bdrew | with_reducible apply bdrewN | with_reducible apply balloc | ((with_reducible refine bset ?_ ?_ _); rotate_left; (first | omega | (simp <;> omega)))))
  have d2s := D2.size
  have B2 := bstep B1 hB (by repeat (first | with_reducible exact B1 | with_reducible apply bdrew | with_reducible apply bdrewN | with_reducible apply balloc | ((with_reducible refine bset ?_ ?_ _); rotate_left; (first | omega | (simp <;> omega)))))
  have F2 := C0.below B2
  simp only [Cls, and_true] at F2
  have hs2 := hB.size
  try simp at hs2
  have y2_0_0 : w.heap.size < w2.heap.size := (by omega)
  have y2_0_p1 : w.heap.size < w2.heap.size + 1 := (by omega)
  have y2_0_p2 : w.heap.size < w2.heap.size + 1 + 1 := (by omega)
  clear hB
  clear A1
  go_wp2
  go_ret
  exact ⟨rfl, by repeat (first | with_reducible exact D2 | with_reducible apply bdrew | with_reducible apply bdrewN | with_reducible apply balloc | ((with_reducible refine bset ?_ ?_ _); rotate_left; (first | omega | (simp <;> omega))))⟩

set_option maxHeartbeats 1000000 in
theorem walk_floor_0 (n d k s p q i t j : Int) (k1 : -1000000000 ≤ k) (k2 : k ≤ 1000000000) (hs : s ≤ 0) (ht : t < 0) (A1 : ∀ w : World, Calls Try.prog 20 #[.agg #[.int .i64 n, .int .i64 d]] w fun e w' => e = .returned (.tuple #[.int .i64 (k), .agg #[.int .i64 0, .int .i64 0]]) ∧ Below w.heap.size w w') (A2 : ∀ w : World, Calls Try.prog 11 #[.int .i64 k, .int .i64 1] w fun e w' => e = .returned (.tuple #[.agg #[.int .i64 k, .int .i64 1], .agg #[.int .i64 0, .int .i64 0]]) ∧ Below w.heap.size w w') (A3 : ∀ w : World, Calls Try.prog 19 #[.agg #[.int .i64 k, .int .i64 1], .agg #[.int .i64 n, .int .i64 d]] w fun e w' => e = .returned (.tuple #[.int .i64 (s), .agg #[.int .i64 0, .int .i64 0]]) ∧ Below w.heap.size w w') (A4 : ∀ w : World, Calls Try.prog 11 #[.int .i64 (k + 1), .int .i64 1] w fun e w' => e = .returned (.tuple #[.agg #[.int .i64 p, .int .i64 q], .agg #[.int .i64 0, .int .i64 i]]) ∧ Below w.heap.size w w') (A5 : ∀ w : World, Calls Try.prog 19 #[.agg #[.int .i64 n, .int .i64 d], .agg #[.int .i64 p, .int .i64 q]] w fun e w' => e = .returned (.tuple #[.int .i64 (t), .agg #[.int .i64 0, .int .i64 j]]) ∧ Below w.heap.size w w') (w : World) :
    Calls Try.prog 8 #[.agg #[.int .i64 n, .int .i64 d]] w fun e w' => e = .returned (.bool true) ∧ Below w.heap.size w w' := by
  go_enter Try.func8, Try.ntmps8
  go_wp2_with fail
  refine (example_any _).mono ?_
  rintro e w1 ⟨rfl, hB⟩
  have D1 := dstep w hB (by repeat (first | with_reducible exact Below.refl _ _ | with_reducible apply bdrew | with_reducible apply bdrewN | with_reducible apply balloc | ((with_reducible refine bset ?_ ?_ _); rotate_left; (first | omega | (simp <;> omega)))))
  have d1s := D1.size
  obtain ⟨C0, F1⟩ := Cls.first (l := [(w.heap.size, 0, .int .i64 n), (w.heap.size, 1, .int .i64 d)]) hB (by simp [Cls, go_sem])
  simp only [Cls, and_true] at F1
  have B1 := hB
  have hs1 := hB.size
  try simp at hs1
  have hb1 := B1.size
  try simp at hb1
  have y1_0_0 : w.heap.size < w1.heap.size := (by omega)
  have y1_0_p1 : w.heap.size < w1.heap.size + 1 := (by omega)
  have y1_0_p2 : w.heap.size < w1.heap.size + 1 + 1 := (by omega)
  clear hB
  go_wp2_with fail
  refine (A1 _).mono ?_
  rintro e w2 ⟨rfl, hB⟩
  have D2 := dstep w hB (by repeat (first | with_reducible exact D1 | with_reducible apply bdrew | with_reducible apply bdrewN | with_reducible apply balloc | ((with_reducible refine bset ?_ ?_ _); rotate_left; (first | omega | (simp <;> omega)))))
  have d2s := D2.size
  have B2 := bstep B1 hB (by repeat (first | with_reducible exact B1 | with_reducible apply bdrew | with_reducible apply bdrewN | with_reducible apply balloc | ((with_reducible refine bset ?_ ?_ _); rotate_left; (first | omega | (simp <;> omega)))))
  have F2 := C0.below B2
  simp only [Cls, and_true] at F2
  have hs2 := hB.size
  try simp at hs2
  have y2_0_0 : w.heap.size < w2.heap.size := (by omega)
  have y2_0_p1 : w.heap.size < w2.heap.size + 1 := (by omega)
  have y2_0_p2 : w.heap.size < w2.heap.size + 1 + 1 := (by omega)
  clear hB
  clear A1
  go_wp2_with fail
  refine (A2 _).mono ?_
  rintro e w3 ⟨rfl, hB⟩
  have D3 := dstep w hB (by repeat (first | with_reducible exact D2 | with_reducible apply bdrew | with_reducible apply bdrewN | with_reducible apply balloc | ((with_reducible refine bset ?_ ?_ _); rotate_left; (first | omega | (simp <;> omega)))))
  have d3s := D3.size
  have B3 := bstep B1 hB (by repeat (first | with_reducible exact B2 | with_reducible apply bdrew | with_reducible apply bdrewN | with_reducible apply balloc | ((with_reducible refine bset ?_ ?_ _); rotate_left; (first | omega | (simp <;> omega)))))
  have F3 := C0.below B3
  simp only [Cls, and_true] at F3
  have G3 := Cls.below (l := [(w2.heap.size, 0, .int .i64 0), (w2.heap.size, 1, .int .i64 0)]) hB (by simp [Cls, go_sem, F2, y2_0_0, y2_0_p1, y2_0_p2])
  simp only [Cls, and_true] at G3
  have hs3 := hB.size
  try simp at hs3
  have y3_0_0 : w.heap.size < w3.heap.size := (by omega)
  have y3_0_p1 : w.heap.size < w3.heap.size + 1 := (by omega)
  have y3_0_p2 : w.heap.size < w3.heap.size + 1 + 1 := (by omega)
  have y3_2_0 : w2.heap.size < w3.heap.size := (by omega)
  have y3_2_p1 : w2.heap.size < w3.heap.size + 1 := (by omega)
  have y3_2_p2 : w2.heap.size < w3.heap.size + 1 + 1 := (by omega)
  clear hB
  clear A2
  go_wp2_with fail
  refine (A3 _).mono ?_
  rintro e w4 ⟨rfl, hB⟩
  have D4 := dstep w hB (by repeat (first | with_reducible exact D3 | with_reducible apply bdrew | with_reducible apply bdrewN | with_reducible apply balloc | ((with_reducible refine bset ?_ ?_ _); rotate_left; (first | omega | (simp <;> omega)))))
  have d4s := D4.size
  have B4 := bstep B1 hB (by repeat (first | with_reducible exact B3 | with_reducible apply bdrew | with_reducible apply bdrewN | with_reducible apply balloc | ((with_reducible refine bset ?_ ?_ _); rotate_left; (first | omega | (simp <;> omega)))))
  have F4 := C0.below B4
  simp only [Cls, and_true] at F4
  have G4 := Cls.below (l := [(w2.heap.size, 0, .int .i64 0), (w2.heap.size, 1, .int .i64 0), (w3.heap.size, 0, .int .i64 k), (w3.heap.size, 1, .int .i64 1), (w3.heap.size + 1, 0, .int .i64 0), (w3.heap.size + 1, 1, .int .i64 0)]) hB (by simp [Cls, go_sem, F3, G3, y3_0_0, y3_0_p1, y3_0_p2, y3_2_0, y3_2_p1, y3_2_p2])
  simp only [Cls, and_true] at G4
  have hs4 := hB.size
  try simp at hs4
  have y4_0_0 : w.heap.size < w4.heap.size := (by omega)
  have y4_0_p1 : w.heap.size < w4.heap.size + 1 := (by omega)
  have y4_0_p2 : w.heap.size < w4.heap.size + 1 + 1 := (by omega)
  have y4_2_0 : w2.heap.size < w4.heap.size := (by omega)
  have y4_2_p1 : w2.heap.size < w4.heap.size + 1 := (by omega)
  have y4_2_p2 : w2.heap.size < w4.heap.size + 1 + 1 := (by omega)
  have y4_3_1 : w3.heap.size + 1 < w4.heap.size := (by omega)
  have y4_3_0 : w3.heap.size < w4.heap.size := (by omega)
  have y4_3_p1 : w3.heap.size < w4.heap.size + 1 := (by omega)
  have y4_3_p2 : w3.heap.size < w4.heap.size + 1 + 1 := (by omega)
  clear hB
  clear A3
  go_wp2_with fail
  refine (A4 _).mono ?_
  rintro e w5 ⟨rfl, hB⟩
  have D5 := dstep w hB (by repeat (first | with_reducible exact D4 | with_reducible apply bdrew | with_reducible apply bdrewN | with_reducible apply balloc | ((with_reducible refine bset ?_ ?_ _); rotate_left; (first | omega | (simp <;> omega)))))
  have d5s := D5.size
  have B5 := bstep B1 hB (by repeat (first | with_reducible exact B4 | with_reducible apply bdrew | with_reducible apply bdrewN | with_reducible apply balloc | ((with_reducible refine bset ?_ ?_ _); rotate_left; (first | omega | (simp <;> omega)))))
  have F5 := C0.below B5
  simp only [Cls, and_true] at F5
  have G5 := Cls.below (l := [(w2.heap.size, 0, .int .i64 0), (w2.heap.size, 1, .int .i64 0), (w3.heap.size, 0, .int .i64 k), (w3.heap.size, 1, .int .i64 1), (w3.heap.size + 1, 0, .int .i64 0), (w3.heap.size + 1, 1, .int .i64 0), (w4.heap.size, 0, .int .i64 0), (w4.heap.size, 1, .int .i64 0)]) hB (by simp [Cls, go_sem, F4, G4, y4_0_0, y4_0_p1, y4_0_p2, y4_2_0, y4_2_p1, y4_2_p2, y4_3_1, y4_3_0, y4_3_p1, y4_3_p2])
  simp only [Cls, and_true] at G5
  have hs5 := hB.size
  try simp at hs5
  have y5_0_0 : w.heap.size < w5.heap.size := (by omega)
  have y5_0_p1 : w.heap.size < w5.heap.size + 1 := (by omega)
  have y5_0_p2 : w.heap.size < w5.heap.size + 1 + 1 := (by omega)
  have y5_2_0 : w2.heap.size < w5.heap.size := (by omega)
  have y5_2_p1 : w2.heap.size < w5.heap.size + 1 := (by omega)
  have y5_2_p2 : w2.heap.size < w5.heap.size + 1 + 1 := (by omega)
  have y5_3_1 : w3.heap.size + 1 < w5.heap.size := (by omega)
  have y5_3_0 : w3.heap.size < w5.heap.size := (by omega)
  have y5_3_p1 : w3.heap.size < w5.heap.size + 1 := (by omega)
  have y5_3_p2 : w3.heap.size < w5.heap.size + 1 + 1 := (by omega)
  have y5_4_0 : w4.heap.size < w5.heap.size := (by omega)
  have y5_4_p1 : w4.heap.size < w5.heap.size + 1 := (by omega)
  have y5_4_p2 : w4.heap.size < w5.heap.size + 1 + 1 := (by omega)
  clear hB
  clear A4
  go_wp2_with fail
  refine (A5 _).mono ?_
  rintro e w6 ⟨rfl, hB⟩
  have D6 := dstep w hB (by repeat (first | with_reducible exact D5 | with_reducible apply bdrew | with_reducible apply bdrewN | with_reducible apply balloc | ((with_reducible refine bset ?_ ?_ _); rotate_left; (first | omega | (simp <;> omega)))))
  have d6s := D6.size
  have B6 := bstep B1 hB (by repeat (first | with_reducible exact B5 | with_reducible apply bdrew | with_reducible apply bdrewN | with_reducible apply balloc | ((with_reducible refine bset ?_ ?_ _); rotate_left; (first | omega | (simp <;> omega)))))
  have F6 := C0.below B6
  simp only [Cls, and_true] at F6
  have G6 := Cls.below (l := [(w2.heap.size, 0, .int .i64 0), (w2.heap.size, 1, .int .i64 0), (w3.heap.size, 0, .int .i64 k), (w3.heap.size, 1, .int .i64 1), (w3.heap.size + 1, 0, .int .i64 0), (w3.heap.size + 1, 1, .int .i64 0), (w4.heap.size, 0, .int .i64 0), (w4.heap.size, 1, .int .i64 0), (w5.heap.size, 0, .int .i64 p), (w5.heap.size, 1, .int .i64 q), (w5.heap.size + 1, 0, .int .i64 0), (w5.heap.size + 1, 1, .int .i64 i)]) hB (by simp [Cls, go_sem, F5, G5, y5_0_0, y5_0_p1, y5_0_p2, y5_2_0, y5_2_p1, y5_2_p2, y5_3_1, y5_3_0, y5_3_p1, y5_3_p2, y5_4_0, y5_4_p1, y5_4_p2])
  simp only [Cls, and_true] at G6
  have hs6 := hB.size
  try simp at hs6
  have y6_0_0 : w.heap.size < w6.heap.size := (by omega)
  have y6_0_p1 : w.heap.size < w6.heap.size + 1 := (by omega)
  have y6_0_p2 : w.heap.size < w6.heap.size + 1 + 1 := (by omega)
  have y6_2_0 : w2.heap.size < w6.heap.size := (by omega)
  have y6_2_p1 : w2.heap.size < w6.heap.size + 1 := (by omega)
  have y6_2_p2 : w2.heap.size < w6.heap.size + 1 + 1 := (by omega)
  have y6_3_1 : w3.heap.size + 1 < w6.heap.size := (by omega)
  have y6_3_0 : w3.heap.size < w6.heap.size := (by omega)
  have y6_3_p1 : w3.heap.size < w6.heap.size + 1 := (by omega)
  have y6_3_p2 : w3.heap.size < w6.heap.size + 1 + 1 := (by omega)
  have y6_4_0 : w4.heap.size < w6.heap.size := (by omega)
  have y6_4_p1 : w4.heap.size < w6.heap.size + 1 := (by omega)
  have y6_4_p2 : w4.heap.size < w6.heap.size + 1 + 1 := (by omega)
  have y6_5_1 : w5.heap.size + 1 < w6.heap.size := (by omega)
  have y6_5_0 : w5.heap.size < w6.heap.size := (by omega)
  have y6_5_p1 : w5.heap.size < w6.heap.size + 1 := (by omega)
  have y6_5_p2 : w5.heap.size < w6.heap.size + 1 + 1 := (by omega)
  clear hB
  clear A5
  go_wp2
  go_ret
  exact ⟨rfl, by repeat (first | with_reducible exact D6 | with_reducible apply bdrew | with_reducible apply bdrewN | with_reducible apply balloc | ((with_reducible refine bset ?_ ?_ _); rotate_left; (first | omega | (simp <;> omega))))⟩

set_option maxHeartbeats 1000000 in
theorem walk_floor_1 (n d k s p q c i t u j : Int) (k1 : -1000000000 ≤ k) (k2 : k ≤ 1000000000) (hs : s ≤ 0) (hc : ¬ c = 0) (A1 : ∀ w : World, Calls Try.prog 20 #[.agg #[.int .i64 n, .int .i64 d]] w fun e w' => e = .returned (.tuple #[.int .i64 (k), .agg #[.int .i64 0, .int .i64 0]]) ∧ Below w.heap.size w w') (A2 : ∀ w : World, Calls Try.prog 11 #[.int .i64 k, .int .i64 1] w fun e w' => e = .returned (.tuple #[.agg #[.int .i64 k, .int .i64 1], .agg #[.int .i64 0, .int .i64 0]]) ∧ Below w.heap.size w w') (A3 : ∀ w : World, Calls Try.prog 19 #[.agg #[.int .i64 k, .int .i64 1], .agg #[.int .i64 n, .int .i64 d]] w fun e w' => e = .returned (.tuple #[.int .i64 (s), .agg #[.int .i64 0, .int .i64 0]]) ∧ Below w.heap.size w w') (A4 : ∀ w : World, Calls Try.prog 11 #[.int .i64 (k + 1), .int .i64 1] w fun e w' => e = .returned (.tuple #[.agg #[.int .i64 p, .int .i64 q], .agg #[.int .i64 c, .int .i64 i]]) ∧ Below w.heap.size w w') (A5 : ∀ w : World, Calls Try.prog 19 #[.agg #[.int .i64 n, .int .i64 d], .agg #[.int .i64 p, .int .i64 q]] w fun e w' => e = .returned (.tuple #[.int .i64 (t), .agg #[.int .i64 u, .int .i64 j]]) ∧ Below w.heap.size w w') (w : World) :
    Calls Try.prog 8 #[.agg #[.int .i64 n, .int .i64 d]] w fun e w' => e = .returned (.bool true) ∧ Below w.heap.size w w' := by
  have b := bn_yes hc
  go_enter Try.func8, Try.ntmps8
  go_wp2_with fail
  refine (example_any _).mono ?_
  rintro e w1 ⟨rfl, hB⟩
  have D1 := dstep w hB (by repeat (first | with_reducible exact Below.refl _ _ | with_reducible apply bdrew | with_reducible apply bdrewN | with_reducible apply balloc | ((with_reducible refine bset ?_ ?_ _); rotate_left; (first | omega | (simp <;> omega)))))
  have d1s := D1.size
  obtain ⟨C0, F1⟩ := Cls.first (l := [(w.heap.size, 0, .int .i64 n), (w.heap.size, 1, .int .i64 d)]) hB (by simp [Cls, go_sem])
  simp only [Cls, and_true] at F1
  have B1 := hB
  have hs1 := hB.size
  try simp at hs1
  have hb1 := B1.size
  try simp at hb1
  have y1_0_0 : w.heap.size < w1.heap.size := (by omega)
  have y1_0_p1 : w.heap.size < w1.heap.size + 1 := (by omega)
  have y1_0_p2 : w.heap.size < w1.heap.size + 1 + 1 := (by omega)
  clear hB
  go_wp2_with fail
  refine (A1 _).mono ?_
  rintro e w2 ⟨rfl, hB⟩
  have D2 := dstep w hB (by repeat (first | with_reducible exact D1 | with_reducible apply bdrew | with_reducible apply bdrewN | with_reducible apply balloc | ((with_reducible refine bset ?_ ?_ _); rotate_left; (first | omega | (simp <;> omega)))))
  have d2s := D2.size
  have B2 := bstep B1 hB (by repeat (first | with_reducible exact B1 | with_reducible apply bdrew | with_reducible apply bdrewN | with_reducible apply balloc | ((with_reducible refine bset ?_ ?_ _); rotate_left; (first | omega | (simp <;> omega)))))
  have F2 := C0.below B2
  simp only [Cls, and_true] at F2
  have hs2 := hB.size
  try simp at hs2
  have y2_0_0 : w.heap.size < w2.heap.size := (by omega)
  have y2_0_p1 : w.heap.size < w2.heap.size + 1 := (by omega)
  have y2_0_p2 : w.heap.size < w2.heap.size + 1 + 1 := (by omega)
  clear hB
  clear A1
  go_wp2_with fail
  refine (A2 _).mono ?_
  rintro e w3 ⟨rfl, hB⟩
  have D3 := dstep w hB (by repeat (first | with_reducible exact D2 | with_reducible apply bdrew | with_reducible apply bdrewN | with_reducible apply balloc | ((with_reducible refine bset ?_ ?_ _); rotate_left; (first | omega | (simp <;> omega)))))
  have d3s := D3.size
  have B3 := bstep B1 hB (by repeat (first | with_reducible exact B2 | with_reducible apply bdrew | with_reducible apply bdrewN | with_reducible apply balloc | ((with_reducible refine bset ?_ ?_ _); rotate_left; (first | omega | (simp <;> omega)))))
  have F3 := C0.below B3
  simp only [Cls, and_true] at F3
  have G3 := Cls.below (l := [(w2.heap.size, 0, .int .i64 0), (w2.heap.size, 1, .int .i64 0)]) hB (by simp [Cls, go_sem, F2, y2_0_0, y2_0_p1, y2_0_p2])
  simp only [Cls, and_true] at G3
  have hs3 := hB.size
  try simp at hs3
  have y3_0_0 : w.heap.size < w3.heap.size := (by omega)
  have y3_0_p1 : w.heap.size < w3.heap.size + 1 := (by omega)
  have y3_0_p2 : w.heap.size < w3.heap.size + 1 + 1 := (by omega)
  have y3_2_0 : w2.heap.size < w3.heap.size := (by omega)
  have y3_2_p1 : w2.heap.size < w3.heap.size + 1 := (by omega)
  have y3_2_p2 : w2.heap.size < w3.heap.size + 1 + 1 := (by omega)
  clear hB
  clear A2
  go_wp2_with fail
  refine (A3 _).mono ?_
  rintro e w4 ⟨rfl, hB⟩
  have D4 := dstep w hB (by repeat (first | with_reducible exact D3 | with_reducible apply bdrew | with_reducible apply bdrewN | with_reducible apply balloc | ((with_reducible refine bset ?_ ?_ _); rotate_left; (first | omega | (simp <;> omega)))))
  have d4s := D4.size
  have B4 := bstep B1 hB (by repeat (first | with_reducible exact B3 | with_reducible apply bdrew | with_reducible apply bdrewN | with_reducible apply balloc | ((with_reducible refine bset ?_ ?_ _); rotate_left; (first | omega | (simp <;> omega)))))
  have F4 := C0.below B4
  simp only [Cls, and_true] at F4
  have G4 := Cls.below (l := [(w2.heap.size, 0, .int .i64 0), (w2.heap.size, 1, .int .i64 0), (w3.heap.size, 0, .int .i64 k), (w3.heap.size, 1, .int .i64 1), (w3.heap.size + 1, 0, .int .i64 0), (w3.heap.size + 1, 1, .int .i64 0)]) hB (by simp [Cls, go_sem, F3, G3, y3_0_0, y3_0_p1, y3_0_p2, y3_2_0, y3_2_p1, y3_2_p2])
  simp only [Cls, and_true] at G4
  have hs4 := hB.size
  try simp at hs4
  have y4_0_0 : w.heap.size < w4.heap.size := (by omega)
  have y4_0_p1 : w.heap.size < w4.heap.size + 1 := (by omega)
  have y4_0_p2 : w.heap.size < w4.heap.size + 1 + 1 := (by omega)
  have y4_2_0 : w2.heap.size < w4.heap.size := (by omega)
  have y4_2_p1 : w2.heap.size < w4.heap.size + 1 := (by omega)
  have y4_2_p2 : w2.heap.size < w4.heap.size + 1 + 1 := (by omega)
  have y4_3_1 : w3.heap.size + 1 < w4.heap.size := (by omega)
  have y4_3_0 : w3.heap.size < w4.heap.size := (by omega)
  have y4_3_p1 : w3.heap.size < w4.heap.size + 1 := (by omega)
  have y4_3_p2 : w3.heap.size < w4.heap.size + 1 + 1 := (by omega)
  clear hB
  clear A3
  go_wp2_with fail
  refine (A4 _).mono ?_
  rintro e w5 ⟨rfl, hB⟩
  have D5 := dstep w hB (by repeat (first | with_reducible exact D4 | with_reducible apply bdrew | with_reducible apply bdrewN | with_reducible apply balloc | ((with_reducible refine bset ?_ ?_ _); rotate_left; (first | omega | (simp <;> omega)))))
  have d5s := D5.size
  have B5 := bstep B1 hB (by repeat (first | with_reducible exact B4 | with_reducible apply bdrew | with_reducible apply bdrewN | with_reducible apply balloc | ((with_reducible refine bset ?_ ?_ _); rotate_left; (first | omega | (simp <;> omega)))))
  have F5 := C0.below B5
  simp only [Cls, and_true] at F5
  have G5 := Cls.below (l := [(w2.heap.size, 0, .int .i64 0), (w2.heap.size, 1, .int .i64 0), (w3.heap.size, 0, .int .i64 k), (w3.heap.size, 1, .int .i64 1), (w3.heap.size + 1, 0, .int .i64 0), (w3.heap.size + 1, 1, .int .i64 0), (w4.heap.size, 0, .int .i64 0), (w4.heap.size, 1, .int .i64 0)]) hB (by simp [Cls, go_sem, F4, G4, y4_0_0, y4_0_p1, y4_0_p2, y4_2_0, y4_2_p1, y4_2_p2, y4_3_1, y4_3_0, y4_3_p1, y4_3_p2])
  simp only [Cls, and_true] at G5
  have hs5 := hB.size
  try simp at hs5
  have y5_0_0 : w.heap.size < w5.heap.size := (by omega)
  have y5_0_p1 : w.heap.size < w5.heap.size + 1 := (by omega)
  have y5_0_p2 : w.heap.size < w5.heap.size + 1 + 1 := (by omega)
  have y5_2_0 : w2.heap.size < w5.heap.size := (by omega)
  have y5_2_p1 : w2.heap.size < w5.heap.size + 1 := (by omega)
  have y5_2_p2 : w2.heap.size < w5.heap.size + 1 + 1 := (by omega)
  have y5_3_1 : w3.heap.size + 1 < w5.heap.size := (by omega)
  have y5_3_0 : w3.heap.size < w5.heap.size := (by omega)
  have y5_3_p1 : w3.heap.size < w5.heap.size + 1 := (by omega)
  have y5_3_p2 : w3.heap.size < w5.heap.size + 1 + 1 := (by omega)
  have y5_4_0 : w4.heap.size < w5.heap.size := (by omega)
  have y5_4_p1 : w4.heap.size < w5.heap.size + 1 := (by omega)
  have y5_4_p2 : w4.heap.size < w5.heap.size + 1 + 1 := (by omega)
  clear hB
  clear A4
  go_wp2_with fail
  refine (A5 _).mono ?_
  rintro e w6 ⟨rfl, hB⟩
  have D6 := dstep w hB (by repeat (first | with_reducible exact D5 | with_reducible apply bdrew | with_reducible apply bdrewN | with_reducible apply balloc | ((with_reducible refine bset ?_ ?_ _); rotate_left; (first | omega | (simp <;> omega)))))
  have d6s := D6.size
  have B6 := bstep B1 hB (by repeat (first | with_reducible exact B5 | with_reducible apply bdrew | with_reducible apply bdrewN | with_reducible apply balloc | ((with_reducible refine bset ?_ ?_ _); rotate_left; (first | omega | (simp <;> omega)))))
  have F6 := C0.below B6
  simp only [Cls, and_true] at F6
  have G6 := Cls.below (l := [(w2.heap.size, 0, .int .i64 0), (w2.heap.size, 1, .int .i64 0), (w3.heap.size, 0, .int .i64 k), (w3.heap.size, 1, .int .i64 1), (w3.heap.size + 1, 0, .int .i64 0), (w3.heap.size + 1, 1, .int .i64 0), (w4.heap.size, 0, .int .i64 0), (w4.heap.size, 1, .int .i64 0), (w5.heap.size, 0, .int .i64 p), (w5.heap.size, 1, .int .i64 q), (w5.heap.size + 1, 0, .int .i64 c), (w5.heap.size + 1, 1, .int .i64 i)]) hB (by simp [Cls, go_sem, F5, G5, y5_0_0, y5_0_p1, y5_0_p2, y5_2_0, y5_2_p1, y5_2_p2, y5_3_1, y5_3_0, y5_3_p1, y5_3_p2, y5_4_0, y5_4_p1, y5_4_p2])
  simp only [Cls, and_true] at G6
  have hs6 := hB.size
  try simp at hs6
  have y6_0_0 : w.heap.size < w6.heap.size := (by omega)
  have y6_0_p1 : w.heap.size < w6.heap.size + 1 := (by omega)
  have y6_0_p2 : w.heap.size < w6.heap.size + 1 + 1 := (by omega)
  have y6_2_0 : w2.heap.size < w6.heap.size := (by omega)
  have y6_2_p1 : w2.heap.size < w6.heap.size + 1 := (by omega)
  have y6_2_p2 : w2.heap.size < w6.heap.size + 1 + 1 := (by omega)
  have y6_3_1 : w3.heap.size + 1 < w6.heap.size := (by omega)
  have y6_3_0 : w3.heap.size < w6.heap.size := (by omega)
  have y6_3_p1 : w3.heap.size < w6.heap.size + 1 := (by omega)
  have y6_3_p2 : w3.heap.size < w6.heap.size + 1 + 1 := (by omega)
  have y6_4_0 : w4.heap.size < w6.heap.size := (by omega)
  have y6_4_p1 : w4.heap.size < w6.heap.size + 1 := (by omega)
  have y6_4_p2 : w4.heap.size < w6.heap.size + 1 + 1 := (by omega)
  have y6_5_1 : w5.heap.size + 1 < w6.heap.size := (by omega)
  have y6_5_0 : w5.heap.size < w6.heap.size := (by omega)
  have y6_5_p1 : w5.heap.size < w6.heap.size + 1 := (by omega)
  have y6_5_p2 : w5.heap.size < w6.heap.size + 1 + 1 := (by omega)
  clear hB
  clear A5
  go_wp2
  go_ret
  exact ⟨rfl, by repeat (first | with_reducible exact D6 | with_reducible apply bdrew | with_reducible apply bdrewN | with_reducible apply balloc | ((with_reducible refine bset ?_ ?_ _); rotate_left; (first | omega | (simp <;> omega))))⟩


theorem floor_facts {n d : Int} (h : vcode n d = 0) : -1000000000 ≤ n / d ∧ n / d ≤ 1000000000 ∧ n / d * d ≤ n ∧ n < (n / d + 1) * d := by
  obtain ⟨v1, v2, v3, v4, _⟩ := vcode_zero h
  have h1 := Int.ediv_mul_le n (show d ≠ 0 by omega)
  have h2 := Int.lt_ediv_add_one_mul_self n (show 0 < d by omega)
  refine ⟨?_, ?_, h1, h2⟩
  · refine Int.le_ediv_of_mul_le (by omega) ?_
    omega
  · have := Int.ediv_le_ediv (show 0 < d by omega) v2
    have h3 : (1000000000 : Int) / d ≤ 1000000000 := Int.ediv_le_self d (by omega)
    omega
theorem whole_q (k : Int) : qn k 1 = k ∧ qd k 1 = 1 := by
  obtain ⟨e1, e2⟩ := q_uniq (n := k) (d := 1) (p := k) (q := 1) (by decide) (by decide) (by simp) rfl
  exact ⟨e1.symm, e2.symm⟩
theorem whole_make {k : Int} (h1 : -1000000000 ≤ k) (h2 : k ≤ 1000000000) : mc k 1 = 0 ∧ mi k 1 = 0 ∧ mn k 1 = k ∧ md k 1 = 1 ∧ vcode k 1 = 0 := by
  obtain ⟨e1, e2⟩ := whole_q k
  obtain ⟨a1, a2, a3, a4⟩ := mc_ok (n := k) (d := 1) (by unfold mo1; omega) (by unfold mo2; omega) (by unfold qfit; rw [e1, e2]; omega)
  exact ⟨a1, a2, a3.trans e1, a4.trans e2, vcode_one (by omega) (by simp)⟩
theorem walk_floor (n d : Int) (w : World) :
    Calls Try.prog 8 #[.agg #[.int .i64 n, .int .i64 d]] w fun e w' => e = .returned (.bool true) ∧ Below w.heap.size w w' := by
  by_cases h : vcode n d = 0
  · obtain ⟨k1, k2, k3, k4⟩ := floor_facts h
    obtain ⟨m1, m2, m3, m4, m5⟩ := whole_make k1 k2
    have A1 := floor_ok n d h
    have A2 := make_any (n / d) 1
    rw [m1, m2, m3, m4] at A2
    have A3 := compare_any (n / d) 1 n d
    obtain ⟨c1, c2⟩ := bc_mk m5 h
    rw [c1, c2] at A3
    have hs : sk (n / d) 1 n d ≤ 0 := by
      unfold sk sg
      rw [if_pos c1]
      split
      · omega
      · rw [if_neg (by omega)]; omega
    have A4 := make_any (n / d + 1) 1
    have A5 := compare_any n d (mn (n / d + 1) 1) (md (n / d + 1) 1)
    by_cases hc : mc (n / d + 1) 1 = 0
    · rcases mc_zero (n / d + 1) 1 with ⟨_, _, _, _, g1, g2, g3⟩ | ⟨g1, _⟩
      · obtain ⟨e1, e2⟩ := whole_q (n / d + 1)
        have v1 := qfit_vcode (by decide) g1
        obtain ⟨c3, c4⟩ := bc_mk h v1
        rw [← g2, ← g3] at c3 c4
        rw [c3] at A5
        rw [hc] at A4
        refine walk_floor_0 n d (n / d) _ _ _ _ _ _ k1 k2 hs ?_ A1 A2 A3 A4 A5 w
        unfold sk sg
        rw [if_pos c3, g2, g3, e1, e2, if_pos (by omega)]
        decide
      · exact absurd hc g1
    · exact walk_floor_1 n d (n / d) _ _ _ _ _ _ _ _ k1 k2 hs hc A1 A2 A3 A4 A5 w
  · exact walk_floor_bad n d (vcode n d) 0 h (floor_bad n d h) w

namespace fractionFloorBounds
open Go.ChangeShapes Go.WideShapes Go.ChangeAt Go.RowKit

set_option maxRecDepth 100000 in
theorem lifted (os : Os) (started : os.Started) (H : Type) (enc : TypeId × Value → H) :
    ReturnsInHanded {} Try.checked os 8 .any (Rows.fractionFloorBoundsSpec.pre6 enc Try.prog Try.f8 Rows.fractionFloorBoundsRow.domain false) (Rows.fractionFloorBoundsSpec.post enc Try.prog Try.f8 false true false false) := by
  refine returnsInHanded_of_change (C := Try.checked) own_knob started (by kernel_rfl) Try.func8
    (ChangeSpec.witness6 (enc := enc) (C := Try.checked) false ⟨#[], #[.agg #[.int .i64 0, .int .i64 0]], []⟩ 8 (by kernel_rfl) (by kernel_rfl) (by kernel_rfl) (by kernel_rfl)) ?_
  intro W base args ds gs before hval0 hW _ hsz
  have hval : ∀ (j : Nat) t v, Try.f8.params[j]? = some t → args[j]? = some v → Value.okWide Try.prog W .any base t v := hval0
  have hpost := fun (W' : World) (hfn : gs = [] → Rows.fractionFloorBoundsSpec.fn H (ds ++ gs) = { results := [.lit (.bool true)], args := ds }) (hb : Below W.heap.size W W') => law_post (f := Try.f8) (tb := 4) laid_out_B Try.underlying4 rfl (by kernel_rfl) rfl hfn hW hb
  obtain ⟨p, q, hA0, hV, hpq, hfz, hnd⟩ := hW
  have hA : DataW.TrodAll enc Try.prog W 0 (fun _ => true) true Try.f8.params.toList args.toList ds p := hA0
  rw [Try.params8] at hA hval
  obtain ⟨v0, vs0, d0, ds0, p0, q0, hargs, rfl, hp0, h0, r0⟩ := trodAll_cons hA
  obtain ⟨rfl, rfl, hpn⟩ := trodAll_nil r0
  obtain rfl : args = #[v0] := by cases args; simp_all
  obtain ⟨c0, e0, y0, x0, m0, rfl, rfl, rfl, hy0, hx0⟩ := Go.Joins.open_agg2 Try.underlying24 (by kernel_rfl) cells_fraction (hval 0 24 v0 rfl rfl) h0
  obtain ⟨a0, ea0, rfl, wa0⟩ := DataW.trod_int Try.underlying3 hy0
  obtain ⟨b0, eb0, rfl, wb0⟩ := DataW.trod_int Try.underlying3 hx0
  simp at ea0 eb0
  subst ea0 eb0
  refine (walk_floor a0 b0 W).mono fun e W' ⟨he, hb⟩ => ?_
  subst he
  exact ⟨_, rfl, hpost W' (fun hg => by subst hg; rfl) hb⟩

theorem proved : Rows.FractionFloorBoundsSaid :=
  OpenClaim.holds_of_wide 8 Try.f8 rfl rfl rfl rfl rfl rfl rfl ⟨rfl, rfl, rfl, rfl, rfl⟩ rfl rfl rfl rfl rfl (by kernel_rfl) Try.func8 (by kernel_rfl)
    (of_decide_eq_true (by kernel_rfl)) (by unfold Func.isWrapper; first | (rw [if_pos (by decide +kernel)]; kernel_rfl) | (rw [if_neg (by decide +kernel)]; exact ⟨rfl, rfl⟩))
    (fun os started H enc _ => lifted os started H enc)
#print axioms proved
end fractionFloorBounds

end Go.Proofs.Ytmlgaofbifejaaa
