/-
  FractionMakeMatchesSpec returns true: fraction.Make returns the quotient in lowest terms, for all numbers.
-/
import Derived.Test.YtmlgaofbifejaaaFany
import Derived.Test.YtmlgaofbifejaaaBlaw
import Derived.ProofKit
import Derived.OpenShut
import Derived.Lib.SmallJoins
namespace Go.Proofs.Ytmlgaofbifejaaa
open Go.RowKit
set_option linter.unusedVariables false
set_option linter.unusedSimpArgs false

set_option maxHeartbeats 1000000 in
theorem wm_out1 (n d : Int) (e1 : mn n d = 0) (e2 : md n d = 0) (e3 : mc n d = 3) (e4 : mi n d = 0) (h : n < -4611686018427387904 ∨ 4611686018427387904 < n) (w : World) :
    Calls Try.prog 4 #[.int .i64 n, .int .i64 d] w fun e w' => e = .returned (.bool true) ∧ Below w.heap.size w w' := by
  have E1 := Lib.hid e1
  have E2 := Lib.hid e2
  have E3 := Lib.hid e3
  have E4 := Lib.hid e4
  clear e1 e2 e3 e4
  go_enter Try.func4, Try.ntmps4
  go_wp2_with fail
  refine (example_any _).mono ?_
  rintro e w1 ⟨rfl, hB⟩
  have D1 := dstep w hB (by repeat (first | with_reducible exact Below.refl _ _ | with_reducible apply bdrew | with_reducible apply bdrewN | with_reducible apply balloc | ((with_reducible refine bset ?_ ?_ _); rotate_left; (first | omega | (simp <;> omega)))))
  have d1s := D1.size
  have B1 := hB
  clear hB
  go_wp2_with fail
  refine (make_any _ _ _).mono ?_
  rintro e w2 ⟨he, hB⟩
  rw [E1.out, E2.out, E3.out, E4.out] at he
  subst he
  have D2 := dstep w hB (by repeat (first | with_reducible exact D1 | with_reducible apply bdrew | with_reducible apply bdrewN | with_reducible apply balloc | ((with_reducible refine bset ?_ ?_ _); rotate_left; (first | omega | (simp <;> omega)))))
  have d2s := D2.size
  have B2 := bstep B1 hB (by repeat (first | with_reducible exact B1 | with_reducible apply bdrew | with_reducible apply bdrewN | with_reducible apply balloc | ((with_reducible refine bset ?_ ?_ _); rotate_left; (first | omega | (simp <;> omega)))))
  clear hB
  go_wp2_with fail
  refine (in_no _ _ _ _ (by omega) (by omega)).mono ?_
  rintro e w' ⟨rfl, rfl⟩
  go_wp2_with fail
  refine (at_any _ _ _).mono ?_
  rintro e w3 ⟨rfl, hB⟩
  have D3 := dstep w hB (by repeat (first | with_reducible exact D2 | with_reducible apply bdrew | with_reducible apply bdrewN | with_reducible apply balloc | ((with_reducible refine bset ?_ ?_ _); rotate_left; (first | omega | (simp <;> omega)))))
  have d3s := D3.size
  have B3 := bstep B1 hB (by repeat (first | with_reducible exact B2 | with_reducible apply bdrew | with_reducible apply bdrewN | with_reducible apply balloc | ((with_reducible refine bset ?_ ?_ _); rotate_left; (first | omega | (simp <;> omega)))))
  have G3 := Cls.below (l := [(w2.heap.size, 0, .int .i64 0), (w2.heap.size, 1, .int .i64 0), (w2.heap.size + 1, 0, .int .i64 3), (w2.heap.size + 1, 1, .int .i64 0), (w2.heap.size + 1 + 1, 0, .int .i64 0), (w2.heap.size + 1 + 1, 1, .int .i64 0), (w2.heap.size + 1 + 1 + 1, 0, .int .i64 0), (w2.heap.size + 1 + 1 + 1, 1, .int .i64 0)]) hB (by simp [Cls, go_sem])
  simp only [Cls, and_true] at G3
  have hs3 := hB.size
  try simp at hs3
  have y3_2_3 : w2.heap.size + 1 + 1 + 1 < w3.heap.size := (by omega)
  have y3_2_2 : w2.heap.size + 1 + 1 < w3.heap.size := (by omega)
  have y3_2_1 : w2.heap.size + 1 < w3.heap.size := (by omega)
  have y3_2_0 : w2.heap.size < w3.heap.size := (by omega)
  have y3_2_p1 : w2.heap.size < w3.heap.size + 1 := (by omega)
  have y3_2_p2 : w2.heap.size < w3.heap.size + 1 + 1 := (by omega)
  clear hB
  go_wp2
  go_ret
  exact ⟨rfl, by repeat (first | with_reducible exact D3 | with_reducible apply bdrew | with_reducible apply bdrewN | with_reducible apply balloc | ((with_reducible refine bset ?_ ?_ _); rotate_left; (first | omega | (simp <;> omega))))⟩

set_option maxHeartbeats 1000000 in
theorem wm_out0 (n d : Int) (h1 : -4611686018427387904 ≤ n) (h2 : n ≤ 4611686018427387904) (hd : d = 0) (e1 : mn n d = 0) (e2 : md n d = 0) (e3 : mc n d = 3) (e4 : mi n d = 1) (w : World) :
    Calls Try.prog 4 #[.int .i64 n, .int .i64 d] w fun e w' => e = .returned (.bool true) ∧ Below w.heap.size w w' := by
  subst hd
  have E1 := Lib.hid e1
  have E2 := Lib.hid e2
  have E3 := Lib.hid e3
  have E4 := Lib.hid e4
  clear e1 e2 e3 e4
  go_enter Try.func4, Try.ntmps4
  go_wp2_with fail
  refine (example_any _).mono ?_
  rintro e w1 ⟨rfl, hB⟩
  have D1 := dstep w hB (by repeat (first | with_reducible exact Below.refl _ _ | with_reducible apply bdrew | with_reducible apply bdrewN | with_reducible apply balloc | ((with_reducible refine bset ?_ ?_ _); rotate_left; (first | omega | (simp <;> omega)))))
  have d1s := D1.size
  have B1 := hB
  clear hB
  go_wp2_with fail
  refine (make_any _ _ _).mono ?_
  rintro e w2 ⟨he, hB⟩
  rw [E1.out, E2.out, E3.out, E4.out] at he
  subst he
  have D2 := dstep w hB (by repeat (first | with_reducible exact D1 | with_reducible apply bdrew | with_reducible apply bdrewN | with_reducible apply balloc | ((with_reducible refine bset ?_ ?_ _); rotate_left; (first | omega | (simp <;> omega)))))
  have d2s := D2.size
  have B2 := bstep B1 hB (by repeat (first | with_reducible exact B1 | with_reducible apply bdrew | with_reducible apply bdrewN | with_reducible apply balloc | ((with_reducible refine bset ?_ ?_ _); rotate_left; (first | omega | (simp <;> omega)))))
  clear hB
  go_wp2_with fail
  refine (in_yes _ _ _ _ (by omega) (by omega)).mono ?_
  rintro e w' ⟨rfl, rfl⟩
  go_wp2_with fail
  refine (at_any _ _ _).mono ?_
  rintro e w3 ⟨rfl, hB⟩
  have D3 := dstep w hB (by repeat (first | with_reducible exact D2 | with_reducible apply bdrew | with_reducible apply bdrewN | with_reducible apply balloc | ((with_reducible refine bset ?_ ?_ _); rotate_left; (first | omega | (simp <;> omega)))))
  have d3s := D3.size
  have B3 := bstep B1 hB (by repeat (first | with_reducible exact B2 | with_reducible apply bdrew | with_reducible apply bdrewN | with_reducible apply balloc | ((with_reducible refine bset ?_ ?_ _); rotate_left; (first | omega | (simp <;> omega)))))
  have G3 := Cls.below (l := [(w2.heap.size, 0, .int .i64 0), (w2.heap.size, 1, .int .i64 0), (w2.heap.size + 1, 0, .int .i64 3), (w2.heap.size + 1, 1, .int .i64 1), (w2.heap.size + 1 + 1, 0, .int .i64 0), (w2.heap.size + 1 + 1, 1, .int .i64 0), (w2.heap.size + 1 + 1 + 1, 0, .int .i64 0), (w2.heap.size + 1 + 1 + 1, 1, .int .i64 0)]) hB (by simp [Cls, go_sem])
  simp only [Cls, and_true] at G3
  have hs3 := hB.size
  try simp at hs3
  have y3_2_3 : w2.heap.size + 1 + 1 + 1 < w3.heap.size := (by omega)
  have y3_2_2 : w2.heap.size + 1 + 1 < w3.heap.size := (by omega)
  have y3_2_1 : w2.heap.size + 1 < w3.heap.size := (by omega)
  have y3_2_0 : w2.heap.size < w3.heap.size := (by omega)
  have y3_2_p1 : w2.heap.size < w3.heap.size + 1 := (by omega)
  have y3_2_p2 : w2.heap.size < w3.heap.size + 1 + 1 := (by omega)
  clear hB
  go_wp2
  go_ret
  exact ⟨rfl, by repeat (first | with_reducible exact D3 | with_reducible apply bdrew | with_reducible apply bdrewN | with_reducible apply balloc | ((with_reducible refine bset ?_ ?_ _); rotate_left; (first | omega | (simp <;> omega))))⟩

set_option maxHeartbeats 1000000 in
theorem wm_out2 (n d : Int) (h1 : -4611686018427387904 ≤ n) (h2 : n ≤ 4611686018427387904) (hd : ¬ d = 0) (h : d < -4611686018427387904 ∨ 4611686018427387904 < d) (e1 : mn n d = 0) (e2 : md n d = 0) (e3 : mc n d = 3) (e4 : mi n d = 1) (w : World) :
    Calls Try.prog 4 #[.int .i64 n, .int .i64 d] w fun e w' => e = .returned (.bool true) ∧ Below w.heap.size w w' := by
  have bd := bb_no hd
  have E1 := Lib.hid e1
  have E2 := Lib.hid e2
  have E3 := Lib.hid e3
  have E4 := Lib.hid e4
  clear e1 e2 e3 e4
  go_enter Try.func4, Try.ntmps4
  go_wp2_with fail
  refine (example_any _).mono ?_
  rintro e w1 ⟨rfl, hB⟩
  have D1 := dstep w hB (by repeat (first | with_reducible exact Below.refl _ _ | with_reducible apply bdrew | with_reducible apply bdrewN | with_reducible apply balloc | ((with_reducible refine bset ?_ ?_ _); rotate_left; (first | omega | (simp <;> omega)))))
  have d1s := D1.size
  have B1 := hB
  clear hB
  go_wp2_with fail
  refine (make_any _ _ _).mono ?_
  rintro e w2 ⟨he, hB⟩
  rw [E1.out, E2.out, E3.out, E4.out] at he
  subst he
  have D2 := dstep w hB (by repeat (first | with_reducible exact D1 | with_reducible apply bdrew | with_reducible apply bdrewN | with_reducible apply balloc | ((with_reducible refine bset ?_ ?_ _); rotate_left; (first | omega | (simp <;> omega)))))
  have d2s := D2.size
  have B2 := bstep B1 hB (by repeat (first | with_reducible exact B1 | with_reducible apply bdrew | with_reducible apply bdrewN | with_reducible apply balloc | ((with_reducible refine bset ?_ ?_ _); rotate_left; (first | omega | (simp <;> omega)))))
  clear hB
  go_wp2_with fail
  refine (in_yes _ _ _ _ (by omega) (by omega)).mono ?_
  rintro e w' ⟨rfl, rfl⟩
  go_wp2_with fail
  refine (in_no _ _ _ _ (by omega) (by omega)).mono ?_
  rintro e w' ⟨rfl, rfl⟩
  go_wp2_with fail
  refine (at_any _ _ _).mono ?_
  rintro e w3 ⟨rfl, hB⟩
  have D3 := dstep w hB (by repeat (first | with_reducible exact D2 | with_reducible apply bdrew | with_reducible apply bdrewN | with_reducible apply balloc | ((with_reducible refine bset ?_ ?_ _); rotate_left; (first | omega | (simp <;> omega)))))
  have d3s := D3.size
  have B3 := bstep B1 hB (by repeat (first | with_reducible exact B2 | with_reducible apply bdrew | with_reducible apply bdrewN | with_reducible apply balloc | ((with_reducible refine bset ?_ ?_ _); rotate_left; (first | omega | (simp <;> omega)))))
  have G3 := Cls.below (l := [(w2.heap.size, 0, .int .i64 0), (w2.heap.size, 1, .int .i64 0), (w2.heap.size + 1, 0, .int .i64 3), (w2.heap.size + 1, 1, .int .i64 1), (w2.heap.size + 1 + 1, 0, .int .i64 0), (w2.heap.size + 1 + 1, 1, .int .i64 0), (w2.heap.size + 1 + 1 + 1, 0, .int .i64 0), (w2.heap.size + 1 + 1 + 1, 1, .int .i64 0)]) hB (by simp [Cls, go_sem])
  simp only [Cls, and_true] at G3
  have hs3 := hB.size
  try simp at hs3
  have y3_2_3 : w2.heap.size + 1 + 1 + 1 < w3.heap.size := (by omega)
  have y3_2_2 : w2.heap.size + 1 + 1 < w3.heap.size := (by omega)
  have y3_2_1 : w2.heap.size + 1 < w3.heap.size := (by omega)
  have y3_2_0 : w2.heap.size < w3.heap.size := (by omega)
  have y3_2_p1 : w2.heap.size < w3.heap.size + 1 := (by omega)
  have y3_2_p2 : w2.heap.size < w3.heap.size + 1 + 1 := (by omega)
  clear hB
  go_wp2
  go_ret
  exact ⟨rfl, by repeat (first | with_reducible exact D3 | with_reducible apply bdrew | with_reducible apply bdrewN | with_reducible apply balloc | ((with_reducible refine bset ?_ ?_ _); rotate_left; (first | omega | (simp <;> omega))))⟩

set_option maxHeartbeats 1000000 in
theorem wm_fit (n d : Int) (h1 : -4611686018427387904 ≤ n) (h2 : n ≤ 4611686018427387904) (h3 : -4611686018427387904 ≤ d) (h4 : d ≤ 4611686018427387904) (hd : ¬ d = 0) (hf : qfit n d) (e1 : mn n d = qn n d) (e2 : md n d = qd n d) (e3 : mc n d = 0) (e4 : mi n d = 0) (w : World) :
    Calls Try.prog 4 #[.int .i64 n, .int .i64 d] w fun e w' => e = .returned (.bool true) ∧ Below w.heap.size w w' := by
  have bd := bb_no hd
  have HF := Lib.hid hf
  clear hf
  have E1 := Lib.hid e1
  have E2 := Lib.hid e2
  have E3 := Lib.hid e3
  have E4 := Lib.hid e4
  clear e1 e2 e3 e4
  go_enter Try.func4, Try.ntmps4
  go_wp2_with fail
  refine (example_any _).mono ?_
  rintro e w1 ⟨rfl, hB⟩
  have D1 := dstep w hB (by repeat (first | with_reducible exact Below.refl _ _ | with_reducible apply bdrew | with_reducible apply bdrewN | with_reducible apply balloc | ((with_reducible refine bset ?_ ?_ _); rotate_left; (first | omega | (simp <;> omega)))))
  have d1s := D1.size
  have B1 := hB
  clear hB
  go_wp2_with fail
  refine (make_any _ _ _).mono ?_
  rintro e w2 ⟨he, hB⟩
  rw [E1.out, E2.out, E3.out, E4.out] at he
  subst he
  have D2 := dstep w hB (by repeat (first | with_reducible exact D1 | with_reducible apply bdrew | with_reducible apply bdrewN | with_reducible apply balloc | ((with_reducible refine bset ?_ ?_ _); rotate_left; (first | omega | (simp <;> omega)))))
  have d2s := D2.size
  have B2 := bstep B1 hB (by repeat (first | with_reducible exact B1 | with_reducible apply bdrew | with_reducible apply bdrewN | with_reducible apply balloc | ((with_reducible refine bset ?_ ?_ _); rotate_left; (first | omega | (simp <;> omega)))))
  clear hB
  go_wp2_with fail
  refine (in_yes _ _ _ _ (by omega) (by omega)).mono ?_
  rintro e w' ⟨rfl, rfl⟩
  go_wp2_with fail
  refine (in_yes _ _ _ _ (by omega) (by omega)).mono ?_
  rintro e w' ⟨rfl, rfl⟩
  go_wp2_with fail
  refine (lowest_fit _ _ (by omega) (by omega) (by omega) (by omega) hd HF.out _).mono ?_
  rintro e w3 ⟨rfl, hB⟩
  have D3 := dstep w hB (by repeat (first | with_reducible exact D2 | with_reducible apply bdrew | with_reducible apply bdrewN | with_reducible apply balloc | ((with_reducible refine bset ?_ ?_ _); rotate_left; (first | omega | (simp <;> omega)))))
  have d3s := D3.size
  have B3 := bstep B1 hB (by repeat (first | with_reducible exact B2 | with_reducible apply bdrew | with_reducible apply bdrewN | with_reducible apply balloc | ((with_reducible refine bset ?_ ?_ _); rotate_left; (first | omega | (simp <;> omega)))))
  have G3 := Cls.below (l := [(w2.heap.size, 0, .int .i64 (qn n d)), (w2.heap.size, 1, .int .i64 (qd n d)), (w2.heap.size + 1, 0, .int .i64 0), (w2.heap.size + 1, 1, .int .i64 0), (w2.heap.size + 1 + 1, 0, .int .i64 0), (w2.heap.size + 1 + 1, 1, .int .i64 0), (w2.heap.size + 1 + 1 + 1, 0, .int .i64 0), (w2.heap.size + 1 + 1 + 1, 1, .int .i64 0)]) hB (by simp [Cls, go_sem])
  simp only [Cls, and_true] at G3
  have hs3 := hB.size
  try simp at hs3
  have y3_2_3 : w2.heap.size + 1 + 1 + 1 < w3.heap.size := (by omega)
  have y3_2_2 : w2.heap.size + 1 + 1 < w3.heap.size := (by omega)
  have y3_2_1 : w2.heap.size + 1 < w3.heap.size := (by omega)
  have y3_2_0 : w2.heap.size < w3.heap.size := (by omega)
  have y3_2_p1 : w2.heap.size < w3.heap.size + 1 := (by omega)
  have y3_2_p2 : w2.heap.size < w3.heap.size + 1 + 1 := (by omega)
  clear hB
  go_wp2
  go_ret
  exact ⟨rfl, by repeat (first | with_reducible exact D3 | with_reducible apply bdrew | with_reducible apply bdrewN | with_reducible apply balloc | ((with_reducible refine bset ?_ ?_ _); rotate_left; (first | omega | (simp <;> omega))))⟩

set_option maxHeartbeats 1000000 in
theorem wm_big (n d : Int) (h1 : -4611686018427387904 ≤ n) (h2 : n ≤ 4611686018427387904) (h3 : -4611686018427387904 ≤ d) (h4 : d ≤ 4611686018427387904) (hd : ¬ d = 0) (hf : ¬ qfit n d) (e1 : mn n d = 0) (e2 : md n d = 0) (e3 : mc n d = 10) (e4 : mi n d = -1) (w : World) :
    Calls Try.prog 4 #[.int .i64 n, .int .i64 d] w fun e w' => e = .returned (.bool true) ∧ Below w.heap.size w w' := by
  have bd := bb_no hd
  have HF := Lib.hid hf
  clear hf
  have E1 := Lib.hid e1
  have E2 := Lib.hid e2
  have E3 := Lib.hid e3
  have E4 := Lib.hid e4
  clear e1 e2 e3 e4
  go_enter Try.func4, Try.ntmps4
  go_wp2_with fail
  refine (example_any _).mono ?_
  rintro e w1 ⟨rfl, hB⟩
  have D1 := dstep w hB (by repeat (first | with_reducible exact Below.refl _ _ | with_reducible apply bdrew | with_reducible apply bdrewN | with_reducible apply balloc | ((with_reducible refine bset ?_ ?_ _); rotate_left; (first | omega | (simp <;> omega)))))
  have d1s := D1.size
  have B1 := hB
  clear hB
  go_wp2_with fail
  refine (make_any _ _ _).mono ?_
  rintro e w2 ⟨he, hB⟩
  rw [E1.out, E2.out, E3.out, E4.out] at he
  subst he
  have D2 := dstep w hB (by repeat (first | with_reducible exact D1 | with_reducible apply bdrew | with_reducible apply bdrewN | with_reducible apply balloc | ((with_reducible refine bset ?_ ?_ _); rotate_left; (first | omega | (simp <;> omega)))))
  have d2s := D2.size
  have B2 := bstep B1 hB (by repeat (first | with_reducible exact B1 | with_reducible apply bdrew | with_reducible apply bdrewN | with_reducible apply balloc | ((with_reducible refine bset ?_ ?_ _); rotate_left; (first | omega | (simp <;> omega)))))
  clear hB
  go_wp2_with fail
  refine (in_yes _ _ _ _ (by omega) (by omega)).mono ?_
  rintro e w' ⟨rfl, rfl⟩
  go_wp2_with fail
  refine (in_yes _ _ _ _ (by omega) (by omega)).mono ?_
  rintro e w' ⟨rfl, rfl⟩
  go_wp2_with fail
  refine (lowest_big _ _ (by omega) (by omega) (by omega) (by omega) hd HF.out _).mono ?_
  rintro e w3 ⟨rfl, hB⟩
  have D3 := dstep w hB (by repeat (first | with_reducible exact D2 | with_reducible apply bdrew | with_reducible apply bdrewN | with_reducible apply balloc | ((with_reducible refine bset ?_ ?_ _); rotate_left; (first | omega | (simp <;> omega)))))
  have d3s := D3.size
  have B3 := bstep B1 hB (by repeat (first | with_reducible exact B2 | with_reducible apply bdrew | with_reducible apply bdrewN | with_reducible apply balloc | ((with_reducible refine bset ?_ ?_ _); rotate_left; (first | omega | (simp <;> omega)))))
  have G3 := Cls.below (l := [(w2.heap.size, 0, .int .i64 0), (w2.heap.size, 1, .int .i64 0), (w2.heap.size + 1, 0, .int .i64 10), (w2.heap.size + 1, 1, .int .i64 (-1)), (w2.heap.size + 1 + 1, 0, .int .i64 0), (w2.heap.size + 1 + 1, 1, .int .i64 0), (w2.heap.size + 1 + 1 + 1, 0, .int .i64 0), (w2.heap.size + 1 + 1 + 1, 1, .int .i64 0)]) hB (by simp [Cls, go_sem])
  simp only [Cls, and_true] at G3
  have hs3 := hB.size
  try simp at hs3
  have y3_2_3 : w2.heap.size + 1 + 1 + 1 < w3.heap.size := (by omega)
  have y3_2_2 : w2.heap.size + 1 + 1 < w3.heap.size := (by omega)
  have y3_2_1 : w2.heap.size + 1 < w3.heap.size := (by omega)
  have y3_2_0 : w2.heap.size < w3.heap.size := (by omega)
  have y3_2_p1 : w2.heap.size < w3.heap.size + 1 := (by omega)
  have y3_2_p2 : w2.heap.size < w3.heap.size + 1 + 1 := (by omega)
  clear hB
  go_wp2_with fail
  refine (at_any _ _ _).mono ?_
  rintro e w4 ⟨rfl, hB⟩
  have D4 := dstep w hB (by repeat (first | with_reducible exact D3 | with_reducible apply bdrew | with_reducible apply bdrewN | with_reducible apply balloc | ((with_reducible refine bset ?_ ?_ _); rotate_left; (first | omega | (simp <;> omega)))))
  have d4s := D4.size
  have B4 := bstep B1 hB (by repeat (first | with_reducible exact B3 | with_reducible apply bdrew | with_reducible apply bdrewN | with_reducible apply balloc | ((with_reducible refine bset ?_ ?_ _); rotate_left; (first | omega | (simp <;> omega)))))
  have G4 := Cls.below (l := [(w2.heap.size, 0, .int .i64 0), (w2.heap.size, 1, .int .i64 0), (w2.heap.size + 1, 0, .int .i64 10), (w2.heap.size + 1, 1, .int .i64 (-1)), (w2.heap.size + 1 + 1, 0, .int .i64 0), (w2.heap.size + 1 + 1, 1, .int .i64 0), (w2.heap.size + 1 + 1 + 1, 0, .int .i64 0), (w2.heap.size + 1 + 1 + 1, 1, .int .i64 0)]) hB (by simp [Cls, go_sem, G3, y3_2_3, y3_2_2, y3_2_1, y3_2_0, y3_2_p1, y3_2_p2])
  simp only [Cls, and_true] at G4
  have hs4 := hB.size
  try simp at hs4
  have y4_2_3 : w2.heap.size + 1 + 1 + 1 < w4.heap.size := (by omega)
  have y4_2_2 : w2.heap.size + 1 + 1 < w4.heap.size := (by omega)
  have y4_2_1 : w2.heap.size + 1 < w4.heap.size := (by omega)
  have y4_2_0 : w2.heap.size < w4.heap.size := (by omega)
  have y4_2_p1 : w2.heap.size < w4.heap.size + 1 := (by omega)
  have y4_2_p2 : w2.heap.size < w4.heap.size + 1 + 1 := (by omega)
  clear hB
  go_wp2
  go_ret
  exact ⟨rfl, by repeat (first | with_reducible exact D4 | with_reducible apply bdrew | with_reducible apply bdrewN | with_reducible apply balloc | ((with_reducible refine bset ?_ ?_ _); rotate_left; (first | omega | (simp <;> omega))))⟩

theorem walk_make (n d : Int) (w : World) :
    Calls Try.prog 4 #[.int .i64 n, .int .i64 d] w fun e w' => e = .returned (.bool true) ∧ Below w.heap.size w w' := by
  by_cases h1 : mo1 n
  · have e1 : mn n d = 0 := by unfold mn; rw [if_pos (Or.inl h1)]
    have e2 : md n d = 0 := by unfold md; rw [if_pos (Or.inl h1)]
    have e3 : mc n d = 3 := by unfold mc; rw [if_pos (Or.inl h1)]
    have e4 : mi n d = 0 := by unfold mi; rw [if_pos h1]
    unfold mo1 at h1
    exact wm_out1 n d e1 e2 e3 e4 h1 w
  · by_cases h2 : mo2 d
    · have e1 : mn n d = 0 := by unfold mn; rw [if_pos (Or.inr h2)]
      have e2 : md n d = 0 := by unfold md; rw [if_pos (Or.inr h2)]
      have e3 : mc n d = 3 := by unfold mc; rw [if_pos (Or.inr h2)]
      have e4 : mi n d = 1 := by unfold mi; rw [if_neg h1, if_pos h2]
      unfold mo1 at h1; unfold mo2 at h2
      by_cases hd : d = 0
      · exact wm_out0 n d (by omega) (by omega) hd e1 e2 e3 e4 w
      · exact wm_out2 n d (by omega) (by omega) hd (by omega) e1 e2 e3 e4 w
    · have h : ¬ (mo1 n ∨ mo2 d) := fun h => h.elim h1 h2
      have e1 : mn n d = rn n d := by unfold mn; rw [if_neg h]
      have e2 : md n d = rd n d := by unfold md; rw [if_neg h]
      have e3 : mc n d = rc n d := by unfold mc; rw [if_neg h]
      have e4 : mi n d = ri n d := by unfold mi; rw [if_neg h1, if_neg h2]
      unfold mo1 at h1; unfold mo2 at h2
      have hd : ¬ d = 0 := by omega
      by_cases hf : qfit n d
      · obtain ⟨_, k1, k2, k3, k4⟩ := fit_code hd hf
        exact wm_fit n d (by omega) (by omega) (by omega) (by omega) hd hf (e1.trans k1) (e2.trans k2) (e3.trans k3) (e4.trans k4) w
      · obtain ⟨_, k1, k2, k3, k4⟩ := big_code hd hf
        exact wm_big n d (by omega) (by omega) (by omega) (by omega) hd hf (e1.trans k1) (e2.trans k2) (e3.trans k3) (e4.trans k4) w

namespace fractionMakeMatchesSpec
open Go.ChangeShapes Go.WideShapes Go.ChangeAt Go.RowKit

set_option maxRecDepth 100000 in
theorem lifted (os : Os) (started : os.Started) (H : Type) (enc : TypeId × Value → H) :
    ReturnsInHanded {} Try.checked os 4 .any (Rows.fractionMakeMatchesSpecSpec.pre6 enc Try.prog Try.f4 Rows.fractionMakeMatchesSpecRow.domain false) (Rows.fractionMakeMatchesSpecSpec.post enc Try.prog Try.f4 false true false false) := by
  refine returnsInHanded_of_change (C := Try.checked) own_knob started (by kernel_rfl) Try.func4
    (ChangeSpec.witness6 (enc := enc) (C := Try.checked) false ⟨#[], #[.int .i64 0, .int .i64 0], []⟩ 8 (by kernel_rfl) (by kernel_rfl) (by kernel_rfl) (by kernel_rfl)) ?_
  intro W base args ds gs before hval0 hW _ hsz
  have hval : ∀ (j : Nat) t v, Try.f4.params[j]? = some t → args[j]? = some v → Value.okWide Try.prog W .any base t v := hval0
  have hpost := fun (W' : World) (hfn : gs = [] → Rows.fractionMakeMatchesSpecSpec.fn H (ds ++ gs) = { results := [.lit (.bool true)], args := ds }) (hb : Below W.heap.size W W') => law_post (f := Try.f4) (tb := 4) laid_out_B Try.underlying4 rfl (by kernel_rfl) rfl hfn hW hb
  obtain ⟨p, q, hA0, hV, hpq, hfz, hnd⟩ := hW
  have hA : DataW.TrodAll enc Try.prog W 0 (fun _ => true) true Try.f4.params.toList args.toList ds p := hA0
  rw [Try.params4] at hA hval
  obtain ⟨v0, vs0, d0, ds0, p0, q0, hargs, rfl, hp0, h0, r0⟩ := trodAll_cons hA
  obtain ⟨v1, vs1, d1, ds1, p1, q1, rfl, rfl, hp1, h1, r1⟩ := trodAll_cons r0
  obtain ⟨rfl, rfl, hpn⟩ := trodAll_nil r1
  obtain rfl : args = #[v0, v1] := by cases args; simp_all
  obtain ⟨a0, rfl, rfl, rfl, w0⟩ := open_int Try.underlying3 (hval 0 3 v0 rfl rfl) h0
  obtain ⟨a1, rfl, rfl, rfl, w1⟩ := open_int Try.underlying3 (hval 1 3 v1 rfl rfl) h1
  refine (walk_make a0 a1 W).mono fun e W' ⟨he, hb⟩ => ?_
  subst he
  exact ⟨_, rfl, hpost W' (fun hg => by subst hg; rfl) hb⟩

theorem proved : Rows.FractionMakeMatchesSpecSaid :=
  OpenClaim.holds_of_wide 4 Try.f4 rfl rfl rfl rfl rfl rfl rfl ⟨rfl, rfl, rfl, rfl, rfl⟩ rfl rfl rfl rfl rfl (by kernel_rfl) Try.func4 (by kernel_rfl)
    (of_decide_eq_true (by kernel_rfl)) (by unfold Func.isWrapper; first | (rw [if_pos (by decide +kernel)]; kernel_rfl) | (rw [if_neg (by decide +kernel)]; exact ⟨rfl, rfl⟩))
    (fun os started H enc _ => lifted os started H enc)
#print axioms proved
end fractionMakeMatchesSpec

end Go.Proofs.Ytmlgaofbifejaaa
