/-
  fraction.Div, Compare, Floor and the reference's Order and Bottom: what they return.
-/
import Derived.Test.YtmlgaofbifejaaaFref
namespace Go.Proofs.Ytmlgaofbifejaaa
open Go.RowKit
set_option linter.unusedVariables false
set_option linter.unusedSimpArgs false
set_option maxHeartbeats 400000 in
theorem div_bad (a b c d : Int) (h : ¬ bc a b c d = 0) (w : World) :
    Calls Try.prog 18 #[.agg #[.int .i64 a, .int .i64 b], .agg #[.int .i64 c, .int .i64 d]] w fun e w' => e = .returned (.tuple #[.agg #[.int .i64 0, .int .i64 0], .agg #[.int .i64 (bc a b c d), .int .i64 (bi a b c d)]]) ∧ Below w.heap.size w w' := by
  have N := bb_no h
  go_enter Try.func18, Try.ntmps18
  go_wp2_with fail
  refine (both_any _ _ _ _ _).mono ?_
  rintro e w1 ⟨rfl, hB⟩
  have D1 := dstep w hB (by repeat (first | with_reducible exact Below.refl _ _ | with_reducible apply bdrew | with_reducible apply bdrewN | with_reducible apply balloc | ((with_reducible refine bset ?_ ?_ _); rotate_left; (first | omega | (simp <;> omega)))))
  have d1s := D1.size
  obtain ⟨C0, F1⟩ := Cls.first (l := [(w.heap.size, 0, .int .i64 a), (w.heap.size, 1, .int .i64 b), (w.heap.size + 1, 0, .int .i64 c), (w.heap.size + 1, 1, .int .i64 d), (w.heap.size + 1 + 1, 0, .int .i64 0), (w.heap.size + 1 + 1, 1, .int .i64 0), (w.heap.size + 1 + 1 + 1, 0, .int .i64 0), (w.heap.size + 1 + 1 + 1, 1, .int .i64 0)]) hB (by simp [Cls, go_sem])
  simp only [Cls, and_true] at F1
  have B1 := hB
  have hs1 := hB.size
  try simp at hs1
  have hb1 := B1.size
  try simp at hb1
  have y1_0_3 : w.heap.size + 1 + 1 + 1 < w1.heap.size := (by omega)
  have y1_0_2 : w.heap.size + 1 + 1 < w1.heap.size := (by omega)
  have y1_0_1 : w.heap.size + 1 < w1.heap.size := (by omega)
  have y1_0_0 : w.heap.size < w1.heap.size := (by omega)
  have y1_0_p1 : w.heap.size < w1.heap.size + 1 := (by omega)
  have y1_0_p2 : w.heap.size < w1.heap.size + 1 + 1 := (by omega)
  clear hB
  go_wp2
  go_region
  go_wp2
  refine bodyPost_ret (v := .tuple #[.agg #[.int .i64 0, .int .i64 0], .agg #[.int .i64 (bc a b c d), .int .i64 (bi a b c d)]]) ?_ rfl ⟨rfl, by repeat (first | with_reducible exact D1 | with_reducible apply bdrew | with_reducible apply bdrewN | with_reducible apply balloc | ((with_reducible refine bset ?_ ?_ _); rotate_left; (first | omega | (simp <;> omega))))⟩
  simp [results, Try.results18, go_sem, F1, y1_0_3, y1_0_2, y1_0_1, y1_0_0, y1_0_p1, y1_0_p2]

set_option maxHeartbeats 400000 in
theorem div_zero (a b d : Int) (h : bc a b 0 d = 0) (w : World) :
    Calls Try.prog 18 #[.agg #[.int .i64 a, .int .i64 b], .agg #[.int .i64 0, .int .i64 d]] w fun e w' => e = .returned (.tuple #[.agg #[.int .i64 0, .int .i64 0], .agg #[.int .i64 3, .int .i64 (-2)]]) ∧ Below w.heap.size w w' := by
  obtain ⟨q1, q2, q3⟩ := bc_zero h
  have H := Lib.hid h
  have H3 := Lib.hid q3
  clear h q1 q2 q3
  go_enter Try.func18, Try.ntmps18
  go_wp2_with fail
  refine (both_any _ _ _ _ _).mono ?_
  rintro e w1 ⟨he, hB⟩
  rw [H.out, H3.out] at he
  subst he
  have D1 := dstep w hB (by repeat (first | with_reducible exact Below.refl _ _ | with_reducible apply bdrew | with_reducible apply bdrewN | with_reducible apply balloc | ((with_reducible refine bset ?_ ?_ _); rotate_left; (first | omega | (simp <;> omega)))))
  have d1s := D1.size
  obtain ⟨C0, F1⟩ := Cls.first (l := [(w.heap.size, 0, .int .i64 a), (w.heap.size, 1, .int .i64 b), (w.heap.size + 1, 0, .int .i64 0), (w.heap.size + 1, 1, .int .i64 d), (w.heap.size + 1 + 1, 0, .int .i64 0), (w.heap.size + 1 + 1, 1, .int .i64 0), (w.heap.size + 1 + 1 + 1, 0, .int .i64 0), (w.heap.size + 1 + 1 + 1, 1, .int .i64 0)]) hB (by simp [Cls, go_sem])
  simp only [Cls, and_true] at F1
  have B1 := hB
  have hs1 := hB.size
  try simp at hs1
  have hb1 := B1.size
  try simp at hb1
  have y1_0_3 : w.heap.size + 1 + 1 + 1 < w1.heap.size := (by omega)
  have y1_0_2 : w.heap.size + 1 + 1 < w1.heap.size := (by omega)
  have y1_0_1 : w.heap.size + 1 < w1.heap.size := (by omega)
  have y1_0_0 : w.heap.size < w1.heap.size := (by omega)
  have y1_0_p1 : w.heap.size < w1.heap.size + 1 := (by omega)
  have y1_0_p2 : w.heap.size < w1.heap.size + 1 + 1 := (by omega)
  clear hB
  go_wp2
  refine bodyPost_ret (v := .tuple #[.agg #[.int .i64 0, .int .i64 0], .agg #[.int .i64 3, .int .i64 (-2)]]) ?_ rfl ⟨rfl, by repeat (first | with_reducible exact D1 | with_reducible apply bdrew | with_reducible apply bdrewN | with_reducible apply balloc | ((with_reducible refine bset ?_ ?_ _); rotate_left; (first | omega | (simp <;> omega))))⟩
  simp [results, Try.results18, go_sem, F1, y1_0_3, y1_0_2, y1_0_1, y1_0_0, y1_0_p1, y1_0_p2]

set_option maxHeartbeats 400000 in
theorem div_ok (a b c d : Int) (h : bc a b c d = 0) (hc : ¬ c = 0) (w : World) :
    Calls Try.prog 18 #[.agg #[.int .i64 a, .int .i64 b], .agg #[.int .i64 c, .int .i64 d]] w fun e w' => e = .returned (.tuple #[.agg #[.int .i64 (rn (a * d) (b * c)), .int .i64 (rd (a * d) (b * c))], .agg #[.int .i64 (rc (a * d) (b * c)), .int .i64 (ri (a * d) (b * c))]]) ∧ Below w.heap.size w w' := by
  obtain ⟨q1, q2, q3⟩ := bc_zero h
  obtain ⟨v1, v2, v3, v4, _⟩ := vcode_zero q1
  obtain ⟨v5, v6, v7, v8, _⟩ := vcode_zero q2
  obtain ⟨m1, m2⟩ := mul_bd v1 v2 (show -1000000000 ≤ d by omega) v8
  obtain ⟨m3, m4⟩ := mul_bd v5 v6 (show -1000000000 ≤ b by omega) v4
  obtain ⟨m5, m6⟩ := mul_bd (show -1000000000 ≤ b by omega) v4 v5 v6
  have hn : b * c ≠ 0 := Int.mul_ne_zero (by omega) hc
  have N := bb_no hc
  have H := Lib.hid h
  have H3 := Lib.hid q3
  clear h q1 q2 q3 hc
  go_enter Try.func18, Try.ntmps18
  go_wp2_with fail
  refine (both_any _ _ _ _ _).mono ?_
  rintro e w1 ⟨he, hB⟩
  rw [H.out, H3.out] at he
  subst he
  have D1 := dstep w hB (by repeat (first | with_reducible exact Below.refl _ _ | with_reducible apply bdrew | with_reducible apply bdrewN | with_reducible apply balloc | ((with_reducible refine bset ?_ ?_ _); rotate_left; (first | omega | (simp <;> omega)))))
  have d1s := D1.size
  obtain ⟨C0, F1⟩ := Cls.first (l := [(w.heap.size, 0, .int .i64 a), (w.heap.size, 1, .int .i64 b), (w.heap.size + 1, 0, .int .i64 c), (w.heap.size + 1, 1, .int .i64 d), (w.heap.size + 1 + 1, 0, .int .i64 0), (w.heap.size + 1 + 1, 1, .int .i64 0), (w.heap.size + 1 + 1 + 1, 0, .int .i64 0), (w.heap.size + 1 + 1 + 1, 1, .int .i64 0)]) hB (by simp [Cls, go_sem])
  simp only [Cls, and_true] at F1
  have B1 := hB
  have hs1 := hB.size
  try simp at hs1
  have hb1 := B1.size
  try simp at hb1
  have y1_0_3 : w.heap.size + 1 + 1 + 1 < w1.heap.size := (by omega)
  have y1_0_2 : w.heap.size + 1 + 1 < w1.heap.size := (by omega)
  have y1_0_1 : w.heap.size + 1 < w1.heap.size := (by omega)
  have y1_0_0 : w.heap.size < w1.heap.size := (by omega)
  have y1_0_p1 : w.heap.size < w1.heap.size + 1 := (by omega)
  have y1_0_p2 : w.heap.size < w1.heap.size + 1 + 1 := (by omega)
  clear hB
  go_wp2_with fail
  refine (reduce_any _ _ _ (by omega) (by omega) (by omega) (by omega) (by assumption)).mono ?_
  rintro e w2 ⟨rfl, hB⟩
  have D2 := dstep w hB (by repeat (first | with_reducible exact D1 | with_reducible apply bdrew | with_reducible apply bdrewN | with_reducible apply balloc | ((with_reducible refine bset ?_ ?_ _); rotate_left; (first | omega | (simp <;> omega)))))
  have d2s := D2.size
  have B2 := bstep B1 hB (by repeat (first | with_reducible exact B1 | with_reducible apply bdrew | with_reducible apply bdrewN | with_reducible apply balloc | ((with_reducible refine bset ?_ ?_ _); rotate_left; (first | omega | (simp <;> omega)))))
  have F2 := C0.below B2
  simp only [Cls, and_true] at F2
  have hs2 := hB.size
  try simp at hs2
  have y2_0_3 : w.heap.size + 1 + 1 + 1 < w2.heap.size := (by omega)
  have y2_0_2 : w.heap.size + 1 + 1 < w2.heap.size := (by omega)
  have y2_0_1 : w.heap.size + 1 < w2.heap.size := (by omega)
  have y2_0_0 : w.heap.size < w2.heap.size := (by omega)
  have y2_0_p1 : w.heap.size < w2.heap.size + 1 := (by omega)
  have y2_0_p2 : w.heap.size < w2.heap.size + 1 + 1 := (by omega)
  clear hB
  go_wp2
  refine bodyPost_ret (v := .tuple #[.agg #[.int .i64 (rn (a * d) (b * c)), .int .i64 (rd (a * d) (b * c))], .agg #[.int .i64 (rc (a * d) (b * c)), .int .i64 (ri (a * d) (b * c))]]) ?_ rfl ⟨rfl, by repeat (first | with_reducible exact D2 | with_reducible apply bdrew | with_reducible apply bdrewN | with_reducible apply balloc | ((with_reducible refine bset ?_ ?_ _); rotate_left; (first | omega | (simp <;> omega))))⟩
  simp [results, Try.results18, go_sem, F2, y2_0_3, y2_0_2, y2_0_1, y2_0_0, y2_0_p1, y2_0_p2]


/-- The sign of a comparison. -/
def sg (x y : Int) : Int := if x < y then -1 else if y < x then 1 else 0
theorem nan_any (x : Int) (w : World) : Calls Try.prog 32 #[.int .i64 x] w fun e w' => e = .returned (.bool false) ∧ w = w' := by
  go_enter Try.func32, Try.ntmps32
  go_wp2
  go_ret
  exact ⟨by simp, rfl⟩
set_option maxHeartbeats 400000 in
theorem cmp_any (x y : Int) (w : World) : Calls Try.prog 29 #[.int .i64 x, .int .i64 y] w fun e w' => e = .returned (.int .i64 (sg x y)) ∧ w = w' := by
  have h3 : (x < y ∧ sg x y = -1) ∨ (y < x ∧ sg x y = 1) ∨ (x = y ∧ sg x y = 0) := by
    unfold sg
    rcases Int.lt_trichotomy x y with h | h | h
    · exact Or.inl ⟨h, if_pos h⟩
    · exact Or.inr (Or.inr ⟨h, by rw [if_neg (by omega), if_neg (by omega)]⟩)
    · exact Or.inr (Or.inl ⟨h, by rw [if_neg (by omega), if_pos h]⟩)
  rcases h3 with ⟨h, e⟩ | ⟨h, e⟩ | ⟨h, e⟩
  case' inr.inr => subst h
  all_goals
    rw [e]
    clear e
    go_enter Try.func29, Try.ntmps29
    go_wp2_with fail
    refine (nan_any _ _).mono ?_
    rintro e w' ⟨rfl, rfl⟩
    go_wp2_with fail
    refine (nan_any _ _).mono ?_
    rintro e w' ⟨rfl, rfl⟩
    go_wp2
    go_ret
    exact ⟨rfl, rfl⟩
set_option maxHeartbeats 400000 in
theorem compare_bad (a b c d : Int) (h : ¬ bc a b c d = 0) (w : World) :
    Calls Try.prog 19 #[.agg #[.int .i64 a, .int .i64 b], .agg #[.int .i64 c, .int .i64 d]] w fun e w' => e = .returned (.tuple #[.int .i64 0, .agg #[.int .i64 (bc a b c d), .int .i64 (bi a b c d)]]) ∧ Below w.heap.size w w' := by
  have N := bb_no h
  go_enter Try.func19, Try.ntmps19
  go_wp2_with fail
  refine (both_any _ _ _ _ _).mono ?_
  rintro e w1 ⟨rfl, hB⟩
  have D1 := dstep w hB (by repeat (first | with_reducible exact Below.refl _ _ | with_reducible apply bdrew | with_reducible apply bdrewN | with_reducible apply balloc | ((with_reducible refine bset ?_ ?_ _); rotate_left; (first | omega | (simp <;> omega)))))
  have d1s := D1.size
  obtain ⟨C0, F1⟩ := Cls.first (l := [(w.heap.size, 0, .int .i64 a), (w.heap.size, 1, .int .i64 b), (w.heap.size + 1, 0, .int .i64 c), (w.heap.size + 1, 1, .int .i64 d), (w.heap.size + 1 + 1, 0, .int .i64 0), (w.heap.size + 1 + 1, 1, .int .i64 0)]) hB (by simp [Cls, go_sem])
  simp only [Cls, and_true] at F1
  have B1 := hB
  have hs1 := hB.size
  try simp at hs1
  have hb1 := B1.size
  try simp at hb1
  have y1_0_2 : w.heap.size + 1 + 1 < w1.heap.size := (by omega)
  have y1_0_1 : w.heap.size + 1 < w1.heap.size := (by omega)
  have y1_0_0 : w.heap.size < w1.heap.size := (by omega)
  have y1_0_p1 : w.heap.size < w1.heap.size + 1 := (by omega)
  have y1_0_p2 : w.heap.size < w1.heap.size + 1 + 1 := (by omega)
  clear hB
  go_wp2
  go_region
  go_wp2
  refine bodyPost_ret (v := .tuple #[.int .i64 0, .agg #[.int .i64 (bc a b c d), .int .i64 (bi a b c d)]]) ?_ rfl ⟨rfl, by repeat (first | with_reducible exact D1 | with_reducible apply bdrew | with_reducible apply bdrewN | with_reducible apply balloc | ((with_reducible refine bset ?_ ?_ _); rotate_left; (first | omega | (simp <;> omega))))⟩
  simp [results, Try.results19, go_sem, F1, y1_0_2, y1_0_1, y1_0_0, y1_0_p1, y1_0_p2]

set_option maxHeartbeats 400000 in
theorem compare_ok (a b c d : Int) (h : bc a b c d = 0) (w : World) :
    Calls Try.prog 19 #[.agg #[.int .i64 a, .int .i64 b], .agg #[.int .i64 c, .int .i64 d]] w fun e w' => e = .returned (.tuple #[.int .i64 (sg (a * d) (c * b)), .agg #[.int .i64 0, .int .i64 0]]) ∧ Below w.heap.size w w' := by
  obtain ⟨q1, q2, q3⟩ := bc_zero h
  obtain ⟨v1, v2, v3, v4, _⟩ := vcode_zero q1
  obtain ⟨v5, v6, v7, v8, _⟩ := vcode_zero q2
  obtain ⟨m1, m2⟩ := mul_bd v1 v2 (show -1000000000 ≤ d by omega) v8
  obtain ⟨m3, m4⟩ := mul_bd v5 v6 (show -1000000000 ≤ b by omega) v4
  obtain ⟨m5, m6⟩ := mul_bd (show -1000000000 ≤ b by omega) v4 v5 v6
  have H := Lib.hid h
  have H3 := Lib.hid q3
  have e1 : IntKind.i64.wrap (a * d) = a * d := IntWalk.i64_in _ (by omega)
  have e2 : IntKind.i64.wrap (c * b) = c * b := IntWalk.i64_in _ (by omega)
  clear h q1 q2 q3
  go_enter Try.func19, Try.ntmps19
  go_wp2_with fail
  refine (both_any _ _ _ _ _).mono ?_
  rintro e w1 ⟨he, hB⟩
  rw [H.out, H3.out] at he
  subst he
  have D1 := dstep w hB (by repeat (first | with_reducible exact Below.refl _ _ | with_reducible apply bdrew | with_reducible apply bdrewN | with_reducible apply balloc | ((with_reducible refine bset ?_ ?_ _); rotate_left; (first | omega | (simp <;> omega)))))
  have d1s := D1.size
  obtain ⟨C0, F1⟩ := Cls.first (l := [(w.heap.size, 0, .int .i64 a), (w.heap.size, 1, .int .i64 b), (w.heap.size + 1, 0, .int .i64 c), (w.heap.size + 1, 1, .int .i64 d), (w.heap.size + 1 + 1, 0, .int .i64 0), (w.heap.size + 1 + 1, 1, .int .i64 0)]) hB (by simp [Cls, go_sem])
  simp only [Cls, and_true] at F1
  have B1 := hB
  have hs1 := hB.size
  try simp at hs1
  have hb1 := B1.size
  try simp at hb1
  have y1_0_2 : w.heap.size + 1 + 1 < w1.heap.size := (by omega)
  have y1_0_1 : w.heap.size + 1 < w1.heap.size := (by omega)
  have y1_0_0 : w.heap.size < w1.heap.size := (by omega)
  have y1_0_p1 : w.heap.size < w1.heap.size + 1 := (by omega)
  have y1_0_p2 : w.heap.size < w1.heap.size + 1 + 1 := (by omega)
  clear hB
  go_wp2_with fail
  refine region_still_tail 13 (by kernel_rfl) (by kernel_rfl) ?_
  simp only [List.take_succ_cons, List.take_zero, List.drop_succ_cons, List.drop_zero]
  repeat still_step
  still_call ((cmp_any _ _ _).mono fun _ _ h => ⟨h.1, h.2.symm⟩)
  repeat still_step
  try refine wpStill_nil ?_
  go_wp2
  refine bodyPost_ret (v := .tuple #[.int .i64 (sg (a * d) (c * b)), .agg #[.int .i64 0, .int .i64 0]]) ?_ rfl ⟨rfl, by repeat (first | with_reducible exact D1 | with_reducible apply bdrew | with_reducible apply bdrewN | with_reducible apply balloc | ((with_reducible refine bset ?_ ?_ _); rotate_left; (first | omega | (simp <;> omega))))⟩
  simp [results, Try.results19, go_sem, F1, y1_0_2, y1_0_1, y1_0_0, y1_0_p1, y1_0_p2]


/-- The greatest integer that is at most n/d. -/
theorem floor_uniq {n d q : Int} (hd : 1 ≤ d) (h1 : q * d ≤ n) (h2 : n < q * d + d) : n / d = q := by
  have a := Int.le_ediv_of_mul_le (by omega) h1
  have b := Int.ediv_lt_of_lt_mul (a := n) (b := q + 1) (c := d) (by omega) (by rw [Int.add_mul]; omega)
  omega
theorem floor_div (n d : Int) (hd : 1 ≤ d) : (if n < n.tdiv d * d then n.tdiv d - 1 else n.tdiv d) = n / d := by
  have h1 := Int.mul_tdiv_add_tmod n d
  have h2 := tmod_bd n d (by omega)
  rw [Int.mul_comm] at h1
  generalize n.tdiv d = t at *
  generalize n.tmod d = r at *
  symm
  split
  · exact floor_uniq hd (by rw [Int.sub_mul]; omega) (by rw [Int.sub_mul]; omega)
  · exact floor_uniq hd (by omega) (by omega)
theorem tdiv_bd {n d : Int} (hd : 1 ≤ d) (h1 : -1000000000 ≤ n) (h2 : n ≤ 1000000000) : -1000000000 ≤ n.tdiv d ∧ n.tdiv d ≤ 1000000000 ∧ -1000000000 ≤ n.tdiv d * d ∧ n.tdiv d * d ≤ 1000000000 := by
  have e : (n.tdiv d).natAbs = n.natAbs / d.natAbs := Int.natAbs_tdiv ..
  have l := Nat.div_le_self n.natAbs d.natAbs
  have e2 : (n.tdiv d * d).natAbs = n.natAbs / d.natAbs * d.natAbs := by rw [Int.natAbs_mul, e]
  have l2 := Nat.div_mul_le_self n.natAbs d.natAbs
  omega
set_option maxHeartbeats 400000 in
theorem floor_bad (n d : Int) (h : ¬ vcode n d = 0) (w : World) :
    Calls Try.prog 20 #[.agg #[.int .i64 n, .int .i64 d]] w fun e w' => e = .returned (.tuple #[.int .i64 0, .agg #[.int .i64 (vcode n d), .int .i64 0]]) ∧ Below w.heap.size w w' := by
  have N := bb_no h
  go_enter Try.func20, Try.ntmps20
  go_wp2_with fail
  refine (validate_any _ _ _).mono ?_
  rintro e w1 ⟨rfl, hB⟩
  have D1 := dstep w hB (by repeat (first | with_reducible exact Below.refl _ _ | with_reducible apply bdrew | with_reducible apply bdrewN | with_reducible apply balloc | ((with_reducible refine bset ?_ ?_ _); rotate_left; (first | omega | (simp <;> omega)))))
  have d1s := D1.size
  obtain ⟨C0, F1⟩ := Cls.first (l := [(w.heap.size, 0, .int .i64 n), (w.heap.size, 1, .int .i64 d), (w.heap.size + 1, 0, .int .i64 0), (w.heap.size + 1, 1, .int .i64 0)]) hB (by simp [Cls, go_sem])
  simp only [Cls, and_true] at F1
  have B1 := hB
  have hs1 := hB.size
  try simp at hs1
  have hb1 := B1.size
  try simp at hb1
  have y1_0_1 : w.heap.size + 1 < w1.heap.size := (by omega)
  have y1_0_0 : w.heap.size < w1.heap.size := (by omega)
  have y1_0_p1 : w.heap.size < w1.heap.size + 1 := (by omega)
  have y1_0_p2 : w.heap.size < w1.heap.size + 1 + 1 := (by omega)
  clear hB
  go_wp2
  go_region
  go_wp2
  refine bodyPost_ret (v := .tuple #[.int .i64 0, .agg #[.int .i64 (vcode n d), .int .i64 0]]) ?_ rfl ⟨rfl, by repeat (first | with_reducible exact D1 | with_reducible apply bdrew | with_reducible apply bdrewN | with_reducible apply balloc | ((with_reducible refine bset ?_ ?_ _); rotate_left; (first | omega | (simp <;> omega))))⟩
  simp [results, Try.results20, go_sem, F1, y1_0_1, y1_0_0, y1_0_p1, y1_0_p2]

set_option maxHeartbeats 400000 in
theorem floor_ok (n d : Int) (h : vcode n d = 0) (w : World) :
    Calls Try.prog 20 #[.agg #[.int .i64 n, .int .i64 d]] w fun e w' => e = .returned (.tuple #[.int .i64 (n / d), .agg #[.int .i64 0, .int .i64 0]]) ∧ Below w.heap.size w w' := by
  obtain ⟨v1, v2, v3, v4, _⟩ := vcode_zero h
  have H := Lib.hid h
  have e := floor_div n d v3
  obtain ⟨t1, t2, t3, t4⟩ := tdiv_bd v3 v1 v2
  by_cases hc : n < n.tdiv d * d
  case' pos => rw [if_pos hc] at e
  case' neg => rw [if_neg hc] at e
  all_goals
    have E := Lib.hid e
    clear e h
    rw [← E.out]
    go_enter Try.func20, Try.ntmps20
    go_wp2_with fail
    refine (validate_any _ _ _).mono ?_
    rintro e w1 ⟨he, hB⟩
    rw [H.out] at he
    subst he
    have D1 := dstep w hB (by repeat (first | with_reducible exact Below.refl _ _ | with_reducible apply bdrew | with_reducible apply bdrewN | with_reducible apply balloc | ((with_reducible refine bset ?_ ?_ _); rotate_left; (first | omega | (simp <;> omega)))))
    have d1s := D1.size
    obtain ⟨C0, F1⟩ := Cls.first (l := [(w.heap.size, 0, .int .i64 n), (w.heap.size, 1, .int .i64 d), (w.heap.size + 1, 0, .int .i64 0), (w.heap.size + 1, 1, .int .i64 0)]) hB (by simp [Cls, go_sem])
    simp only [Cls, and_true] at F1
    have B1 := hB
    have hs1 := hB.size
    try simp at hs1
    have hb1 := B1.size
    try simp at hb1
    have y1_0_1 : w.heap.size + 1 < w1.heap.size := (by omega)
    have y1_0_0 : w.heap.size < w1.heap.size := (by omega)
    have y1_0_p1 : w.heap.size < w1.heap.size + 1 := (by omega)
    have y1_0_p2 : w.heap.size < w1.heap.size + 1 + 1 := (by omega)
    clear hB
    go_wp2
    go_region
    go_wp2
    refine bodyPost_ret (v := .tuple #[.int .i64 _, .agg #[.int .i64 0, .int .i64 0]]) ?_ rfl ⟨rfl, by repeat (first | with_reducible exact D1 | with_reducible apply bdrew | with_reducible apply bdrewN | with_reducible apply balloc | ((with_reducible refine bset ?_ ?_ _); rotate_left; (first | omega | (simp <;> omega))))⟩
    simp [results, Try.results20, go_sem, F1, y1_0_1, y1_0_0, y1_0_p1, y1_0_p2]


end Go.Proofs.Ytmlgaofbifejaaa
