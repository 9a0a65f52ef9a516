/-
  fraction.Validate, fraction.reduce, fraction.Make: what they return, for all numbers (reduce: of at most 2^62 in absolute value, the second not 0).
-/
import Derived.Test.YtkepfmglljkjhaaFg
namespace Go.Proofs.Ytkepfmglljkjhaa
open Go.RowKit
set_option linter.unusedVariables false
set_option linter.unusedSimpArgs false

theorem ret_fault {a b : Int} (h : a = b) : Ending.returned (.agg #[.int .i64 a, .int .i64 0]) = .returned (.agg #[.int .i64 b, .int .i64 0]) := by rw [h]

set_option maxHeartbeats 400000 in
theorem validate_out (n d : Int) (w : World) (h : n < -1000000000 ∨ 1000000000 < n ∨ d < 1 ∨ 1000000000 < d) :
    Calls Try.prog 58 #[.agg #[.int .i64 n, .int .i64 d]] w fun e w' => e = .returned (.agg #[.int .i64 3, .int .i64 0]) ∧ Below w.heap.size w w' := by
  have hx : n < -1000000000 ∨ (-1000000000 ≤ n ∧ 1000000000 < n) ∨ (-1000000000 ≤ n ∧ n ≤ 1000000000 ∧ d < 1) ∨ (-1000000000 ≤ n ∧ n ≤ 1000000000 ∧ 1 ≤ d ∧ 1000000000 < d) := by omega
  clear h
  rcases hx with h1 | ⟨h1, h2⟩ | ⟨h1, h2, h3⟩ | ⟨h1, h2, h3, h4⟩
  all_goals
    go_enter Try.func58, Try.ntmps58
    go_wp2
    exact bodyPost_ret (v := .agg #[.int .i64 3, .int .i64 0]) (by simp [results, Try.results58, go_sem]) rfl ⟨rfl, ((Below.refl _ _).alloc (Nat.le_refl _) _).alloc (by simp) _⟩

set_option maxHeartbeats 400000 in
theorem validate_in (n d c : Int) (w : World) (h1 : -1000000000 ≤ n) (h2 : n ≤ 1000000000) (h3 : 1 ≤ d) (h4 : d ≤ 1000000000) (hg : (Int.gcd n d = 1 ∧ c = 0) ∨ (¬ Int.gcd n d = 1 ∧ c = 5)) :
    Calls Try.prog 58 #[.agg #[.int .i64 n, .int .i64 d]] w fun e w' => e = .returned (.agg #[.int .i64 c, .int .i64 0]) ∧ Below w.heap.size w w' := by
  rcases hg with ⟨hg, rfl⟩ | ⟨hg, rfl⟩
  · have hg' : ((Int.gcd n d : Nat) : Int) = 1 := by rw [hg]; rfl
    have HG := Lib.hid hg'
    clear hg hg'
    go_enter Try.func58, Try.ntmps58
    go_wp2_with (go_at_call 57; go_must (refine (gcd_any _ _ _ (by omega) (by omega)).mono ?_; rintro e w1 ⟨he, hB⟩; rw [HG.out] at he; subst he; have F1 := Cls.below (l := [(w.heap.size + 1, 0, .int .i64 0), (w.heap.size + 1, 1, .int .i64 0)]) hB (by simp [Cls, go_sem]); simp only [Cls, and_true] at F1; have HB := Lib.hid hB; clear hB))
    exact bodyPost_ret (v := .agg #[.int .i64 0, .int .i64 0]) (by simp [results, Try.results58, go_sem, F1]) rfl ⟨rfl, ((((Below.refl _ _).alloc (Nat.le_refl _) _).alloc (by simp) _).trans (HB.out.mono (by simp <;> omega))).setCell (by simp) _ |>.setCell (by simp) _⟩
  · have hg' : (((Int.gcd n d : Nat) : Int) != 1) = true := by simp; omega
    go_enter Try.func58, Try.ntmps58
    go_wp2_with (go_at_call 57; go_must (refine (gcd_any _ _ _ (by omega) (by omega)).mono ?_; rintro e w1 ⟨rfl, hB⟩; have F1 := Cls.below (l := [(w.heap.size + 1, 0, .int .i64 0), (w.heap.size + 1, 1, .int .i64 0)]) hB (by simp [Cls, go_sem]); simp only [Cls, and_true] at F1; have HB := Lib.hid hB; clear hB))
    exact bodyPost_ret (v := .agg #[.int .i64 5, .int .i64 0]) (by simp [results, Try.results58, go_sem, F1]) rfl ⟨rfl, ((((Below.refl _ _).alloc (Nat.le_refl _) _).alloc (by simp) _).trans (HB.out.mono (by simp <;> omega))).setCell (by simp) _ |>.setCell (by simp) _⟩

/-- Validate, for all numbers. -/
theorem fvalidate_any (n d : Int) (w : World) :
    Calls Try.prog 58 #[.agg #[.int .i64 n, .int .i64 d]] w fun e w' => e = .returned (.agg #[.int .i64 (vcode n d), .int .i64 0]) ∧ Below w.heap.size w w' := by
  by_cases h : n < -1000000000 ∨ 1000000000 < n ∨ d < 1 ∨ 1000000000 < d
  · rw [vcode_out h]; exact validate_out n d w h
  · by_cases hg : Int.gcd n d = 1
    · rw [vcode_one h hg]; exact validate_in n d 0 w (by omega) (by omega) (by omega) (by omega) (Or.inl ⟨hg, rfl⟩)
    · rw [vcode_not h hg]; exact validate_in n d 5 w (by omega) (by omega) (by omega) (by omega) (Or.inr ⟨hg, rfl⟩)


theorem q_bd (n d : Int) (hd : d ≠ 0) (h1 : -4611686018427387904 ≤ n) (h2 : n ≤ 4611686018427387904) : -4611686018427387904 ≤ qn n d ∧ qn n d ≤ 4611686018427387904 := by
  have hg := gcd_pos (n := n) hd
  have h := qn_mul n d
  have hs : (qs n d).natAbs = n.natAbs := by unfold qs; split <;> simp
  have h' : (qn n d).natAbs * Int.gcd n d = n.natAbs := by rw [← hs, ← h, Int.natAbs_mul, Int.natAbs_natCast]
  have : (qn n d).natAbs ≤ n.natAbs := by rw [← h']; exact Nat.le_mul_of_pos_right _ (by omega)
  omega
theorem q_bd' (n d : Int) (hd : d ≠ 0) (h1 : -4611686018427387904 ≤ d) (h2 : d ≤ 4611686018427387904) : qd n d ≤ 4611686018427387904 := by
  have hg := gcd_pos (n := n) hd
  have h := qd_mul n d
  have hp := qd_pos (n := n) hd
  have hs : (qs d d).natAbs = d.natAbs := by unfold qs; split <;> simp
  have h' : (qd n d).natAbs * Int.gcd n d = d.natAbs := by rw [← hs, ← h, Int.natAbs_mul, Int.natAbs_natCast]
  have : (qd n d).natAbs ≤ d.natAbs := by rw [← h']; exact Nat.le_mul_of_pos_right _ (by omega)
  omega

theorem quo_neg (n d : Int) (hd : d < 0) : -(n.tdiv ((Int.gcd n d : Nat) : Int)) = qn n d ∧ -(d.tdiv ((Int.gcd n d : Nat) : Int)) = qd n d := by
  unfold qn qd qs
  rw [if_pos hd, if_pos hd, ← Int.neg_tdiv, ← Int.neg_tdiv]
  exact ⟨Int.tdiv_eq_ediv_of_dvd ((Int.dvd_neg).2 (Int.gcd_dvd_left ..)), Int.tdiv_eq_ediv_of_dvd ((Int.dvd_neg).2 (Int.gcd_dvd_right ..))⟩
theorem quo_pos (n d : Int) (hd : ¬ d < 0) : n.tdiv ((Int.gcd n d : Nat) : Int) = qn n d ∧ d / ((Int.gcd n d : Nat) : Int) = qd n d := by
  unfold qn qd qs
  rw [if_neg hd, if_neg hd]
  exact ⟨Int.tdiv_eq_ediv_of_dvd (Int.gcd_dvd_left ..), rfl⟩

theorem fit_code {n d : Int} (hd : d ≠ 0) (h : qfit n d) : vcode (qn n d) (qd n d) = 0 ∧ rn n d = qn n d ∧ rd n d = qd n d ∧ rc n d = 0 ∧ ri n d = 0 := by
  unfold rn rd rc ri
  have hp := qd_pos (n := n) hd
  refine ⟨vcode_one ?_ (q_gcd hd), if_pos h, if_pos h, if_pos h, if_pos h⟩
  unfold qfit at h; omega
theorem big_code {n d : Int} (hd : d ≠ 0) (h : ¬ qfit n d) : vcode (qn n d) (qd n d) = 3 ∧ rn n d = 0 ∧ rd n d = 0 ∧ rc n d = 10 ∧ ri n d = -1 := by
  unfold rn rd rc ri
  have hp := qd_pos (n := n) hd
  refine ⟨vcode_out ?_, if_neg h, if_neg h, if_neg h, if_neg h⟩
  unfold qfit at h; omega

set_option maxHeartbeats 400000 in
theorem reduce_fit (n d : Int) (w : World) (h1 : -4611686018427387904 ≤ n) (h2 : n ≤ 4611686018427387904) (h3 : -4611686018427387904 ≤ d) (h4 : d ≤ 4611686018427387904) (hd : d ≠ 0) (hfit : qfit n d) :
    Calls Try.prog 54 #[.int .i64 n, .int .i64 d] w fun e w' => e = .returned (.tuple #[.agg #[.int .i64 (rn n d), .int .i64 (rd n d)], .agg #[.int .i64 (rc n d), .int .i64 (ri n d)]]) ∧ Below w.heap.size w w' := by
  obtain ⟨k0, k1, k2, k3, k4⟩ := fit_code hd hfit
  rw [k1, k2, k3, k4]
  have K0 := Lib.hid k0
  obtain ⟨b1, b2⟩ := q_bd n d hd h1 h2
  have b3 := qd_pos (n := n) hd
  have b4 := q_bd' n d hd h3 h4
  have hg := gcd_pos (n := n) hd
  clear k0 k1 k2 k3 k4 hfit
  have BA := ((Below.refl w.heap.size w).alloc (Nat.le_refl _) (.cells #[.int .i64 0, .int .i64 0] 28)).alloc (by simp) (.cells #[.int .i64 0, .int .i64 0] 34)
  by_cases hs : d < 0
  case' pos => obtain ⟨q1, q2⟩ := quo_neg n d hs
  case' neg => obtain ⟨q1, q2⟩ := quo_pos n d hs
  all_goals
    go_enter Try.func54, Try.ntmps54
    go_wp2_with (go_at_call 57; go_must (refine (gcd_any _ _ _ (by omega) (by omega)).mono ?_; rintro e w1 ⟨rfl, B1⟩; obtain ⟨C0, F1⟩ := Cls.first (l := [(w.heap.size, 0, .int .i64 0), (w.heap.size, 1, .int .i64 0), (w.heap.size + 1, 0, .int .i64 0), (w.heap.size + 1, 1, .int .i64 0)]) B1 (by simp [Cls, go_sem]); simp only [Cls, and_true] at F1; have z1 : w.heap.size + 2 ≤ w1.heap.size := (by have := B1.size; simp at this; omega)))
    go_region
    go_wp2_with (go_at_call 58; go_must (refine (fvalidate_any _ _ _).mono ?_; rintro e w2 ⟨he, hB⟩; rw [K0.out] at he; subst he; have B2 := ((B1.alloc (by simp <;> omega) _).drew).trans (hB.mono (by simp <;> omega)); have F2 := C0.below B2; simp only [Cls, and_true] at F2; have z2 : w1.heap.size + 1 ≤ w2.heap.size := (by have := hB.size; simp at this; omega); have G2 : Cls w2 [(w1.heap.size, 0, .int .i64 (qn n d)), (w1.heap.size, 1, .int .i64 (qd n d))] := Cls.below hB (by simp [Cls, go_sem]); simp only [Cls, and_true] at G2; clear hB))
    refine bodyPost_ret (v := .tuple #[.agg #[.int .i64 (qn n d), .int .i64 (qd n d)], .agg #[.int .i64 0, .int .i64 0]]) ?_ rfl ⟨rfl, ((((BA.trans (B2.mono (by simp <;> omega))).setCell (by simp) _).setCell (by simp) _).setCell (by simp) _).setCell (by simp) _⟩
    simp [results, Try.results54, go_sem, F2]

set_option maxHeartbeats 400000 in
theorem reduce_big (n d : Int) (w : World) (h1 : -4611686018427387904 ≤ n) (h2 : n ≤ 4611686018427387904) (h3 : -4611686018427387904 ≤ d) (h4 : d ≤ 4611686018427387904) (hd : d ≠ 0) (hfit : ¬ qfit n d) :
    Calls Try.prog 54 #[.int .i64 n, .int .i64 d] w fun e w' => e = .returned (.tuple #[.agg #[.int .i64 (rn n d), .int .i64 (rd n d)], .agg #[.int .i64 (rc n d), .int .i64 (ri n d)]]) ∧ Below w.heap.size w w' := by
  obtain ⟨k0, k1, k2, k3, k4⟩ := big_code hd hfit
  rw [k1, k2, k3, k4]
  have K0 := Lib.hid k0
  obtain ⟨b1, b2⟩ := q_bd n d hd h1 h2
  have b3 := qd_pos (n := n) hd
  have b4 := q_bd' n d hd h3 h4
  have hg := gcd_pos (n := n) hd
  clear k0 k1 k2 k3 k4 hfit
  have BA := ((Below.refl w.heap.size w).alloc (Nat.le_refl _) (.cells #[.int .i64 0, .int .i64 0] 28)).alloc (by simp) (.cells #[.int .i64 0, .int .i64 0] 34)
  by_cases hs : d < 0
  case' pos => obtain ⟨q1, q2⟩ := quo_neg n d hs
  case' neg => obtain ⟨q1, q2⟩ := quo_pos n d hs
  all_goals
    go_enter Try.func54, Try.ntmps54
    go_wp2_with (go_at_call 57; go_must (refine (gcd_any _ _ _ (by omega) (by omega)).mono ?_; rintro e w1 ⟨rfl, B1⟩; obtain ⟨C0, F1⟩ := Cls.first (l := [(w.heap.size, 0, .int .i64 0), (w.heap.size, 1, .int .i64 0), (w.heap.size + 1, 0, .int .i64 0), (w.heap.size + 1, 1, .int .i64 0)]) B1 (by simp [Cls, go_sem]); simp only [Cls, and_true] at F1; have z1 : w.heap.size + 2 ≤ w1.heap.size := (by have := B1.size; simp at this; omega)))
    go_region
    go_wp2_with (go_at_call 58; go_must (refine (fvalidate_any _ _ _).mono ?_; rintro e w2 ⟨he, hB⟩; rw [K0.out] at he; subst he; have B2 := ((B1.alloc (by simp <;> omega) _).drew).trans (hB.mono (by simp <;> omega)); have F2 := C0.below B2; simp only [Cls, and_true] at F2; have z2 : w1.heap.size + 1 ≤ w2.heap.size := (by have := hB.size; simp at this; omega); have G2 : Cls w2 [(w1.heap.size, 0, .int .i64 (qn n d)), (w1.heap.size, 1, .int .i64 (qd n d))] := Cls.below hB (by simp [Cls, go_sem]); simp only [Cls, and_true] at G2; clear hB))
    refine bodyPost_ret (v := .tuple #[.agg #[.int .i64 0, .int .i64 0], .agg #[.int .i64 10, .int .i64 (-1)]]) ?_ rfl ⟨rfl, ((((BA.trans (B2.mono (by simp <;> omega))).setCell (by simp) _).setCell (by simp) _).setCell (by simp) _).setCell (by simp) _⟩
    simp [results, Try.results54, go_sem, F2]

theorem reduce_any (n d : Int) (w : World) (h1 : -4611686018427387904 ≤ n) (h2 : n ≤ 4611686018427387904) (h3 : -4611686018427387904 ≤ d) (h4 : d ≤ 4611686018427387904) (hd : d ≠ 0) :
    Calls Try.prog 54 #[.int .i64 n, .int .i64 d] w fun e w' => e = .returned (.tuple #[.agg #[.int .i64 (rn n d), .int .i64 (rd n d)], .agg #[.int .i64 (rc n d), .int .i64 (ri n d)]]) ∧ Below w.heap.size w w' := by
  by_cases h : qfit n d
  · exact reduce_fit n d w h1 h2 h3 h4 hd h
  · exact reduce_big n d w h1 h2 h3 h4 hd h

end Go.Proofs.Ytkepfmglljkjhaa
