/-
  The reference's Divisor, FractionCode, Lowest.
-/
import Derived.Test.YtkepfmglljkjhaaFv
namespace Go.Proofs.Ytkepfmglljkjhaa
open Go.RowKit
set_option linter.unusedVariables false
set_option linter.unusedSimpArgs false

theorem fin_any (n a b : Int) (w : World) (h : a ≤ b) :
    Calls Try.prog 12 #[.int .i64 n, .int .i64 a, .int .i64 b] w fun e w' => e = .returned (.bool (decide (a ≤ n ∧ n ≤ b))) ∧ w = w' := by
  by_cases h1 : a ≤ n
  · by_cases h2 : n ≤ b
    · go_enter Try.func12, Try.ntmps12
      go_wp2
      go_ret
      exact ⟨by simp <;> omega, rfl⟩
    · go_enter Try.func12, Try.ntmps12
      go_wp2
      go_ret
      exact ⟨by simp <;> omega, rfl⟩
  · go_enter Try.func12, Try.ntmps12
    go_wp2
    go_ret
    exact ⟨by simp <;> omega, rfl⟩

theorem fin_yes (n a b : Int) (w : World) (h1 : a ≤ n) (h2 : n ≤ b) :
    Calls Try.prog 12 #[.int .i64 n, .int .i64 a, .int .i64 b] w fun e w' => e = .returned (.bool true) ∧ w = w' :=
  (fin_any n a b w (by omega)).mono fun e w' ⟨he, hw⟩ => ⟨by rw [he, show decide (a ≤ n ∧ n ≤ b) = true from decide_eq_true ⟨h1, h2⟩], hw⟩
theorem fin_no (n a b : Int) (w : World) (h : a ≤ b) (h1 : n < a ∨ b < n) :
    Calls Try.prog 12 #[.int .i64 n, .int .i64 a, .int .i64 b] w fun e w' => e = .returned (.bool false) ∧ w = w' :=
  (fin_any n a b w h).mono fun e w' ⟨he, hw⟩ => ⟨by rw [he, show decide (a ≤ n ∧ n ≤ b) = false from decide_eq_false (by omega)], hw⟩

theorem mod_gcd_l (a b : Int) : Int.gcd (a % b) b = Int.gcd a b := by
  have h := Int.gcd_add_mul_left_left b (a % b) (a / b)
  rw [Int.emod_add_mul_ediv] at h
  exact h.symm

set_option maxHeartbeats 400000 in
theorem divisor_any (a b : Int) (w : World) (ha : -4611686018427387904 ≤ a ∧ a ≤ 4611686018427387904) (hb : -4611686018427387904 ≤ b ∧ b ≤ 4611686018427387904) :
    Calls Try.prog 42 #[.int .i64 a, .int .i64 b] w fun e w' => e = .returned (.int .i64 (Int.gcd a b)) ∧ w = w' := by
  obtain ⟨ha1, ha2⟩ := ha
  obtain ⟨hb1, hb2⟩ := hb
  by_cases h1 : a < 0
  all_goals
    by_cases h2 : b < 0
    all_goals
      go_enter Try.func42, Try.ntmps42
      go_wp2
      go_loop [0, 1] (fun x y => ∃ m n : Int, x = .int .i64 m ∧ y = .int .i64 n ∧ Int.gcd m n = Int.gcd a b ∧ 0 ≤ m ∧ m ≤ 4611686018427387904 ∧ 0 ≤ n ∧ n ≤ 4611686018427387904) (fun x y => (intOf x).toNat + (intOf y).toNat)
      case atStart => exact ⟨_, _, rfl, rfl, by simp, by omega, by omega, by omega, by omega⟩
      case round =>
        obtain ⟨m, n, rfl, rfl, hg, hm1, hm2, hn1, hn2⟩ := hrel
        have HG := Lib.hid hg
        clear hg
        by_cases zm : m = 0
        · subst zm
          have e : (Int.gcd a b : Int) = n := by rw [← HG.out]; simp <;> omega
          have HE := Lib.hid e
          clear e
          go_wp2
          go_ret
          exact ⟨ret_int (by rw [HE.out] <;> omega), rfl⟩
        · have zm' : (m == 0) = false := by simpa using zm
          by_cases zn : n = 0
          · subst zn
            have e : (Int.gcd a b : Int) = m := by rw [← HG.out]; simp <;> omega
            have HE := Lib.hid e
            clear e
            go_wp2
            go_ret
            exact ⟨ret_int (by rw [HE.out] <;> omega), rfl⟩
          · have zn' : (n == 0) = false := by simpa using zn
            have zm2 : (m != 0) = true := by simpa using zm
            have zn2 : (n != 0) = true := by simpa using zn
            by_cases hc : n < m
            · have e1 := Int.emod_nonneg m zn
              have e2 := Int.emod_lt_of_pos m (show 0 < n by omega)
              go_wp2
              go_round
              case rel => exact ⟨m % n, n, rfl, rfl, by rw [mod_gcd_l]; exact HG.out, by omega, by omega, by omega, by omega⟩
              case measure => simp only [intOf]; omega
            · have e1 := Int.emod_nonneg n zm
              have e2 := Int.emod_lt_of_pos n (show 0 < m by omega)
              go_wp2
              go_round
              case rel => exact ⟨m, n % m, rfl, rfl, by rw [Int.gcd_comm, mod_gcd_l, Int.gcd_comm]; exact HG.out, by omega, by omega, by omega, by omega⟩
              case measure => simp only [intOf]; omega

theorem gcd_le {n d : Int} (hd : d ≠ 0) (h3 : -4611686018427387904 ≤ d) (h4 : d ≤ 4611686018427387904) : (Int.gcd n d : Int) ≤ 4611686018427387904 := by
  have h := Nat.le_of_dvd (by omega) (Int.natAbs_dvd_natAbs.2 (Int.gcd_dvd_right n d))
  rw [Int.natAbs_natCast] at h
  omega

set_option maxHeartbeats 400000 in
theorem fcode_out1 (n d : Int) (h : n < -1000000000 ∨ 1000000000 < n) (w : World) :
    Calls Try.prog 45 #[.agg #[.int .i64 n, .int .i64 d]] w fun e w' => e = .returned (.int .i64 3) ∧ Below w.heap.size w w' := by
  go_enter Try.func45, Try.ntmps45
  go_wp2_with fail
  refine (fin_no _ _ _ _ (by omega) (by omega)).mono ?_
  rintro e w' ⟨rfl, rfl⟩
  go_wp2
  go_ret
  exact ⟨rfl, by repeat (first | with_reducible exact Below.refl _ _ | with_reducible apply bdrew | with_reducible apply bdrewN | with_reducible apply balloc | ((with_reducible refine bset ?_ ?_ _); rotate_left; (first | omega | (simp <;> omega))))⟩

set_option maxHeartbeats 400000 in
theorem fcode_out2 (n d : Int) (h1 : -1000000000 ≤ n) (h2 : n ≤ 1000000000) (h : d < 1 ∨ 1000000000 < d) (w : World) :
    Calls Try.prog 45 #[.agg #[.int .i64 n, .int .i64 d]] w fun e w' => e = .returned (.int .i64 3) ∧ Below w.heap.size w w' := by
  go_enter Try.func45, Try.ntmps45
  go_wp2_with fail
  refine (fin_yes _ _ _ _ (by omega) (by omega)).mono ?_
  rintro e w' ⟨rfl, rfl⟩
  go_wp2_with fail
  refine (fin_no _ _ _ _ (by omega) (by omega)).mono ?_
  rintro e w' ⟨rfl, rfl⟩
  go_wp2
  go_ret
  exact ⟨rfl, by repeat (first | with_reducible exact Below.refl _ _ | with_reducible apply bdrew | with_reducible apply bdrewN | with_reducible apply balloc | ((with_reducible refine bset ?_ ?_ _); rotate_left; (first | omega | (simp <;> omega))))⟩

set_option maxHeartbeats 400000 in
theorem fcode_one (n d : Int) (h1 : -1000000000 ≤ n) (h2 : n ≤ 1000000000) (h3 : 1 ≤ d) (h4 : d ≤ 1000000000) (hg : ((Int.gcd n d : Nat) : Int) = 1) (w : World) :
    Calls Try.prog 45 #[.agg #[.int .i64 n, .int .i64 d]] w fun e w' => e = .returned (.int .i64 0) ∧ Below w.heap.size w w' := by
  have HG := Lib.hid hg
  clear hg
  go_enter Try.func45, Try.ntmps45
  go_wp2_with fail
  refine (fin_yes _ _ _ _ (by omega) (by omega)).mono ?_
  rintro e w' ⟨rfl, rfl⟩
  go_wp2_with fail
  refine (fin_yes _ _ _ _ (by omega) (by omega)).mono ?_
  rintro e w' ⟨rfl, rfl⟩
  go_wp2_with fail
  refine (divisor_any _ _ _ (by omega) (by omega)).mono ?_
  rintro e w' ⟨he, rfl⟩
  rw [HG.out] at he
  subst he
  go_wp2
  go_ret
  exact ⟨rfl, by repeat (first | with_reducible exact Below.refl _ _ | with_reducible apply bdrew | with_reducible apply bdrewN | with_reducible apply balloc | ((with_reducible refine bset ?_ ?_ _); rotate_left; (first | omega | (simp <;> omega))))⟩

set_option maxHeartbeats 400000 in
theorem fcode_not (n d : Int) (h1 : -1000000000 ≤ n) (h2 : n ≤ 1000000000) (h3 : 1 ≤ d) (h4 : d ≤ 1000000000) (hg : (((Int.gcd n d : Nat) : Int) == 1) = false) (w : World) :
    Calls Try.prog 45 #[.agg #[.int .i64 n, .int .i64 d]] w fun e w' => e = .returned (.int .i64 5) ∧ Below w.heap.size w w' := by
  go_enter Try.func45, Try.ntmps45
  go_wp2_with fail
  refine (fin_yes _ _ _ _ (by omega) (by omega)).mono ?_
  rintro e w' ⟨rfl, rfl⟩
  go_wp2_with fail
  refine (fin_yes _ _ _ _ (by omega) (by omega)).mono ?_
  rintro e w' ⟨rfl, rfl⟩
  go_wp2_with fail
  refine (divisor_any _ _ _ (by omega) (by omega)).mono ?_
  rintro e w' ⟨rfl, rfl⟩
  go_wp2
  go_ret
  exact ⟨rfl, by repeat (first | with_reducible exact Below.refl _ _ | with_reducible apply bdrew | with_reducible apply bdrewN | with_reducible apply balloc | ((with_reducible refine bset ?_ ?_ _); rotate_left; (first | omega | (simp <;> omega))))⟩

theorem fcode_any (n d : Int) (w : World) :
    Calls Try.prog 45 #[.agg #[.int .i64 n, .int .i64 d]] w fun e w' => e = .returned (.int .i64 (vcode n d)) ∧ Below w.heap.size w w' := by
  by_cases h : n < -1000000000 ∨ 1000000000 < n ∨ d < 1 ∨ 1000000000 < d
  · rw [vcode_out h]
    by_cases h1 : n < -1000000000 ∨ 1000000000 < n
    · exact fcode_out1 n d h1 w
    · exact fcode_out2 n d (by omega) (by omega) (by omega) w
  · by_cases hg : Int.gcd n d = 1
    · rw [vcode_one h hg]; exact fcode_one n d (by omega) (by omega) (by omega) (by omega) (by rw [hg]; rfl) w
    · rw [vcode_not h hg]; exact fcode_not n d (by omega) (by omega) (by omega) (by omega) (by simp; omega) w
/-- Is the quotient one that fits? -/
def rb (n d : Int) : Bool := decide (qfit n d)

set_option maxHeartbeats 400000 in
theorem lowest_fit (n d : Int) (h1 : -4611686018427387904 ≤ n) (h2 : n ≤ 4611686018427387904) (h3 : -4611686018427387904 ≤ d) (h4 : d ≤ 4611686018427387904) (hd : d ≠ 0) (hfit : qfit n d) (w : World) :
    Calls Try.prog 22 #[.int .i64 n, .int .i64 d] w fun e w' => e = .returned (.tuple #[.agg #[.int .i64 (qn n d), .int .i64 (qd n d)], .bool true]) ∧ Below w.heap.size w w' := by
  obtain ⟨k0, k1, k2, k3, k4⟩ := fit_code hd hfit
  have K0 := Lib.hid k0
  obtain ⟨b1, b2⟩ := q_bd n d hd h1 h2
  have b3 := qd_pos (n := n) hd
  have b4 := q_bd' n d hd h3 h4
  have hg := gcd_pos (n := n) hd
  have hg2 := gcd_le (n := n) hd h3 h4
  clear k0 k1 k2 k3 k4 hfit
  by_cases hs : d < 0
  case' pos => obtain ⟨q1, q2⟩ := quo_neg n d hs
  case' neg => obtain ⟨q1, q2⟩ := quo_pos n d hs
  all_goals
    go_enter Try.func22, Try.ntmps22
    go_wp2_with fail
    refine (divisor_any _ _ _ (by omega) (by omega)).mono ?_
    rintro e w' ⟨rfl, rfl⟩
    go_wp2
    go_region
    go_wp2_with fail
    refine (fcode_any _ _ _).mono ?_
    rintro e w1 ⟨he, hB⟩
    rw [K0.out] at he
    subst he
    have D1 := dstep w hB (by repeat (first | with_reducible exact Below.refl _ _ | with_reducible apply bdrew | with_reducible apply bdrewN | with_reducible apply balloc | ((with_reducible refine bset ?_ ?_ _); rotate_left; (first | omega | (simp <;> omega)))))
    have d1s := D1.size
    obtain ⟨C0, F1⟩ := Cls.first (l := [(w.heap.size, 0, .int .i64 0), (w.heap.size, 1, .int .i64 0)]) hB (by simp [Cls, go_sem])
    simp only [Cls, and_true] at F1
    have B1 := hB
    have G1 := Cls.below (l := [(w.heap.size + 1, 0, .int .i64 (qn n d)), (w.heap.size + 1, 1, .int .i64 (qd n d))]) hB (by simp [Cls, go_sem])
    simp only [Cls, and_true] at G1
    have hs1 := hB.size
    try simp at hs1
    have hb1 := B1.size
    try simp at hb1
    have y1_0_1 : w.heap.size + 1 < w1.heap.size := (by omega)
    have y1_0_0 : w.heap.size < w1.heap.size := (by omega)
    have y1_0_p1 : w.heap.size < w1.heap.size + 1 := (by omega)
    have y1_0_p2 : w.heap.size < w1.heap.size + 1 + 1 := (by omega)
    clear hB
    go_wp2
    refine bodyPost_ret (v := .tuple #[.agg #[.int .i64 (qn n d), .int .i64 (qd n d)], .bool true]) ?_ rfl ⟨rfl, by repeat (first | with_reducible exact D1 | with_reducible apply bdrew | with_reducible apply bdrewN | with_reducible apply balloc | ((with_reducible refine bset ?_ ?_ _); rotate_left; (first | omega | (simp <;> omega))))⟩
    simp [results, Try.results22, go_sem, F1, G1, y1_0_1, y1_0_0, y1_0_p1, y1_0_p2]

set_option maxHeartbeats 400000 in
theorem lowest_big (n d : Int) (h1 : -4611686018427387904 ≤ n) (h2 : n ≤ 4611686018427387904) (h3 : -4611686018427387904 ≤ d) (h4 : d ≤ 4611686018427387904) (hd : d ≠ 0) (hfit : ¬ qfit n d) (w : World) :
    Calls Try.prog 22 #[.int .i64 n, .int .i64 d] w fun e w' => e = .returned (.tuple #[.agg #[.int .i64 0, .int .i64 0], .bool false]) ∧ Below w.heap.size w w' := by
  obtain ⟨k0, k1, k2, k3, k4⟩ := big_code hd hfit
  have K0 := Lib.hid k0
  obtain ⟨b1, b2⟩ := q_bd n d hd h1 h2
  have b3 := qd_pos (n := n) hd
  have b4 := q_bd' n d hd h3 h4
  have hg := gcd_pos (n := n) hd
  have hg2 := gcd_le (n := n) hd h3 h4
  clear k0 k1 k2 k3 k4 hfit
  by_cases hs : d < 0
  case' pos => obtain ⟨q1, q2⟩ := quo_neg n d hs
  case' neg => obtain ⟨q1, q2⟩ := quo_pos n d hs
  all_goals
    go_enter Try.func22, Try.ntmps22
    go_wp2_with fail
    refine (divisor_any _ _ _ (by omega) (by omega)).mono ?_
    rintro e w' ⟨rfl, rfl⟩
    go_wp2
    go_region
    go_wp2_with fail
    refine (fcode_any _ _ _).mono ?_
    rintro e w1 ⟨he, hB⟩
    rw [K0.out] at he
    subst he
    have D1 := dstep w hB (by repeat (first | with_reducible exact Below.refl _ _ | with_reducible apply bdrew | with_reducible apply bdrewN | with_reducible apply balloc | ((with_reducible refine bset ?_ ?_ _); rotate_left; (first | omega | (simp <;> omega)))))
    have d1s := D1.size
    obtain ⟨C0, F1⟩ := Cls.first (l := [(w.heap.size, 0, .int .i64 0), (w.heap.size, 1, .int .i64 0)]) hB (by simp [Cls, go_sem])
    simp only [Cls, and_true] at F1
    have B1 := hB
    have G1 := Cls.below (l := [(w.heap.size + 1, 0, .int .i64 (qn n d)), (w.heap.size + 1, 1, .int .i64 (qd n d))]) hB (by simp [Cls, go_sem])
    simp only [Cls, and_true] at G1
    have hs1 := hB.size
    try simp at hs1
    have hb1 := B1.size
    try simp at hb1
    have y1_0_1 : w.heap.size + 1 < w1.heap.size := (by omega)
    have y1_0_0 : w.heap.size < w1.heap.size := (by omega)
    have y1_0_p1 : w.heap.size < w1.heap.size + 1 := (by omega)
    have y1_0_p2 : w.heap.size < w1.heap.size + 1 + 1 := (by omega)
    clear hB
    go_wp2
    refine bodyPost_ret (v := .tuple #[.agg #[.int .i64 0, .int .i64 0], .bool false]) ?_ rfl ⟨rfl, by repeat (first | with_reducible exact D1 | with_reducible apply bdrew | with_reducible apply bdrewN | with_reducible apply balloc | ((with_reducible refine bset ?_ ?_ _); rotate_left; (first | omega | (simp <;> omega))))⟩
    simp [results, Try.results22, go_sem, F1, G1, y1_0_1, y1_0_0, y1_0_p1, y1_0_p2]

theorem lowest_any (n d : Int) (h1 : -4611686018427387904 ≤ n) (h2 : n ≤ 4611686018427387904) (h3 : -4611686018427387904 ≤ d) (h4 : d ≤ 4611686018427387904) (hd : d ≠ 0) (w : World) :
    Calls Try.prog 22 #[.int .i64 n, .int .i64 d] w fun e w' => e = .returned (.tuple #[.agg #[.int .i64 (rn n d), .int .i64 (rd n d)], .bool (rb n d)]) ∧ Below w.heap.size w w' := by
  unfold rb
  by_cases h : qfit n d
  · obtain ⟨_, k1, k2, _, _⟩ := fit_code hd h
    rw [k1, k2, decide_eq_true h]
    exact lowest_fit n d h1 h2 h3 h4 hd h w
  · obtain ⟨_, k1, k2, _, _⟩ := big_code hd h
    rw [k1, k2, decide_eq_false h]
    exact lowest_big n d h1 h2 h3 h4 hd h w

end Go.Proofs.Ytkepfmglljkjhaa
