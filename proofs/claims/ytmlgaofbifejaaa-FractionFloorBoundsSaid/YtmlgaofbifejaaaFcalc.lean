/-
  The reference's Order, Bottom and Calculate: what they return for valid fractions.
-/
import Derived.Test.YtmlgaofbifejaaaFops2
import Derived.Deep.RegionHeld3
namespace Go.Proofs.Ytmlgaofbifejaaa
open Go.RowKit
set_option linter.unusedVariables false
set_option linter.unusedSimpArgs false

set_option maxHeartbeats 400000 in
theorem order_any (a b c d : Int) (q1 : vcode a b = 0) (q2 : vcode c d = 0) (w : World) :
    Calls Try.prog 24 #[.agg #[.int .i64 a, .int .i64 b], .agg #[.int .i64 c, .int .i64 d]] w fun e w' => e = .returned (.int .i64 (sg (a * d) (c * b))) ∧ Below w.heap.size w w' := by
  obtain ⟨v1, v2, v3, v4, _⟩ := vcode_zero q1
  obtain ⟨v5, v6, v7, v8, _⟩ := vcode_zero q2
  obtain ⟨m1, m2⟩ := mul_bd v1 v2 (show -1000000000 ≤ d by omega) v8
  obtain ⟨m3, m4⟩ := mul_bd v5 v6 (show -1000000000 ≤ b by omega) v4
  obtain ⟨m5, m6⟩ := mul_bd (show -1000000000 ≤ b by omega) v4 (show -1000000000 ≤ d by omega) v8
  obtain ⟨m7, m8⟩ := mul_bd v1 v2 v5 v6
  have h3 : (a * d < c * b ∧ sg (a * d) (c * b) = -1) ∨ (c * b < a * d ∧ sg (a * d) (c * b) = 1) ∨ (a * d = c * b ∧ sg (a * d) (c * b) = 0) := by
    unfold sg
    rcases Int.lt_trichotomy (a * d) (c * b) with h | h | h
    · exact Or.inl ⟨h, if_pos h⟩
    · exact Or.inr (Or.inr ⟨h, by rw [if_neg (by omega), if_neg (by omega)]⟩)
    · exact Or.inr (Or.inl ⟨h, by rw [if_neg (by omega), if_pos h]⟩)
  clear q1 q2
  rcases h3 with ⟨h, e⟩ | ⟨h, e⟩ | ⟨h, e⟩
  all_goals
    rw [e]
    clear e
  · go_enter Try.func24, Try.ntmps24
    go_wp2
    go_ret
    exact ⟨rfl, by repeat (first | with_reducible exact Below.refl _ _ | with_reducible apply bdrew | with_reducible apply bdrewN | with_reducible apply balloc | ((with_reducible refine bset ?_ ?_ _); rotate_left; (first | omega | (simp <;> omega))))⟩
  · go_enter Try.func24, Try.ntmps24
    go_wp2
    go_ret
    exact ⟨rfl, by repeat (first | with_reducible exact Below.refl _ _ | with_reducible apply bdrew | with_reducible apply bdrewN | with_reducible apply balloc | ((with_reducible refine bset ?_ ?_ _); rotate_left; (first | omega | (simp <;> omega))))⟩
  · have h1 : ¬ a * d - c * b < 0 := by omega
    have h2 : ¬ 0 < a * d - c * b := by omega
    clear h
    go_enter Try.func24, Try.ntmps24
    go_wp2
    go_ret
    exact ⟨rfl, by repeat (first | with_reducible exact Below.refl _ _ | with_reducible apply bdrew | with_reducible apply bdrewN | with_reducible apply balloc | ((with_reducible refine bset ?_ ?_ _); rotate_left; (first | omega | (simp <;> omega))))⟩

theorem bottom_eq (n d : Int) (hd : 1 ≤ d) : (if n.tmod d < 0 then (n - (n.tmod d + d)).tdiv d else (n - n.tmod d).tdiv d) = n / d := by
  have h1 := Int.mul_tdiv_add_tmod n d
  have h2 := tmod_bd n d (by omega)
  have z : d ≠ 0 := by omega
  generalize n.tdiv d = t at *
  generalize n.tmod d = r at *
  symm
  split
  · have e : n - (r + d) = d * (t - 1) := by rw [Int.mul_sub]; omega
    rw [e, Int.mul_tdiv_cancel_left _ z]
    exact floor_uniq hd (by rw [Int.mul_comm, Int.mul_sub]; omega) (by rw [Int.mul_comm, Int.mul_sub]; omega)
  · have e : n - r = d * t := by omega
    rw [e, Int.mul_tdiv_cancel_left _ z]
    exact floor_uniq hd (by rw [Int.mul_comm]; omega) (by rw [Int.mul_comm]; omega)
set_option maxHeartbeats 400000 in
theorem bottom_any (n d : Int) (q1 : vcode n d = 0) (w : World) :
    Calls Try.prog 23 #[.agg #[.int .i64 n, .int .i64 d]] w fun e w' => e = .returned (.int .i64 (n / d)) ∧ Below w.heap.size w w' := by
  obtain ⟨v1, v2, v3, v4, _⟩ := vcode_zero q1
  have h2 := tmod_bd n d (by omega)
  have e := bottom_eq n d v3
  have b1 : -1000000000 < n.tmod d := by omega
  have b2 : n.tmod d < 1000000000 := by omega
  by_cases hc : n.tmod d < 0
  case' pos =>
    rw [if_pos hc] at e
    have t1 : -3000000000 ≤ n - (n.tmod d + d) := by omega
    obtain ⟨k1, k2⟩ : -3000000000 ≤ (n - (n.tmod d + d)).tdiv d ∧ (n - (n.tmod d + d)).tdiv d ≤ 3000000000 := by
      have e1 : ((n - (n.tmod d + d)).tdiv d).natAbs = (n - (n.tmod d + d)).natAbs / d.natAbs := Int.natAbs_tdiv ..
      have l := Nat.div_le_self (n - (n.tmod d + d)).natAbs d.natAbs
      omega
  case' neg =>
    rw [if_neg hc] at e
    obtain ⟨k1, k2⟩ : -3000000000 ≤ (n - n.tmod d).tdiv d ∧ (n - n.tmod d).tdiv d ≤ 3000000000 := by
      have e1 : ((n - n.tmod d).tdiv d).natAbs = (n - n.tmod d).natAbs / d.natAbs := Int.natAbs_tdiv ..
      have l := Nat.div_le_self (n - n.tmod d).natAbs d.natAbs
      omega
  all_goals
    have E := Lib.hid e
    clear e h2 q1
    rw [← E.out]
    go_enter Try.func23, Try.ntmps23
    go_wp2
    go_ret
    exact ⟨rfl, by repeat (first | with_reducible exact Below.refl _ _ | with_reducible apply bdrew | with_reducible apply bdrewN | with_reducible apply balloc | ((with_reducible refine bset ?_ ?_ _); rotate_left; (first | omega | (simp <;> omega))))⟩
set_option maxHeartbeats 400000 in
theorem calc3 (a b c d : Int) (q1 : vcode a b = 0) (q2 : vcode c d = 0) (w : World) :
    Calls Try.prog 31 #[.int .i64 3, .agg #[.int .i64 a, .int .i64 b], .agg #[.int .i64 c, .int .i64 d]] w fun e w' => e = .returned (.tuple #[.agg #[.int .i64 (rn (a * c) (b * d)), .int .i64 (rd (a * c) (b * d))], .bool (rb (a * c) (b * d))]) ∧ Below w.heap.size w w' := by
  obtain ⟨v1, v2, v3, v4, _⟩ := vcode_zero q1
  obtain ⟨v5, v6, v7, v8, _⟩ := vcode_zero q2
  obtain ⟨m1, m2⟩ := mul_bd v1 v2 (show -1000000000 ≤ d by omega) v8
  obtain ⟨m3, m4⟩ := mul_bd v5 v6 (show -1000000000 ≤ b by omega) v4
  obtain ⟨m5, m6⟩ := mul_bd (show -1000000000 ≤ b by omega) v4 (show -1000000000 ≤ d by omega) v8
  obtain ⟨m7, m8⟩ := mul_bd v1 v2 v5 v6
  have hn := mul_pos' v3 v7
  clear q1 q2
  go_enter Try.func31, Try.ntmps31
  go_wp2_with fail
  refine (lowest_any _ _ (by omega) (by omega) (by omega) (by omega) (by assumption) _).mono ?_
  rintro e w1 ⟨rfl, hB⟩
  have D1 := dstep w hB (by repeat (first | with_reducible exact Below.refl _ _ | with_reducible apply bdrew | with_reducible apply bdrewN | with_reducible apply balloc | ((with_reducible refine bset ?_ ?_ _); rotate_left; (first | omega | (simp <;> omega)))))
  have d1s := D1.size
  obtain ⟨C0, F1⟩ := Cls.first (l := [(w.heap.size, 0, .int .i64 a), (w.heap.size, 1, .int .i64 b), (w.heap.size + 1, 0, .int .i64 c), (w.heap.size + 1, 1, .int .i64 d), (w.heap.size + 1 + 1, 0, .int .i64 0), (w.heap.size + 1 + 1, 1, .int .i64 0)]) hB (by simp [Cls, go_sem])
  simp only [Cls, and_true] at F1
  have B1 := hB
  have hs1 := hB.size
  try simp at hs1
  have hb1 := B1.size
  try simp at hb1
  have y1_0_2 : w.heap.size + 1 + 1 < w1.heap.size := (by omega)
  have y1_0_1 : w.heap.size + 1 < w1.heap.size := (by omega)
  have y1_0_0 : w.heap.size < w1.heap.size := (by omega)
  have y1_0_p1 : w.heap.size < w1.heap.size + 1 := (by omega)
  have y1_0_p2 : w.heap.size < w1.heap.size + 1 + 1 := (by omega)
  clear hB
  go_wp2
  refine bodyPost_ret (v := .tuple #[.agg #[.int .i64 (rn (a * c) (b * d)), .int .i64 (rd (a * c) (b * d))], .bool (rb (a * c) (b * d))]) ?_ rfl ⟨rfl, by repeat (first | with_reducible exact D1 | with_reducible apply bdrew | with_reducible apply bdrewN | with_reducible apply balloc | ((with_reducible refine bset ?_ ?_ _); rotate_left; (first | omega | (simp <;> omega))))⟩
  simp [results, Try.results31, go_sem, F1, y1_0_2, y1_0_1, y1_0_0, y1_0_p1, y1_0_p2]


/-- A common denominator that is as small as possible gives the same quotient. -/
theorem small_den (a b c d : Int) (hb : 1 ≤ b) (hd : 1 ≤ d) : ∃ g s t : Int, g = (Int.gcd b d : Int) ∧ 1 ≤ g ∧ 1 ≤ s ∧ 1 ≤ t ∧ b = g * s ∧ d = g * t ∧ b / g = s ∧ b / s = g ∧ d / g = t := by
  have hg := gcd_pos (n := b) (d := d) (by omega)
  obtain ⟨s, hs⟩ : (Int.gcd b d : Int) ∣ b := Int.gcd_dvd_left ..
  obtain ⟨t, ht⟩ : (Int.gcd b d : Int) ∣ d := Int.gcd_dvd_right ..
  generalize (Int.gcd b d : Int) = g at *
  have hs1 : 1 ≤ s := pos_of_mul (b := g) (by rw [Int.mul_comm, ← hs]; exact hb) hg
  have ht1 : 1 ≤ t := pos_of_mul (b := g) (by rw [Int.mul_comm, ← ht]; exact hd) hg
  refine ⟨g, s, t, rfl, hg, hs1, ht1, hs, ht, ?_, ?_, ?_⟩
  · rw [hs]; exact Int.mul_ediv_cancel_left _ (by omega)
  · rw [hs]; exact Int.mul_ediv_cancel _ (by omega)
  · rw [ht]; exact Int.mul_ediv_cancel_left _ (by omega)
theorem rq_congr {n d n' d' : Int} (hd : d ≠ 0) (hd' : d' ≠ 0) (h : n * d' = n' * d) : rn n d = rn n' d' ∧ rd n d = rd n' d' ∧ rb n d = rb n' d' := by
  obtain ⟨e1, e2⟩ := q_congr hd hd' h
  have e : qfit n d ↔ qfit n' d' := by unfold qfit; rw [e1, e2]
  unfold rn rd rb
  rw [e1, e2]
  simp only [e]
  simp

set_option maxHeartbeats 400000 in
theorem calc1 (a b c d : Int) (q1 : vcode a b = 0) (q2 : vcode c d = 0) (w : World) :
    Calls Try.prog 31 #[.int .i64 1, .agg #[.int .i64 a, .int .i64 b], .agg #[.int .i64 c, .int .i64 d]] w fun e w' => e = .returned (.tuple #[.agg #[.int .i64 (rn (a * d + c * b) (b * d)), .int .i64 (rd (a * d + c * b) (b * d))], .bool (rb (a * d + c * b) (b * d))]) ∧ Below w.heap.size w w' := by
  obtain ⟨v1, v2, v3, v4, _⟩ := vcode_zero q1
  obtain ⟨v5, v6, v7, v8, _⟩ := vcode_zero q2
  clear q1 q2
  obtain ⟨g, s, t, hg, g1, s1, t1, hb, hd, e1, e2, e3⟩ := small_den a b c d v3 v7
  obtain ⟨k1, k2, k3⟩ := rq_congr (n := a * t + c * s) (d := s * d) (n' := a * d + c * b) (d' := b * d) (mul_pos' s1 v7) (mul_pos' v3 v7) (by rw [hb, hd]; grind)
  rw [← k1, ← k2, ← k3]
  have s2 : s ≤ 1000000000 := by
    have := Int.mul_le_mul g1 (Int.le_refl s) (by omega) (by omega); omega
  have t2 : t ≤ 1000000000 := by
    have := Int.mul_le_mul g1 (Int.le_refl t) (by omega) (by omega); omega
  have g2 : g ≤ 1000000000 := by
    have := Int.mul_le_mul (Int.le_refl g) s1 (by omega) (by omega); omega
  obtain ⟨m1, m2⟩ := mul_bd v1 v2 (show -1000000000 ≤ t by omega) t2
  obtain ⟨m3, m4⟩ := mul_bd v5 v6 (show -1000000000 ≤ s by omega) s2
  obtain ⟨m5, m6⟩ := mul_bd (show -1000000000 ≤ s by omega) s2 (show -1000000000 ≤ d by omega) v8
  have hn := mul_pos' s1 v7
  have HG := Lib.hid hg
  have HB := Lib.hid hb
  have HD := Lib.hid hd
  clear k1 k2 k3 hg hb hd
  go_enter Try.func31, Try.ntmps31
  go_wp2_with fail
  go_quiet ((go_at_call 27; refine Calls.quiet_of_same ((divisor_any _ _ _ (by omega) (by omega)).mono fun _ _ h => ⟨h.1.trans (by rw [← HG.out]), h.2.symm⟩)))
  rw [e1]
  go_wp2_with fail
  have z1 : ¬ s = 0 := by omega
  have z2 : ¬ g = 0 := by omega
  have x1 : IntKind.i64.wrap g = g := IntWalk.i64_in _ (by omega)
  have x2 : IntKind.i64.wrap t = t := IntWalk.i64_in _ (by omega)
  have x3 : IntKind.i64.wrap (a * t) = a * t := IntWalk.i64_in _ (by omega)
  have x4 : IntKind.i64.wrap (c * s) = c * s := IntWalk.i64_in _ (by omega)
  have x5 : IntKind.i64.wrap (a * t + c * s) = a * t + c * s := IntWalk.i64_in _ (by omega)
  have x6 : IntKind.i64.wrap (s * d) = s * d := IntWalk.i64_in _ (by omega)
  have e4 : b.tdiv s = g := by rw [Int.tdiv_eq_ediv_of_nonneg (by omega)]; exact e2
  have e5 : d.tdiv g = t := by rw [Int.tdiv_eq_ediv_of_nonneg (by omega)]; exact e3
  clear e1 e2 e3
  have n1 : ¬ w.heap.size + 1 + 1 = w.heap.size := by omega
  go_region_held3 (fun w' => w'.cell? ⟨w.heap.size, 0, none⟩ = some (.int .i64 a) ∧ w'.cell? ⟨w.heap.size, 1, none⟩ = some (.int .i64 b) ∧ w'.cell? ⟨w.heap.size + 1, 0, none⟩ = some (.int .i64 c) ∧ w'.cell? ⟨w.heap.size + 1, 1, none⟩ = some (.int .i64 d)) (first | exact hK | (simp [go_sem]; done) | go_keep) (first | (go_at_call 14; refine (lowest_any _ _ (by omega) (by omega) (by omega) (by omega) (by assumption) _).mono ?_; rintro e w1 ⟨rfl, hB⟩; have D1 := dstep w hB (by repeat (first | with_reducible exact Below.refl _ _ | with_reducible apply bdrew | with_reducible apply bdrewN | with_reducible apply balloc | ((with_reducible refine bset ?_ ?_ _); rotate_left; (first | omega | (simp <;> omega))))); have F1 := Cls.below (l := [(w.heap.size, 0, .int .i64 a), (w.heap.size, 1, .int .i64 b), (w.heap.size + 1, 0, .int .i64 c), (w.heap.size + 1, 1, .int .i64 d), (w.heap.size + 1 + 1, 0, .int .i64 0), (w.heap.size + 1 + 1, 1, .int .i64 0)]) hB (by simp [Cls, go_sem]); simp only [Cls, and_true] at F1; have hK := And.intro F1.1.1 (And.intro F1.2.1.1 (And.intro F1.2.2.1.1 F1.2.2.2.1.1)); clear hB))
  go_wp2
  refine bodyPost_ret (v := .tuple #[.agg #[.int .i64 (rn (a * t + c * s) (s * d)), .int .i64 (rd (a * t + c * s) (s * d))], .bool (rb (a * t + c * s) (s * d))]) ?_ rfl ⟨rfl, by repeat (first | with_reducible exact D1 | with_reducible apply bdrew | with_reducible apply bdrewN | with_reducible apply balloc | ((with_reducible refine bset ?_ ?_ _); rotate_left; (first | omega | (simp <;> omega))))⟩
  simp [results, Try.results31, go_sem, F1]

theorem vcode_neg {c d : Int} (h : vcode c d = 0) : vcode (-c) d = 0 := by
  obtain ⟨v1, v2, v3, v4, v5⟩ := vcode_zero h
  exact vcode_one (by omega) (by rw [Int.neg_gcd]; exact v5)
theorem vcode_inv {c d : Int} (h : vcode c d = 0) (hc : 0 < c) : vcode d c = 0 := by
  obtain ⟨v1, v2, v3, v4, v5⟩ := vcode_zero h
  exact vcode_one (by omega) (by rw [Int.gcd_comm]; exact v5)
set_option maxHeartbeats 400000 in
theorem calc2' (a b c d : Int) (q1 : vcode a b = 0) (q2 : vcode c d = 0)  (w : World) :
    Calls Try.prog 31 #[.int .i64 2, .agg #[.int .i64 a, .int .i64 b], .agg #[.int .i64 c, .int .i64 d]] w fun e w' => e = .returned (.tuple #[.agg #[.int .i64 (rn (a * d + -c * b) (b * d)), .int .i64 (rd (a * d + -c * b) (b * d))], .bool (rb (a * d + -c * b) (b * d))]) ∧ Below w.heap.size w w' := by
  obtain ⟨v1, v2, v3, v4, _⟩ := vcode_zero q1
  obtain ⟨v5, v6, v7, v8, _⟩ := vcode_zero q2
  have q3 := Lib.hid q1
  have q4 := Lib.hid (vcode_neg q2)
  clear q1 q2
  go_enter Try.func31, Try.ntmps31
  go_wp2_with fail
  refine (calc1 _ _ _ _ q3.out q4.out _).mono ?_
  rintro e w1 ⟨rfl, hB⟩
  have D1 := dstep w hB (by repeat (first | with_reducible exact Below.refl _ _ | with_reducible apply bdrew | with_reducible apply bdrewN | with_reducible apply balloc | ((with_reducible refine bset ?_ ?_ _); rotate_left; (first | omega | (simp <;> omega)))))
  have d1s := D1.size
  obtain ⟨C0, F1⟩ := Cls.first (l := [(w.heap.size, 0, .int .i64 a), (w.heap.size, 1, .int .i64 b), (w.heap.size + 1, 0, .int .i64 c), (w.heap.size + 1, 1, .int .i64 d), (w.heap.size + 1 + 1, 0, .int .i64 0), (w.heap.size + 1 + 1, 1, .int .i64 0)]) hB (by simp [Cls, go_sem])
  simp only [Cls, and_true] at F1
  have B1 := hB
  have hs1 := hB.size
  try simp at hs1
  have hb1 := B1.size
  try simp at hb1
  have y1_0_2 : w.heap.size + 1 + 1 < w1.heap.size := (by omega)
  have y1_0_1 : w.heap.size + 1 < w1.heap.size := (by omega)
  have y1_0_0 : w.heap.size < w1.heap.size := (by omega)
  have y1_0_p1 : w.heap.size < w1.heap.size + 1 := (by omega)
  have y1_0_p2 : w.heap.size < w1.heap.size + 1 + 1 := (by omega)
  clear hB
  go_wp2
  refine bodyPost_ret (v := .tuple #[.agg #[.int .i64 (rn (a * d + -c * b) (b * d)), .int .i64 (rd (a * d + -c * b) (b * d))], .bool (rb (a * d + -c * b) (b * d))]) ?_ rfl ⟨rfl, by repeat (first | with_reducible exact D1 | with_reducible apply bdrew | with_reducible apply bdrewN | with_reducible apply balloc | ((with_reducible refine bset ?_ ?_ _); rotate_left; (first | omega | (simp <;> omega))))⟩
  simp [results, Try.results31, go_sem, F1, y1_0_2, y1_0_1, y1_0_0, y1_0_p1, y1_0_p2]

set_option maxHeartbeats 400000 in
theorem calc4n (a b c d : Int) (q1 : vcode a b = 0) (q2 : vcode c d = 0) (hc : c < 0) (w : World) :
    Calls Try.prog 31 #[.int .i64 4, .agg #[.int .i64 a, .int .i64 b], .agg #[.int .i64 c, .int .i64 d]] w fun e w' => e = .returned (.tuple #[.agg #[.int .i64 (rn (a * -d) (b * -c)), .int .i64 (rd (a * -d) (b * -c))], .bool (rb (a * -d) (b * -c))]) ∧ Below w.heap.size w w' := by
  obtain ⟨v1, v2, v3, v4, _⟩ := vcode_zero q1
  obtain ⟨v5, v6, v7, v8, _⟩ := vcode_zero q2
  have q3 := Lib.hid q1
  have q4 := Lib.hid (vcode_neg (vcode_inv (vcode_neg q2) (by omega)))
  clear q1 q2
  go_enter Try.func31, Try.ntmps31
  go_wp2_with fail
  refine (calc3 _ _ _ _ q3.out q4.out _).mono ?_
  rintro e w1 ⟨rfl, hB⟩
  have D1 := dstep w hB (by repeat (first | with_reducible exact Below.refl _ _ | with_reducible apply bdrew | with_reducible apply bdrewN | with_reducible apply balloc | ((with_reducible refine bset ?_ ?_ _); rotate_left; (first | omega | (simp <;> omega)))))
  have d1s := D1.size
  obtain ⟨C0, F1⟩ := Cls.first (l := [(w.heap.size, 0, .int .i64 a), (w.heap.size, 1, .int .i64 b), (w.heap.size + 1, 0, .int .i64 c), (w.heap.size + 1, 1, .int .i64 d), (w.heap.size + 1 + 1, 0, .int .i64 0), (w.heap.size + 1 + 1, 1, .int .i64 0)]) hB (by simp [Cls, go_sem])
  simp only [Cls, and_true] at F1
  have B1 := hB
  have hs1 := hB.size
  try simp at hs1
  have hb1 := B1.size
  try simp at hb1
  have y1_0_2 : w.heap.size + 1 + 1 < w1.heap.size := (by omega)
  have y1_0_1 : w.heap.size + 1 < w1.heap.size := (by omega)
  have y1_0_0 : w.heap.size < w1.heap.size := (by omega)
  have y1_0_p1 : w.heap.size < w1.heap.size + 1 := (by omega)
  have y1_0_p2 : w.heap.size < w1.heap.size + 1 + 1 := (by omega)
  clear hB
  go_wp2
  refine bodyPost_ret (v := .tuple #[.agg #[.int .i64 (rn (a * -d) (b * -c)), .int .i64 (rd (a * -d) (b * -c))], .bool (rb (a * -d) (b * -c))]) ?_ rfl ⟨rfl, by repeat (first | with_reducible exact D1 | with_reducible apply bdrew | with_reducible apply bdrewN | with_reducible apply balloc | ((with_reducible refine bset ?_ ?_ _); rotate_left; (first | omega | (simp <;> omega))))⟩
  simp [results, Try.results31, go_sem, F1, y1_0_2, y1_0_1, y1_0_0, y1_0_p1, y1_0_p2]

set_option maxHeartbeats 400000 in
theorem calc4p (a b c d : Int) (q1 : vcode a b = 0) (q2 : vcode c d = 0) (hc : 0 < c) (w : World) :
    Calls Try.prog 31 #[.int .i64 4, .agg #[.int .i64 a, .int .i64 b], .agg #[.int .i64 c, .int .i64 d]] w fun e w' => e = .returned (.tuple #[.agg #[.int .i64 (rn (a * d) (b * c)), .int .i64 (rd (a * d) (b * c))], .bool (rb (a * d) (b * c))]) ∧ Below w.heap.size w w' := by
  obtain ⟨v1, v2, v3, v4, _⟩ := vcode_zero q1
  obtain ⟨v5, v6, v7, v8, _⟩ := vcode_zero q2
  have q3 := Lib.hid q1
  have q4 := Lib.hid (vcode_inv q2 hc)
  clear q1 q2
  go_enter Try.func31, Try.ntmps31
  go_wp2_with fail
  refine (calc3 _ _ _ _ q3.out q4.out _).mono ?_
  rintro e w1 ⟨rfl, hB⟩
  have D1 := dstep w hB (by repeat (first | with_reducible exact Below.refl _ _ | with_reducible apply bdrew | with_reducible apply bdrewN | with_reducible apply balloc | ((with_reducible refine bset ?_ ?_ _); rotate_left; (first | omega | (simp <;> omega)))))
  have d1s := D1.size
  obtain ⟨C0, F1⟩ := Cls.first (l := [(w.heap.size, 0, .int .i64 a), (w.heap.size, 1, .int .i64 b), (w.heap.size + 1, 0, .int .i64 c), (w.heap.size + 1, 1, .int .i64 d), (w.heap.size + 1 + 1, 0, .int .i64 0), (w.heap.size + 1 + 1, 1, .int .i64 0)]) hB (by simp [Cls, go_sem])
  simp only [Cls, and_true] at F1
  have B1 := hB
  have hs1 := hB.size
  try simp at hs1
  have hb1 := B1.size
  try simp at hb1
  have y1_0_2 : w.heap.size + 1 + 1 < w1.heap.size := (by omega)
  have y1_0_1 : w.heap.size + 1 < w1.heap.size := (by omega)
  have y1_0_0 : w.heap.size < w1.heap.size := (by omega)
  have y1_0_p1 : w.heap.size < w1.heap.size + 1 := (by omega)
  have y1_0_p2 : w.heap.size < w1.heap.size + 1 + 1 := (by omega)
  clear hB
  go_wp2
  refine bodyPost_ret (v := .tuple #[.agg #[.int .i64 (rn (a * d) (b * c)), .int .i64 (rd (a * d) (b * c))], .bool (rb (a * d) (b * c))]) ?_ rfl ⟨rfl, by repeat (first | with_reducible exact D1 | with_reducible apply bdrew | with_reducible apply bdrewN | with_reducible apply balloc | ((with_reducible refine bset ?_ ?_ _); rotate_left; (first | omega | (simp <;> omega))))⟩
  simp [results, Try.results31, go_sem, F1, y1_0_2, y1_0_1, y1_0_0, y1_0_p1, y1_0_p2]


theorem calc2 (a b c d : Int) (q1 : vcode a b = 0) (q2 : vcode c d = 0) (w : World) :
    Calls Try.prog 31 #[.int .i64 2, .agg #[.int .i64 a, .int .i64 b], .agg #[.int .i64 c, .int .i64 d]] w fun e w' => e = .returned (.tuple #[.agg #[.int .i64 (rn (a * d - c * b) (b * d)), .int .i64 (rd (a * d - c * b) (b * d))], .bool (rb (a * d - c * b) (b * d))]) ∧ Below w.heap.size w w' := by
  have h := calc2' a b c d q1 q2 w
  rw [show a * d + -c * b = a * d - c * b by rw [Int.neg_mul]; rfl] at h
  exact h
theorem calc4 (a b c d : Int) (q1 : vcode a b = 0) (q2 : vcode c d = 0) (hc : ¬ c = 0) (w : World) :
    Calls Try.prog 31 #[.int .i64 4, .agg #[.int .i64 a, .int .i64 b], .agg #[.int .i64 c, .int .i64 d]] w fun e w' => e = .returned (.tuple #[.agg #[.int .i64 (rn (a * d) (b * c)), .int .i64 (rd (a * d) (b * c))], .bool (rb (a * d) (b * c))]) ∧ Below w.heap.size w w' := by
  obtain ⟨v1, v2, v3, v4, _⟩ := vcode_zero q1
  rcases Int.lt_or_le 0 c with h | h
  · exact calc4p a b c d q1 q2 h w
  · have h := calc4n a b c d q1 q2 (by omega) w
    have z1 : b * -c ≠ 0 := Int.mul_ne_zero (by omega) (by omega)
    have z2 : b * c ≠ 0 := Int.mul_ne_zero (by omega) hc
    obtain ⟨k1, k2, k3⟩ := rq_congr (n := a * -d) (d := b * -c) (n' := a * d) (d' := b * c) z1 z2 (by rw [Int.mul_neg, Int.mul_neg, Int.neg_mul, Int.mul_neg])
    rw [k1, k2, k3] at h
    exact h

set_option maxHeartbeats 400000 in
theorem calced_yes (k a b c d p q : Int) (hcalc : ∀ w : World, Calls Try.prog 31 #[.int .i64 k, .agg #[.int .i64 a, .int .i64 b], .agg #[.int .i64 c, .int .i64 d]] w fun e w' => e = .returned (.tuple #[.agg #[.int .i64 p, .int .i64 q], .bool true]) ∧ Below w.heap.size w w') (w : World) :
    Calls Try.prog 25 #[.int .i64 k, .agg #[.int .i64 a, .int .i64 b], .agg #[.int .i64 c, .int .i64 d], .agg #[.int .i64 p, .int .i64 q], .agg #[.int .i64 0, .int .i64 0]] w fun e w' => e = .returned (.bool true) ∧ Below w.heap.size w w' := by
  have HC := hcalc
  clear hcalc
  go_enter Try.func25, Try.ntmps25
  go_wp2_with fail
  refine (HC _).mono ?_
  rintro e w1 ⟨rfl, hB⟩
  have D1 := dstep w hB (by repeat (first | with_reducible exact Below.refl _ _ | with_reducible apply bdrew | with_reducible apply bdrewN | with_reducible apply balloc | ((with_reducible refine bset ?_ ?_ _); rotate_left; (first | omega | (simp <;> omega)))))
  have d1s := D1.size
  obtain ⟨C0, F1⟩ := Cls.first (l := [(w.heap.size, 0, .int .i64 a), (w.heap.size, 1, .int .i64 b), (w.heap.size + 1, 0, .int .i64 c), (w.heap.size + 1, 1, .int .i64 d), (w.heap.size + 1 + 1, 0, .int .i64 p), (w.heap.size + 1 + 1, 1, .int .i64 q), (w.heap.size + 1 + 1 + 1, 0, .int .i64 0), (w.heap.size + 1 + 1 + 1, 1, .int .i64 0)]) hB (by simp [Cls, go_sem])
  simp only [Cls, and_true] at F1
  have B1 := hB
  have hs1 := hB.size
  try simp at hs1
  have hb1 := B1.size
  try simp at hb1
  have y1_0_3 : w.heap.size + 1 + 1 + 1 < w1.heap.size := (by omega)
  have y1_0_2 : w.heap.size + 1 + 1 < w1.heap.size := (by omega)
  have y1_0_1 : w.heap.size + 1 < w1.heap.size := (by omega)
  have y1_0_0 : w.heap.size < w1.heap.size := (by omega)
  have y1_0_p1 : w.heap.size < w1.heap.size + 1 := (by omega)
  have y1_0_p2 : w.heap.size < w1.heap.size + 1 + 1 := (by omega)
  clear hB
  go_wp2
  go_ret
  exact ⟨rfl, by repeat (first | with_reducible exact D1 | with_reducible apply bdrew | with_reducible apply bdrewN | with_reducible apply balloc | ((with_reducible refine bset ?_ ?_ _); rotate_left; (first | omega | (simp <;> omega))))⟩

set_option maxHeartbeats 400000 in
theorem calced_no (k a b c d : Int) (hcalc : ∀ w : World, Calls Try.prog 31 #[.int .i64 k, .agg #[.int .i64 a, .int .i64 b], .agg #[.int .i64 c, .int .i64 d]] w fun e w' => e = .returned (.tuple #[.agg #[.int .i64 0, .int .i64 0], .bool false]) ∧ Below w.heap.size w w') (w : World) :
    Calls Try.prog 25 #[.int .i64 k, .agg #[.int .i64 a, .int .i64 b], .agg #[.int .i64 c, .int .i64 d], .agg #[.int .i64 0, .int .i64 0], .agg #[.int .i64 10, .int .i64 (-1)]] w fun e w' => e = .returned (.bool true) ∧ Below w.heap.size w w' := by
  have HC := hcalc
  clear hcalc
  go_enter Try.func25, Try.ntmps25
  go_wp2_with fail
  refine (HC _).mono ?_
  rintro e w1 ⟨rfl, hB⟩
  have D1 := dstep w hB (by repeat (first | with_reducible exact Below.refl _ _ | with_reducible apply bdrew | with_reducible apply bdrewN | with_reducible apply balloc | ((with_reducible refine bset ?_ ?_ _); rotate_left; (first | omega | (simp <;> omega)))))
  have d1s := D1.size
  obtain ⟨C0, F1⟩ := Cls.first (l := [(w.heap.size, 0, .int .i64 a), (w.heap.size, 1, .int .i64 b), (w.heap.size + 1, 0, .int .i64 c), (w.heap.size + 1, 1, .int .i64 d), (w.heap.size + 1 + 1, 0, .int .i64 0), (w.heap.size + 1 + 1, 1, .int .i64 0), (w.heap.size + 1 + 1 + 1, 0, .int .i64 10), (w.heap.size + 1 + 1 + 1, 1, .int .i64 (-1))]) hB (by simp [Cls, go_sem])
  simp only [Cls, and_true] at F1
  have B1 := hB
  have hs1 := hB.size
  try simp at hs1
  have hb1 := B1.size
  try simp at hb1
  have y1_0_3 : w.heap.size + 1 + 1 + 1 < w1.heap.size := (by omega)
  have y1_0_2 : w.heap.size + 1 + 1 < w1.heap.size := (by omega)
  have y1_0_1 : w.heap.size + 1 < w1.heap.size := (by omega)
  have y1_0_0 : w.heap.size < w1.heap.size := (by omega)
  have y1_0_p1 : w.heap.size < w1.heap.size + 1 := (by omega)
  have y1_0_p2 : w.heap.size < w1.heap.size + 1 + 1 := (by omega)
  clear hB
  go_wp2_with fail
  go_region_held3 (fun w' => w'.cell? ⟨w.heap.size + 1 + 1, 0, none⟩ = some (.int .i64 0) ∧ w'.cell? ⟨w.heap.size + 1 + 1, 1, none⟩ = some (.int .i64 0) ∧ w'.cell? ⟨w.heap.size + 1 + 1 + 1, 0, none⟩ = some (.int .i64 10) ∧ w'.cell? ⟨w.heap.size + 1 + 1 + 1, 1, none⟩ = some (.int .i64 (-1))) (first | exact hK | go_keep) (first | (go_at_call 13; refine (at_any _ _ _).mono ?_; rintro e w2 ⟨rfl, hB⟩; have D2 := dstep w hB (by repeat (first | with_reducible exact D1 | with_reducible apply bdrew | with_reducible apply bdrewN | with_reducible apply balloc | ((with_reducible refine bset ?_ ?_ _); rotate_left; (first | omega | (simp <;> omega))))); have F2 := Cls.below (l := [(w.heap.size, 0, .int .i64 a), (w.heap.size, 1, .int .i64 b), (w.heap.size + 1, 0, .int .i64 c), (w.heap.size + 1, 1, .int .i64 d), (w.heap.size + 1 + 1, 0, .int .i64 0), (w.heap.size + 1 + 1, 1, .int .i64 0), (w.heap.size + 1 + 1 + 1, 0, .int .i64 10), (w.heap.size + 1 + 1 + 1, 1, .int .i64 (-1))]) hB (by simp [Cls, go_sem, F1, y1_0_3, y1_0_2, y1_0_1, y1_0_0]); simp only [Cls, and_true] at F2; have hK := And.intro F2.2.2.2.2.1.1 (And.intro F2.2.2.2.2.2.1.1 (And.intro F2.2.2.2.2.2.2.1.1 F2.2.2.2.2.2.2.2.1)); clear hB))
  go_wp2
  go_ret
  exact ⟨rfl, by repeat (first | with_reducible exact D2 | with_reducible apply bdrew | with_reducible apply bdrewN | with_reducible apply balloc | ((with_reducible refine bset ?_ ?_ _); rotate_left; (first | omega | (simp <;> omega))))⟩
theorem calced (k a b c d n m : Int) (hm : m ≠ 0) (hcalc : ∀ w : World, Calls Try.prog 31 #[.int .i64 k, .agg #[.int .i64 a, .int .i64 b], .agg #[.int .i64 c, .int .i64 d]] w fun e w' => e = .returned (.tuple #[.agg #[.int .i64 (rn (n) (m)), .int .i64 (rd (n) (m))], .bool (rb (n) (m))]) ∧ Below w.heap.size w w') (w : World) :
    Calls Try.prog 25 #[.int .i64 k, .agg #[.int .i64 a, .int .i64 b], .agg #[.int .i64 c, .int .i64 d], .agg #[.int .i64 (rn n m), .int .i64 (rd n m)], .agg #[.int .i64 (rc n m), .int .i64 (ri n m)]] w fun e w' => e = .returned (.bool true) ∧ Below w.heap.size w w' := by
  by_cases h : qfit n m
  · obtain ⟨_, k1, k2, k3, k4⟩ := fit_code hm h
    have e : rb n m = true := decide_eq_true h
    rw [k3, k4]
    rw [e] at hcalc
    exact calced_yes k a b c d _ _ hcalc w
  · obtain ⟨_, k1, k2, k3, k4⟩ := big_code hm h
    have e : rb n m = false := decide_eq_false h
    rw [k1, k2, k3, k4]
    rw [e, k1, k2] at hcalc
    exact calced_no k a b c d hcalc w

end Go.Proofs.Ytmlgaofbifejaaa
