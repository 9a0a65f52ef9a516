/-
  Quotients in lowest terms: plain facts on integers, no program in sight.
-/
import Init
namespace Go.Proofs.Ytkepfmglljkjhaa

theorem gcd_tmod (a b : Int) : Int.gcd b (a.tmod b) = Int.gcd a b := by
  have h : (a.tmod b).natAbs = a.natAbs % b.natAbs := Int.natAbs_tmod a b
  unfold Int.gcd
  rw [h, Nat.gcd_comm b.natAbs, ← Nat.gcd_rec, Nat.gcd_comm]

theorem tmod_bd (a b : Int) (hb : b ≠ 0) : (a.tmod b).natAbs < b.natAbs := by
  rw [Int.natAbs_tmod]; exact Nat.mod_lt _ (by omega)

/-- The error code of a fraction. -/
def vcode (n d : Int) : Int := if n < -1000000000 ∨ 1000000000 < n ∨ d < 1 ∨ 1000000000 < d then 3 else if Int.gcd n d = 1 then 0 else 5

theorem vcode_out {n d : Int} (h : n < -1000000000 ∨ 1000000000 < n ∨ d < 1 ∨ 1000000000 < d) : vcode n d = 3 := by unfold vcode; rw [if_pos h]
theorem vcode_one {n d : Int} (h : ¬ (n < -1000000000 ∨ 1000000000 < n ∨ d < 1 ∨ 1000000000 < d)) (g : Int.gcd n d = 1) : vcode n d = 0 := by unfold vcode; rw [if_neg h, if_pos g]
theorem vcode_not {n d : Int} (h : ¬ (n < -1000000000 ∨ 1000000000 < n ∨ d < 1 ∨ 1000000000 < d)) (g : ¬ Int.gcd n d = 1) : vcode n d = 5 := by unfold vcode; rw [if_neg h, if_neg g]
theorem vcode_cases (n d : Int) : vcode n d = 0 ∨ vcode n d = 3 ∨ vcode n d = 5 := by
  unfold vcode; split
  · simp
  · split <;> simp
theorem vcode_zero {n d : Int} (h : vcode n d = 0) : -1000000000 ≤ n ∧ n ≤ 1000000000 ∧ 1 ≤ d ∧ d ≤ 1000000000 ∧ Int.gcd n d = 1 := by
  unfold vcode at h
  split at h
  · simp at h
  · split at h
    · rename_i a b; exact ⟨by omega, by omega, by omega, by omega, b⟩
    · simp at h

def qs (n d : Int) : Int := if d < 0 then -n else n
def qn (n d : Int) : Int := qs n d / (Int.gcd n d : Int)
def qd (n d : Int) : Int := qs d d / (Int.gcd n d : Int)
/-- Does the quotient fit? -/
def qfit (n d : Int) : Prop := -1000000000 ≤ qn n d ∧ qn n d ≤ 1000000000 ∧ qd n d ≤ 1000000000
instance (n d : Int) : Decidable (qfit n d) := by unfold qfit; infer_instance
/-- What reduce returns: a fraction and a fault. -/
def rn (n d : Int) : Int := if qfit n d then qn n d else 0
def rd (n d : Int) : Int := if qfit n d then qd n d else 0
def rc (n d : Int) : Int := if qfit n d then 0 else 10
def ri (n d : Int) : Int := if qfit n d then 0 else -1

theorem gcd_pos {n d : Int} (hd : d ≠ 0) : 1 ≤ (Int.gcd n d : Int) := by
  have : Int.gcd n d ≠ 0 := fun h => hd (Int.gcd_eq_zero_iff.1 h).2
  omega
theorem dvd_qs {g n d : Int} (h : g ∣ n) : g ∣ qs n d := by
  unfold qs; split
  · exact (Int.dvd_neg).2 h
  · exact h
theorem qn_mul (n d : Int) : qn n d * (Int.gcd n d : Int) = qs n d := Int.ediv_mul_cancel (dvd_qs (Int.gcd_dvd_left ..))
theorem qd_mul (n d : Int) : qd n d * (Int.gcd n d : Int) = qs d d := Int.ediv_mul_cancel (dvd_qs (Int.gcd_dvd_right ..))
theorem qs_self {d : Int} (hd : d ≠ 0) : 1 ≤ qs d d := by unfold qs; split <;> omega
theorem pos_of_mul {a b : Int} (h : 1 ≤ a * b) (hb : 1 ≤ b) : 1 ≤ a := by
  rcases Int.lt_or_le 0 a with h1 | h1
  · omega
  · have := Int.mul_nonpos_of_nonpos_of_nonneg h1 (show 0 ≤ b by omega); omega
theorem qd_pos {n d : Int} (hd : d ≠ 0) : 1 ≤ qd n d := pos_of_mul (by rw [qd_mul]; exact qs_self hd) (gcd_pos hd)
theorem qs_mul (n d : Int) : qs n d * d = n * qs d d := by
  unfold qs; split
  · rw [Int.mul_neg, Int.neg_mul]
  · rfl
theorem cancel {a b c : Int} (hc : c ≠ 0) (h : a * c = b * c) : a = b := Int.eq_of_mul_eq_mul_right hc h
/-- The quotient is the quotient. -/
theorem q_mul {n d : Int} (hd : d ≠ 0) : qn n d * d = n * qd n d := by
  have hg := gcd_pos (n := n) hd
  refine cancel (c := (Int.gcd n d : Int)) (by omega) ?_
  have h1 := qn_mul n d
  have h2 := qd_mul n d
  have h3 := qs_mul n d
  grind
theorem q_gcd {n d : Int} (hd : d ≠ 0) : Int.gcd (qn n d) (qd n d) = 1 := by
  have hg := gcd_pos (n := n) hd
  have h : Int.gcd (qn n d * (Int.gcd n d : Int)) (qd n d * (Int.gcd n d : Int)) = Int.gcd n d := by
    rw [qn_mul, qd_mul]; unfold qs
    split <;> simp
  rw [Int.gcd_mul_right] at h
  simp only [Int.natAbs_natCast] at h
  have hg' : 0 < Int.gcd n d := by omega
  exact Nat.eq_of_mul_eq_mul_right hg' (by rw [h, Nat.one_mul])

theorem dvd_of_gcd {a b c : Int} (h : a ∣ b * c) (hg : Int.gcd a b = 1) : a ∣ c := by
  have e := Int.gcd_mul_right_right_of_gcd_eq_one (k := c) hg
  have e2 : Int.gcd a (b * c) = a.natAbs := Int.gcd_eq_natAbs_left h
  rw [e2] at e
  exact Int.natAbs_dvd.1 (by rw [e]; exact Int.gcd_dvd_right ..)

theorem q_uniq {n d p q : Int} (hd : d ≠ 0) (hq : 1 ≤ q) (hg : Int.gcd p q = 1) (h : p * d = n * q) : p = qn n d ∧ q = qd n d := by
  have h1 := q_mul (n := n) hd
  have h2 := q_gcd (n := n) hd
  have h3 := qd_pos (n := n) hd
  have h4 : p * qd n d = qn n d * q := cancel hd (by grind)
  have d1 : q ∣ qd n d := dvd_of_gcd (b := p) ⟨qn n d, by rw [h4, Int.mul_comm]⟩ (by rw [Int.gcd_comm]; exact hg)
  have d2 : qd n d ∣ q := dvd_of_gcd (b := qn n d) ⟨p, by rw [← h4, Int.mul_comm]⟩ (by rw [Int.gcd_comm]; exact h2)
  have e : q = qd n d := by
    have l1 := Int.le_of_dvd (by omega) d1
    have l2 := Int.le_of_dvd (by omega) d2
    omega
  refine ⟨?_, e⟩
  rw [← e] at h4
  exact cancel (by omega) h4

theorem q_congr {n d n' d' : Int} (hd : d ≠ 0) (hd' : d' ≠ 0) (h : n * d' = n' * d) : qn n d = qn n' d' ∧ qd n d = qd n' d' :=
  q_uniq hd' (qd_pos hd) (q_gcd hd) (cancel hd (by have := q_mul (n := n) hd; grind))

end Go.Proofs.Ytkepfmglljkjhaa
