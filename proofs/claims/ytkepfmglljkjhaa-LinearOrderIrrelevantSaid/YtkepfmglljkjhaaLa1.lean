/-
  Determinants, plain: Cramer's rule.
-/
import Init
set_option linter.unusedVariables false
set_option linter.unusedSimpArgs false
namespace Go.Proofs.Ytkepfmglljkjhaa.LA
/-- The sum of the first numbers of a sequence. -/
def sumN : Nat → (Nat → Int) → Int
  | 0, _ => 0
  | n + 1, f => sumN n f + f n
theorem sumN_congr {n : Nat} {f g : Nat → Int} (h : ∀ i, i < n → f i = g i) : sumN n f = sumN n g := by
  induction n with
  | zero => rfl
  | succ n ih => rw [sumN, sumN, ih fun i hi => h i (by omega), h n (by omega)]
theorem sumN_zero (n : Nat) : sumN n (fun _ => 0) = 0 := by
  induction n with
  | zero => rfl
  | succ n ih => rw [sumN, ih]; rfl
theorem sumN_eq_zero {n : Nat} {f : Nat → Int} (h : ∀ i, i < n → f i = 0) : sumN n f = 0 := by
  rw [sumN_congr h, sumN_zero]
theorem sumN_add (n : Nat) (f g : Nat → Int) : sumN n (fun i => f i + g i) = sumN n f + sumN n g := by
  induction n with
  | zero => rfl
  | succ n ih => simp only [sumN, ih]; omega
theorem sumN_mul (n : Nat) (c : Int) (f : Nat → Int) : sumN n (fun i => c * f i) = c * sumN n f := by
  induction n with
  | zero => simp [sumN]
  | succ n ih => simp only [sumN, ih, Int.mul_add]
theorem sumN_neg (n : Nat) (f : Nat → Int) : sumN n (fun i => - f i) = - sumN n f := by
  induction n with
  | zero => simp [sumN]
  | succ n ih => simp only [sumN, ih]; omega
theorem sumN_swap (n m : Nat) (f : Nat → Nat → Int) : sumN n (fun i => sumN m (fun j => f i j)) = sumN m (fun j => sumN n (fun i => f i j)) := by
  induction n with
  | zero => simp only [sumN]; rw [sumN_zero]
  | succ n ih => simp only [sumN]; rw [ih, ← sumN_add]
theorem sumN_le {n : Nat} {f g : Nat → Int} (h : ∀ i, i < n → f i ≤ g i) : sumN n f ≤ sumN n g := by
  induction n with
  | zero => exact Int.le_refl _
  | succ n ih =>
    have h1 := ih fun i hi => h i (by omega)
    have h2 := h n (by omega)
    simp only [sumN]; omega
theorem sumN_nonneg {n : Nat} {f : Nat → Int} (h : ∀ i, i < n → 0 ≤ f i) : 0 ≤ sumN n f := by
  have := sumN_le h
  rw [sumN_zero] at this; exact this
theorem sumN_mul_right (n : Nat) (c : Int) (f : Nat → Int) : sumN n (fun i => f i * c) = sumN n f * c := by
  rw [Int.mul_comm, ← sumN_mul]; exact sumN_congr fun i _ => Int.mul_comm _ _
/-- One index alone. -/
theorem sumN_one {n k : Nat} (f : Nat → Int) (hk : k < n) (h : ∀ i, i < n → i ≠ k → f i = 0) : sumN n f = f k := by
  induction n with
  | zero => omega
  | succ n ih =>
    rw [sumN]
    by_cases e : k = n
    · subst e
      rw [sumN_eq_zero fun i hi => h i (by omega) (by omega)]; omega
    · rw [ih (by omega) fun i hi hne => h i (by omega) hne, h n (by omega) (by omega)]; omega
/-- One index put aside. -/
theorem sumN_split {n k : Nat} (f : Nat → Int) (hk : k < n) : sumN n f = f k + sumN n (fun i => if i = k then 0 else f i) := by
  have h1 : sumN n f = sumN n (fun i => (if i = k then f i else 0) + (if i = k then 0 else f i)) := sumN_congr fun i _ => by split <;> omega
  rw [h1, sumN_add, sumN_one (k := k) (fun i => if i = k then f i else 0) hk (fun i _ hne => by simp [hne])]
  simp
theorem sumN_first (n : Nat) (f : Nat → Int) : sumN (n + 1) f = f 0 + sumN n (fun i => f (i + 1)) := by
  induction n with
  | zero => simp [sumN]
  | succ n ih => rw [sumN, ih]; simp only [sumN]; omega
theorem sumN_abs {n : Nat} {f : Nat → Int} {b : Int} (h : ∀ i, i < n → -b ≤ f i ∧ f i ≤ b) : -(n * b) ≤ sumN n f ∧ sumN n f ≤ n * b := by
  induction n with
  | zero => simp [sumN]
  | succ n ih =>
    have h1 := ih fun i hi => h i (by omega)
    have h2 := h n (by omega)
    have e : ((n + 1 : Nat) : Int) * b = n * b + b := by rw [Int.natCast_add, Int.add_mul]; simp
    rw [e]
    simp only [sumN]; omega
/-- The sum over two indices of an antisymmetric term is 0. -/
theorem sumN_anti (n : Nat) (G : Nat → Nat → Int) (h : ∀ i, i < n → ∀ j, j < n → G i j = - G j i) : sumN n (fun i => sumN n (fun j => G i j)) = 0 := by
  have h1 : sumN n (fun i => sumN n (fun j => G i j)) = sumN n (fun i => sumN n (fun j => - G j i)) := sumN_congr fun i hi => sumN_congr fun j hj => h i hi j hj
  have h2 : sumN n (fun i => sumN n (fun j => - G j i)) = - sumN n (fun i => sumN n (fun j => G i j)) := by
    rw [show (fun i => sumN n (fun j => - G j i)) = fun i => - sumN n (fun j => G j i) from funext fun i => sumN_neg _ _, sumN_neg, sumN_swap]
  omega
/-- The indices but one. -/
def skip (k i : Nat) : Nat := if i < k then i else i + 1
theorem sumN_skip {n j : Nat} (f : Nat → Int) (hj : j ≤ n) : sumN n (fun k => f (skip j k)) = sumN (n + 1) (fun k => if k = j then 0 else f k) := by
  induction n with
  | zero => have : j = 0 := by omega
            subst this; simp [sumN]
  | succ n ih =>
    by_cases e : j = n + 1
    · subst e
      rw [sumN, sumN_congr (f := fun k => f (skip (n + 1) k)) (g := f) fun i hi => by unfold skip; rw [if_pos (by omega)]]
      rw [sumN, sumN, sumN_congr (f := fun k => if k = n + 1 then 0 else f k) (g := f) fun i hi => by simp; omega]
      simp [skip]
    · rw [sumN, ih (by omega)]
      conv => rhs; rw [sumN]
      have h1 : skip j n = n + 1 := by unfold skip; rw [if_neg (by omega)]
      rw [h1, if_neg (by omega)]
/-- The signs in turn. -/
def sg (j : Nat) : Int := if j % 2 = 0 then 1 else -1
theorem sg_succ (j : Nat) : sg (j + 1) = - sg j := by
  unfold sg; rcases Nat.mod_two_eq_zero_or_one j with h | h
  · rw [if_neg (by omega), if_pos h]
  · rw [if_pos (by omega), if_neg (by omega)]; rfl
theorem sg_sq (j : Nat) : sg j * sg j = 1 := by unfold sg; split <;> rfl
theorem sg_cases (j : Nat) : sg j = 1 ∨ sg j = -1 := by unfold sg; split <;> simp
/-- The determinant. -/
def det : Nat → (Nat → Nat → Int) → Int
  | 0, _ => 1
  | M + 1, a => sumN (M + 1) fun j => sg j * a 0 j * det M fun i k => a (i + 1) (skip j k)
theorem det_succ (M : Nat) (a : Nat → Nat → Int) : det (M + 1) a = sumN (M + 1) fun j => sg j * a 0 j * det M fun i k => a (i + 1) (skip j k) := rfl
theorem skip_lt {M j k : Nat} (hk : k < M) : skip j k < M + 1 := by unfold skip; split <;> omega
theorem skip_ne (j k : Nat) : skip j k ≠ j := by unfold skip; split <;> omega
theorem det_congr {M : Nat} {a b : Nat → Nat → Int} (h : ∀ i, i < M → ∀ j, j < M → a i j = b i j) : det M a = det M b := by
  induction M generalizing a b with
  | zero => rfl
  | succ M ih =>
    rw [det_succ, det_succ]
    refine sumN_congr fun j hj => ?_
    rw [h 0 (by omega) j hj, ih fun i hi k hk => h (i + 1) (by omega) _ (skip_lt hk)]
/-- A column replaced. -/
def setC (a : Nat → Nat → Int) (q : Nat) (u : Nat → Int) : Nat → Nat → Int := fun i j => if j = q then u i else a i j
/-- The determinant is linear in each column. -/
theorem det_lin {M : Nat} {a b c : Nat → Nat → Int} {q : Nat} {x y : Int} (hq : q < M) (h0 : ∀ i, i < M → a i q = x * b i q + y * c i q)
    (h1 : ∀ i, i < M → ∀ j, j < M → j ≠ q → a i j = b i j ∧ a i j = c i j) : det M a = x * det M b + y * det M c := by
  induction M generalizing a b c q with
  | zero => omega
  | succ M ih =>
    rw [det_succ, det_succ, det_succ, ← sumN_mul, ← sumN_mul, ← sumN_add]
    refine sumN_congr fun j hj => ?_
    by_cases e : j = q
    · subst e
      have e1 : det M (fun i k => a (i + 1) (skip j k)) = det M (fun i k => b (i + 1) (skip j k)) := det_congr fun i hi k hk => (h1 _ (by omega) _ (skip_lt hk) (skip_ne _ _)).1
      have e2 : det M (fun i k => a (i + 1) (skip j k)) = det M (fun i k => c (i + 1) (skip j k)) := det_congr fun i hi k hk => (h1 _ (by omega) _ (skip_lt hk) (skip_ne _ _)).2
      rw [h0 0 (by omega), ← e1, ← e2]
      grind
    · have hb := (h1 0 (by omega) j hj e).1
      have hc := (h1 0 (by omega) j hj e).2
      have hM : 0 < M := by omega
      have ih2 := ih (a := fun i k => a (i + 1) (skip j k)) (b := fun i k => b (i + 1) (skip j k)) (c := fun i k => c (i + 1) (skip j k)) (q := if q < j then q else q - 1) (by split <;> omega)
        (fun i hi => by
          have e3 : skip j (if q < j then q else q - 1) = q := by unfold skip; (repeat' split) <;> omega
          show a (i + 1) _ = _
          simp only [e3]
          exact h0 _ (by omega))
        (fun i hi k hk hne => by
          refine h1 _ (by omega) _ (skip_lt hk) fun e4 => hne ?_
          revert e4; unfold skip; (repeat' split) <;> omega)
      rw [ih2, ← hb, ← hc]
      grind
/-- Two neighbouring columns exchanged. -/
theorem det_swapC {M : Nat} {a b : Nat → Nat → Int} {q : Nat} (hq : q + 1 < M) (h0 : ∀ i, i < M → a i q = b i (q + 1)) (h1 : ∀ i, i < M → a i (q + 1) = b i q)
    (h2 : ∀ i, i < M → ∀ j, j < M → j ≠ q → j ≠ q + 1 → a i j = b i j) : det M a = - det M b := by
  induction M generalizing a b q with
  | zero => omega
  | succ M ih =>
    rw [det_succ, det_succ]
    have hA := sumN_split (n := M + 1) (k := q) (fun j => sg j * a 0 j * det M fun i k => a (i + 1) (skip j k)) (by omega)
    have hA2 := sumN_split (n := M + 1) (k := q + 1) (fun i => if i = q then 0 else (fun j => sg j * a 0 j * det M fun i k => a (i + 1) (skip j k)) i) (by omega)
    have hB := sumN_split (n := M + 1) (k := q) (fun j => sg j * b 0 j * det M fun i k => b (i + 1) (skip j k)) (by omega)
    have hB2 := sumN_split (n := M + 1) (k := q + 1) (fun i => if i = q then 0 else (fun j => sg j * b 0 j * det M fun i k => b (i + 1) (skip j k)) i) (by omega)
    rw [hA, hA2, hB, hB2]
    have hrest : sumN (M + 1) (fun i => if i = q + 1 then 0 else if i = q then 0 else (fun j => sg j * a 0 j * det M fun i k => a (i + 1) (skip j k)) i) = - sumN (M + 1) (fun i => if i = q + 1 then 0 else if i = q then 0 else (fun j => sg j * b 0 j * det M fun i k => b (i + 1) (skip j k)) i) := by
      rw [← sumN_neg]
      refine sumN_congr fun j hj => ?_
      by_cases e1 : j = q + 1
      · simp [e1]
      by_cases e2 : j = q
      · simp [e2]
      simp only [e1, e2, if_false]
      have e3 := ih (a := fun i k => a (i + 1) (skip j k)) (b := fun i k => b (i + 1) (skip j k)) (q := if q < j then q else q - 1) (by split <;> omega)
        (fun i hi => by
          have h3 : skip j (if q < j then q else q - 1) = q := by unfold skip; (repeat' split) <;> omega
          have h4 : skip j ((if q < j then q else q - 1) + 1) = q + 1 := by unfold skip; (repeat' split) <;> omega
          show a (i + 1) _ = b (i + 1) _
          rw [h3, h4]; exact h0 _ (by omega))
        (fun i hi => by
          have h3 : skip j (if q < j then q else q - 1) = q := by unfold skip; (repeat' split) <;> omega
          have h4 : skip j ((if q < j then q else q - 1) + 1) = q + 1 := by unfold skip; (repeat' split) <;> omega
          show a (i + 1) _ = b (i + 1) _
          rw [h3, h4]; exact h1 _ (by omega))
        (fun i hi k hk hn1 hn2 => h2 _ (by omega) _ (skip_lt hk) (fun e4 => hn1 (by revert e4; unfold skip; (repeat' split) <;> omega)) (fun e4 => hn2 (by revert e4; unfold skip; (repeat' split) <;> omega)))
      rw [e3, h2 0 (by omega) j hj e2 e1]
      grind
    rw [hrest]
    have d1 : det M (fun i k => a (i + 1) (skip q k)) = det M (fun i k => b (i + 1) (skip (q + 1) k)) := det_congr fun i hi k hk => by
      by_cases c1 : k < q
      · rw [show skip q k = k by unfold skip; rw [if_pos c1], show skip (q + 1) k = k by unfold skip; rw [if_pos (by omega)]]
        exact h2 _ (by omega) _ (by omega) (by omega) (by omega)
      · by_cases c2 : k = q
        · rw [show skip q k = q + 1 by unfold skip; rw [if_neg c1]; omega, show skip (q + 1) k = q by unfold skip; rw [if_pos (by omega)]; exact c2]
          exact h1 _ (by omega)
        · rw [show skip q k = k + 1 by unfold skip; rw [if_neg c1], show skip (q + 1) k = k + 1 by unfold skip; rw [if_neg (by omega)]]
          exact h2 _ (by omega) _ (by omega) (by omega) (by omega)
    have d2 : det M (fun i k => a (i + 1) (skip (q + 1) k)) = det M (fun i k => b (i + 1) (skip q k)) := det_congr fun i hi k hk => by
      by_cases c1 : k < q
      · rw [show skip q k = k by unfold skip; rw [if_pos c1], show skip (q + 1) k = k by unfold skip; rw [if_pos (by omega)]]
        exact h2 _ (by omega) _ (by omega) (by omega) (by omega)
      · by_cases c2 : k = q
        · rw [show skip q k = q + 1 by unfold skip; rw [if_neg c1]; omega, show skip (q + 1) k = q by unfold skip; rw [if_pos (by omega)]; exact c2]
          exact h0 _ (by omega)
        · rw [show skip q k = k + 1 by unfold skip; rw [if_neg c1], show skip (q + 1) k = k + 1 by unfold skip; rw [if_neg (by omega)]]
          exact h2 _ (by omega) _ (by omega) (by omega) (by omega)
    have hne : ¬ (q + 1 = q) := by omega
    simp only [hne, if_false, d1, d2, h0 0 (by omega), h1 0 (by omega), sg_succ]
    grind
/-- Two equal columns. -/
theorem det_eqC {M : Nat} : ∀ {d : Nat} {a : Nat → Nat → Int} {q : Nat}, q + d + 1 < M → (∀ i, i < M → a i q = a i (q + d + 1)) → det M a = 0
  | 0, a, q, hq, h => by
    have := det_swapC (a := a) (b := a) hq h (fun i hi => (h i hi).symm) (fun _ _ _ _ _ _ => rfl)
    omega
  | d + 1, a, q, hq, h => by
    have h1 := det_swapC (a := a) (b := fun i j => if j = q + d + 1 then a i (q + d + 2) else if j = q + d + 2 then a i (q + d + 1) else a i j) (q := q + d + 1) (by omega)
      (fun i hi => by simp) (fun i hi => by simp) (fun i hi j hj e1 e2 => by simp [e1, show j ≠ q + d + 2 by omega])
    rw [h1, det_eqC (d := d) (q := q) (by omega) (fun i hi => by
      have h2 : q ≠ q + d + 1 := by omega
      have h3 : q ≠ q + d + 2 := by omega
      simp only [if_neg h2, if_neg h3, if_true]; exact h i hi)]
    rfl
theorem det_same {M : Nat} {a : Nat → Nat → Int} {q p : Nat} (hq : q < M) (hp : p < M) (hne : q ≠ p) (h : ∀ i, i < M → a i q = a i p) : det M a = 0 := by
  rcases Nat.lt_or_gt_of_ne hne with h1 | h1
  · obtain ⟨d, rfl⟩ : ∃ d, p = q + d + 1 := ⟨p - q - 1, by omega⟩
    exact det_eqC hp h
  · obtain ⟨d, rfl⟩ : ∃ d, q = p + d + 1 := ⟨q - p - 1, by omega⟩
    exact det_eqC hq fun i hi => (h i hi).symm
/-- Two neighbouring rows exchanged. -/
theorem det_swapR {M : Nat} {a b : Nat → Nat → Int} {r : Nat} (hr : r + 1 < M) (h0 : ∀ j, j < M → a r j = b (r + 1) j) (h1 : ∀ j, j < M → a (r + 1) j = b r j)
    (h2 : ∀ i, i < M → ∀ j, j < M → i ≠ r → i ≠ r + 1 → a i j = b i j) : det M a = - det M b := by
  induction M generalizing a b r with
  | zero => omega
  | succ M ih =>
    match r, hr with
    | r + 1, hr =>
      rw [det_succ, det_succ, ← sumN_neg]
      refine sumN_congr fun j hj => ?_
      rw [ih (a := fun i k => a (i + 1) (skip j k)) (b := fun i k => b (i + 1) (skip j k)) (r := r) (by omega) (fun k hk => h0 _ (skip_lt hk)) (fun k hk => h1 _ (skip_lt hk))
        (fun i hi k hk e1 e2 => h2 _ (by omega) _ (skip_lt hk) (by omega) (by omega)), h2 0 (by omega) j hj (by omega) (by omega)]
      grind
    | 0, hr =>
      obtain ⟨K, rfl⟩ : ∃ K, M = K + 1 := ⟨M - 1, by omega⟩
      have key : ∀ c : Nat → Nat → Int, det (K + 1 + 1) c = sumN (K + 2) fun j => sumN (K + 2) fun k => if k = j then 0 else (if k < j then 1 else -1) * (sg j * sg k * c 0 j * c 1 k * det K fun i l => c (i + 2) (skip (max j k) (skip (min j k) l))) := fun c => by
        rw [det_succ]
        refine sumN_congr fun j hj => ?_
        rw [det_succ, ← sumN_mul]
        rw [← sumN_skip (n := K + 1) (j := j) (fun k => (if k < j then 1 else -1) * (sg j * sg k * c 0 j * c 1 k * det K fun i l => c (i + 2) (skip (max j k) (skip (min j k) l)))) (by omega)]
        refine sumN_congr fun k hk => ?_
        by_cases e : k < j
        · have e1 : skip j k = k := by unfold skip; rw [if_pos e]
          rw [e1, if_pos e, Nat.max_eq_left (by omega), Nat.min_eq_right (by omega)]
          grind
        · have e1 : skip j k = k + 1 := by unfold skip; rw [if_neg e]
          rw [e1, if_neg (by omega), Nat.max_eq_right (by omega), Nat.min_eq_left (by omega), sg_succ]
          have e2 : ∀ l, skip j (skip k l) = skip (k + 1) (skip j l) := fun l => by
            unfold skip; (repeat' split) <;> omega
          simp only [e2]
          grind
      rw [key a, key b, sumN_swap (K + 2) (K + 2) (fun j k => if k = j then 0 else (if k < j then 1 else -1) * (sg j * sg k * b 0 j * b 1 k * det K fun i l => b (i + 2) (skip (max j k) (skip (min j k) l)))), ← sumN_neg]
      refine sumN_congr fun j hj => ?_
      rw [← sumN_neg]
      refine sumN_congr fun k hk => ?_
      by_cases e : k = j
      · simp [e]
      rw [if_neg e, if_neg (Ne.symm e), Nat.max_comm k j, Nat.min_comm k j]
      have e1 : (det K fun i l => a (i + 2) (skip (max j k) (skip (min j k) l))) = det K fun i l => b (i + 2) (skip (max j k) (skip (min j k) l)) := det_congr fun i hi l hl => h2 _ (by omega) _ (by
        have := skip_lt (j := min j k) hl
        have := skip_lt (j := max j k) this
        exact this) (by omega) (by omega)
      rw [e1, h0 j hj, h1 k hk]
      by_cases e2 : k < j
      · rw [if_pos e2, if_neg (by omega)]; grind
      · rw [if_neg e2, if_pos (by omega)]; grind
/-- Two equal rows. -/
theorem det_eqR {M : Nat} : ∀ {d : Nat} {a : Nat → Nat → Int} {q : Nat}, q + d + 1 < M → (∀ j, j < M → a q j = a (q + d + 1) j) → det M a = 0
  | 0, a, q, hq, h => by
    have := det_swapR (a := a) (b := a) hq h (fun i hi => (h i hi).symm) (fun _ _ _ _ _ _ => rfl)
    omega
  | d + 1, a, q, hq, h => by
    have h1 := det_swapR (a := a) (b := fun j i => if j = q + d + 1 then a (q + d + 2) i else if j = q + d + 2 then a (q + d + 1) i else a j i) (r := q + d + 1) (by omega)
      (fun i hi => by simp) (fun i hi => by simp) (fun j hj i hi e1 e2 => by simp [e1, show j ≠ q + d + 2 by omega])
    rw [h1, det_eqR (d := d) (q := q) (by omega) (fun i hi => by
      have h2 : q ≠ q + d + 1 := by omega
      have h3 : q ≠ q + d + 2 := by omega
      simp only [if_neg h2, if_neg h3, if_true]; exact h i hi)]
    rfl
/-- A column moved to the front. -/
theorem det_move {M : Nat} (c : Nat → Nat → Int) (v : Nat → Int) {j : Nat} (hj : j < M) : ∀ p, p ≤ j →
    det M (fun i k => if k = 0 then v i else if k ≤ j then c i (k - 1) else c i k) = sg p * det M (fun i k => if k < p then c i k else if k = p then v i else if k ≤ j then c i (k - 1) else c i k)
  | 0, _ => by
    show _ = 1 * _
    rw [Int.one_mul]
    refine det_congr fun i hi k hk => ?_
    simp
  | p + 1, hp => by
    rw [det_move c v hj p (by omega), sg_succ]
    rw [det_swapC (M := M) (a := fun i k => if k < p then c i k else if k = p then v i else if k ≤ j then c i (k - 1) else c i k) (b := fun i k => if k < p + 1 then c i k else if k = p + 1 then v i else if k ≤ j then c i (k - 1) else c i k) (q := p) (by omega)
      (fun i hi => by simp) (fun i hi => by simp; rw [if_neg (by omega), if_pos (by omega)]) (fun i hi k hk e1 e2 => by
        by_cases h : k < p
        · simp [h, show k < p + 1 by omega]
        · simp [h, e1, e2, show ¬ k < p + 1 by omega])]
    grind
/-- Cramer's rule. -/
theorem cramer {M : Nat} (c : Nat → Nat → Int) (v : Nat → Int) {t : Nat} (ht : t < M) : sumN M (fun j => c t j * det M (setC c j v)) = v t * det M c := by
  have h0 : det (M + 1) (fun i j => if j = 0 then v (if i = 0 then t else i - 1) else c (if i = 0 then t else i - 1) (j - 1)) = 0 :=
    det_eqR (d := t) (q := 0) (by omega) (fun j hj => by simp)
  rw [det_succ, sumN_first] at h0
  have e1 : (det M fun i k => if skip 0 k = 0 then v (if i + 1 = 0 then t else i + 1 - 1) else c (if i + 1 = 0 then t else i + 1 - 1) (skip 0 k - 1)) = det M c := det_congr fun i hi k hk => by
    simp [skip]
  have e2 : sumN M (fun j => sg (j + 1) * (if j + 1 = 0 then v (if (0 : Nat) = 0 then t else 0 - 1) else c (if (0 : Nat) = 0 then t else 0 - 1) (j + 1 - 1)) * det M fun i k => if skip (j + 1) k = 0 then v (if i + 1 = 0 then t else i + 1 - 1) else c (if i + 1 = 0 then t else i + 1 - 1) (skip (j + 1) k - 1)) = - sumN M (fun j => c t j * det M (setC c j v)) := by
    rw [← sumN_neg]
    refine sumN_congr fun j hj => ?_
    have e3 : (det M fun i k => if skip (j + 1) k = 0 then v (if i + 1 = 0 then t else i + 1 - 1) else c (if i + 1 = 0 then t else i + 1 - 1) (skip (j + 1) k - 1)) = sg j * det M (setC c j v) := by
      have e4 := det_move c v hj j (Nat.le_refl _)
      have e5 : det M (fun i k => if k < j then c i k else if k = j then v i else if k ≤ j then c i (k - 1) else c i k) = det M (setC c j v) := det_congr fun i hi k hk => by
        unfold setC
        by_cases h : k < j
        · simp [h, show k ≠ j by omega]
        · by_cases h' : k = j
          · simp [h']
          · simp [h, h', show ¬ k ≤ j by omega]
      rw [← e5, ← e4]
      refine det_congr fun i hi k hk => ?_
      simp only [skip, Nat.add_sub_cancel]
      by_cases h : k = 0
      · simp [h]
      · by_cases h' : k ≤ j
        · simp [h, h', show k < j + 1 by omega]
        · simp [h, h', show ¬ k < j + 1 by omega]
    rw [e3, sg_succ]
    simp
    have := sg_sq j
    grind
  rw [e1, e2] at h0
  have e6 : sg 0 = 1 := rfl
  simp [e6] at h0
  omega
end Go.Proofs.Ytkepfmglljkjhaa.LA
