/-
  Determinants, plain: the exact division of a pivot step; sums of minors.
-/
import Derived.Test.YtkepfmglljkjhaaLa1
set_option linter.unusedVariables false
set_option linter.unusedSimpArgs false
namespace Go.Proofs.Ytkepfmglljkjhaa.LA
theorem setC_at (a : Nat → Nat → Int) (q : Nat) (u : Nat → Int) (i : Nat) : setC a q u i q = u i := by simp [setC]
theorem setC_ne (a : Nat → Nat → Int) {q j : Nat} (u : Nat → Int) (i : Nat) (h : j ≠ q) : setC a q u i j = a i j := by simp [setC, h]
/-- Linear in a column that is a sum of several. -/
theorem det_sum {M : Nat} (c : Nat → Nat → Int) {q : Nat} (hq : q < M) (n : Nat) (x : Nat → Int) (u : Nat → Nat → Int) :
    det M (setC c q fun i => sumN n fun k => x k * u k i) = sumN n fun k => x k * det M (setC c q (u k)) := by
  induction n with
  | zero =>
    have h := det_lin (M := M) (a := setC c q fun i => sumN 0 fun k => x k * u k i) (b := c) (c := c) (x := 0) (y := 0) hq (fun i _ => by simp [setC, sumN]) 
    simp only [sumN]
    have h2 := det_lin (M := M) (a := setC c q fun i => (0 : Int)) (b := setC c q fun i => (0 : Int)) (c := setC c q fun i => (0 : Int)) (x := 0) (y := 0) hq (fun i _ => by simp [setC]) (fun i _ j _ _ => ⟨rfl, rfl⟩)
    rw [h2]; simp
  | succ n ih =>
    rw [sumN, ← ih]
    have h := det_lin (M := M) (a := setC c q fun i => sumN (n + 1) fun k => x k * u k i) (b := setC c q fun i => sumN n fun k => x k * u k i) (c := setC c q (u n)) (x := 1) (y := x n) hq (fun i _ => by simp [setC, sumN]) (fun i _ j _ e => by simp [setC, e])
    rw [h]; omega
/-- A column is put in the place of another one: the sign changes when both change places. -/
theorem det_exch {M : Nat} (c : Nat → Nat → Int) {q p : Nat} (hq : q < M) (hp : p < M) (hne : q ≠ p) (u v : Nat → Int) :
    det M (setC (setC c q u) p v) = - det M (setC (setC c q v) p u) := by
  have hs : ∀ w z : Nat → Int, det M (setC (setC c q (fun i => w i + z i)) p (fun i => w i + z i)) = 0 := fun w z =>
    det_same hq hp hne fun i _ => by rw [setC_ne _ _ _ hne, setC_at, setC_at]
  have h0 := hs u v
  have hu : det M (setC (setC c q u) p u) = 0 := det_same hq hp hne fun i _ => by rw [setC_ne _ _ _ hne, setC_at, setC_at]
  have hv : det M (setC (setC c q v) p v) = 0 := det_same hq hp hne fun i _ => by rw [setC_ne _ _ _ hne, setC_at, setC_at]
  have h1 := det_lin (M := M) (a := setC (setC c q (fun i => u i + v i)) p (fun i => u i + v i)) (b := setC (setC c q (fun i => u i + v i)) p u) (c := setC (setC c q (fun i => u i + v i)) p v) (x := 1) (y := 1) hp (fun i _ => by simp [setC]) (fun i _ j _ e => by simp [setC, e])
  have h2 : ∀ w : Nat → Int, det M (setC (setC c q (fun i => u i + v i)) p w) = det M (setC (setC c q u) p w) + det M (setC (setC c q v) p w) := fun w => by
    have h := det_lin (M := M) (a := setC (setC c q (fun i => u i + v i)) p w) (b := setC (setC c q u) p w) (c := setC (setC c q v) p w) (x := 1) (y := 1) hq (fun i _ => by simp [setC, hne]) (fun i _ j _ e => by simp [setC, e])
    rw [h]; omega
  have h3 := h2 u
  have h4 := h2 v
  omega
/-- The exact division of a pivot step. -/
theorem pluecker {M : Nat} (c : Nat → Nat → Int) {i r : Nat} (hi : i < M) (hr : r < M) (hne : i ≠ r) (u v : Nat → Int) :
    det M c * det M (setC (setC c r u) i v) = det M (setC c i v) * det M (setC c r u) - det M (setC c i u) * det M (setC c r v) := by
  -- v times the determinant is a combination of the columns
  have h0 : det M (setC (setC c r u) i fun t => v t * det M c) = det M (setC (setC c r u) i fun t => sumN M fun j => det M (setC c j v) * c t j) := det_congr fun t ht j _ => by
    by_cases e : j = i
    · subst e
      rw [setC_at, setC_at, ← cramer c v ht]
      exact sumN_congr fun k _ => Int.mul_comm _ _
    · rw [setC_ne _ _ _ e, setC_ne _ _ _ e]
  have h1 := det_lin (M := M) (a := setC (setC c r u) i fun t => v t * det M c) (b := setC (setC c r u) i v) (c := setC (setC c r u) i v) (x := det M c) (y := 0) hi (fun t _ => by simp [setC, Int.mul_comm]) (fun t _ j _ e => by simp [setC, e])
  rw [h0, det_sum _ hi M (fun j => det M (setC c j v)) (fun j t => c t j)] at h1
  have h2 : sumN M (fun k => det M (setC c k v) * det M (setC (setC c r u) i fun t => c t k)) = det M (setC c i v) * det M (setC c r u) - det M (setC c i u) * det M (setC c r v) := by
    rw [sumN_split (k := i) _ hi, sumN_one (k := r) _ hr]
    · have e1 : det M (setC (setC c r u) i fun t => c t i) = det M (setC c r u) := det_congr fun t _ j _ => by
        by_cases e : j = i
        · subst e; rw [setC_at, setC_ne _ _ _ hne]
        · rw [setC_ne _ _ _ e]
      have e2 : det M (setC (setC c r u) i fun t => c t r) = - det M (setC c i u) := by
        rw [det_exch c hr hi (Ne.symm hne)]
        congr 1
        exact det_congr fun t _ j _ => by
          by_cases e : j = i
          · subst e; rw [setC_at, setC_at]
          · rw [setC_ne _ _ _ e, setC_ne _ _ _ e]
            by_cases e' : j = r
            · subst e'; rw [setC_at]
            · rw [setC_ne _ _ _ e']
      rw [e1, if_neg (Ne.symm hne), e2]
      grind
    · intro k hk hkr
      by_cases e : k = i
      · simp [e]
      · rw [if_neg e, det_same (a := setC (setC c r u) i fun t => c t k) (q := i) (p := k) hi hk (Ne.symm e) (fun t _ => by rw [setC_at, setC_ne _ _ _ e, setC_ne _ _ _ hkr])]
        simp
  rw [h2] at h1
  rw [h1]
  simp
/-- A column of zeros. -/
theorem det_zeroC {M : Nat} {a : Nat → Nat → Int} {q : Nat} (hq : q < M) (h : ∀ i, i < M → a i q = 0) : det M a = 0 := by
  rw [det_lin (M := M) (a := a) (b := a) (c := a) (x := 0) (y := 0) hq (fun i hi => by rw [h i hi]; simp) (fun _ _ _ _ _ => ⟨rfl, rfl⟩)]
  simp
/-- A column with a single 1. -/
theorem det_unit {M : Nat} : ∀ {k : Nat} {a : Nat → Nat → Int} {q : Nat}, q < M + 1 → k < M + 1 → (∀ i, i < M + 1 → a i q = if i = k then 1 else 0) →
    det (M + 1) a = det M (fun i j => a (skip k i) (skip q j)) ∨ det (M + 1) a = - det M (fun i j => a (skip k i) (skip q j))
  | 0, a, q, hq, hk, h => by
    have e : det (M + 1) a = sg q * det M (fun i j => a (skip 0 i) (skip q j)) := by
      rw [det_succ, sumN_one (k := q) _ hq fun j hj hne => by
        by_cases hM : M = 0
        · omega
        · rw [det_zeroC (M := M) (q := if q < j then q else q - 1) (by split <;> omega) fun i hi => by
            have e3 : skip j (if q < j then q else q - 1) = q := by unfold skip; (repeat' split) <;> omega
            rw [e3, h _ (by omega)]; simp]
          simp]
      rw [h 0 (by omega)]
      simp [skip]
    rcases sg_cases q with h1 | h1 <;> rw [e, h1] <;> simp
  | k + 1, a, q, hq, hk, h => by
    have h1 := det_swapR (M := M + 1) (a := a) (b := fun i j => if i = k then a (k + 1) j else if i = k + 1 then a k j else a i j) (r := k) (by omega) (fun j _ => by simp) (fun j _ => by simp) (fun i _ j _ e1 e2 => by simp [e1, e2])
    have h2 := det_unit (M := M) (k := k) (a := fun i j => if i = k then a (k + 1) j else if i = k + 1 then a k j else a i j) (q := q) hq (by omega) (fun i hi => by
      by_cases e1 : i = k
      · simp [e1, h (k + 1) hk]
      · by_cases e2 : i = k + 1
        · simp [e2, h k (by omega)]
        · simp [e1, e2, h i hi])
    have h3 : det M (fun i j => if skip k i = k then a (k + 1) (skip q j) else if skip k i = k + 1 then a k (skip q j) else a (skip k i) (skip q j)) = det M (fun i j => a (skip (k + 1) i) (skip q j)) := det_congr fun i _ j _ => by
      rw [if_neg (skip_ne k i)]
      by_cases e : i = k
      · rw [if_pos (by unfold skip; rw [if_neg (by omega)]; omega)]
        rw [show skip (k + 1) i = k by unfold skip; rw [if_pos (by omega)]; exact e]
      · rw [if_neg (by unfold skip; split <;> omega)]
        rw [show skip (k + 1) i = skip k i by unfold skip; (repeat' split) <;> omega]
    rw [h3] at h2
    omega

/-! ### Bounds -/
theorem abs_mul {a b x y : Int} (hx : -x ≤ a ∧ a ≤ x) (hy : -y ≤ b ∧ b ≤ y) : -(x * y) ≤ a * b ∧ a * b ≤ x * y := by
  have hx0 : 0 ≤ x := by omega
  have hy0 : 0 ≤ y := by omega
  have h1 : a * b ≤ x * y := by
    have := Int.mul_nonneg (show 0 ≤ x - a by omega) (show 0 ≤ y + b by omega)
    have := Int.mul_nonneg (show 0 ≤ x + a by omega) (show 0 ≤ y - b by omega)
    grind
  have h2 : -(x * y) ≤ a * b := by
    have := Int.mul_nonneg (show 0 ≤ x - a by omega) (show 0 ≤ y - b by omega)
    have := Int.mul_nonneg (show 0 ≤ x + a by omega) (show 0 ≤ y + b by omega)
    grind
  exact ⟨h1 |> fun _ => h2, h1⟩
/-- The expansion along the first row. -/
theorem det_bound {M : Nat} {a : Nat → Nat → Int} {R H : Int} (h0 : ∀ j, j < M + 1 → -R ≤ a 0 j ∧ a 0 j ≤ R)
    (h1 : ∀ j, j < M + 1 → -H ≤ det M (fun i k => a (i + 1) (skip j k)) ∧ det M (fun i k => a (i + 1) (skip j k)) ≤ H) :
    -(((M + 1 : Nat) : Int) * (R * H)) ≤ det (M + 1) a ∧ det (M + 1) a ≤ ((M + 1 : Nat) : Int) * (R * H) := by
  rw [det_succ]
  refine sumN_abs fun j hj => ?_
  have h2 : -R ≤ sg j * a 0 j ∧ sg j * a 0 j ≤ R := by
    have := h0 j hj
    rcases sg_cases j with e | e <;> rw [e] <;> omega
  exact abs_mul h2 (h1 j hj)
/-- The sum of the minors of two rows. -/
def absI (x : Int) : Int := if 0 ≤ x then x else -x
def pairsF (n : Nat) (x y : Nat → Int) : Int := sumN n fun j => sumN j fun k => absI (x j * y k - x k * y j)
/-- Convex in one number. -/
def Conv (f : Int → Int) : Prop := ∀ t, -4 ≤ t → t ≤ 4 → 8 * f t ≤ (4 - t) * f (-4) + (4 + t) * f 4
theorem Conv.sum {n : Nat} {f : Nat → Int → Int} (h : ∀ i, i < n → Conv (f i)) : Conv fun t => sumN n fun i => f i t := by
  intro t h1 h2
  simp only
  rw [← sumN_mul, ← sumN_mul, ← sumN_mul, ← sumN_add]
  exact sumN_le fun i hi => h i hi t h1 h2
theorem Conv.aff (A B : Int) : Conv fun t => absI (A * t + B) := by
  intro t h1 h2
  have e1 : absI (A * -4 + B) ≥ A * -4 + B ∧ absI (A * -4 + B) ≥ -(A * -4 + B) := by unfold absI; split <;> omega
  have e2 : absI (A * 4 + B) ≥ A * 4 + B ∧ absI (A * 4 + B) ≥ -(A * 4 + B) := by unfold absI; split <;> omega
  show 8 * absI (A * t + B) ≤ (4 - t) * absI (A * -4 + B) + (4 + t) * absI (A * 4 + B)
  have a1 := Int.mul_nonneg (show 0 ≤ 4 - t by omega) (show 0 ≤ absI (A * -4 + B) - (A * -4 + B) by omega)
  have a2 := Int.mul_nonneg (show 0 ≤ 4 - t by omega) (show 0 ≤ absI (A * -4 + B) + (A * -4 + B) by omega)
  have a3 := Int.mul_nonneg (show 0 ≤ 4 + t by omega) (show 0 ≤ absI (A * 4 + B) - (A * 4 + B) by omega)
  have a4 := Int.mul_nonneg (show 0 ≤ 4 + t by omega) (show 0 ≤ absI (A * 4 + B) + (A * 4 + B) by omega)
  have e3 : absI (A * t + B) = A * t + B ∨ absI (A * t + B) = -(A * t + B) := by unfold absI; split <;> omega
  rcases e3 with e | e <;> rw [e] <;> grind
theorem Conv.congr {f g : Int → Int} (h : ∀ t, f t = g t) (hf : Conv f) : Conv g := by
  rw [show g = f from (funext h).symm]; exact hf
theorem Conv.le {f : Int → Int} (h : Conv f) {K t : Int} (h1 : -4 ≤ t) (h2 : t ≤ 4) (h3 : f (-4) ≤ K) (h4 : f 4 ≤ K) : f t ≤ K := by
  have e := h t h1 h2
  have a1 := Int.mul_nonneg (show 0 ≤ 4 - t by omega) (show 0 ≤ K - f (-4) by omega)
  have a2 := Int.mul_nonneg (show 0 ≤ 4 + t by omega) (show 0 ≤ K - f 4 by omega)
  have e5 : (4 - t) * (K - f (-4)) + (4 + t) * (K - f 4) = 8 * K - ((4 - t) * f (-4) + (4 + t) * f 4) := by grind
  omega
def upd (x : Nat → Int) (q : Nat) (t : Int) : Nat → Int := fun i => if i = q then t else x i
theorem upd_self (x : Nat → Int) (q : Nat) : upd x q (x q) = x := funext fun i => by unfold upd; split <;> simp_all
theorem pairsF_conv (n : Nat) (x y : Nat → Int) (q : Nat) : Conv fun t => pairsF n (upd x q t) y := by
  refine Conv.sum fun j _ => Conv.sum fun k hk => ?_
  by_cases e : j = q
  · subst e
    exact (Conv.aff (y k) (- (x k * y j))).congr fun t => by
      simp [upd, show k ≠ j by omega]; congr 1; grind
  · by_cases e' : k = q
    · subst e'
      exact (Conv.aff (- y j) (x j * y k)).congr fun t => by
        simp [upd, e]; congr 1; grind
    · exact (Conv.aff 0 (x j * y k - x k * y j)).congr fun t => by
        simp [upd, e, e']
theorem absI_neg (x : Int) : absI (-x) = absI x := by unfold absI; (repeat' split) <;> omega
theorem pairsF_comm (n : Nat) (x y : Nat → Int) : pairsF n x y = pairsF n y x :=
  sumN_congr fun j _ => sumN_congr fun k _ => by
    rw [← absI_neg]; congr 1; grind
/-- It suffices to look at the ends. -/
theorem pairsF_half {n : Nat} {y : Nat → Int} {K : Int} (h : ∀ x : Nat → Int, (∀ i, i < n → x i = 4 ∨ x i = -4) → pairsF n x y ≤ K) :
    ∀ q (x : Nat → Int), (∀ i, i < n → -4 ≤ x i ∧ x i ≤ 4) → (∀ i, i < n → q ≤ i → x i = 4 ∨ x i = -4) → pairsF n x y ≤ K
  | 0, x, _, h2 => h x fun i hi => h2 i hi (Nat.zero_le _)
  | q + 1, x, h1, h2 => by
    by_cases hq : q < n
    · have hh : ∀ s : Int, s = 4 ∨ s = -4 → pairsF n (upd x q s) y ≤ K := fun s hs => by
        refine pairsF_half h q _ (fun i hi => ?_) (fun i hi hqi => ?_)
        · unfold upd; split
          · omega
          · exact h1 i hi
        · unfold upd; split
          · exact hs
          · exact h2 i hi (by omega)
      have := (pairsF_conv n x y q).le (K := K) (h1 q hq).1 (h1 q hq).2 (hh _ (.inr rfl)) (hh _ (.inl rfl))
      rwa [upd_self] at this
    · exact pairsF_half h q x h1 fun i hi hqi => by omega
theorem pairsF_ends {n : Nat} {K : Int} (h : ∀ x y : Nat → Int, (∀ i, i < n → x i = 4 ∨ x i = -4) → (∀ i, i < n → y i = 4 ∨ y i = -4) → pairsF n x y ≤ K)
    {x y : Nat → Int} (hx : ∀ i, i < n → -4 ≤ x i ∧ x i ≤ 4) (hy : ∀ i, i < n → -4 ≤ y i ∧ y i ≤ 4) : pairsF n x y ≤ K := by
  refine pairsF_half (fun x hx' => ?_) n x hx (fun i hi h => by omega)
  rw [pairsF_comm]
  refine pairsF_half (fun y hy' => ?_) n y hy (fun i hi h => by omega)
  rw [pairsF_comm]
  exact h x y hx' hy'
/-- At the ends a minor tells whether the products of the signs differ. -/
def sgn (b : Bool) : Int := if b then 4 else -4
theorem pairs5 : ∀ a b c d e f g h i j : Bool,
    let x : Nat → Int := fun k => sgn (match k with | 0 => a | 1 => b | 2 => c | 3 => d | _ => e)
    let y : Nat → Int := fun k => sgn (match k with | 0 => f | 1 => g | 2 => h | 3 => i | _ => j)
    pairsF 5 x y ≤ 192 := by decide
theorem pairs3 : ∀ a b c f g h : Bool,
    let x : Nat → Int := fun k => sgn (match k with | 0 => a | 1 => b | _ => c)
    let y : Nat → Int := fun k => sgn (match k with | 0 => f | 1 => g | _ => h)
    pairsF 3 x y ≤ 64 := by decide
theorem sgn_of {x : Int} (h : x = 4 ∨ x = -4) : x = sgn (decide (x = 4)) := by rcases h with rfl | rfl <;> rfl
theorem pairsF_congr {n : Nat} {x x' y y' : Nat → Int} (hx : ∀ i, i < n → x i = x' i) (hy : ∀ i, i < n → y i = y' i) : pairsF n x y = pairsF n x' y' :=
  sumN_congr fun j hj => sumN_congr fun k hk => by rw [hx j hj, hx k (by omega), hy j hj, hy k (by omega)]
theorem pairsF_5 {x y : Nat → Int} (hx : ∀ i, i < 5 → -4 ≤ x i ∧ x i ≤ 4) (hy : ∀ i, i < 5 → -4 ≤ y i ∧ y i ≤ 4) : pairsF 5 x y ≤ 192 := by
  refine pairsF_ends (fun x y hx hy => ?_) hx hy
  have := pairs5 (decide (x 0 = 4)) (decide (x 1 = 4)) (decide (x 2 = 4)) (decide (x 3 = 4)) (decide (x 4 = 4)) (decide (y 0 = 4)) (decide (y 1 = 4)) (decide (y 2 = 4)) (decide (y 3 = 4)) (decide (y 4 = 4))
  simp only at this
  rw [pairsF_congr (x' := x) (y' := y)] at this
  · exact this
  all_goals
    intro i hi
    match i, hi with
    | 0, _ => exact (sgn_of (by first | exact hx 0 (by omega) | exact hy 0 (by omega))).symm
    | 1, _ => exact (sgn_of (by first | exact hx 1 (by omega) | exact hy 1 (by omega))).symm
    | 2, _ => exact (sgn_of (by first | exact hx 2 (by omega) | exact hy 2 (by omega))).symm
    | 3, _ => exact (sgn_of (by first | exact hx 3 (by omega) | exact hy 3 (by omega))).symm
    | 4, _ => exact (sgn_of (by first | exact hx 4 (by omega) | exact hy 4 (by omega))).symm
theorem pairsF_3 {x y : Nat → Int} (hx : ∀ i, i < 3 → -4 ≤ x i ∧ x i ≤ 4) (hy : ∀ i, i < 3 → -4 ≤ y i ∧ y i ≤ 4) : pairsF 3 x y ≤ 64 := by
  refine pairsF_ends (fun x y hx hy => ?_) hx hy
  have := pairs3 (decide (x 0 = 4)) (decide (x 1 = 4)) (decide (x 2 = 4)) (decide (y 0 = 4)) (decide (y 1 = 4)) (decide (y 2 = 4))
  simp only at this
  rw [pairsF_congr (x' := x) (y' := y)] at this
  · exact this
  all_goals
    intro i hi
    match i, hi with
    | 0, _ => exact (sgn_of (by first | exact hx 0 (by omega) | exact hy 0 (by omega))).symm
    | 1, _ => exact (sgn_of (by first | exact hx 1 (by omega) | exact hy 1 (by omega))).symm
    | 2, _ => exact (sgn_of (by first | exact hx 2 (by omega) | exact hy 2 (by omega))).symm
end Go.Proofs.Ytkepfmglljkjhaa.LA
