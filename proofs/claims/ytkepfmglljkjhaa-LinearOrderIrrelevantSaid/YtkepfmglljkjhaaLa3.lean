/-
  Determinants of at most six rows: bounds.
-/
import Derived.Test.YtkepfmglljkjhaaLa2
set_option linter.unusedVariables false
set_option linter.unusedSimpArgs false
namespace Go.Proofs.Ytkepfmglljkjhaa.LA
theorem absI_ge (x : Int) : -absI x ≤ x ∧ x ≤ absI x := by unfold absI; split <;> omega
def Bd (M : Nat) (a : Nat → Nat → Int) : Prop := ∀ i, i < M → ∀ j, j < M → -4 ≤ a i j ∧ a i j ≤ 4
theorem Bd.minor {M : Nat} {a : Nat → Nat → Int} (h : Bd (M + 1) a) (k j : Nat) : Bd M (fun i l => a (skip k i) (skip j l)) := fun i hi l hl => h _ (skip_lt hi) _ (skip_lt hl)
theorem Bd.first {M : Nat} {a : Nat → Nat → Int} (h : Bd (M + 1) a) (j : Nat) : Bd M (fun i l => a (i + 1) (skip j l)) := fun i hi l hl => h _ (by omega) _ (skip_lt hl)
theorem det_b1 {a : Nat → Nat → Int} (h : Bd 1 a) : -4 ≤ det 1 a ∧ det 1 a ≤ 4 := by
  have := h 0 (by omega) 0 (by omega)
  have e : det 1 a = a 0 0 := by simp [det, sumN, sg]
  rw [e]; exact this
theorem det_b2 {a : Nat → Nat → Int} (h : Bd 2 a) : -32 ≤ det 2 a ∧ det 2 a ≤ 32 := by
  have : -(((1 + 1 : Nat) : Int) * (4 * 4)) ≤ det 2 a ∧ det 2 a ≤ ((1 + 1 : Nat) : Int) * (4 * 4) := det_bound (M := 1) (a := a) (R := 4) (H := 4) (fun j hj => h 0 (by omega) j hj) (fun j hj => det_b1 (h.first j))
  omega
theorem det_two (a : Nat → Nat → Int) : det 2 a = a 0 0 * a 1 1 - a 0 1 * a 1 0 := by
  simp [det, sumN, sg, skip]; grind
theorem det_b3 {a : Nat → Nat → Int} (h : Bd 3 a) : -256 ≤ det 3 a ∧ det 3 a ≤ 256 := by
  have e : det 3 a = a 0 0 * (a 1 1 * a 2 2 - a 1 2 * a 2 1) - a 0 1 * (a 1 0 * a 2 2 - a 1 2 * a 2 0) + a 0 2 * (a 1 0 * a 2 1 - a 1 1 * a 2 0) := by
    rw [det_succ]
    simp only [sumN, det_two]
    simp [sg, skip]; grind
  have hp := pairsF_3 (x := a 1) (y := a 2) (fun i hi => h 1 (by omega) i hi) (fun i hi => h 2 (by omega) i hi)
  have ep : pairsF 3 (a 1) (a 2) = absI (a 1 1 * a 2 0 - a 1 0 * a 2 1) + absI (a 1 2 * a 2 0 - a 1 0 * a 2 2) + absI (a 1 2 * a 2 1 - a 1 1 * a 2 2) := by
    simp [pairsF, sumN]; omega
  have b0 := abs_mul (h 0 (by omega) 0 (by omega)) (absI_ge (a 1 2 * a 2 1 - a 1 1 * a 2 2))
  have b1 := abs_mul (h 0 (by omega) 1 (by omega)) (absI_ge (a 1 2 * a 2 0 - a 1 0 * a 2 2))
  have b2 := abs_mul (h 0 (by omega) 2 (by omega)) (absI_ge (a 1 1 * a 2 0 - a 1 0 * a 2 1))
  have e2 : det 3 a = - (a 0 0 * (a 1 2 * a 2 1 - a 1 1 * a 2 2)) + a 0 1 * (a 1 2 * a 2 0 - a 1 0 * a 2 2) - a 0 2 * (a 1 1 * a 2 0 - a 1 0 * a 2 1) := by rw [e]; grind
  omega
theorem det_b4 {a : Nat → Nat → Int} (h : Bd 4 a) : -4096 ≤ det 4 a ∧ det 4 a ≤ 4096 := by
  have : -(((3 + 1 : Nat) : Int) * (4 * 256)) ≤ det 4 a ∧ det 4 a ≤ ((3 + 1 : Nat) : Int) * (4 * 256) := det_bound (M := 3) (a := a) (R := 4) (H := 256) (fun j hj => h 0 (by omega) j hj) (fun j hj => det_b3 (h.first j))
  omega
/-- The expansion along two rows. -/
def minor2 (a : Nat → Nat → Int) (k j : Nat) : Int := det 3 fun i l => a (i + 2) (skip j (skip k l))
theorem det_five (a : Nat → Nat → Int) : det 5 a = sumN 5 fun j => sumN j fun k => sg (j + k + 1) * (a 0 k * a 1 j - a 0 j * a 1 k) * minor2 a k j := by
  have hD : ∀ j k, (det 3 fun i l => a (i + 1 + 1) (skip j (skip k l))) = if k < j then minor2 a k j else minor2 a j (k + 1) := fun j k => by
    unfold minor2
    by_cases e : k < j
    · rw [if_pos e]
    · rw [if_neg e]
      refine det_congr fun i _ l _ => ?_
      have e2 : skip j (skip k l) = skip (k + 1) (skip j l) := by unfold skip; (repeat' split) <;> omega
      rw [e2]
  rw [det_succ]
  have e4 : ∀ j, (det 4 fun i k => a (i + 1) (skip j k)) = sumN 4 fun k => sg k * a 1 (skip j k) * if k < j then minor2 a k j else minor2 a j (k + 1) := fun j => by
    rw [det_succ]
    refine sumN_congr fun k _ => ?_
    rw [← hD]
  simp only [e4]
  simp [sumN, sg, skip]
  grind
theorem det_b5 {a : Nat → Nat → Int} (h : Bd 5 a) : -49152 ≤ det 5 a ∧ det 5 a ≤ 49152 := by
  have hm : ∀ k j, -256 ≤ minor2 a k j ∧ minor2 a k j ≤ 256 := fun k j => det_b3 fun i hi l hl => h _ (by omega) _ (skip_lt (skip_lt hl))
  have hp := pairsF_5 (x := a 1) (y := a 0) (fun i hi => h 1 (by omega) i hi) (fun i hi => h 0 (by omega) i hi)
  have ht : ∀ j k, -(absI (a 1 j * a 0 k - a 1 k * a 0 j) * 256) ≤ sg (j + k + 1) * (a 0 k * a 1 j - a 0 j * a 1 k) * minor2 a k j ∧ sg (j + k + 1) * (a 0 k * a 1 j - a 0 j * a 1 k) * minor2 a k j ≤ absI (a 1 j * a 0 k - a 1 k * a 0 j) * 256 := fun j k => by
    refine abs_mul ?_ (hm k j)
    have h1 := absI_ge (a 1 j * a 0 k - a 1 k * a 0 j)
    have e : a 0 k * a 1 j - a 0 j * a 1 k = a 1 j * a 0 k - a 1 k * a 0 j := by grind
    rw [e]
    rcases sg_cases (j + k + 1) with e | e <;> rw [e] <;> omega
  rw [det_five]
  have h1 : (sumN 5 fun j => sumN j fun k => sg (j + k + 1) * (a 0 k * a 1 j - a 0 j * a 1 k) * minor2 a k j) ≤ sumN 5 fun j => sumN j fun k => 256 * absI (a 1 j * a 0 k - a 1 k * a 0 j) :=
    sumN_le fun j _ => sumN_le fun k _ => by have := (ht j k).2; omega
  have h2 : -(sumN 5 fun j => sumN j fun k => 256 * absI (a 1 j * a 0 k - a 1 k * a 0 j)) ≤ sumN 5 fun j => sumN j fun k => sg (j + k + 1) * (a 0 k * a 1 j - a 0 j * a 1 k) * minor2 a k j := by
    rw [← sumN_neg]
    refine sumN_le fun j _ => ?_
    rw [← sumN_neg]
    exact sumN_le fun k _ => by have := (ht j k).1; omega
  have e : (sumN 5 fun j => sumN j fun k => 256 * absI (a 1 j * a 0 k - a 1 k * a 0 j)) = 256 * pairsF 5 (a 1) (a 0) := by
    unfold pairsF
    rw [← sumN_mul]
    exact sumN_congr fun j _ => sumN_mul _ _ _
  omega
theorem det_b6 {a : Nat → Nat → Int} (h : Bd 6 a) : -1179648 ≤ det 6 a ∧ det 6 a ≤ 1179648 := by
  have : -(((5 + 1 : Nat) : Int) * (4 * 49152)) ≤ det 6 a ∧ det 6 a ≤ ((5 + 1 : Nat) : Int) * (4 * 49152) := det_bound (M := 5) (a := a) (R := 4) (H := 49152) (fun j hj => h 0 (by omega) j hj) (fun j hj => det_b5 (h.first j))
  omega
/-- The determinants of at most five rows, and of at most six. -/
theorem det_le5 {M : Nat} {a : Nat → Nat → Int} (hM : M ≤ 5) (h : Bd M a) : -49152 ≤ det M a ∧ det M a ≤ 49152 := by
  match M, hM, h with
  | 0, _, _ => simp [det]
  | 1, _, h => have := det_b1 h; omega
  | 2, _, h => have := det_b2 h; omega
  | 3, _, h => have := det_b3 h; omega
  | 4, _, h => have := det_b4 h; omega
  | 5, _, h => exact det_b5 h
theorem det_le6 {M : Nat} {a : Nat → Nat → Int} (hM : M ≤ 6) (h : Bd M a) : -1179648 ≤ det M a ∧ det M a ≤ 1179648 := by
  rcases Nat.lt_or_ge M 6 with h1 | h1
  · have := det_le5 (by omega) h; omega
  · obtain rfl : M = 6 := by omega
    exact det_b6 h
/-- With a unit column the bound is that of one row less. -/
theorem det_le_unit {M : Nat} {a : Nat → Nat → Int} {q k : Nat} (hM : M ≤ 6) (hq : q < M) (hk : k < M) (hu : ∀ i, i < M → a i q = if i = k then 1 else 0)
    (h : ∀ i, i < M → ∀ j, j < M → j ≠ q → -4 ≤ a i j ∧ a i j ≤ 4) : -49152 ≤ det M a ∧ det M a ≤ 49152 := by
  obtain ⟨N, rfl⟩ : ∃ N, M = N + 1 := ⟨M - 1, by omega⟩
  have h1 := det_le5 (M := N) (a := fun i j => a (skip k i) (skip q j)) (by omega) (fun i hi j hj => h _ (skip_lt hi) _ (skip_lt hj) (skip_ne _ _))
  rcases det_unit hq hk hu with e | e <;> rw [e] <;> omega
end Go.Proofs.Ytkepfmglljkjhaa.LA
