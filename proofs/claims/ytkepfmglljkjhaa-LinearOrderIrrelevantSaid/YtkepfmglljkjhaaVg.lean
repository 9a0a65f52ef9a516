/-
  The greatest divisor of a vector: plain.
-/
import Derived.Test.YtkepfmglljkjhaaFg
namespace Go.Proofs.Ytkepfmglljkjhaa
open Go.RowKit
set_option linter.unusedVariables false
set_option linter.unusedSimpArgs false

def vgcd (d : Int) (xs : List Int) : Int := xs.foldl (fun a x => ((Int.gcd a x : Nat) : Int)) d
theorem vgcd_nil (d : Int) : vgcd d [] = d := rfl
theorem vgcd_cons (d x : Int) (xs : List Int) : vgcd d (x :: xs) = vgcd ((Int.gcd d x : Nat) : Int) xs := rfl
theorem vgcd_snoc (d x : Int) (xs : List Int) : vgcd d (xs ++ [x]) = ((Int.gcd (vgcd d xs) x : Nat) : Int) := by unfold vgcd; rw [List.foldl_append]; rfl
theorem vgcd_take {d x : Int} {xs : List Int} {k : Nat} (h : xs[k]? = some x) : vgcd d (xs.take (k + 1)) = ((Int.gcd (vgcd d (xs.take k)) x : Nat) : Int) := by
  rw [List.take_add_one, h]; exact vgcd_snoc _ _ _
theorem vgcd_pos : ∀ {xs : List Int} {d : Int}, 0 < d → 0 < vgcd d xs
  | [], d, h => h
  | x :: xs, d, h => by
    rw [vgcd_cons]
    refine vgcd_pos ?_
    have : Int.gcd d x ≠ 0 := fun e => by have := (Int.gcd_eq_zero_iff.1 e).1; omega
    omega
theorem vgcd_dvd : ∀ (xs : List Int) (d : Int), vgcd d xs ∣ d ∧ ∀ x ∈ xs, vgcd d xs ∣ x
  | [], d => ⟨Int.dvd_refl _, fun x h => by cases h⟩
  | x :: xs, d => by
    rw [vgcd_cons]
    obtain ⟨h1, h2⟩ := vgcd_dvd xs ((Int.gcd d x : Nat) : Int)
    refine ⟨Int.dvd_trans h1 (Int.gcd_dvd_left ..), fun y hy => ?_⟩
    rcases List.mem_cons.1 hy with rfl | hy
    · exact Int.dvd_trans h1 (Int.gcd_dvd_right ..)
    · exact h2 y hy
theorem vgcd_le {xs : List Int} {d : Int} (h : 0 < d) : vgcd d xs ≤ d := Int.le_of_dvd h (vgcd_dvd xs d).1
theorem vgcd_mul {g : Int} (hg : 0 < g) : ∀ (xs : List Int) (d : Int), vgcd (g * d) (xs.map (g * ·)) = g * vgcd d xs
  | [], d => rfl
  | x :: xs, d => by
    rw [List.map_cons, vgcd_cons, vgcd_cons]
    have e : ((Int.gcd (g * d) (g * x) : Nat) : Int) = g * ((Int.gcd d x : Nat) : Int) := by
      rw [Int.gcd_mul_left, Int.natCast_mul]
      congr 1
      omega
    rw [e]
    exact vgcd_mul hg xs _
/-- Without the greatest divisor. -/
def vdiv (d : Int) (xs : List Int) : List Int := xs.map fun x => x.tdiv (vgcd d xs)
theorem vdiv_len (d : Int) (xs : List Int) : (vdiv d xs).length = xs.length := by unfold vdiv; rw [List.length_map]
theorem tdiv_mul_of_dvd {g x : Int} (h : g ∣ x) : g * x.tdiv g = x := Int.mul_tdiv_cancel' h
theorem vdiv_at {d x : Int} {xs : List Int} {k : Nat} (h : xs[k]? = some x) : ∃ y, (vdiv d xs)[k]? = some y ∧ vgcd d xs * y = x :=
  ⟨_, by unfold vdiv; rw [List.getElem?_map, h]; rfl, tdiv_mul_of_dvd ((vgcd_dvd xs d).2 x (List.mem_of_getElem? h))⟩
/-- No number greater than 1 divides what is left. -/
theorem vdiv_one {d : Int} {xs : List Int} (h : 0 < d) : vgcd (d.tdiv (vgcd d xs)) (vdiv d xs) = 1 := by
  have hg := vgcd_pos (xs := xs) h
  have h1 := vgcd_mul hg (vdiv d xs) (d.tdiv (vgcd d xs))
  have e1 : vgcd d xs * d.tdiv (vgcd d xs) = d := tdiv_mul_of_dvd (vgcd_dvd xs d).1
  have e2 : (vdiv d xs).map (vgcd d xs * ·) = xs := by
    unfold vdiv
    rw [List.map_map]
    conv => rhs; rw [← List.map_id xs]
    refine List.map_congr_left fun x hx => ?_
    exact tdiv_mul_of_dvd ((vgcd_dvd xs d).2 x hx)
  rw [e1, e2] at h1
  have : vgcd d xs * 1 = vgcd d xs * vgcd (d.tdiv (vgcd d xs)) (vdiv d xs) := by rw [Int.mul_one]; exact h1
  exact (Int.eq_of_mul_eq_mul_left (by omega) this).symm
theorem vden_pos {d : Int} {xs : List Int} (h : 0 < d) : 0 < d.tdiv (vgcd d xs) := by
  have hg := vgcd_pos (xs := xs) h
  have e1 : vgcd d xs * d.tdiv (vgcd d xs) = d := tdiv_mul_of_dvd (vgcd_dvd xs d).1
  rcases Int.lt_or_le 0 (d.tdiv (vgcd d xs)) with h1 | h1
  · exact h1
  · have := Int.mul_nonneg (Int.le_of_lt hg) (show 0 ≤ - d.tdiv (vgcd d xs) by omega)
    rw [Int.mul_neg, e1] at this
    omega
theorem abs_of_mul {g y x B : Int} (hg : 0 < g) (e : g * y = x) (h : -B ≤ x ∧ x ≤ B) : -B ≤ y ∧ y ≤ B := by
  have h1 : (g - 1) * y = x - y := by rw [Int.sub_mul, e, Int.one_mul]
  rcases Int.lt_or_le y 0 with hy | hy
  · have := Int.mul_nonneg (show 0 ≤ g - 1 by omega) (show 0 ≤ -y by omega)
    rw [Int.mul_neg] at this
    omega
  · have := Int.mul_nonneg (show 0 ≤ g - 1 by omega) hy
    omega

end Go.Proofs.Ytkepfmglljkjhaa
