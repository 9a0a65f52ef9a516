/-
  Duality of linear programs.
-/
import Derived.Test.YtkepfmglljkjhaaLa8
set_option linter.unusedVariables false
set_option linter.unusedSimpArgs false
namespace Go.Proofs.Ytkepfmglljkjhaa.LA
/-! ### Points, dual solutions, directions -/
def IsPt (P : LP) (x : Nat → Int) (d : Int) : Prop := (∀ k, k < P.m → sumN P.n (fun j => P.A k j * x j) ≤ P.b k * d) ∧ ∀ j, j < P.n → 0 ≤ x j
def IsDu (P : LP) (y : Nat → Int) (e : Int) : Prop := (∀ j, j < P.n → P.c j * e ≤ sumN P.m fun k => P.A k j * y k) ∧ ∀ k, k < P.m → 0 ≤ y k
def IsRef (P : LP) (y : Nat → Int) : Prop := (∀ j, j < P.n → 0 ≤ sumN P.m fun k => P.A k j * y k) ∧ (∀ k, k < P.m → 0 ≤ y k) ∧ sumN P.m (fun k => P.b k * y k) < 0
def IsRay (P : LP) (d : Nat → Int) : Prop := (∀ k, k < P.m → sumN P.n (fun j => P.A k j * d j) ≤ 0) ∧ (∀ j, j < P.n → 0 ≤ d j) ∧ 0 < sumN P.n fun j => P.c j * d j
def valP (P : LP) (x : Nat → Int) : Int := sumN P.n fun j => P.c j * x j
def valD (P : LP) (y : Nat → Int) : Int := sumN P.m fun k => P.b k * y k
section
variable {P : LP}
theorem swap_sum (P : LP) (x y : Nat → Int) : sumN P.n (fun j => x j * sumN P.m fun k => P.A k j * y k) = sumN P.m fun k => y k * sumN P.n fun j => P.A k j * x j := by
  have e : sumN P.n (fun j => x j * sumN P.m fun k => P.A k j * y k) = sumN P.n fun j => sumN P.m fun k => x j * (P.A k j * y k) := sumN_congr fun j _ => by rw [sumN_mul]
  rw [e, sumN_swap]
  refine sumN_congr fun k _ => ?_
  rw [← sumN_mul]
  exact sumN_congr fun j _ => by grind
theorem weak {x y : Nat → Int} {d e : Int} (hx : IsPt P x d) (hy : IsDu P y e) : valP P x * e ≤ valD P y * d := by
  have h1 : valP P x * e = sumN P.n fun j => x j * (P.c j * e) := by
    unfold valP; rw [← sumN_mul_right]; exact sumN_congr fun j _ => by grind
  have h2 : (sumN P.n fun j => x j * (P.c j * e)) ≤ sumN P.n fun j => x j * sumN P.m fun k => P.A k j * y k := sumN_le fun j hj => Int.mul_le_mul_of_nonneg_left (hy.1 j hj) (hx.2 j hj)
  have h3 : (sumN P.m fun k => y k * sumN P.n fun j => P.A k j * x j) ≤ sumN P.m fun k => y k * (P.b k * d) := sumN_le fun k hk => Int.mul_le_mul_of_nonneg_left (hx.1 k hk) (hy.2 k hk)
  have h4 : valD P y * d = sumN P.m fun k => y k * (P.b k * d) := by
    unfold valD; rw [← sumN_mul_right]; exact sumN_congr fun j _ => by grind
  rw [swap_sum] at h2
  omega
theorem no_point {x y : Nat → Int} {d : Int} (hd : 0 < d) (hx : IsPt P x d) (hy : IsRef P y) : False := by
  have h2 : 0 ≤ sumN P.n fun j => x j * sumN P.m fun k => P.A k j * y k := sumN_nonneg fun j hj => Int.mul_nonneg (hx.2 j hj) (hy.1 j hj)
  have h3 : (sumN P.m fun k => y k * sumN P.n fun j => P.A k j * x j) ≤ sumN P.m fun k => y k * (P.b k * d) := sumN_le fun k hk => Int.mul_le_mul_of_nonneg_left (hx.1 k hk) (hy.2.1 k hk)
  have h4 : (sumN P.m fun k => y k * (P.b k * d)) = (sumN P.m fun k => P.b k * y k) * d := by
    rw [← sumN_mul_right]; exact sumN_congr fun j _ => by grind
  rw [swap_sum] at h2
  have h5 := Int.mul_neg_of_neg_of_pos hy.2.2 hd
  omega
theorem no_ray {r y : Nat → Int} {e : Int} (he : 0 < e) (hr : IsRay P r) (hy : IsDu P y e) : False := by
  have h1 : (sumN P.n fun j => P.c j * r j) * e = sumN P.n fun j => r j * (P.c j * e) := by
    rw [← sumN_mul_right]; exact sumN_congr fun j _ => by grind
  have h2 : (sumN P.n fun j => r j * (P.c j * e)) ≤ sumN P.n fun j => r j * sumN P.m fun k => P.A k j * y k := sumN_le fun j hj => Int.mul_le_mul_of_nonneg_left (hy.1 j hj) (hr.2.1 j hj)
  have h3 : (sumN P.m fun k => y k * sumN P.n fun j => P.A k j * r j) ≤ sumN P.m fun _ => 0 := sumN_le fun k hk => by
    have := Int.mul_nonneg (hy.2 k hk) (show 0 ≤ - sumN P.n fun j => P.A k j * r j by have := hr.1 k hk; omega)
    rw [Int.mul_neg] at this
    omega
  rw [sumN_zero] at h3
  rw [swap_sum] at h2
  have h5 := Int.mul_pos hr.2.2 he
  omega
end
/-- The outcome of a program: 1: the best value num/den; 2: no point; 3: not bounded. -/
def Outcome (P : LP) (status num den : Int) : Prop :=
  (status = 1 ∧ 0 < den ∧ (∃ x d, 0 < d ∧ IsPt P x d ∧ valP P x * den = num * d) ∧ ∃ y e, 0 < e ∧ IsDu P y e ∧ valD P y * den = num * e) ∨
  (status = 2 ∧ num = 0 ∧ den = 0 ∧ ∃ y, IsRef P y) ∨
  (status = 3 ∧ num = 0 ∧ den = 0 ∧ (∃ x d, 0 < d ∧ IsPt P x d) ∧ ∃ r, IsRay P r)
/-- The dual program. -/
def LP.dual (P : LP) : LP := ⟨P.n, P.m, fun j k => - P.A k j, fun j => - P.c j, fun k => - P.b k⟩
section
variable {P Q : LP} {s s' num num' den den' : Int}
theorem dual_point {y : Nat → Int} {e : Int} : IsPt P.dual y e ↔ IsDu P y e := by
  have h : ∀ j, sumN P.m (fun k => - P.A k j * y k) = - sumN P.m fun k => P.A k j * y k := fun j => by
    rw [← sumN_neg]; exact sumN_congr fun k _ => by grind
  unfold IsPt IsDu LP.dual
  simp only
  constructor
  · rintro ⟨h1, h2⟩
    refine ⟨fun j hj => ?_, h2⟩
    have := h1 j hj
    rw [h, Int.neg_mul] at this
    omega
  · rintro ⟨h1, h2⟩
    refine ⟨fun j hj => ?_, h2⟩
    have := h1 j hj
    rw [h, Int.neg_mul]
    omega
theorem dual_du {x : Nat → Int} {d : Int} : IsDu P.dual x d ↔ IsPt P x d := by
  have h : ∀ k, sumN P.n (fun j => - P.A k j * x j) = - sumN P.n fun j => P.A k j * x j := fun k => by
    rw [← sumN_neg]; exact sumN_congr fun k _ => by grind
  unfold IsPt IsDu LP.dual
  simp only
  constructor
  · rintro ⟨h1, h2⟩
    refine ⟨fun j hj => ?_, h2⟩
    have := h1 j hj
    rw [h, Int.neg_mul] at this
    omega
  · rintro ⟨h1, h2⟩
    refine ⟨fun j hj => ?_, h2⟩
    have := h1 j hj
    rw [h, Int.neg_mul]
    omega
theorem dual_valP (y : Nat → Int) : valP P.dual y = - valD P y := by
  unfold valP valD LP.dual
  rw [← sumN_neg]; exact sumN_congr fun k _ => by grind
theorem dual_valD (x : Nat → Int) : valD P.dual x = - valP P x := by
  unfold valP valD LP.dual
  rw [← sumN_neg]; exact sumN_congr fun k _ => by grind
/-- Of two best values that bound each other. -/
theorem le_of_points {a d b e num den num' den' : Int} (hd : 0 < d) (he : 0 < e) (hden : 0 < den) (hden' : 0 < den') (h1 : a * den = num * d) (h2 : b * den' = num' * e) (h : a * e ≤ b * d) : num * den' ≤ num' * den := by
  have h3 := Int.mul_le_mul_of_nonneg_right h (Int.le_of_lt (Int.mul_pos hden hden'))
  have e1 : a * e * (den * den') = (d * e) * (num * den') := by
    have : a * e * (den * den') = (a * den) * (e * den') := by grind
    rw [this, h1]; grind
  have e2 : b * d * (den * den') = (d * e) * (num' * den) := by
    have : b * d * (den * den') = (b * den') * (d * den) := by grind
    rw [this, h2]; grind
  rw [e1, e2] at h3
  exact Int.le_of_mul_le_mul_left h3 (Int.mul_pos hd he)
/-- The outcomes of a program and of its dual program. -/
theorem dual_outcome (h : Outcome P s num den) (h' : Outcome P.dual s' num' den') :
    (s = 1 → s' = 1 ∧ 0 < den ∧ 0 < den' ∧ num' * den = - num * den') ∧ (s = 3 → s' = 2) ∧ (s = 2 → s' ≠ 1) := by
  refine ⟨fun e1 => ?_, fun e1 => ?_, fun e1 => ?_⟩
  · rcases h with ⟨_, hd, ⟨x, d, hd0, hx, hxv⟩, y, e, he0, hy, hyv⟩ | ⟨e2, _⟩ | ⟨e2, _⟩
    · rcases h' with ⟨e3, hd', ⟨y', e', he0', hy', hyv'⟩, x', d', hd0', hx', hxv'⟩ | ⟨e3, _, _, z, hz⟩ | ⟨e3, _, _, _, r, hr⟩
      · refine ⟨e3, hd, hd', ?_⟩
        rw [dual_valP] at hyv'
        rw [dual_valD] at hxv'
        have hy'' := dual_point.1 hy'
        have hx'' := dual_du.1 hx'
        have w1 := weak hx hy''
        have w2 := weak hx'' hy
        have a1 := le_of_points hd0 he0' hd hd' hxv (by have := hyv'; grind : valD P y' * den' = (- num') * e') w1
        have a2 := le_of_points hd0' he0 hd' hd (by have := hxv'; grind : valP P x' * den' = (- num') * d') hyv w2
        have e5 : -num' * den = - (num' * den) := Int.neg_mul _ _
        have e6 : -num * den' = - (num * den') := Int.neg_mul _ _
        omega
      · exact absurd hz fun hz => no_point he0 (dual_point.2 hy) hz
      · exact absurd hr fun hr => no_ray hd0 hr (dual_du.2 hx)
    · omega
    · omega
  · rcases h with ⟨e2, _⟩ | ⟨e2, _⟩ | ⟨_, _, _, ⟨x, d, hd0, hx⟩, r, hr⟩
    · omega
    · omega
    · rcases h' with ⟨e3, hd', ⟨y', e', he0', hy', hyv'⟩, _⟩ | ⟨e3, _⟩ | ⟨e3, _, _, ⟨y', e', he0', hy'⟩, _⟩
      · exact absurd hr fun hr => no_ray he0' hr (dual_point.1 hy')
      · exact e3
      · exact absurd hr fun hr => no_ray he0' hr (dual_point.1 hy')
  · rcases h with ⟨e2, _⟩ | ⟨_, _, _, z, hz⟩ | ⟨e2, _⟩
    · omega
    · rintro e4
      rcases h' with ⟨e3, hd', _, x', d', hd0', hx', hxv'⟩ | ⟨e3, _⟩ | ⟨e3, _⟩
      · exact no_point hd0' (dual_du.1 hx') hz
      · omega
      · omega
    · omega
/-- A program whose points are all points of another one, with the same values. -/
structure Part (Q P : LP) : Prop where
  n : Q.n = P.n
  c : ∀ j, j < P.n → Q.c j = P.c j
  pt : ∀ x d, IsPt Q x d → IsPt P x d
  ray : ∀ r, IsRay Q r → IsRay P r
theorem Part.val (h : Part Q P) (x : Nat → Int) : valP Q x = valP P x := by
  unfold valP; rw [h.n]; exact sumN_congr fun j hj => by rw [h.c j hj]
theorem part_outcome (hp : Part Q P) (h : Outcome P s num den) (h' : Outcome Q s' num' den') :
    (s = 1 → s' = 2 ∨ (s' = 1 ∧ 0 < den ∧ 0 < den' ∧ num' * den ≤ num * den')) ∧ (s = 2 → s' = 2) ∧ s' ≠ 0 := by
  refine ⟨fun e1 => ?_, fun e1 => ?_, ?_⟩
  · rcases h with ⟨_, hd, _, y, e, he0, hy, hyv⟩ | ⟨e2, _⟩ | ⟨e2, _⟩
    · rcases h' with ⟨e3, hd', ⟨x', d', hd0', hx', hxv'⟩, _⟩ | ⟨e3, _⟩ | ⟨e3, _, _, _, r, hr⟩
      · refine .inr ⟨e3, hd, hd', ?_⟩
        have w1 := weak (hp.pt _ _ hx') hy
        rw [hp.val] at hxv'
        exact le_of_points hd0' he0 hd' hd hxv' hyv w1
      · exact .inl e3
      · exact absurd hr fun hr => no_ray he0 (hp.ray r hr) hy
    · omega
    · omega
  · rcases h with ⟨e2, _⟩ | ⟨_, _, _, z, hz⟩ | ⟨e2, _⟩
    · omega
    · rcases h' with ⟨e3, hd', ⟨x', d', hd0', hx', hxv'⟩, _⟩ | ⟨e3, _⟩ | ⟨e3, _, _, ⟨x', d', hd0', hx'⟩, _⟩
      · exact absurd hz fun hz => no_point hd0' (hp.pt _ _ hx') hz
      · exact e3
      · exact absurd hz fun hz => no_point hd0' (hp.pt _ _ hx') hz
    · omega
  · rcases h' with ⟨e3, _⟩ | ⟨e3, _⟩ | ⟨e3, _⟩ <;> omega
/-- Two programs with the same points. -/
theorem same_outcome (hp : Part Q P) (hq : Part P Q) (h : Outcome P s num den) (h' : Outcome Q s' num' den') : s = s' ∧ num' * den = num * den' := by
  obtain ⟨a1, a2, a3⟩ := part_outcome hp h h'
  obtain ⟨b1, b2, b3⟩ := part_outcome hq h' h
  have hs : s = 1 ∨ s = 2 ∨ s = 3 := by rcases h with ⟨e, _⟩ | ⟨e, _⟩ | ⟨e, _⟩ <;> omega
  have hs' : s' = 1 ∨ s' = 2 ∨ s' = 3 := by rcases h' with ⟨e, _⟩ | ⟨e, _⟩ | ⟨e, _⟩ <;> omega
  have key : s = s' := by
    rcases hs with e | e | e <;> rcases hs' with e' | e' | e'
    · omega
    · have := b2 e'; omega
    · rcases a1 e with h1 | ⟨h1, _⟩ <;> omega
    · have := a2 e; omega
    · omega
    · have := a2 e; omega
    · rcases b1 e' with h1 | ⟨h1, _⟩ <;> omega
    · have := b2 e'; omega
    · omega
  refine ⟨key, ?_⟩
  subst key
  rcases hs with e | e | e
  · rcases a1 e with h1 | ⟨_, _, _, h1⟩
    · omega
    · rcases b1 e with h2 | ⟨_, _, _, h2⟩
      · omega
      · omega
  · rcases h with ⟨e1, _⟩ | ⟨_, rfl, rfl, _⟩ | ⟨e1, _⟩
    · omega
    · rcases h' with ⟨e1, _⟩ | ⟨_, rfl, rfl, _⟩ | ⟨e1, _⟩
      · omega
      · rfl
      · omega
    · omega
  · rcases h with ⟨e1, _⟩ | ⟨e1, _⟩ | ⟨_, rfl, rfl, _⟩
    · omega
    · omega
    · rcases h' with ⟨e1, _⟩ | ⟨e1, _⟩ | ⟨_, rfl, rfl, _⟩
      · omega
      · omega
      · rfl
/-- No point has a greater value. -/
theorem no_better {x : Nat → Int} {d : Int} (hd : 0 < d) (hx : IsPt P x d) (h : Outcome P s num den) : (s = 1 ∧ 0 < den ∧ valP P x * den ≤ num * d) ∨ s = 3 := by
  rcases h with ⟨e, hden, _, y, e0, he0, hy, hyv⟩ | ⟨_, _, _, z, hz⟩ | ⟨e, _⟩
  · refine .inl ⟨e, hden, ?_⟩
    have w1 := weak hx hy
    have h3 := Int.mul_le_mul_of_nonneg_right w1 (Int.le_of_lt hden)
    have e1 : valD P y * d * den = e0 * (num * d) := by
      have : valD P y * d * den = (valD P y * den) * d := by grind
      rw [this, hyv]; grind
    have e2 : valP P x * e0 * den = e0 * (valP P x * den) := by grind
    rw [e1, e2] at h3
    exact Int.le_of_mul_le_mul_left h3 he0
  · exact absurd hz fun hz => no_point hd hx hz
  · exact .inr e
end
end Go.Proofs.Ytkepfmglljkjhaa.LA
