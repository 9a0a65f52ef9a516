/-
  The simplex method with the least index ends.
-/
import Derived.Test.YtkepfmglljkjhaaLa6
set_option linter.unusedVariables false
set_option linter.unusedSimpArgs false
namespace Go.Proofs.Ytkepfmglljkjhaa.LA
theorem sumN_pos {n : Nat} {f : Nat → Int} (h : 0 < sumN n f) : ∃ i, i < n ∧ 0 < f i := by
  by_cases hx : ∃ i, i < n ∧ 0 < f i
  · exact hx
  · have : sumN n f ≤ sumN n fun _ => 0 := sumN_le fun i hi => by
      rcases Int.lt_or_le 0 (f i) with h1 | h1
      · exact absurd ⟨i, hi, h1⟩ hx
      · exact h1
    rw [sumN_zero] at this
    omega
/-- A combination of columns that is 0 has costs that do not depend on the tableau. -/
theorem cross {P : LP} {g : Nat → Int} {s s' : St} (h : Tabl P s.bs s.T s.den) (h' : Tabl P s'.bs s'.T s'.den) (hg : ∀ k, k < P.m → g (P.n + k) = 0) {c : Nat} (hc : c < P.N) :
    P.obj g s'.bs s'.T s'.den c * s.den - sumN P.m (fun i => P.obj g s'.bs s'.T s'.den (s.bs i) * s.T i c) = s'.den * P.obj g s.bs s.T s.den c := by
  have hb : ∀ i, i < P.m → s.bs i < P.N := fun i hi => by have := h.bas i hi; unfold LP.N; omega
  have e1 : sumN P.m (fun i => P.obj g s'.bs s'.T s'.den (s.bs i) * s.T i c) = s'.den * sumN P.m (fun i => g (s.bs i) * s.T i c) + sumN P.m fun k => P.obj g s'.bs s'.T s'.den (P.n + k) * (s.den * P.t0 k c) := by
    have e2 : sumN P.m (fun i => P.obj g s'.bs s'.T s'.den (s.bs i) * s.T i c) = sumN P.m fun i => s'.den * (g (s.bs i) * s.T i c) + sumN P.m fun k => P.obj g s'.bs s'.T s'.den (P.n + k) * (s.T i c * P.t0 k (s.bs i)) := sumN_congr fun i hi => by
      rw [h'.obj_row hg (hb i hi), Int.add_mul, ← sumN_mul_right]
      congr 1
      · grind
      · exact sumN_congr fun k _ => by grind
    rw [e2, sumN_add, sumN_mul, sumN_swap]
    congr 1
    refine sumN_congr fun k hk => ?_
    rw [sumN_mul, h.column hk hc]
  have e3 := h'.obj_row hg hc
  have e4 : (sumN P.m fun k => P.obj g s'.bs s'.T s'.den (P.n + k) * (s.den * P.t0 k c)) = s.den * sumN P.m fun k => P.t0 k c * P.obj g s'.bs s'.T s'.den (P.n + k) := by
    rw [← sumN_mul]; exact sumN_congr fun k _ => by grind
  rw [e1, e4]
  have e5 : P.obj g s.bs s.T s.den c = s.den * g c - sumN P.m fun i => g (s.bs i) * s.T i c := rfl
  rw [e5, e3]
  grind
section
variable {P : LP} {o lim : Nat} {g : Nat → Int} {st : Nat → St}
/-- The simplex method with the least index ends. -/
theorem Run.false (h : Run P o lim g st) : False := by
  obtain ⟨a, b, hab, heq⟩ := h.cycle
  obtain ⟨C, hC⟩ := Classical.axiomOfChoice h.step
  obtain ⟨R, hR⟩ := Classical.axiomOfChoice hC
  have hE : ∀ k, Enters o lim (st k) (C k) := fun k => (hR k).1
  have hL : ∀ k, Leaves P (st k) (C k) (R k) := fun k => (hR k).2.1
  have hS : ∀ k, st (k + 1) = (st k).piv (R k) (C k) := fun k => (hR k).2.2
  have hcl : ∀ k, C k ≤ P.n + P.m := fun k => by have := (hE k).1; have := h.obj.lim; omega
  have hcN : ∀ k, C k < P.N := fun k => by have := hcl k; unfold LP.N; omega
  have hbN : ∀ k i, i < P.m → (st k).bs i < P.N := fun k i hi => by have := (h.ok k).bas i hi; unfold LP.N; omega
  have hobj : ∀ k j, j < P.N → (st k).T o j = P.obj g (st k).bs (st k).T (st k).den j := fun k j hj => h.obj.row _ (h.ok k).toTabl j hj
  have hbs : ∀ k i, (st (k + 1)).bs i = if i = R k then C k else (st k).bs i := fun k i => by rw [hS]; rfl
  have hbas0 : ∀ k i, i < P.m → (st k).T o ((st k).bs i) = 0 := fun k i hi => by rw [hobj k _ (hbN k i hi)]; exact (h.ok k).obj_basis g hi
  have hnew : ∀ k i, i < P.m → (st k).bs i ≠ C k := fun k i hi e => by
    have h1 := hbas0 k i hi
    rw [e] at h1
    have := (hE k).2.1
    omega
  obtain ⟨hden, hT⟩ := same_state (h.ok a).toTabl (h.ok b).toTabl heq
  -- all steps are degenerate
  have hzero : ∀ k, a ≤ k → k < b → (st k).T (R k) P.last = 0 := fun k h1 h2 => by
    obtain ⟨d1, d2, _, _, _, _, _⟩ := step_value h.obj (h.ok k) (h.step k)
    have hl1 := h.le_succ k
    have hl2 := h.le_of (show k + 1 ≤ b by omega)
    have hl3 := h.le_of h1
    have hl4 : le2 (st (k + 1)) (st a) o P.last := by
      unfold le2 at hl2 ⊢
      rw [hden, hT o h.obj.lt P.last (last_lt P)]
      exact hl2
    have hl5 := le2_trans (h.ok (k + 1)).pos (h.ok a).pos (h.ok k).pos hl4 hl3
    have hval : (st k).den * (st (k + 1)).T o P.last = (st k).T o P.last * (st (k + 1)).den - (st k).T o (C k) * (st k).T (R k) P.last := by
      rw [hS]
      show (st k).den * pivT (st k).T (st k).den (R k) (C k) o P.last = _ * pivD (st k).T (R k) (C k) - _
      rw [piv_pos (hL k).2.1, pivD_pos (hL k).2.1]
      exact (h.ok k).toTabl.exact_div (hL k).1 (hcN k) h.obj.lt (by have := (hL k).1; have := h.obj.le; omega) (last_lt P)
    unfold le2 at hl1 hl5
    have h3 : (st k).T o (C k) * (st k).T (R k) P.last = 0 := by
      have e1 : (st k).den * (st (k + 1)).T o P.last = (st (k + 1)).T o P.last * (st k).den := Int.mul_comm _ _
      omega
    have h4 := (hE k).2.1
    rcases Int.mul_eq_zero.1 h3 with e | e
    · omega
    · exact e
  have hkeep : ∀ k, a ≤ k → k < b → ∀ i, i < P.m → ((st (k + 1)).T i P.last = 0 ↔ (st k).T i P.last = 0) := fun k h1 h2 i hi => by
    have h0 := hzero k h1 h2
    have e : (st (k + 1)).T i P.last = pivQ (st k).T (st k).den (R k) (C k) i P.last := by
      rw [hS]; exact piv_pos (hL k).2.1 _ _
    rw [e]
    by_cases c : i = R k
    · subst c; unfold pivQ; rw [if_pos rfl]
    · have h3 := (h.ok k).toTabl.exact_div (hL k).1 (hcN k) (by omega : i < P.m + 2) c (last_lt P)
      rw [h0, Int.mul_zero, Int.sub_zero] at h3
      have hp := (h.ok k).pos
      have hq := (hL k).2.1
      constructor
      · intro h4
        rw [h4, Int.mul_zero] at h3
        rcases Int.mul_eq_zero.1 h3.symm with e | e
        · exact e
        · omega
      · intro h4
        rw [h4, Int.zero_mul] at h3
        rcases Int.mul_eq_zero.1 h3 with e | e
        · omega
        · exact e
  have hall : ∀ d, a + d ≤ b → ∀ i, i < P.m → ((st (a + d)).T i P.last = 0 ↔ (st a).T i P.last = 0) := fun d => by
    induction d with
    | zero => intro _ i _; exact Iff.rfl
    | succ d ih => intro hd i hi; exact (hkeep (a + d) (by omega) (by omega) i hi).trans (ih (by omega) i hi)
  have hall2 : ∀ k, a ≤ k → k ≤ b → ∀ i, i < P.m → ((st k).T i P.last = 0 ↔ (st a).T i P.last = 0) := fun k h1 h2 i hi => by
    obtain ⟨d, rfl⟩ := Nat.le.dest h1
    exact hall d h2 i hi
  -- a row whose variable changes was a pivot row
  have hrow : ∀ i, i < P.m → (∀ k, a ≤ k → k < b → R k ≠ i) → ∀ d, a + d ≤ b → (st (a + d)).bs i = (st a).bs i := fun i hi hno d => by
    induction d with
    | zero => intro _; rfl
    | succ d ih =>
      intro hd
      rw [show a + (d + 1) = a + d + 1 by omega, hbs, if_neg (Ne.symm (hno (a + d) (by omega) (by omega))), ih (by omega)]
  have hstay : ∀ v, (∀ k, a ≤ k → k < b → (st k).bs (R k) ≠ v) → ∀ x d, a ≤ x → x + d ≤ b → (∃ i, i < P.m ∧ (st x).bs i = v) → ∃ i, i < P.m ∧ (st (x + d)).bs i = v := fun v hno x d hx => by
    induction d with
    | zero => intro _ hv; exact hv
    | succ d ih =>
      intro hd hv
      obtain ⟨i, hi, e⟩ := ih (by omega) hv
      refine ⟨i, hi, ?_⟩
      rw [show x + (d + 1) = x + d + 1 by omega, hbs, if_neg]
      · exact e
      · rintro rfl
        exact hno (x + d) (by omega) (by omega) e
  have hback : ∀ v, (∃ i, i < P.m ∧ (st b).bs i = v) → ∃ i, i < P.m ∧ (st a).bs i = v := fun v ⟨i, hi, e⟩ => ⟨i, hi, by rw [heq i hi]; exact e⟩
  -- a variable that is in one basis and not in another one leaves
  have hleave : ∀ v x y, a ≤ x → x ≤ b → a ≤ y → y ≤ b → (∃ i, i < P.m ∧ (st x).bs i = v) → (¬ ∃ i, i < P.m ∧ (st y).bs i = v) → ∃ k, a ≤ k ∧ k < b ∧ (st k).bs (R k) = v := fun v x y hx hx2 hy hy2 h1 h2 => by
    refine Classical.byContradiction fun hno => h2 ?_
    have hno2 : ∀ k, a ≤ k → k < b → (st k).bs (R k) ≠ v := fun k h3 h4 e => hno ⟨k, h3, h4, e⟩
    rcases Nat.le_total x y with hxy | hxy
    · obtain ⟨d, rfl⟩ := Nat.le.dest hxy
      exact hstay v hno2 x d hx hy2 h1
    · obtain ⟨d, e⟩ := Nat.le.dest hx2
      have h3 := hstay v hno2 x d hx (by omega) h1
      rw [e] at h3
      obtain ⟨d2, e2⟩ := Nat.le.dest hy
      have h4 := hstay v hno2 a d2 (Nat.le_refl _) (by omega) (hback v h3)
      rw [e2] at h4
      exact h4
  -- the greatest variable that leaves
  have hmax : ∀ d, a + d < b → ∃ k0, a ≤ k0 ∧ k0 ≤ a + d ∧ ∀ k, a ≤ k → k ≤ a + d → (st k).bs (R k) ≤ (st k0).bs (R k0) := fun d => by
    induction d with
    | zero => intro _; exact ⟨a, Nat.le_refl _, Nat.le_refl _, fun k h1 h2 => by rw [show k = a by omega]; exact Nat.le_refl _⟩
    | succ d ih =>
      intro hd
      obtain ⟨k0, h1, h2, h3⟩ := ih (by omega)
      by_cases hc : (st (a + d + 1)).bs (R (a + d + 1)) ≤ (st k0).bs (R k0)
      · refine ⟨k0, h1, by omega, fun k h4 h5 => ?_⟩
        by_cases e : k = a + d + 1
        · rw [e]; exact hc
        · exact h3 k h4 (by omega)
      · refine ⟨a + d + 1, by omega, by omega, fun k h4 h5 => ?_⟩
        by_cases e : k = a + d + 1
        · rw [e]; exact Nat.le_refl _
        · have := h3 k h4 (by omega); omega
  obtain ⟨k0, hk1, hk2, hk3⟩ := hmax (b - 1 - a) (by omega)
  have hk2 : k0 < b := by omega
  have hk3 : ∀ k, a ≤ k → k < b → (st k).bs (R k) ≤ (st k0).bs (R k0) := fun k h1 h2 => hk3 k h1 (by omega)
  obtain ⟨q, hq⟩ : ∃ q, (st k0).bs (R k0) = q := ⟨_, rfl⟩
  rw [hq] at hk3
  have hR0 := (hL k0).1
  -- variables that enter are at most this one
  have hin : ∀ k, a ≤ k → k < b → C k ≤ q := fun k h1 h2 => by
    obtain ⟨k', h3, h4, h5⟩ := hleave (C k) (k + 1) k (by omega) (by omega) h1 (by omega) ⟨R k, (hL k).1, by rw [hbs, if_pos rfl]⟩ (fun ⟨i, hi, e⟩ => hnew k i hi e)
    rw [← h5]; exact hk3 k' h3 h4
  have hCq : C k0 < q := by
    have h1 := hin k0 hk1 hk2
    have h2 := hnew k0 (R k0) hR0
    rw [hq] at h2
    omega
  -- it enters again
  have hent : ∃ j, a ≤ j ∧ j < b ∧ C j = q := by
    refine Classical.byContradiction fun hno => ?_
    have hout : ∀ x d, a ≤ x → x + d ≤ b → (¬ ∃ i, i < P.m ∧ (st x).bs i = q) → ¬ ∃ i, i < P.m ∧ (st (x + d)).bs i = q := fun x d hx => by
      induction d with
      | zero => intro _ hv; exact hv
      | succ d ih =>
        intro hd hv ⟨i, hi, e⟩
        rw [show x + (d + 1) = x + d + 1 by omega, hbs] at e
        by_cases c : i = R (x + d)
        · rw [if_pos c] at e
          exact hno ⟨x + d, by omega, by omega, e⟩
        · rw [if_neg c] at e
          exact ih (by omega) hv ⟨i, hi, e⟩
    have h1 : ¬ ∃ i, i < P.m ∧ (st (k0 + 1)).bs i = q := fun ⟨i, hi, e⟩ => by
      rw [hbs] at e
      by_cases c : i = R k0
      · rw [if_pos c] at e; omega
      · rw [if_neg c] at e
        exact c ((h.ok k0).inj hi hR0 (by rw [e, hq]))
    obtain ⟨d, e⟩ := Nat.le.dest (show k0 + 1 ≤ b by omega)
    have h2 := hout (k0 + 1) d (by omega) (by omega) h1
    rw [e] at h2
    have h3 : ¬ ∃ i, i < P.m ∧ (st a).bs i = q := fun ⟨i, hi, e⟩ => h2 ⟨i, hi, by rw [← heq i hi]; exact e⟩
    obtain ⟨d2, e2⟩ := Nat.le.dest hk1
    have h4 := hout a d2 (Nat.le_refl _) (by omega) h3
    rw [e2] at h4
    exact h4 ⟨R k0, hR0, hq⟩
  obtain ⟨j, hj1, hj2, hj3⟩ := hent
  have hEj := hE j
  rw [hj3] at hEj
  -- the costs of a direction
  have hx := cross (g := g) (h.ok k0).toTabl (h.ok j).toTabl h.obj.slack (hcN k0)
  rw [← hobj j _ (hcN k0), ← hobj k0 _ (hcN k0)] at hx
  have hx2 : sumN P.m (fun i => P.obj g (st j).bs (st j).T (st j).den ((st k0).bs i) * (st k0).T i (C k0)) = sumN P.m fun i => (st j).T o ((st k0).bs i) * (st k0).T i (C k0) := sumN_congr fun i hi => by rw [hobj j _ (hbN k0 i hi)]
  rw [hx2] at hx
  have hpos : 0 < sumN P.m fun i => (st j).T o ((st k0).bs i) * (st k0).T i (C k0) := by
    have h1 := Int.mul_nonneg (hEj.2.2 (C k0) hCq) (Int.le_of_lt (h.ok k0).pos)
    have h2 := Int.mul_pos (h.ok j).pos (show 0 < - (st k0).T o (C k0) by have := (hE k0).2.1; omega)
    rw [Int.mul_neg] at h2
    omega
  obtain ⟨i, hi, hterm⟩ := sumN_pos hpos
  have hir : i ≠ R k0 := by
    rintro rfl
    rw [hq] at hterm
    have := Int.mul_pos (show 0 < - (st j).T o q by have := hEj.2.1; omega) (hL k0).2.1
    rw [Int.neg_mul] at this
    omega
  have hvj : ¬ ∃ i', i' < P.m ∧ (st j).bs i' = (st k0).bs i := fun ⟨i', hi', e⟩ => by
    have h1 := hbas0 j i' hi'
    rw [e] at h1
    rw [h1] at hterm
    omega
  obtain ⟨k', h1, h2, h3⟩ := hleave _ k0 j hk1 (by omega) hj1 (by omega) ⟨i, hi, rfl⟩ hvj
  have hvq : (st k0).bs i < q := by
    have h4 := hk3 k' h1 h2
    rw [h3] at h4
    have h5 : (st k0).bs i ≠ q := fun e => hir ((h.ok k0).inj hi hR0 (by rw [e, hq]))
    omega
  have hTi : 0 < (st k0).T i (C k0) := by
    have h4 := hEj.2.2 _ hvq
    rcases Int.lt_or_le 0 ((st k0).T i (C k0)) with h5 | h5
    · exact h5
    · have := Int.mul_nonneg h4 (show 0 ≤ - (st k0).T i (C k0) by omega)
      rw [Int.mul_neg] at this
      omega
  have hz : (st k0).T i P.last = 0 := by
    have hpiv : ∃ k, a ≤ k ∧ k < b ∧ R k = i := by
      refine Classical.byContradiction fun hno => ?_
      have hno2 : ∀ k, a ≤ k → k < b → R k ≠ i := fun k h4 h5 e => hno ⟨k, h4, h5, e⟩
      obtain ⟨d1, e1⟩ := Nat.le.dest hk1
      obtain ⟨d2, e2⟩ := Nat.le.dest hj1
      have r1 := hrow i hi hno2 d1 (by omega)
      have r2 := hrow i hi hno2 d2 (by omega)
      rw [e1] at r1
      rw [e2] at r2
      exact hvj ⟨i, hi, by rw [r2, r1]⟩
    obtain ⟨k, h4, h5, h6⟩ := hpiv
    have h7 := hzero k h4 h5
    rw [h6] at h7
    exact (hall2 k0 hk1 (by omega) i hi).2 ((hall2 k h4 (by omega) i hi).1 h7)
  have h8 := (hL k0).2.2 i hi hTi
  rw [hzero k0 hk1 hk2, hz, hq] at h8
  omega
/-- The steps from a state come to an end. -/
theorem ends (next : St → Option St) (ho : Obj P o lim g) (hn : ∀ s s', Ok P s → next s = some s' → Step P o lim s s') {s : St} (h : Ok P s) :
    ∃ (k : Nat) (f : Nat → St), f 0 = s ∧ (∀ i, i < k → next (f i) = some (f (i + 1))) ∧ next (f k) = none ∧ ∀ i, i ≤ k → Ok P (f i) := by
  let f : Nat → St := fun k => Nat.rec s (fun _ x => (next x).getD x) k
  have hf : ∀ k, f (k + 1) = (next (f k)).getD (f k) := fun k => rfl
  by_cases hx : ∃ k, next (f k) = none
  · -- the first one
    obtain ⟨k, hk, hlt⟩ : ∃ k, next (f k) = none ∧ ∀ i, i < k → next (f i) ≠ none := by
      obtain ⟨k, hk⟩ := hx
      induction k using Nat.strongRecOn with
      | ind k ih =>
        by_cases hy : ∃ i, i < k ∧ next (f i) = none
        · obtain ⟨i, hi, hn⟩ := hy; exact ih i hi hn
        · exact ⟨k, hk, fun i hi hn => hy ⟨i, hi, hn⟩⟩
    have hst : ∀ i, i < k → next (f i) = some (f (i + 1)) := fun i hi => by
      cases e : next (f i) with
      | none => exact absurd e (hlt i hi)
      | some x => rw [hf, e]; rfl
    refine ⟨k, f, rfl, hst, hk, fun i => ?_⟩
    induction i with
    | zero => intro _; exact h
    | succ i ih => intro hi; exact (ih (by omega)).step ho.lim (hn _ _ (ih (by omega)) (hst i (by omega)))
  · exfalso
    have hst : ∀ i, next (f i) = some (f (i + 1)) := fun i => by
      cases e : next (f i) with
      | none => exact absurd ⟨i, e⟩ hx
      | some x => rw [hf, e]; rfl
    have hok : ∀ i, Ok P (f i) := fun i => by
      induction i with
      | zero => exact h
      | succ i ih => exact ih.step ho.lim (hn _ _ ih (hst i))
    exact Run.false (st := f) ⟨ho, hok, fun i => hn _ _ (hok i) (hst i)⟩
end
end Go.Proofs.Ytkepfmglljkjhaa.LA
