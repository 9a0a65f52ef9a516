/-
  Tableaux with two objectives: the first one, pivot steps, bounds.
-/
import Derived.Test.YtkepfmglljkjhaaLa4
set_option linter.unusedVariables false
set_option linter.unusedSimpArgs false
namespace Go.Proofs.Ytkepfmglljkjhaa.LA
theorem det_id {M : Nat} {a : Nat → Nat → Int} (h : ∀ i, i < M → ∀ j, j < M → a i j = if i = j then 1 else 0) : det M a = 1 := by
  induction M generalizing a with
  | zero => rfl
  | succ M ih =>
    rw [det_succ, sumN_one (k := 0) _ (by omega) fun j hj hne => by rw [h 0 (by omega) j hj, if_neg (Ne.symm hne)]; simp]
    rw [h 0 (by omega) 0 (by omega), ih fun i hi k hk => by
      show a (i + 1) (skip 0 k) = _
      have e : skip 0 k = k + 1 := rfl
      rw [e, h _ (by omega) _ (by omega)]
      by_cases e2 : i = k
      · subst e2; simp
      · rw [if_neg (by omega), if_neg e2]]
    rfl
/-- A tableau with its two objectives. -/
structure Tabl (P : LP) (bs : Nat → Nat) (T : Nat → Nat → Int) (den : Int) : Prop extends Tab P bs T den where
  goal : ∀ j, j < P.N → T P.m j = P.obj P.g0 bs T den j
  art : ∀ j, j < P.N → T (P.m + 1) j = P.obj P.g1 bs T den j
def LP.T0 (P : LP) (i j : Nat) : Int := if i < P.m then P.t0 i j else if i = P.m then P.g0 j else P.g1 j
theorem g0_slack (P : LP) (k : Nat) : P.g0 (P.n + k) = 0 := by unfold LP.g0; rw [if_neg (by omega)]
theorem g1_slack (P : LP) {k : Nat} (hk : k < P.m) : P.g1 (P.n + k) = 0 := by unfold LP.g1; rw [if_neg (by omega)]
theorem Tabl.start (P : LP) : Tabl P (fun i => P.n + i) P.T0 1 := by
  have hid : det P.m (P.cols fun i => P.n + i) = 1 := det_id fun i hi j hj => by
    unfold LP.cols
    rw [t0_slack P hj]
    by_cases e : i = j
    · rw [if_pos e, if_pos e.symm]
    · rw [if_neg e, if_neg (Ne.symm e)]
  refine { pos := by omega, bas := fun i hi => by omega, ex := ⟨1, .inl rfl, by rw [hid]; rfl, fun i hi j hj => ?_⟩, goal := fun j hj => ?_, art := fun j hj => ?_ }
  · have h := cramer (P.cols fun i => P.n + i) (P.col j) hi
    rw [hid, sumN_one (k := i) _ hi fun k hk hne => by
      unfold LP.cols
      rw [t0_slack P hk, if_neg hne]; simp] at h
    have e : P.cols (fun i => P.n + i) i i = 1 := by unfold LP.cols; rw [t0_slack P hi, if_pos rfl]
    rw [e] at h
    unfold LP.T0
    rw [if_pos hi]
    have e2 : P.t0 i j = P.col j i := rfl
    rw [e2]; omega
  · unfold LP.T0 LP.obj
    rw [if_neg (by omega), if_pos rfl, sumN_eq_zero fun i hi => by rw [g0_slack]; simp]
    omega
  · unfold LP.T0 LP.obj
    rw [if_neg (by omega), if_neg (by omega), sumN_eq_zero fun i hi => by rw [g1_slack P hi]; simp]
    omega
section
variable {P : LP} {bs : Nat → Nat} {T : Nat → Nat → Int} {den : Int}
theorem obj_neg (P : LP) (g : Nat → Int) (bs : Nat → Nat) (T : Nat → Nat → Int) (den : Int) (j : Nat) : P.obj g bs (fun i j => - T i j) (-den) j = - P.obj g bs T den j := by
  unfold LP.obj
  have : (sumN P.m fun i => g (bs i) * - T i j) = - sumN P.m fun i => g (bs i) * T i j := by
    rw [← sumN_neg]; exact sumN_congr fun i _ => by grind
  rw [this]; grind
theorem obj_piv (h : Tab P bs T den) (g : Nat → Int) {r c j i : Nat} (hr : r < P.m) (hc : c < P.N) (hj : j < P.N) (hi : P.m ≤ i) (h0 : ∀ j, j < P.N → T i j = P.obj g bs T den j) :
    pivT T den r c i j = P.obj g (pivB bs r c) (pivT T den r c) (pivD T r c) j := by
  have e1 : pivQ T den r c i j = P.obj g (pivB bs r c) (pivQ T den r c) (T r c) j := by
    unfold pivQ
    rw [if_neg (by omega), h0 j hj, h0 c hc, h.obj_exact g hr hc hj]
    exact Int.mul_tdiv_cancel_left _ (by have := h.pos; omega)
  unfold pivD
  by_cases e : T r c < 0
  · rw [if_pos e]
    have e2 : pivT T den r c = fun i j => - pivQ T den r c i j := by funext i j; unfold pivT; rw [if_pos e]
    rw [e2, obj_neg, ← e1]
  · rw [if_neg e]
    have e2 : pivT T den r c = pivQ T den r c := by funext i j; unfold pivT; rw [if_neg e]
    rw [e2, ← e1]
theorem Tabl.pivot (h : Tabl P bs T den) {r c : Nat} (hr : r < P.m) (hc : c ≤ P.n + P.m) (h0 : T r c ≠ 0) : Tabl P (pivB bs r c) (pivT T den r c) (pivD T r c) :=
  { h.toTab.pivot hr hc h0 with
    goal := fun j hj => obj_piv h.toTab P.g0 hr (by unfold LP.N; omega) hj (by omega) h.goal
    art := fun j hj => obj_piv h.toTab P.g1 hr (by unfold LP.N; omega) hj (by omega) h.art }
/-- All divisions of a pivot step are exact. -/
theorem Tabl.exact_div (h : Tabl P bs T den) {r c i j : Nat} (hr : r < P.m) (hc : c < P.N) (hi : i < P.m + 2) (hne : i ≠ r) (hj : j < P.N) :
    den * pivQ T den r c i j = T i j * T r c - T i c * T r j := by
  by_cases e : i < P.m
  · exact h.pivQ_mul hr hc e hne hj
  · have hx : ∃ g, ∀ j, j < P.N → T i j = P.obj g bs T den j := by
      rcases (by omega : i = P.m ∨ i = P.m + 1) with rfl | rfl
      · exact ⟨_, h.goal⟩
      · exact ⟨_, h.art⟩
    obtain ⟨g, h0⟩ := hx
    unfold pivQ
    rw [if_neg hne, h0 j hj, h0 c hc, h.obj_exact g hr hc hj, Int.mul_tdiv_cancel_left _ (by have := h.pos; omega)]
/-! ### Bounds -/
structure LPIn (P : LP) : Prop where
  m : P.m ≤ 6
  n : P.n ≤ 6
  A : ∀ i, i < P.m → ∀ j, j < P.n → -4 ≤ P.A i j ∧ P.A i j ≤ 4
  b : ∀ i, i < P.m → -20 ≤ P.b i ∧ P.b i ≤ 20
  c : ∀ j, j < P.n → -20 ≤ P.c j ∧ P.c j ≤ 20
theorem LPIn.t0 (hP : LPIn P) {i j : Nat} (hi : i < P.m) (hj : j ≤ P.n + P.m) : -4 ≤ P.t0 i j ∧ P.t0 i j ≤ 4 := by
  unfold LP.t0
  by_cases e : j < P.n
  · rw [if_pos e]; exact hP.A i hi j e
  · rw [if_neg e]; split
    · split <;> omega
    · rw [if_pos (by omega)]; omega
theorem LPIn.g0 (hP : LPIn P) (j : Nat) : -20 ≤ P.g0 j ∧ P.g0 j ≤ 20 := by
  unfold LP.g0; split
  · next h => have := hP.c j h; omega
  · omega
theorem LP.g1_in (P : LP) (j : Nat) : -1 ≤ P.g1 j ∧ P.g1 j ≤ 1 := by unfold LP.g1; split <;> omega
theorem Tab.le_den (h : Tab P bs T den) (hP : LPIn P) : den ≤ 1179648 := by
  obtain ⟨s, hs, h1, _⟩ := h.ex
  have := det_le6 (M := P.m) (a := P.cols bs) hP.m fun i hi j hj => hP.t0 hi (h.bas j hj)
  rcases hs with rfl | rfl <;> omega
theorem Tab.le_col (h : Tab P bs T den) (hP : LPIn P) {i j : Nat} (hi : i < P.m) (hj : j ≤ P.n + P.m) : -1179648 ≤ T i j ∧ T i j ≤ 1179648 := by
  obtain ⟨s, hs, _, h2⟩ := h.ex
  have := det_le6 (M := P.m) (a := setC (P.cols bs) i (P.col j)) hP.m fun t ht k hk => by
    by_cases e : k = i
    · subst e; rw [setC_at]; exact hP.t0 ht hj
    · rw [setC_ne _ _ _ e]; exact hP.t0 ht (h.bas k hk)
  rw [h2 i hi j (by unfold LP.N; omega)]
  rcases hs with rfl | rfl <;> omega
theorem Tab.le_slack (h : Tab P bs T den) (hP : LPIn P) {i k : Nat} (hi : i < P.m) (hk : k < P.m) : -49152 ≤ T i (P.n + k) ∧ T i (P.n + k) ≤ 49152 := by
  obtain ⟨s, hs, _, h2⟩ := h.ex
  have := det_le_unit (M := P.m) (a := setC (P.cols bs) i (P.col (P.n + k))) (q := i) (k := k) hP.m hi hk (fun t ht => by
    rw [setC_at]
    show P.t0 t (P.n + k) = _
    rw [t0_slack P hk]
    by_cases e : t = k
    · rw [if_pos e, if_pos e.symm]
    · rw [if_neg e, if_neg (Ne.symm e)]) fun t ht q hq hne => by
      rw [setC_ne _ _ _ hne]; exact hP.t0 ht (h.bas q hq)
  rw [h2 i hi _ (by unfold LP.N; omega)]
  rcases hs with rfl | rfl <;> omega
theorem sum_le6 {m : Nat} {f : Nat → Int} {B : Int} (hm : m ≤ 6) (h : ∀ i, i < m → -B ≤ f i ∧ f i ≤ B) (hB : 0 ≤ B) : -(6 * B) ≤ sumN m f ∧ sumN m f ≤ 6 * B := by
  have h1 := sumN_abs h
  have h2 : (m : Int) * B ≤ 6 * B := Int.mul_le_mul_of_nonneg_right (by omega) hB
  omega
theorem Tab.le_last (h : Tab P bs T den) (hP : LPIn P) {i : Nat} (hi : i < P.m) : -5898240 ≤ T i P.last ∧ T i P.last ≤ 5898240 := by
  rw [h.row hi (by unfold LP.last LP.N; omega)]
  have := sum_le6 (m := P.m) (f := fun k => P.t0 k P.last * T i (P.n + k)) (B := 20 * 49152) hP.m (fun k hk => by
    rw [t0_last]
    exact abs_mul (hP.b k hk) (h.le_slack hP hi hk)) (by omega)
  omega
theorem Tab.le_any (h : Tab P bs T den) (hP : LPIn P) {i j : Nat} (hi : i < P.m) (hj : j < P.N) : -5898240 ≤ T i j ∧ T i j ≤ 5898240 := by
  by_cases e : j ≤ P.n + P.m
  · have := h.le_col hP hi e; omega
  · obtain rfl : j = P.last := by unfold LP.N at hj; unfold LP.last; omega
    exact h.le_last hP hi
theorem Tab.obj_le (h : Tab P bs T den) (hP : LPIn P) {g : Nat → Int} {G : Int} (hG : 0 ≤ G) (hg : ∀ j, -G ≤ g j ∧ g j ≤ G) {j : Nat} {B D : Int} (hB : 0 ≤ B) (hj : ∀ i, i < P.m → -B ≤ T i j ∧ T i j ≤ B) (hd : g j = 0 ∨ D = den * G) (hD : 0 ≤ D) :
    -(D + 6 * (G * B)) ≤ P.obj g bs T den j ∧ P.obj g bs T den j ≤ D + 6 * (G * B) := by
  have h1 := sum_le6 (m := P.m) (f := fun i => g (bs i) * T i j) (B := G * B) hP.m (fun i hi => abs_mul (hg _) (hj i hi)) (Int.mul_nonneg hG hB)
  have h2 : -D ≤ den * g j ∧ den * g j ≤ D := by
    rcases hd with e | e
    · rw [e]; omega
    · rw [e]; exact abs_mul (by have := h.pos; omega) (hg j)
  unfold LP.obj
  omega
theorem Tabl.goal_last (h : Tabl P bs T den) (hP : LPIn P) : -707788800 ≤ T P.m P.last ∧ T P.m P.last ≤ 707788800 := by
  rw [h.goal _ (by unfold LP.last LP.N; omega)]
  have := h.obj_le hP (g := P.g0) (G := 20) (by omega) hP.g0 (j := P.last) (B := 5898240) (D := 0) (by omega) (fun i hi => h.le_last hP hi) (.inl (by unfold LP.g0 LP.last; rw [if_neg (by omega)])) (by omega)
  omega
theorem Tabl.goal_slack (h : Tabl P bs T den) (hP : LPIn P) {k : Nat} (hk : k < P.m) : -5898240 ≤ T P.m (P.n + k) ∧ T P.m (P.n + k) ≤ 5898240 := by
  rw [h.goal _ (by unfold LP.N; omega)]
  have := h.obj_le hP (g := P.g0) (G := 20) (by omega) hP.g0 (j := P.n + k) (B := 49152) (D := 0) (by omega) (fun i hi => h.le_slack hP hi hk) (.inl (g0_slack P k)) (by omega)
  omega
theorem Tabl.goal_any (h : Tabl P bs T den) (hP : LPIn P) {j : Nat} (hj : j < P.N) : -707788800 ≤ T P.m j ∧ T P.m j ≤ 707788800 := by
  by_cases e : j ≤ P.n + P.m
  · rw [h.goal _ hj]
    have hd := h.le_den hP
    have hp := h.pos
    have := h.obj_le hP (g := P.g0) (G := 20) (by omega) hP.g0 (j := j) (B := 1179648) (D := den * 20) (by omega) (fun i hi => h.le_col hP hi e) (.inr rfl) (by omega)
    omega
  · obtain rfl : j = P.last := by unfold LP.N at hj; unfold LP.last; omega
    exact h.goal_last hP
theorem Tabl.art_slack (h : Tabl P bs T den) (hP : LPIn P) {k : Nat} (hk : k < P.m) : -294912 ≤ T (P.m + 1) (P.n + k) ∧ T (P.m + 1) (P.n + k) ≤ 294912 := by
  rw [h.art _ (by unfold LP.N; omega)]
  have := h.obj_le hP (g := P.g1) (G := 1) (by omega) P.g1_in (j := P.n + k) (B := 49152) (D := 0) (by omega) (fun i hi => h.le_slack hP hi hk) (.inl (g1_slack P hk)) (by omega)
  omega
theorem Tabl.art_any (h : Tabl P bs T den) (hP : LPIn P) {j : Nat} (hj : j < P.N) : -707788800 ≤ T (P.m + 1) j ∧ T (P.m + 1) j ≤ 707788800 := by
  rw [h.art _ hj]
  have hd := h.le_den hP
  have hp := h.pos
  have := h.obj_le hP (g := P.g1) (G := 1) (by omega) P.g1_in (j := j) (B := 5898240) (D := den * 1) (by omega) (fun i hi => h.le_any hP hi hj) (.inr rfl) (by omega)
  omega
theorem Tabl.le (h : Tabl P bs T den) (hP : LPIn P) {i j : Nat} (hi : i < P.m + 2) (hj : j < P.N) : -707788800 ≤ T i j ∧ T i j ≤ 707788800 := by
  by_cases e : i < P.m
  · have := h.le_any hP e hj; omega
  · rcases (by omega : i = P.m ∨ i = P.m + 1) with rfl | rfl
    · exact h.goal_any hP hj
    · exact h.art_any hP hj
end
end Go.Proofs.Ytkepfmglljkjhaa.LA
