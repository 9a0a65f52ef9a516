/-
  Tableaux of the simplex method, plain.
-/
import Derived.Test.YtkepfmglljkjhaaLa3
set_option linter.unusedVariables false
set_option linter.unusedSimpArgs false
namespace Go.Proofs.Ytkepfmglljkjhaa.LA
/-- A linear program with m rows and n variables. -/
structure LP where
  m : Nat
  n : Nat
  A : Nat → Nat → Int
  b : Nat → Int
  c : Nat → Int
/-- The entries of the first tableau. -/
def LP.t0 (P : LP) (i j : Nat) : Int := if j < P.n then P.A i j else if j < P.n + P.m then (if j = P.n + i then 1 else 0) else if j = P.n + P.m then -1 else P.b i
def LP.N (P : LP) : Nat := P.n + P.m + 2
def LP.last (P : LP) : Nat := P.n + P.m + 1
def LP.g0 (P : LP) (j : Nat) : Int := if j < P.n then - P.c j else 0
def LP.g1 (P : LP) (j : Nat) : Int := if j = P.n + P.m then 1 else 0
def LP.cols (P : LP) (bs : Nat → Nat) : Nat → Nat → Int := fun i k => P.t0 i (bs k)
def LP.col (P : LP) (j : Nat) : Nat → Int := fun i => P.t0 i j
/-- A row of an objective. -/
def LP.obj (P : LP) (g : Nat → Int) (bs : Nat → Nat) (T : Nat → Nat → Int) (den : Int) (j : Nat) : Int := den * g j - sumN P.m fun i => g (bs i) * T i j
structure Tab (P : LP) (bs : Nat → Nat) (T : Nat → Nat → Int) (den : Int) : Prop where
  pos : 0 < den
  bas : ∀ i, i < P.m → bs i ≤ P.n + P.m
  ex : ∃ s : Int, (s = 1 ∨ s = -1) ∧ den = s * det P.m (P.cols bs) ∧ ∀ i, i < P.m → ∀ j, j < P.N → T i j = s * det P.m (setC (P.cols bs) i (P.col j))
section
variable {P : LP} {bs : Nat → Nat} {T : Nat → Nat → Int} {den : Int}
theorem cols_at (P : LP) (bs : Nat → Nat) (i : Nat) : setC (P.cols bs) i (P.col (bs i)) = P.cols bs := by
  funext a j
  unfold setC LP.cols LP.col
  split
  · next h => rw [h]
  · rfl
theorem cols_upd (P : LP) (bs : Nat → Nat) (r c : Nat) : setC (P.cols bs) r (P.col c) = P.cols (fun i => if i = r then c else bs i) := by
  funext a j
  unfold setC LP.cols LP.col
  simp only
  split <;> rfl
theorem Tab.at_basis (h : Tab P bs T den) {i k : Nat} (hi : i < P.m) (hk : k < P.m) : T i (bs k) = if k = i then den else 0 := by
  obtain ⟨s, _, h1, h2⟩ := h.ex
  have hb := h.bas k hk
  rw [h2 i hi _ (by unfold LP.N; omega)]
  by_cases e : k = i
  · subst e
    rw [if_pos rfl, cols_at, h1]
  · rw [if_neg e, det_same (a := setC (P.cols bs) i (P.col (bs k))) (q := i) (p := k) hi hk (Ne.symm e) (fun t _ => by rw [setC_at, setC_ne _ _ _ e]; rfl)]
    simp
theorem Tab.inj (h : Tab P bs T den) {i k : Nat} (hi : i < P.m) (hk : k < P.m) (e : bs i = bs k) : i = k := by
  have h1 := h.at_basis (i := k) hk hi
  have h2 := h.at_basis (i := k) hk hk
  have hp := h.pos
  rw [e, h2, if_pos rfl] at h1
  by_cases e2 : i = k
  · exact e2
  · rw [if_neg e2] at h1; omega
/-- The columns are combinations of those of the basis. -/
theorem Tab.column (h : Tab P bs T den) {t j : Nat} (ht : t < P.m) (hj : j < P.N) : den * P.t0 t j = sumN P.m fun i => T i j * P.t0 t (bs i) := by
  obtain ⟨s, _, h1, h2⟩ := h.ex
  have hc := cramer (P.cols bs) (P.col j) ht
  rw [h1]
  have e : (sumN P.m fun i => T i j * P.t0 t (bs i)) = s * sumN P.m fun i => P.cols bs t i * det P.m (setC (P.cols bs) i (P.col j)) := by
    rw [← sumN_mul]
    refine sumN_congr fun i hi => ?_
    rw [h2 i hi j hj]
    unfold LP.cols
    grind
  rw [e, hc]
  unfold LP.col
  grind
theorem t0_slack (P : LP) {i k : Nat} (hk : k < P.m) : P.t0 i (P.n + k) = if k = i then 1 else 0 := by
  unfold LP.t0
  rw [if_neg (by omega), if_pos (by omega)]
  by_cases e : k = i
  · rw [if_pos (by omega), if_pos e]
  · rw [if_neg (by omega), if_neg e]
theorem t0_art (P : LP) (i : Nat) : P.t0 i (P.n + P.m) = -1 := by
  unfold LP.t0; rw [if_neg (by omega), if_neg (by omega), if_pos rfl]
theorem t0_last (P : LP) (i : Nat) : P.t0 i P.last = P.b i := by
  unfold LP.t0 LP.last; rw [if_neg (by omega), if_neg (by omega), if_neg (by omega)]
theorem t0_var (P : LP) {i j : Nat} (h : j < P.n) : P.t0 i j = P.A i j := by unfold LP.t0; rw [if_pos h]
/-- The rows are combinations of those of the first tableau. -/
theorem Tab.row (h : Tab P bs T den) {i j : Nat} (hi : i < P.m) (hj : j < P.N) : T i j = sumN P.m fun k => P.t0 k j * T i (P.n + k) := by
  obtain ⟨s, _, h1, h2⟩ := h.ex
  rw [h2 i hi j hj]
  have e : det P.m (setC (P.cols bs) i (P.col j)) = det P.m (setC (P.cols bs) i fun t => sumN P.m fun k => P.t0 k j * P.col (P.n + k) t) := det_congr fun t ht q _ => by
    by_cases e : q = i
    · subst e
      rw [setC_at, setC_at, sumN_one (k := t) _ ht fun k hk hne => by
        show _ * P.t0 t (P.n + k) = 0
        rw [t0_slack P hk, if_neg hne]; simp]
      show _ = _ * P.t0 t (P.n + t)
      rw [t0_slack P ht, if_pos rfl]
      simp [LP.col]
    · rw [setC_ne _ _ _ e, setC_ne _ _ _ e]
  rw [e, det_sum _ hi, ← sumN_mul]
  refine sumN_congr fun k hk => ?_
  rw [h2 i hi _ (by unfold LP.N; omega)]
  grind
/-- An objective has no costs in the basis. -/
theorem Tab.obj_basis (h : Tab P bs T den) (g : Nat → Int) {k : Nat} (hk : k < P.m) : P.obj g bs T den (bs k) = 0 := by
  unfold LP.obj
  rw [sumN_one (k := k) _ hk fun i hi hne => by rw [h.at_basis hi hk, if_neg (Ne.symm hne)]; simp]
  rw [h.at_basis hk hk, if_pos rfl]
  grind
/-- The row of an objective as a combination of rows of the first tableau. -/
theorem Tab.obj_row (h : Tab P bs T den) {g : Nat → Int} (hg : ∀ k, k < P.m → g (P.n + k) = 0) {j : Nat} (hj : j < P.N) :
    P.obj g bs T den j = den * g j + sumN P.m fun k => P.t0 k j * P.obj g bs T den (P.n + k) := by
  have e1 : (sumN P.m fun i => g (bs i) * T i j) = sumN P.m fun k => P.t0 k j * sumN P.m fun i => g (bs i) * T i (P.n + k) := by
    have e2 : (sumN P.m fun i => g (bs i) * T i j) = sumN P.m fun i => sumN P.m fun k => P.t0 k j * (g (bs i) * T i (P.n + k)) := sumN_congr fun i hi => by
      rw [h.row hi hj, ← sumN_mul]
      exact sumN_congr fun k _ => by grind
    rw [e2, sumN_swap]
    exact sumN_congr fun k _ => by rw [sumN_mul]
  have e3 : (sumN P.m fun k => P.t0 k j * P.obj g bs T den (P.n + k)) = - sumN P.m fun k => P.t0 k j * sumN P.m fun i => g (bs i) * T i (P.n + k) := by
    rw [← sumN_neg]
    refine sumN_congr fun k hk => ?_
    unfold LP.obj
    rw [hg k hk]
    grind
  rw [e3, ← e1]
  unfold LP.obj
  omega
/-! ### Pivot steps -/
/-- A pivot step. -/
def pivQ (T : Nat → Nat → Int) (den : Int) (r c i j : Nat) : Int := if i = r then T r j else (T i j * T r c - T i c * T r j).tdiv den
def pivT (T : Nat → Nat → Int) (den : Int) (r c i j : Nat) : Int := if T r c < 0 then - pivQ T den r c i j else pivQ T den r c i j
def pivD (T : Nat → Nat → Int) (r c : Nat) : Int := if T r c < 0 then - T r c else T r c
def pivB (bs : Nat → Nat) (r c : Nat) : Nat → Nat := fun i => if i = r then c else bs i
theorem Tab.exact (h : Tab P bs T den) {s : Int} (hs : s = 1 ∨ s = -1) (h1 : den = s * det P.m (P.cols bs)) (h2 : ∀ i, i < P.m → ∀ j, j < P.N → T i j = s * det P.m (setC (P.cols bs) i (P.col j)))
    {r c i j : Nat} (hr : r < P.m) (hc : c < P.N) (hi : i < P.m) (hne : i ≠ r) (hj : j < P.N) :
    T i j * T r c - T i c * T r j = den * (s * det P.m (setC (P.cols (pivB bs r c)) i (P.col j))) := by
  have hp := pluecker (P.cols bs) hi hr hne (P.col c) (P.col j)
  have e : setC (P.cols bs) r (P.col c) = P.cols (pivB bs r c) := cols_upd P bs r c
  rw [e] at hp
  rw [h2 i hi j hj, h2 r hr c hc, h2 i hi c hc, h2 r hr j hj, h1, e]
  grind
theorem Tab.pivQ_eq (h : Tab P bs T den) {s : Int} (hs : s = 1 ∨ s = -1) (h1 : den = s * det P.m (P.cols bs)) (h2 : ∀ i, i < P.m → ∀ j, j < P.N → T i j = s * det P.m (setC (P.cols bs) i (P.col j)))
    {r c i j : Nat} (hr : r < P.m) (hc : c < P.N) (hi : i < P.m) (hj : j < P.N) : pivQ T den r c i j = s * det P.m (setC (P.cols (pivB bs r c)) i (P.col j)) := by
  unfold pivQ
  by_cases e : i = r
  · subst e
    rw [if_pos rfl, h2 i hi j hj]
    congr 1
    exact det_congr fun t _ q _ => by
      by_cases e : q = i
      · subst e; rw [setC_at, setC_at]
      · rw [setC_ne _ _ _ e, setC_ne _ _ _ e]; unfold LP.cols pivB; simp [e]
  · rw [if_neg e, h.exact hs h1 h2 hr hc hi e hj]
    exact Int.mul_tdiv_cancel_left _ (by have := h.pos; omega)
theorem Tab.pivot (h : Tab P bs T den) {r c : Nat} (hr : r < P.m) (hc : c ≤ P.n + P.m) (h0 : T r c ≠ 0) : Tab P (pivB bs r c) (pivT T den r c) (pivD T r c) := by
  obtain ⟨s, hs, h1, h2⟩ := h.ex
  have hcN : c < P.N := by unfold LP.N; omega
  have hd : T r c = s * det P.m (P.cols (pivB bs r c)) := by
    rw [h2 r hr c hcN, cols_upd]; rfl
  refine ⟨by unfold pivD; split <;> omega, fun i hi => ?_, ?_⟩
  · unfold pivB; split
    · exact hc
    · exact h.bas i hi
  · by_cases e : T r c < 0
    · refine ⟨-s, by omega, by unfold pivD; rw [if_pos e, hd]; grind, fun i hi j hj => ?_⟩
      unfold pivT
      rw [if_pos e, h.pivQ_eq hs h1 h2 hr hcN hi hj]
      grind
    · refine ⟨s, hs, by unfold pivD; rw [if_neg e, hd], fun i hi j hj => ?_⟩
      unfold pivT
      rw [if_neg e, h.pivQ_eq hs h1 h2 hr hcN hi hj]
/-- All divisions are exact. -/
theorem Tab.pivQ_mul (h : Tab P bs T den) {r c i j : Nat} (hr : r < P.m) (hc : c < P.N) (hi : i < P.m) (hne : i ≠ r) (hj : j < P.N) :
    den * pivQ T den r c i j = T i j * T r c - T i c * T r j := by
  obtain ⟨s, hs, h1, h2⟩ := h.ex
  rw [h.pivQ_eq hs h1 h2 hr hc hi hj, h.exact hs h1 h2 hr hc hi hne hj]
/-- The row of an objective in a pivot step. -/
theorem Tab.obj_exact (h : Tab P bs T den) (g : Nat → Int) {r c j : Nat} (hr : r < P.m) (hc : c < P.N) (hj : j < P.N) :
    P.obj g bs T den j * T r c - P.obj g bs T den c * T r j = den * P.obj g (pivB bs r c) (pivQ T den r c) (T r c) j := by
  unfold LP.obj
  have e1 : den * sumN P.m (fun i => g (pivB bs r c i) * pivQ T den r c i j) = den * (g c * T r j) + sumN P.m fun i => g (bs i) * (T i j * T r c - T i c * T r j) := by
    rw [sumN_split (k := r) _ hr, Int.mul_add, sumN_split (n := P.m) (k := r) (fun i => g (bs i) * (T i j * T r c - T i c * T r j)) hr]
    have e2 : g (bs r) * (T r j * T r c - T r c * T r j) = 0 := by grind
    rw [e2, ← sumN_mul]
    have e3 : g (pivB bs r c r) * pivQ T den r c r j = g c * T r j := by unfold pivB pivQ; simp
    rw [e3]
    have e4 : (sumN P.m fun i => den * if i = r then 0 else g (pivB bs r c i) * pivQ T den r c i j) = sumN P.m fun i => if i = r then 0 else g (bs i) * (T i j * T r c - T i c * T r j) := sumN_congr fun i hi => by
      by_cases e : i = r
      · simp [e]
      · rw [if_neg e, if_neg e, ← h.pivQ_mul hr hc hi e hj]
        unfold pivB
        rw [if_neg e]
        grind
    rw [e4]; omega
  have e5 : (sumN P.m fun i => g (bs i) * (T i j * T r c - T i c * T r j)) = T r c * (sumN P.m fun i => g (bs i) * T i j) - T r j * sumN P.m fun i => g (bs i) * T i c := by
    rw [← sumN_mul, ← sumN_mul, Int.sub_eq_add_neg, ← sumN_neg, ← sumN_add]
    exact sumN_congr fun i _ => by grind
  have e6 := e1
  rw [e5] at e6
  grind
end
end Go.Proofs.Ytkepfmglljkjhaa.LA
