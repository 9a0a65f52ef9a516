/-
  What the last tableau shows.
  Duality of linear programs.
  The elimination of a square system, plain.
  The last tableau of every program, plain.
  Corners, plain.
  The value of a program by its corners, plain.
-/
import Derived.Test.YtkepfmglljkjhaaS1
set_option linter.unusedVariables false
set_option linter.unusedSimpArgs false
namespace Go.Proofs.Ytkepfmglljkjhaa.LA
section
variable {P : LP} {o lim : Nat} {g : Nat → Int}
theorem Enters.uniq {s : St} {c c' : Nat} (h : Enters o lim s c) (h' : Enters o lim s c') : c = c' := by
  rcases Nat.lt_trichotomy c c' with h1 | h1 | h1
  · have := h'.2.2 c h1; have := h.2.1; omega
  · exact h1
  · have := h.2.2 c' h1; have := h'.2.1; omega
theorem Leaves.uniq {s : St} (hs : Ok P s) {c r r' : Nat} (h : Leaves P s c r) (h' : Leaves P s c r') : r = r' := by
  have h1 := h.2.2 r' h'.1 h'.2.1
  have h2 := h'.2.2 r h.1 h.2.1
  have e : s.bs r = s.bs r' := by omega
  exact hs.inj h.1 h'.1 e
theorem Step.uniq {s s' s2 : St} (hs : Ok P s) (h : Step P o lim s s') (h' : Step P o lim s s2) : s' = s2 := by
  obtain ⟨c, r, a1, a2, rfl⟩ := h
  obtain ⟨c', r', b1, b2, rfl⟩ := h'
  obtain rfl := a1.uniq b1
  obtain rfl := a2.uniq hs b2
  rfl
/-- The steps from a state, and how many there are. -/
theorem steps (ho : Obj P o lim g) {s : St} (h : Ok P s) : ∃ (k : Nat) (f : Nat → St), f 0 = s ∧ (∀ i, i ≤ k → Ok P (f i)) ∧ (∀ i, i < k → Step P o lim (f i) (f (i + 1))) ∧ ∀ i, i ≤ k → ∀ s', Step P o lim (f i) s' → i < k ∧ f (i + 1) = s' := by
  let next : St → Option St := fun s => @dite _ (∃ s', Step P o lim s s') (Classical.propDecidable _) (fun h => some h.choose) (fun _ => none)
  have hn : ∀ s s', next s = some s' → Step P o lim s s' := fun s s' e => by
    by_cases hx : ∃ s', Step P o lim s s'
    · have e2 : next s = some hx.choose := dif_pos hx
      rw [e2] at e
      injection e with e
      rw [← e]; exact hx.choose_spec
    · have e2 : next s = none := dif_neg hx
      rw [e2] at e; cases e
  obtain ⟨k, f, h0, h1, h2, h3⟩ := ends next ho (fun s s' _ e => hn s s' e) h
  refine ⟨k, f, h0, h3, fun i hi => hn _ _ (h1 i hi), fun i hi s' hs => ?_⟩
  have hik : i < k := by
    rcases Nat.lt_or_ge i k with h4 | h4
    · exact h4
    · obtain rfl : i = k := by omega
      have hx : ∃ s', Step P o lim (f i) s' := ⟨s', hs⟩
      have e2 : next (f i) = some hx.choose := dif_pos hx
      rw [e2] at h2; cases h2
  exact ⟨hik, (hn _ _ (h1 i hik)).uniq (h3 i hi) hs⟩
end
/-! ### The first phase -/
theorem Ok.plain {P : LP} (h : ∀ i, i < P.m → 0 ≤ P.b i) : Ok P ⟨fun i => P.n + i, P.T0, 1⟩ :=
  { Tabl.start P with rhs := fun i hi => by show 0 ≤ P.T0 i P.last; unfold LP.T0; rw [if_pos hi, t0_last]; exact h i hi }
theorem Ok.first {P : LP} {low : Nat} (hl : low < P.m) (hneg : P.b low < 0) (hmin : ∀ i, i < P.m → P.b low ≤ P.b i) :
    Ok P (St.piv ⟨fun i => P.n + i, P.T0, 1⟩ low (P.n + P.m)) := by
  have ha : ∀ i, i < P.m → P.T0 i (P.n + P.m) = -1 := fun i hi => by unfold LP.T0; rw [if_pos hi, t0_art]
  have hb : ∀ i, i < P.m → P.T0 i P.last = P.b i := fun i hi => by unfold LP.T0; rw [if_pos hi, t0_last]
  refine { (Tabl.start P).pivot hl (Nat.le_refl _) (by rw [ha low hl]; omega) with rhs := fun i hi => ?_ }
  show 0 ≤ pivT P.T0 1 low (P.n + P.m) i P.last
  unfold pivT
  rw [ha low hl, if_pos (by omega)]
  unfold pivQ
  by_cases e : i = low
  · subst e; rw [if_pos rfl, hb i hi]; omega
  · rw [if_neg e, ha low hl, ha i hi, hb i hi, hb low hl, Int.tdiv_one]
    have := hmin i hi
    omega
section
variable {P : LP} {s : St}
/-- The first phase is not unbounded. -/
theorem art_bounded (h : Ok P s) {c : Nat} (hc : c < P.N) (hle : ∀ i, i < P.m → s.T i c ≤ 0) : 0 ≤ s.T (P.m + 1) c := by
  rw [h.art c hc]
  unfold LP.obj
  have h1 : 0 ≤ s.den * P.g1 c := Int.mul_nonneg (Int.le_of_lt h.pos) (by unfold LP.g1; split <;> omega)
  have h2 : (sumN P.m fun i => P.g1 (s.bs i) * s.T i c) ≤ sumN P.m fun _ => 0 := sumN_le fun i hi => by
    have h3 := hle i hi
    unfold LP.g1
    split <;> omega
  rw [sumN_zero] at h2
  omega
/-- The bounds of rows of the artificial variable. -/
theorem art_zero (h : Ok P s) (hl : 0 ≤ s.T (P.m + 1) P.last) {i : Nat} (hi : i < P.m) (hb : s.bs i = P.n + P.m) : s.T i P.last = 0 := by
  rw [h.art _ (last_lt P)] at hl
  unfold LP.obj at hl
  have e : P.g1 P.last = 0 := by unfold LP.g1 LP.last; rw [if_neg (by omega)]
  rw [e, sumN_split (k := i) _ hi, hb] at hl
  have e2 : P.g1 (P.n + P.m) = 1 := by unfold LP.g1; rw [if_pos rfl]
  rw [e2] at hl
  have h1 := h.rhs i hi
  have h2 : 0 ≤ sumN P.m fun k => if k = i then 0 else P.g1 (s.bs k) * s.T k P.last := sumN_nonneg fun k hk => by
    split
    · omega
    · refine Int.mul_nonneg ?_ (h.rhs k hk)
      unfold LP.g1; split <;> omega
  omega
/-- A row of the artificial variable has another entry that is not 0. -/
theorem art_row (h : Ok P s) {r : Nat} (hr : r < P.m) (hb : s.bs r = P.n + P.m) : ∃ c, c < P.n + P.m ∧ s.T r c ≠ 0 := by
  refine Classical.byContradiction fun hno => ?_
  have h0 : ∀ k, k < P.m → s.T r (P.n + k) = 0 := fun k hk => Classical.byContradiction fun h1 => hno ⟨P.n + k, by omega, h1⟩
  have h1 := h.row hr (show P.n + P.m < P.N by unfold LP.N; omega)
  rw [sumN_eq_zero fun k hk => by rw [h0 k hk]; simp] at h1
  have h2 := h.at_basis hr hr
  rw [hb, if_pos rfl, h1] at h2
  have := h.pos
  omega
/-- The artificial variable leaves. -/
theorem Ok.drive (h : Ok P s) {r c : Nat} (hr : r < P.m) (hz : s.T r P.last = 0) (hc : c < P.n + P.m) (hne : s.T r c ≠ 0) : Ok P (s.piv r c) := by
  refine { h.toTabl.pivot hr (by omega) hne with rhs := fun i hi => ?_ }
  show 0 ≤ pivT s.T s.den r c i P.last
  have hcN : c < P.N := by unfold LP.N; omega
  unfold pivT
  by_cases e : i = r
  · subst e
    unfold pivQ
    rw [if_pos rfl, hz]
    split <;> omega
  · have h1 := h.toTabl.exact_div hr hcN (by omega : i < P.m + 2) e (last_lt P)
    rw [hz, Int.mul_zero, Int.sub_zero] at h1
    have h2 := h.rhs i hi
    have hp := h.pos
    split
    · next hn =>
      have h3 := Int.mul_nonneg h2 (show 0 ≤ - s.T r c by omega)
      rw [Int.mul_neg, ← h1, ← Int.mul_neg] at h3
      rcases Int.lt_or_le (- pivQ s.T s.den r c i P.last) 0 with h4 | h4
      · have := Int.mul_neg_of_pos_of_neg hp h4; omega
      · exact h4
    · next hn =>
      have h3 := Int.mul_nonneg h2 (show 0 ≤ s.T r c by omega)
      rw [← h1] at h3
      rcases Int.lt_or_le (pivQ s.T s.den r c i P.last) 0 with h4 | h4
      · have := Int.mul_neg_of_pos_of_neg hp h4; omega
      · exact h4
/-- No artificial variable in the basis. -/
def NoArt (P : LP) (s : St) : Prop := ∀ i, i < P.m → s.bs i < P.n + P.m
theorem NoArt.step {lim o : Nat} {s' : St} (h : NoArt P s) (hl : lim ≤ P.n + P.m) (hs : Step P o lim s s') : NoArt P s' := by
  obtain ⟨c, r, he, _, rfl⟩ := hs
  intro i hi
  show pivB s.bs r c i < _
  unfold pivB
  split
  · have := he.1; omega
  · exact h i hi
/-! ### The results -/
/-- The values of the variables in a column. -/
def ptV (P : LP) (s : St) (col : Nat) (j : Nat) : Int := sumN P.m fun i => if s.bs i = j then s.T i col else 0
theorem pt_at (h : Tabl P s.bs s.T s.den) (col : Nat) {i : Nat} (hi : i < P.m) : ptV P s col (s.bs i) = s.T i col := by
  unfold ptV
  rw [sumN_one (k := i) _ hi fun k hk hne => if_neg fun e => hne (h.inj hk hi e), if_pos rfl]
theorem pt_out (col : Nat) {j : Nat} (h : ∀ i, i < P.m → s.bs i ≠ j) : ptV P s col j = 0 := sumN_eq_zero fun i hi => if_neg (h i hi)
/-- A sum over the basis as a sum over the variables. -/
theorem sum_basis (P : LP) (s : St) (col : Nat) (f : Nat → Int) : sumN P.n (fun j => f j * ptV P s col j) = sumN P.m fun i => if s.bs i < P.n then f (s.bs i) * s.T i col else 0 := by
  have e1 : sumN P.n (fun j => f j * ptV P s col j) = sumN P.n fun j => sumN P.m fun i => if s.bs i = j then f j * s.T i col else 0 := sumN_congr fun j _ => by
    unfold ptV
    rw [← sumN_mul]
    exact sumN_congr fun i _ => by split <;> simp
  rw [e1, sumN_swap]
  refine sumN_congr fun i hi => ?_
  by_cases h : s.bs i < P.n
  · rw [if_pos h, sumN_one (k := s.bs i) _ h fun j _ hne => if_neg (Ne.symm hne), if_pos rfl]
  · rw [if_neg h]; exact sumN_eq_zero fun j hj => if_neg (by omega)
/-- The rows of a column. -/
theorem column_rows (h : Tabl P s.bs s.T s.den) (hno : NoArt P s) {col k : Nat} (hc : col < P.N) (hk : k < P.m) :
    s.den * P.t0 k col = sumN P.n (fun j => P.A k j * ptV P s col j) + ptV P s col (P.n + k) := by
  rw [h.column hk hc, sum_basis]
  unfold ptV
  rw [← sumN_add]
  refine sumN_congr fun i hi => ?_
  have hb := hno i hi
  by_cases h1 : s.bs i < P.n
  · rw [if_pos h1, t0_var P h1, if_neg (by omega)]; grind
  · obtain ⟨q, hq⟩ : ∃ q, s.bs i = P.n + q := ⟨s.bs i - P.n, by omega⟩
    rw [if_neg h1, hq, t0_slack P (by omega)]
    by_cases e : q = k
    · rw [if_pos e, if_pos (by omega)]; simp
    · rw [if_neg e, if_neg (by omega)]; simp
theorem goal_col (h : Tabl P s.bs s.T s.den) {col : Nat} (hc : col < P.N) : s.T P.m col = s.den * P.g0 col + sumN P.n fun j => P.c j * ptV P s col j := by
  rw [h.goal col hc, sum_basis]
  unfold LP.obj
  have e : (sumN P.m fun i => if s.bs i < P.n then P.c (s.bs i) * s.T i col else 0) = - sumN P.m fun i => P.g0 (s.bs i) * s.T i col := by
    rw [← sumN_neg]
    refine sumN_congr fun i _ => ?_
    unfold LP.g0
    split
    · grind
    · simp
  rw [e]; omega
/-- The point of a tableau. -/
theorem point_ok (h : Ok P s) (hno : NoArt P s) : (∀ j, 0 ≤ ptV P s P.last j) ∧ ∀ k, k < P.m → sumN P.n (fun j => P.A k j * ptV P s P.last j) ≤ P.b k * s.den := by
  have hn : ∀ j, 0 ≤ ptV P s P.last j := fun j => sumN_nonneg fun i hi => by
    split
    · exact h.rhs i hi
    · omega
  refine ⟨hn, fun k hk => ?_⟩
  have h1 := column_rows h.toTabl hno (last_lt P) hk
  rw [t0_last] at h1
  have h2 := hn (P.n + k)
  have e : P.b k * s.den = s.den * P.b k := Int.mul_comm _ _
  omega
/-- The best value, and what proves it. -/
theorem optimal_ok (h : Ok P s) (hno : NoArt P s) (hopt : ∀ j, j < P.n + P.m → 0 ≤ s.T P.m j) :
    (∀ k, k < P.m → 0 ≤ s.T P.m (P.n + k)) ∧ (∀ j, j < P.n → P.c j * s.den ≤ sumN P.m fun k => P.A k j * s.T P.m (P.n + k)) ∧
    sumN P.n (fun j => P.c j * ptV P s P.last j) = s.T P.m P.last ∧ sumN P.m (fun k => P.b k * s.T P.m (P.n + k)) = s.T P.m P.last := by
  have hrow : ∀ j, j < P.N → s.T P.m j = s.den * P.g0 j + sumN P.m fun k => P.t0 k j * s.T P.m (P.n + k) := fun j hj => by
    have h1 := h.obj_row (g := P.g0) (fun k _ => g0_slack P k) hj
    rw [← h.goal j hj] at h1
    rw [h1]
    congr 1
    exact sumN_congr fun k hk => by rw [h.goal _ (by unfold LP.N; omega)]
  have hgl : P.g0 P.last = 0 := by unfold LP.g0 LP.last; rw [if_neg (by omega)]
  refine ⟨fun k hk => hopt _ (by omega), fun j hj => ?_, ?_, ?_⟩
  · have h1 := hopt j (by omega)
    have h2 := hrow j (by unfold LP.N; omega)
    have h3 : P.g0 j = - P.c j := by unfold LP.g0; rw [if_pos hj]
    have h4 : (sumN P.m fun k => P.t0 k j * s.T P.m (P.n + k)) = sumN P.m fun k => P.A k j * s.T P.m (P.n + k) := sumN_congr fun k _ => by rw [t0_var P hj]
    rw [h3, h4] at h2
    have e : s.den * - P.c j = - (P.c j * s.den) := by grind
    omega
  · have h1 := goal_col h.toTabl (last_lt P)
    rw [hgl] at h1
    omega
  · have h1 := hrow P.last (last_lt P)
    rw [hgl] at h1
    have h4 : (sumN P.m fun k => P.t0 k P.last * s.T P.m (P.n + k)) = sumN P.m fun k => P.b k * s.T P.m (P.n + k) := sumN_congr fun k _ => by rw [t0_last]
    omega
/-- The direction of a column in which the value is not bounded. -/
def rayV (P : LP) (s : St) (c j : Nat) : Int := if j = c then s.den else - ptV P s c j
theorem ray_ok (h : Ok P s) (hno : NoArt P s) {c : Nat} (hc : c < P.n + P.m) (hneg : s.T P.m c < 0) (hle : ∀ i, i < P.m → s.T i c ≤ 0) :
    (∀ j, 0 ≤ rayV P s c j) ∧ (∀ k, k < P.m → sumN P.n (fun j => P.A k j * rayV P s c j) ≤ 0) ∧ 0 < sumN P.n fun j => P.c j * rayV P s c j := by
  have hcN : c < P.N := by unfold LP.N; omega
  have hp := h.pos
  have hpt : ∀ j, ptV P s c j ≤ 0 := fun j => by
    have : ptV P s c j ≤ sumN P.m fun _ => 0 := sumN_le fun i hi => by
      split
      · exact hle i hi
      · omega
    rw [sumN_zero] at this; exact this
  have hout : ∀ i, i < P.m → s.bs i ≠ c := fun i hi e => by
    have h1 := h.obj_basis P.g0 hi
    rw [← h.goal _ (by have := h.bas i hi; unfold LP.N; omega), e] at h1
    omega
  have hsum : ∀ f : Nat → Int, sumN P.n (fun j => f j * rayV P s c j) = (if c < P.n then f c * s.den else 0) - sumN P.n fun j => f j * ptV P s c j := fun f => by
    by_cases hcn : c < P.n
    · rw [if_pos hcn, sumN_split (k := c) (fun j => f j * rayV P s c j) hcn, sumN_split (k := c) (fun j => f j * ptV P s c j) hcn]
      have e1 : rayV P s c c = s.den := by unfold rayV; rw [if_pos rfl]
      have e2 : ptV P s c c = 0 := pt_out c hout
      have e3 : (sumN P.n fun j => if j = c then 0 else f j * rayV P s c j) = - sumN P.n fun j => if j = c then 0 else f j * ptV P s c j := by
        rw [← sumN_neg]
        refine sumN_congr fun j _ => ?_
        by_cases e : j = c
        · simp [e]
        · rw [if_neg e, if_neg e]; unfold rayV; rw [if_neg e]; grind
      rw [e1, e2, e3]; grind
    · rw [if_neg hcn]
      have e3 : (sumN P.n fun j => f j * rayV P s c j) = - sumN P.n fun j => f j * ptV P s c j := by
        rw [← sumN_neg]
        refine sumN_congr fun j hj => ?_
        unfold rayV; rw [if_neg (by omega)]; grind
      rw [e3]; omega
  refine ⟨fun j => ?_, fun k hk => ?_, ?_⟩
  · unfold rayV
    have := hpt j
    split <;> omega
  · rw [hsum]
    have h1 := column_rows h.toTabl hno hcN hk
    have h2 := hpt (P.n + k)
    by_cases hcn : c < P.n
    · rw [if_pos hcn]
      rw [t0_var P hcn] at h1
      have e : P.A k c * s.den = s.den * P.A k c := Int.mul_comm _ _
      omega
    · rw [if_neg hcn]
      obtain ⟨q, rfl⟩ : ∃ q, c = P.n + q := ⟨c - P.n, by omega⟩
      rw [t0_slack P (by omega)] at h1
      have : 0 ≤ s.den * (if q = k then 1 else 0 : Int) := Int.mul_nonneg (Int.le_of_lt hp) (by split <;> omega)
      omega
  · rw [hsum]
    have h1 := goal_col h.toTabl hcN
    by_cases hcn : c < P.n
    · rw [if_pos hcn]
      have e1 : P.g0 c = - P.c c := by unfold LP.g0; rw [if_pos hcn]
      rw [e1] at h1
      have e : s.den * - P.c c = - (P.c c * s.den) := by grind
      omega
    · rw [if_neg hcn]
      have e1 : P.g0 c = 0 := by unfold LP.g0; rw [if_neg hcn]
      rw [e1] at h1
      omega
/-- What shows that there is no point. -/
theorem refuted_ok (h : Ok P s) (hopt : ∀ j, j < P.n + P.m + 1 → 0 ≤ s.T (P.m + 1) j) (hneg : s.T (P.m + 1) P.last < 0) :
    (∀ k, k < P.m → 0 ≤ s.T (P.m + 1) (P.n + k)) ∧ (∀ j, j < P.n → 0 ≤ sumN P.m fun k => P.A k j * s.T (P.m + 1) (P.n + k)) ∧ sumN P.m (fun k => P.b k * s.T (P.m + 1) (P.n + k)) < 0 := by
  have hrow : ∀ j, j < P.N → s.T (P.m + 1) j = s.den * P.g1 j + sumN P.m fun k => P.t0 k j * s.T (P.m + 1) (P.n + k) := fun j hj => by
    have h1 := h.obj_row (g := P.g1) (fun k hk => g1_slack P hk) hj
    rw [← h.art j hj] at h1
    rw [h1]
    congr 1
    exact sumN_congr fun k hk => by rw [h.art _ (by unfold LP.N; omega)]
  refine ⟨fun k hk => hopt _ (by omega), fun j hj => ?_, ?_⟩
  · have h1 := hopt j (by omega)
    have h2 := hrow j (by unfold LP.N; omega)
    have h3 : P.g1 j = 0 := by unfold LP.g1; rw [if_neg (by omega)]
    have h4 : (sumN P.m fun k => P.t0 k j * s.T (P.m + 1) (P.n + k)) = sumN P.m fun k => P.A k j * s.T (P.m + 1) (P.n + k) := sumN_congr fun k _ => by rw [t0_var P hj]
    rw [h3, h4] at h2
    omega
  · have h1 := hrow P.last (last_lt P)
    have h3 : P.g1 P.last = 0 := by unfold LP.g1 LP.last; rw [if_neg (by omega)]
    have h4 : (sumN P.m fun k => P.t0 k P.last * s.T (P.m + 1) (P.n + k)) = sumN P.m fun k => P.b k * s.T (P.m + 1) (P.n + k) := sumN_congr fun k _ => by rw [t0_last]
    rw [h3, h4] at h1
    omega
end
end Go.Proofs.Ytkepfmglljkjhaa.LA

set_option linter.unusedVariables false
set_option linter.unusedSimpArgs false
namespace Go.Proofs.Ytkepfmglljkjhaa.LA
/-! ### Points, dual solutions, directions -/
def IsPt (P : LP) (x : Nat → Int) (d : Int) : Prop := (∀ k, k < P.m → sumN P.n (fun j => P.A k j * x j) ≤ P.b k * d) ∧ ∀ j, j < P.n → 0 ≤ x j
def IsDu (P : LP) (y : Nat → Int) (e : Int) : Prop := (∀ j, j < P.n → P.c j * e ≤ sumN P.m fun k => P.A k j * y k) ∧ ∀ k, k < P.m → 0 ≤ y k
def IsRef (P : LP) (y : Nat → Int) : Prop := (∀ j, j < P.n → 0 ≤ sumN P.m fun k => P.A k j * y k) ∧ (∀ k, k < P.m → 0 ≤ y k) ∧ sumN P.m (fun k => P.b k * y k) < 0
def IsRay (P : LP) (d : Nat → Int) : Prop := (∀ k, k < P.m → sumN P.n (fun j => P.A k j * d j) ≤ 0) ∧ (∀ j, j < P.n → 0 ≤ d j) ∧ 0 < sumN P.n fun j => P.c j * d j
def valP (P : LP) (x : Nat → Int) : Int := sumN P.n fun j => P.c j * x j
def valD (P : LP) (y : Nat → Int) : Int := sumN P.m fun k => P.b k * y k
section
variable {P : LP}
theorem swap_sum (P : LP) (x y : Nat → Int) : sumN P.n (fun j => x j * sumN P.m fun k => P.A k j * y k) = sumN P.m fun k => y k * sumN P.n fun j => P.A k j * x j := by
  have e : sumN P.n (fun j => x j * sumN P.m fun k => P.A k j * y k) = sumN P.n fun j => sumN P.m fun k => x j * (P.A k j * y k) := sumN_congr fun j _ => by rw [sumN_mul]
  rw [e, sumN_swap]
  refine sumN_congr fun k _ => ?_
  rw [← sumN_mul]
  exact sumN_congr fun j _ => by grind
theorem weak {x y : Nat → Int} {d e : Int} (hx : IsPt P x d) (hy : IsDu P y e) : valP P x * e ≤ valD P y * d := by
  have h1 : valP P x * e = sumN P.n fun j => x j * (P.c j * e) := by
    unfold valP; rw [← sumN_mul_right]; exact sumN_congr fun j _ => by grind
  have h2 : (sumN P.n fun j => x j * (P.c j * e)) ≤ sumN P.n fun j => x j * sumN P.m fun k => P.A k j * y k := sumN_le fun j hj => Int.mul_le_mul_of_nonneg_left (hy.1 j hj) (hx.2 j hj)
  have h3 : (sumN P.m fun k => y k * sumN P.n fun j => P.A k j * x j) ≤ sumN P.m fun k => y k * (P.b k * d) := sumN_le fun k hk => Int.mul_le_mul_of_nonneg_left (hx.1 k hk) (hy.2 k hk)
  have h4 : valD P y * d = sumN P.m fun k => y k * (P.b k * d) := by
    unfold valD; rw [← sumN_mul_right]; exact sumN_congr fun j _ => by grind
  rw [swap_sum] at h2
  omega
theorem no_point {x y : Nat → Int} {d : Int} (hd : 0 < d) (hx : IsPt P x d) (hy : IsRef P y) : False := by
  have h2 : 0 ≤ sumN P.n fun j => x j * sumN P.m fun k => P.A k j * y k := sumN_nonneg fun j hj => Int.mul_nonneg (hx.2 j hj) (hy.1 j hj)
  have h3 : (sumN P.m fun k => y k * sumN P.n fun j => P.A k j * x j) ≤ sumN P.m fun k => y k * (P.b k * d) := sumN_le fun k hk => Int.mul_le_mul_of_nonneg_left (hx.1 k hk) (hy.2.1 k hk)
  have h4 : (sumN P.m fun k => y k * (P.b k * d)) = (sumN P.m fun k => P.b k * y k) * d := by
    rw [← sumN_mul_right]; exact sumN_congr fun j _ => by grind
  rw [swap_sum] at h2
  have h5 := Int.mul_neg_of_neg_of_pos hy.2.2 hd
  omega
theorem no_ray {r y : Nat → Int} {e : Int} (he : 0 < e) (hr : IsRay P r) (hy : IsDu P y e) : False := by
  have h1 : (sumN P.n fun j => P.c j * r j) * e = sumN P.n fun j => r j * (P.c j * e) := by
    rw [← sumN_mul_right]; exact sumN_congr fun j _ => by grind
  have h2 : (sumN P.n fun j => r j * (P.c j * e)) ≤ sumN P.n fun j => r j * sumN P.m fun k => P.A k j * y k := sumN_le fun j hj => Int.mul_le_mul_of_nonneg_left (hy.1 j hj) (hr.2.1 j hj)
  have h3 : (sumN P.m fun k => y k * sumN P.n fun j => P.A k j * r j) ≤ sumN P.m fun _ => 0 := sumN_le fun k hk => by
    have := Int.mul_nonneg (hy.2 k hk) (show 0 ≤ - sumN P.n fun j => P.A k j * r j by have := hr.1 k hk; omega)
    rw [Int.mul_neg] at this
    omega
  rw [sumN_zero] at h3
  rw [swap_sum] at h2
  have h5 := Int.mul_pos hr.2.2 he
  omega
end
/-- The outcome of a program: 1: the best value num/den; 2: no point; 3: not bounded. -/
def Outcome (P : LP) (status num den : Int) : Prop :=
  (status = 1 ∧ 0 < den ∧ (∃ x d, 0 < d ∧ IsPt P x d ∧ valP P x * den = num * d) ∧ ∃ y e, 0 < e ∧ IsDu P y e ∧ valD P y * den = num * e) ∨
  (status = 2 ∧ num = 0 ∧ den = 0 ∧ ∃ y, IsRef P y) ∨
  (status = 3 ∧ num = 0 ∧ den = 0 ∧ (∃ x d, 0 < d ∧ IsPt P x d) ∧ ∃ r, IsRay P r)
/-- The dual program. -/
def LP.dual (P : LP) : LP := ⟨P.n, P.m, fun j k => - P.A k j, fun j => - P.c j, fun k => - P.b k⟩
section
variable {P Q : LP} {s s' num num' den den' : Int}
/-- Of two best values that bound each other. -/
theorem le_of_points {a d b e num den num' den' : Int} (hd : 0 < d) (he : 0 < e) (hden : 0 < den) (hden' : 0 < den') (h1 : a * den = num * d) (h2 : b * den' = num' * e) (h : a * e ≤ b * d) : num * den' ≤ num' * den := by
  have h3 := Int.mul_le_mul_of_nonneg_right h (Int.le_of_lt (Int.mul_pos hden hden'))
  have e1 : a * e * (den * den') = (d * e) * (num * den') := by
    have : a * e * (den * den') = (a * den) * (e * den') := by grind
    rw [this, h1]; grind
  have e2 : b * d * (den * den') = (d * e) * (num' * den) := by
    have : b * d * (den * den') = (b * den') * (d * den) := by grind
    rw [this, h2]; grind
  rw [e1, e2] at h3
  exact Int.le_of_mul_le_mul_left h3 (Int.mul_pos hd he)
/-- A program whose points are all points of another one, with the same values. -/
structure Part (Q P : LP) : Prop where
  n : Q.n = P.n
  c : ∀ j, j < P.n → Q.c j = P.c j
  pt : ∀ x d, IsPt Q x d → IsPt P x d
  ray : ∀ r, IsRay Q r → IsRay P r
theorem Part.val (h : Part Q P) (x : Nat → Int) : valP Q x = valP P x := by
  unfold valP; rw [h.n]; exact sumN_congr fun j hj => by rw [h.c j hj]
theorem part_outcome (hp : Part Q P) (h : Outcome P s num den) (h' : Outcome Q s' num' den') :
    (s = 1 → s' = 2 ∨ (s' = 1 ∧ 0 < den ∧ 0 < den' ∧ num' * den ≤ num * den')) ∧ (s = 2 → s' = 2) ∧ s' ≠ 0 := by
  refine ⟨fun e1 => ?_, fun e1 => ?_, ?_⟩
  · rcases h with ⟨_, hd, _, y, e, he0, hy, hyv⟩ | ⟨e2, _⟩ | ⟨e2, _⟩
    · rcases h' with ⟨e3, hd', ⟨x', d', hd0', hx', hxv'⟩, _⟩ | ⟨e3, _⟩ | ⟨e3, _, _, _, r, hr⟩
      · refine .inr ⟨e3, hd, hd', ?_⟩
        have w1 := weak (hp.pt _ _ hx') hy
        rw [hp.val] at hxv'
        exact le_of_points hd0' he0 hd' hd hxv' hyv w1
      · exact .inl e3
      · exact absurd hr fun hr => no_ray he0 (hp.ray r hr) hy
    · omega
    · omega
  · rcases h with ⟨e2, _⟩ | ⟨_, _, _, z, hz⟩ | ⟨e2, _⟩
    · omega
    · rcases h' with ⟨e3, hd', ⟨x', d', hd0', hx', hxv'⟩, _⟩ | ⟨e3, _⟩ | ⟨e3, _, _, ⟨x', d', hd0', hx'⟩, _⟩
      · exact absurd hz fun hz => no_point hd0' (hp.pt _ _ hx') hz
      · exact e3
      · exact absurd hz fun hz => no_point hd0' (hp.pt _ _ hx') hz
    · omega
  · rcases h' with ⟨e3, _⟩ | ⟨e3, _⟩ | ⟨e3, _⟩ <;> omega
/-- Two programs with the same points. -/
theorem same_outcome (hp : Part Q P) (hq : Part P Q) (h : Outcome P s num den) (h' : Outcome Q s' num' den') : s = s' ∧ num' * den = num * den' := by
  obtain ⟨a1, a2, a3⟩ := part_outcome hp h h'
  obtain ⟨b1, b2, b3⟩ := part_outcome hq h' h
  have hs : s = 1 ∨ s = 2 ∨ s = 3 := by rcases h with ⟨e, _⟩ | ⟨e, _⟩ | ⟨e, _⟩ <;> omega
  have hs' : s' = 1 ∨ s' = 2 ∨ s' = 3 := by rcases h' with ⟨e, _⟩ | ⟨e, _⟩ | ⟨e, _⟩ <;> omega
  have key : s = s' := by
    rcases hs with e | e | e <;> rcases hs' with e' | e' | e'
    · omega
    · have := b2 e'; omega
    · rcases a1 e with h1 | ⟨h1, _⟩ <;> omega
    · have := a2 e; omega
    · omega
    · have := a2 e; omega
    · rcases b1 e' with h1 | ⟨h1, _⟩ <;> omega
    · have := b2 e'; omega
    · omega
  refine ⟨key, ?_⟩
  subst key
  rcases hs with e | e | e
  · rcases a1 e with h1 | ⟨_, _, _, h1⟩
    · omega
    · rcases b1 e with h2 | ⟨_, _, _, h2⟩
      · omega
      · omega
  · rcases h with ⟨e1, _⟩ | ⟨_, rfl, rfl, _⟩ | ⟨e1, _⟩
    · omega
    · rcases h' with ⟨e1, _⟩ | ⟨_, rfl, rfl, _⟩ | ⟨e1, _⟩
      · omega
      · rfl
      · omega
    · omega
  · rcases h with ⟨e1, _⟩ | ⟨e1, _⟩ | ⟨_, rfl, rfl, _⟩
    · omega
    · omega
    · rcases h' with ⟨e1, _⟩ | ⟨e1, _⟩ | ⟨_, rfl, rfl, _⟩
      · omega
      · omega
      · rfl
/-- No point has a greater value. -/
theorem no_better {x : Nat → Int} {d : Int} (hd : 0 < d) (hx : IsPt P x d) (h : Outcome P s num den) : (s = 1 ∧ 0 < den ∧ valP P x * den ≤ num * d) ∨ s = 3 := by
  rcases h with ⟨e, hden, _, y, e0, he0, hy, hyv⟩ | ⟨_, _, _, z, hz⟩ | ⟨e, _⟩
  · refine .inl ⟨e, hden, ?_⟩
    have w1 := weak hx hy
    have h3 := Int.mul_le_mul_of_nonneg_right w1 (Int.le_of_lt hden)
    have e1 : valD P y * d * den = e0 * (num * d) := by
      have : valD P y * d * den = (valD P y * den) * d := by grind
      rw [this, hyv]; grind
    have e2 : valP P x * e0 * den = e0 * (valP P x * den) := by grind
    rw [e1, e2] at h3
    exact Int.le_of_mul_le_mul_left h3 he0
  · exact absurd hz fun hz => no_point hd hx hz
  · exact .inr e
end
end Go.Proofs.Ytkepfmglljkjhaa.LA

set_option linter.unusedVariables false
set_option linter.unusedSimpArgs false
namespace Go.Proofs.Ytkepfmglljkjhaa.LA
/-! ### The elimination of a square system -/
/-- The program whose tableaux the elimination passes through. -/
def sysLP (n : Nat) (M : Nat → Nat → Int) : LP := ⟨n, n, M, fun i => M i n, fun _ => 0⟩
def cl (n j : Nat) : Nat := if j < n then j else n + n + 1
structure Elim (n : Nat) (M : Nat → Nat → Int) (c : Nat) (w : Nat → Nat → Int) (last : Int) (σ τ : Nat → Nat) (s : St) (e : Int) : Prop where
  tab : Tabl (sysLP n M) s.bs s.T s.den
  sign : e = 1 ∨ e = -1
  last : last = e * s.den
  per : ∀ i, i < n → σ i < n ∧ τ i < n ∧ τ (σ i) = i ∧ σ (τ i) = i
  bas : ∀ t, t < n → s.bs t = if τ t < c then τ t else n + t
  val : ∀ i, i < n → ∀ j, j ≤ n → w i j = e * s.T (σ i) (cl n j)
/-- After c columns. -/
def ElimAt (n : Nat) (M : Nat → Nat → Int) (c : Nat) (w : Nat → Nat → Int) (last : Int) : Prop := ∃ σ τ s e, Elim n M c w last σ τ s e
theorem cl_lt (n : Nat) {j : Nat} (hj : j ≤ n) (M : Nat → Nat → Int) : cl n j < (sysLP n M).N := by
  unfold cl sysLP LP.N
  simp only
  split <;> omega
theorem ElimAt.start (n : Nat) {M w : Nat → Nat → Int} (h : ∀ i, i < n → ∀ j, j ≤ n → w i j = M i j) : ElimAt n M 0 w 1 := by
  refine ⟨id, id, ⟨fun i => n + i, (sysLP n M).T0, 1⟩, 1, Tabl.start (sysLP n M), Or.inl rfl, rfl, fun i hi => ⟨hi, hi, rfl, rfl⟩, fun t ht => by rw [if_neg (by omega)], fun i hi j hj => ?_⟩
  rw [h i hi j hj]
  show M i j = 1 * (sysLP n M).T0 i (cl n j)
  unfold LP.T0
  rw [if_pos (show i < (sysLP n M).m from hi), Int.one_mul]
  unfold cl
  by_cases hjn : j < n
  · rw [if_pos hjn, t0_var _ (show j < (sysLP n M).n from hjn)]; rfl
  · rw [if_neg hjn]
    obtain rfl : j = n := by omega
    exact (t0_last (sysLP j M) i).symm
def sw (c k i : Nat) : Nat := if i = c then k else if i = k then c else i
theorem sw_sw (c k i : Nat) : sw c k (sw c k i) = i := by
  unfold sw
  by_cases h1 : i = c
  · subst h1
    by_cases h2 : k = i
    · simp [h2]
    · simp [h2]
  · by_cases h2 : i = k
    · subst h2; simp [h1]
    · simp [h1, h2]
theorem sw_lt {n c k i : Nat} (hc : c < n) (hk : k < n) (hi : i < n) : sw c k i < n := by unfold sw; split <;> (try split) <;> omega
theorem ElimAt.swap {n c k : Nat} {M w w' : Nat → Nat → Int} {last : Int} (h : ElimAt n M c w last) (hk : c ≤ k) (hkn : k < n) (hw : ∀ i, i < n → ∀ j, j ≤ n → w' i j = w (sw c k i) j) : ElimAt n M c w' last := by
  obtain ⟨σ, τ, s, e, h⟩ := h
  refine ⟨fun i => σ (sw c k i), fun t => sw c k (τ t), s, e, h.tab, h.sign, h.last, fun i hi => ?_, fun t ht => ?_, fun i hi j hj => ?_⟩
  · have hc : c < n := by omega
    have h1 := h.per (sw c k i) (sw_lt hc hkn hi)
    have h2 := h.per i hi
    refine ⟨h1.1, sw_lt hc hkn h2.2.1, ?_, ?_⟩
    · show sw c k (τ (σ (sw c k i))) = i
      rw [h1.2.2.1, sw_sw]
    · show σ (sw c k (sw c k (τ i))) = i
      rw [sw_sw]; exact h2.2.2.2
  · rw [h.bas t ht]
    have h2 := (h.per t ht).2.1
    by_cases h3 : τ t < c
    · have e1 : sw c k (τ t) = τ t := by unfold sw; rw [if_neg (by omega), if_neg (by omega)]
      rw [e1]
    · have e1 : ¬ sw c k (τ t) < c := by unfold sw; split <;> (try split) <;> omega
      rw [if_neg h3, if_neg e1]
  · rw [hw i hi j hj]
    exact h.val _ (sw_lt (by omega) hkn hi) j hj
theorem sign_sq {e : Int} (h : e = 1 ∨ e = -1) : e * e = 1 := by rcases h with rfl | rfl <;> rfl
theorem tdiv_sign {e d q x : Int} (h : e = 1 ∨ e = -1) (hd : 0 < d) (hx : x = d * q) : x.tdiv (e * d) = e * q := by
  subst hx
  rcases h with rfl | rfl
  · rw [Int.one_mul, Int.one_mul]; exact Int.mul_tdiv_cancel_left _ (by omega)
  · have e1 : (-1 : Int) * d = - d := by omega
    rw [e1, Int.tdiv_neg, Int.mul_tdiv_cancel_left _ (show d ≠ 0 by omega)]; omega
/-- A step: the entries of the new table. -/
def elimW (w : Nat → Nat → Int) (last : Int) (c i j : Nat) : Int := if i = c then w c j else (w i j * w c c - w i c * w c j).tdiv last
theorem Elim.exact {n c : Nat} {M w : Nat → Nat → Int} {last : Int} {σ τ : Nat → Nat} {s : St} {e : Int} (h : Elim n M c w last σ τ s e) (hc : c < n) {i j : Nat} (hi : i < n) (hne : i ≠ c) (hj : j ≤ n) :
    w i j * w c c - w i c * w c j = s.den * pivQ s.T s.den (σ c) c (σ i) (cl n j) := by
  have hp := h.per
  have e1 : cl n c = c := if_pos hc
  have hs := sign_sq h.sign
  rw [h.val i hi j hj, h.val c hc c (by omega), h.val i hi c (by omega), h.val c hc j hj, e1]
  have hx := h.tab.toTab.pivQ_mul (r := σ c) (c := c) (i := σ i) (j := cl n j) (hp c hc).1 (by unfold sysLP LP.N; simp only; omega) (hp i hi).1 (fun k => hne (by have := congrArg τ k; rwa [(hp i hi).2.2.1, (hp c hc).2.2.1] at this)) (cl_lt n hj M)
  rw [hx]
  have e2 : ∀ a b : Int, e * a * (e * b) = a * b := fun a b => by
    have : e * a * (e * b) = (e * e) * (a * b) := by grind
    rw [this, hs, Int.one_mul]
  rw [e2, e2]
theorem ElimAt.step {n c : Nat} {M w w' : Nat → Nat → Int} {last : Int} (h : ElimAt n M c w last) (hc : c < n) (h0 : w c c ≠ 0) (hw : ∀ i, i < n → ∀ j, j ≤ n → w' i j = elimW w last c i j) : ElimAt n M (c + 1) w' (w c c) := by
  obtain ⟨σ, τ, s, e, h⟩ := h
  have hp := h.per
  have e1 : cl n c = c := if_pos hc
  have hv := h.val c hc c (by omega)
  rw [e1] at hv
  have hT : s.T (σ c) c ≠ 0 := fun k => h0 (by rw [hv, k, Int.mul_zero])
  refine ⟨σ, τ, s.piv (σ c) c, if s.T (σ c) c < 0 then -e else e, h.tab.pivot (hp c hc).1 (show c ≤ n + n by omega) hT, ?_, ?_, hp, fun t ht => ?_, fun i hi j hj => ?_⟩
  · have := h.sign
    split <;> omega
  · show w c c = _ * pivD s.T (σ c) c
    unfold pivD
    rw [hv]
    split <;> grind
  · show pivB s.bs (σ c) c t = _
    unfold pivB
    by_cases ht2 : t = σ c
    · subst ht2
      rw [if_pos rfl, (hp c hc).2.2.1, if_pos (by omega)]
    · have hne : τ t ≠ c := fun k => ht2 (by rw [← k]; exact ((hp t ht).2.2.2).symm)
      rw [if_neg ht2, h.bas t ht]
      by_cases h1 : τ t < c
      · rw [if_pos h1, if_pos (by omega)]
      · rw [if_neg h1, if_neg (by omega)]
  · rw [hw i hi j hj]
    show elimW w last c i j = _ * pivT s.T s.den (σ c) c (σ i) (cl n j)
    have key : elimW w last c i j = e * pivQ s.T s.den (σ c) c (σ i) (cl n j) := by
      unfold elimW
      by_cases hic : i = c
      · subst hic
        rw [if_pos rfl, h.val i hi j hj]
        unfold pivQ; rw [if_pos rfl]
      · rw [if_neg hic, h.last]
        exact tdiv_sign h.sign h.tab.pos (h.exact hc hi hic hj)
    rw [key]
    unfold pivT
    split <;> grind
/-- The bounds of all numbers. -/
theorem ElimAt.le {n c : Nat} {M w : Nat → Nat → Int} {last : Int} (h : ElimAt n M c w last) (hM : LPIn (sysLP n M)) : (last ≠ 0 ∧ -1179648 ≤ last ∧ last ≤ 1179648) ∧ ∀ i, i < n → ∀ j, j ≤ n → -5898240 ≤ w i j ∧ w i j ≤ 5898240 := by
  obtain ⟨σ, τ, s, e, h⟩ := h
  have h1 := h.tab.toTab.le_den hM
  have h2 := h.tab.pos
  refine ⟨?_, fun i hi j hj => ?_⟩
  · rw [h.last]
    rcases h.sign with rfl | rfl <;> omega
  · have h3 := h.tab.toTab.le_any hM (i := σ i) (h.per i hi).1 (cl_lt n hj M)
    rw [h.val i hi j hj]
    rcases h.sign with rfl | rfl <;> omega
theorem ElimAt.exact {n c : Nat} {M w : Nat → Nat → Int} {last : Int} (h : ElimAt n M c w last) (hc : c < n) {i j : Nat} (hi : i < n) (hj : j ≤ n) (hM : LPIn (sysLP n M)) (h0 : w c c ≠ 0) : -5898240 ≤ elimW w last c i j ∧ elimW w last c i j ≤ 5898240 :=
  ((h.step hc h0 (w' := elimW w last c) (fun _ _ _ _ => rfl)).le hM).2 i hi j hj
theorem rayV_sum {P : LP} {s : St} {c : Nat} (hcn : c < P.n) (hout : ∀ i, i < P.m → s.bs i ≠ c) (f : Nat → Int) : sumN P.n (fun j => f j * rayV P s c j) = f c * s.den - sumN P.n fun j => f j * ptV P s c j := by
  rw [sumN_split (k := c) (fun j => f j * rayV P s c j) hcn, sumN_split (k := c) (fun j => f j * ptV P s c j) hcn]
  have e1 : rayV P s c c = s.den := by unfold rayV; rw [if_pos rfl]
  have e2 : ptV P s c c = 0 := pt_out c hout
  have e3 : (sumN P.n fun j => if j = c then 0 else f j * rayV P s c j) = - sumN P.n fun j => if j = c then 0 else f j * ptV P s c j := by
    rw [← sumN_neg]
    refine sumN_congr fun j _ => ?_
    by_cases e : j = c
    · simp [e]
    · rw [if_neg e, if_neg e]; unfold rayV; rw [if_neg e]; grind
  rw [e1, e2, e3]; grind
/-- No unique solution. -/
theorem ElimAt.singular {n c : Nat} {M w : Nat → Nat → Int} {last : Int} (h : ElimAt n M c w last) (hc : c < n) (h0 : ∀ i, c ≤ i → i < n → w i c = 0) :
    ∃ z : Nat → Int, (∃ j, j < n ∧ z j ≠ 0) ∧ ∀ t, t < n → sumN n (fun j => M t j * z j) = 0 := by
  obtain ⟨σ, τ, s, e, h⟩ := h
  have hp := h.per
  have e1 : cl n c = c := if_pos hc
  have hout : ∀ i, i < (sysLP n M).m → s.bs i ≠ c := fun i hi => by
    rw [h.bas i hi]
    split <;> omega
  have hz : ∀ i, i < n → ¬ τ i < c → s.T i c = 0 := fun i hi hlt => by
    have h1 := h.val (τ i) (hp i hi).2.1 c (by omega)
    rw [h0 _ (by omega) (hp i hi).2.1, (hp i hi).2.2.2, e1] at h1
    rcases h.sign with rfl | rfl <;> omega
  refine ⟨rayV (sysLP n M) s c, ⟨c, hc, ?_⟩, fun t ht => ?_⟩
  · unfold rayV; rw [if_pos rfl]; have := h.tab.pos; omega
  · have h1 := rayV_sum (P := sysLP n M) (s := s) (c := c) hc hout (fun j => M t j)
    have h2 := h.tab.toTab.column (t := t) (j := c) ht (by unfold sysLP LP.N; simp only; omega)
    rw [t0_var (sysLP n M) (show c < (sysLP n M).n from hc)] at h2
    have h3 := sum_basis (sysLP n M) s c (fun j => M t j)
    have h4 : (sumN (sysLP n M).m fun i => if s.bs i < (sysLP n M).n then M t (s.bs i) * s.T i c else 0) = sumN (sysLP n M).m fun i => s.T i c * (sysLP n M).t0 t (s.bs i) := sumN_congr fun i hi => by
      by_cases hb : s.bs i < (sysLP n M).n
      · rw [if_pos hb, t0_var _ hb]; exact Int.mul_comm _ _
      · rw [if_neg hb, hz i hi (fun k => by
          have := h.bas i hi
          rw [if_pos k] at this
          have h5 := (hp i hi).2.1
          exact hb (by rw [this]; exact h5)), Int.zero_mul]
    have h5 : sumN n (fun j => M t j * rayV (sysLP n M) s c j) = M t c * s.den - sumN n fun j => M t j * ptV (sysLP n M) s c j := h1
    have h6 : sumN n (fun j => M t j * ptV (sysLP n M) s c j) = s.den * M t c := by
      have : sumN n (fun j => M t j * ptV (sysLP n M) s c j) = _ := h3
      rw [this, h4, ← h2]; rfl
    rw [h5, h6, Int.mul_comm]; omega
/-- The solution. -/
theorem ElimAt.solved {n : Nat} {M w : Nat → Nat → Int} {last : Int} (h : ElimAt n M n w last) {t : Nat} (ht : t < n) : sumN n (fun j => M t j * (if last < 0 then - w j n else w j n)) = (if last < 0 then - last else last) * M t n := by
  obtain ⟨σ, τ, s, e, h⟩ := h
  have hp := h.per
  have hd := h.tab.pos
  have hcl : cl n n = (sysLP n M).last := by unfold cl LP.last sysLP; rw [if_neg (by omega)]
  have hbas : ∀ i, i < n → s.bs i = τ i := fun i hi => by rw [h.bas i hi, if_pos (hp i hi).2.1]
  have hden : (if last < 0 then - last else last) = s.den := by
    rw [h.last]
    rcases h.sign with rfl | rfl
    · rw [if_neg (by omega)]; omega
    · rw [if_pos (by omega)]; omega
  have hval : ∀ j, j < n → (if last < 0 then - w j n else w j n) = ptV (sysLP n M) s (sysLP n M).last j := fun j hj => by
    have h1 := pt_at h.tab (sysLP n M).last (i := σ j) (hp j hj).1
    rw [hbas _ (hp j hj).1, (hp j hj).2.2.1] at h1
    rw [h1, h.val j hj n (by omega), hcl, h.last]
    rcases h.sign with rfl | rfl
    · rw [if_neg (by omega)]; omega
    · rw [if_pos (by omega)]; omega
  have hno : NoArt (sysLP n M) s := fun i hi => by
    rw [hbas i hi]; have := (hp i hi).2.1; show _ < n + n; omega
  have h1 := column_rows h.tab hno (last_lt (sysLP n M)) (k := t) ht
  rw [t0_last] at h1
  have h2 : ptV (sysLP n M) s (sysLP n M).last ((sysLP n M).n + t) = 0 := pt_out _ fun i hi => by
    rw [hbas i hi]; have := (hp i hi).2.1; show _ ≠ n + t; omega
  rw [h2] at h1
  rw [hden, sumN_congr (g := fun j => M t j * ptV (sysLP n M) s (sysLP n M).last j) fun j hj => by rw [hval j hj]]
  have h3 : s.den * M t n = sumN n (fun j => M t j * ptV (sysLP n M) s (sysLP n M).last j) + 0 := h1
  omega
end Go.Proofs.Ytkepfmglljkjhaa.LA

set_option linter.unusedVariables false
set_option linter.unusedSimpArgs false
namespace Go.Proofs.Ytkepfmglljkjhaa.LA
/-! ### The last tableau of every program -/
theorem least (m : Nat) (b : Nat → Int) (h : ∃ i, i < m ∧ b i < 0) : ∃ low, low < m ∧ b low < 0 ∧ ∀ i, i < m → b low ≤ b i := by
  induction m with
  | zero => obtain ⟨i, hi, _⟩ := h; omega
  | succ m ih =>
    by_cases h2 : ∃ i, i < m ∧ b i < 0
    · obtain ⟨low, h3, h4, h5⟩ := ih h2
      by_cases h6 : b m < b low
      · exact ⟨m, by omega, by omega, fun i hi => by
          rcases Nat.lt_or_ge i m with h7 | h7
          · have := h5 i h7; omega
          · obtain rfl : i = m := by omega
            omega⟩
      · exact ⟨low, by omega, h4, fun i hi => by
          rcases Nat.lt_or_ge i m with h7 | h7
          · exact h5 i h7
          · obtain rfl : i = m := by omega
            omega⟩
    · obtain ⟨i, hi, hb⟩ := h
      have him : i = m := by
        rcases Nat.lt_or_ge i m with h7 | h7
        · exact absurd ⟨i, h7, hb⟩ h2
        · omega
      subst him
      refine ⟨i, by omega, hb, fun k hk => ?_⟩
      rcases Nat.lt_or_ge k i with h7 | h7
      · rcases Int.lt_or_le (b k) 0 with h8 | h8
        · exact absurd ⟨k, h7, h8⟩ h2
        · omega
      · obtain rfl : k = i := by omega
        omega
/-- A state from which no step leads on. -/
theorem last_state {P : LP} {o lim : Nat} {g : Nat → Int} (ho : Obj P o lim g) {s : St} (h : Ok P s) (R : St → Prop) (hR : R s) (hst : ∀ a b, R a → Step P o lim a b → R b) : ∃ s', Ok P s' ∧ R s' ∧ ∀ s2, ¬ Step P o lim s' s2 := by
  obtain ⟨k, f, h0, h1, h2, h3⟩ := steps ho h
  have hr : ∀ i, i ≤ k → R (f i) := fun i => by
    induction i with
    | zero => intro _; rw [h0]; exact hR
    | succ i ih => exact fun hi => hst _ _ (ih (by omega)) (h2 i (by omega))
  exact ⟨f k, h1 k (Nat.le_refl _), hr k (Nat.le_refl _), fun s2 hs => by have := (h3 k (Nat.le_refl _) s2 hs).1; omega⟩
theorem first_neg (n : Nat) (f : Nat → Int) (h : ∃ j, j < n ∧ f j < 0) : ∃ c, c < n ∧ f c < 0 ∧ ∀ k, k < c → 0 ≤ f k := by
  induction n with
  | zero => obtain ⟨j, hj, _⟩ := h; omega
  | succ n ih =>
    by_cases h2 : ∃ j, j < n ∧ f j < 0
    · obtain ⟨c, h3, h4⟩ := ih h2; exact ⟨c, by omega, h4⟩
    · obtain ⟨j, hj, hf⟩ := h
      have : j = n := by
        rcases Nat.lt_or_ge j n with h7 | h7
        · exact absurd ⟨j, h7, hf⟩ h2
        · omega
      subst this
      exact ⟨j, by omega, hf, fun k hk => by
        rcases Int.lt_or_le (f k) 0 with h8 | h8
        · exact absurd ⟨k, hk, h8⟩ h2
        · exact h8⟩
/-- The row that leaves. -/
theorem leaves {P : LP} {s : St} (h : Ok P s) {c : Nat} (hx : ∃ i, i < P.m ∧ 0 < s.T i c) : ∃ r, Leaves P s c r := by
  have key : ∀ k, k ≤ P.m → (∃ i, i < k ∧ 0 < s.T i c) → ∃ r, r < k ∧ 0 < s.T r c ∧ ∀ i, i < k → 0 < s.T i c → s.T r P.last * s.T i c < s.T i P.last * s.T r c ∨ (s.T r P.last * s.T i c = s.T i P.last * s.T r c ∧ s.bs r ≤ s.bs i) := by
    intro k
    induction k with
    | zero => rintro _ ⟨i, hi, _⟩; omega
    | succ k ih =>
      intro hk hx
      by_cases h2 : ∃ i, i < k ∧ 0 < s.T i c
      · obtain ⟨r, h3, h4, h5⟩ := ih (by omega) h2
        by_cases h6 : 0 < s.T k c
        · by_cases h7 : s.T r P.last * s.T k c < s.T k P.last * s.T r c ∨ (s.T r P.last * s.T k c = s.T k P.last * s.T r c ∧ s.bs r ≤ s.bs k)
          · exact ⟨r, by omega, h4, fun i hi hp => by
              rcases Nat.lt_or_ge i k with h8 | h8
              · exact h5 i h8 hp
              · obtain rfl : i = k := by omega
                exact h7⟩
          · refine ⟨k, by omega, h6, fun i hi hp => ?_⟩
            rcases Nat.lt_or_ge i k with h8 | h8
            · have h9 := h5 i h8 hp
              have h10 : s.T k P.last * s.T r c ≤ s.T r P.last * s.T k c := by
                rcases Int.lt_or_le (s.T r P.last * s.T k c) (s.T k P.last * s.T r c) with h | h
                · exact absurd (Or.inl h) h7
                · exact h
              have e1 : (s.T k P.last * s.T r c) * s.T i c ≤ (s.T r P.last * s.T k c) * s.T i c := Int.mul_le_mul_of_nonneg_right h10 (by omega)
              have e3 : s.T k P.last * s.T i c * s.T r c = (s.T k P.last * s.T r c) * s.T i c := by grind
              have e4 : s.T i P.last * s.T k c * s.T r c = (s.T i P.last * s.T r c) * s.T k c := by grind
              have e5 : (s.T r P.last * s.T k c) * s.T i c = (s.T r P.last * s.T i c) * s.T k c := by grind
              rcases h9 with h9 | ⟨h9, h9b⟩
              · have e2 : (s.T r P.last * s.T i c) * s.T k c < (s.T i P.last * s.T r c) * s.T k c := Int.mul_lt_mul_of_pos_right h9 h6
                left
                have : s.T k P.last * s.T i c * s.T r c < s.T i P.last * s.T k c * s.T r c := by omega
                exact Int.lt_of_mul_lt_mul_right this (by omega)
              · have e2 : (s.T r P.last * s.T i c) * s.T k c = (s.T i P.last * s.T r c) * s.T k c := by rw [h9]
                have h11 : s.T k P.last * s.T i c * s.T r c ≤ s.T i P.last * s.T k c * s.T r c := by omega
                have h12 : s.T k P.last * s.T i c ≤ s.T i P.last * s.T k c := Int.le_of_mul_le_mul_right h11 (by omega)
                rcases Int.lt_or_eq_of_le h12 with h13 | h13
                · exact Or.inl h13
                · right
                  refine ⟨h13, ?_⟩
                  have h14 : s.T r P.last * s.T k c = s.T k P.last * s.T r c := by
                    have : (s.T k P.last * s.T r c) * s.T i c = (s.T r P.last * s.T k c) * s.T i c := by rw [← e3, h13, e4, e5]; exact e2.symm
                    exact (Int.eq_of_mul_eq_mul_right (by omega) this).symm
                  have h15 : ¬ s.bs r ≤ s.bs k := fun h => h7 (Or.inr ⟨h14, h⟩)
                  omega
            · obtain rfl : i = k := by omega
              exact Or.inr ⟨rfl, Nat.le_refl _⟩
        · exact ⟨r, by omega, h4, fun i hi hp => by
            rcases Nat.lt_or_ge i k with h8 | h8
            · exact h5 i h8 hp
            · obtain rfl : i = k := by omega
              exact absurd hp h6⟩
      · obtain ⟨i, hi, hp⟩ := hx
        have : i = k := by
          rcases Nat.lt_or_ge i k with h7 | h7
          · exact absurd ⟨i, h7, hp⟩ h2
          · omega
        subst this
        refine ⟨i, by omega, hp, fun j hj hjp => ?_⟩
        rcases Nat.lt_or_ge j i with h8 | h8
        · exact absurd ⟨j, h8, hjp⟩ h2
        · obtain rfl : j = i := by omega
          exact Or.inr ⟨rfl, Nat.le_refl _⟩
  obtain ⟨r, h1, h2, h3⟩ := key P.m (Nat.le_refl _) hx
  exact ⟨r, h1, h2, h3⟩
/-- Every program: it has no point, or a last tableau. -/
theorem final (P : LP) : (∃ y, IsRef P y) ∨ ∃ s, Ok P s ∧ NoArt P s ∧ ((∀ j, j < P.n + P.m → 0 ≤ s.T P.m j) ∨ ∃ c, c < P.n + P.m ∧ s.T P.m c < 0 ∧ ∀ i, i < P.m → s.T i c ≤ 0) := by
  have second : ∀ s, Ok P s → NoArt P s → ∃ s, Ok P s ∧ NoArt P s ∧ ((∀ j, j < P.n + P.m → 0 ≤ s.T P.m j) ∨ ∃ c, c < P.n + P.m ∧ s.T P.m c < 0 ∧ ∀ i, i < P.m → s.T i c ≤ 0) := fun s h hn => by
    obtain ⟨s', h1, h2, h3⟩ := last_state (obj_goal P) h (NoArt P) hn (fun a b ha hs => ha.step (Nat.le_refl _) hs)
    refine ⟨s', h1, h2, ?_⟩
    by_cases hx : ∃ j, j < P.n + P.m ∧ s'.T P.m j < 0
    · obtain ⟨c, hc, hneg, hfirst⟩ := first_neg _ _ hx
      right
      refine ⟨c, hc, hneg, fun i hi => ?_⟩
      rcases Int.lt_or_le 0 (s'.T i c) with hp | hp
      · obtain ⟨r, hr⟩ := leaves h1 ⟨i, hi, hp⟩
        exact absurd ⟨c, r, ⟨hc, hneg, hfirst⟩, hr, rfl⟩ (h3 _)
      · exact hp
    · left
      intro j hj
      rcases Int.lt_or_le (s'.T P.m j) 0 with hp | hp
      · exact absurd ⟨j, hj, hp⟩ hx
      · exact hp
  by_cases hneg : ∃ i, i < P.m ∧ P.b i < 0
  · obtain ⟨low, hl, hb, hmin⟩ := least P.m P.b hneg
    have h0 := Ok.first hl hb hmin
    obtain ⟨s, h1, -, h3⟩ := last_state (obj_art P) h0 (fun _ => True) trivial (fun _ _ _ _ => trivial)
    have hopt : ∀ j, j < P.n + P.m + 1 → 0 ≤ s.T (P.m + 1) j := fun j hj => by
      rcases Int.lt_or_le (s.T (P.m + 1) j) 0 with hp | hp
      · obtain ⟨c, hc, hcn, hfirst⟩ := first_neg (P.n + P.m + 1) _ ⟨j, hj, hp⟩
        by_cases hx : ∃ i, i < P.m ∧ 0 < s.T i c
        · obtain ⟨r, hr⟩ := leaves h1 hx
          exact absurd ⟨c, r, ⟨hc, hcn, hfirst⟩, hr, rfl⟩ (h3 _)
        · have := art_bounded h1 (c := c) (by unfold LP.N; omega) (fun i hi => by
            rcases Int.lt_or_le 0 (s.T i c) with h | h
            · exact absurd ⟨i, hi, h⟩ hx
            · exact h)
          omega
      · exact hp
    by_cases hlast : s.T (P.m + 1) P.last < 0
    · left
      obtain ⟨a1, a2, a3⟩ := refuted_ok h1 hopt hlast
      exact ⟨fun k => s.T (P.m + 1) (P.n + k), a2, a1, a3⟩
    · right
      by_cases hart : ∃ r, r < P.m ∧ s.bs r = P.n + P.m
      · obtain ⟨r, hr, hbr⟩ := hart
        have hz := art_zero h1 (by omega) hr hbr
        obtain ⟨c, hc, hne⟩ := art_row h1 hr hbr
        refine second _ (h1.drive hr hz hc hne) (fun i hi => ?_)
        show pivB s.bs r c i < _
        unfold pivB
        split
        · exact hc
        · next hir =>
          have h5 := h1.bas i hi
          have h6 : s.bs i ≠ P.n + P.m := fun e => hir (h1.inj hi hr (e.trans hbr.symm))
          omega
      · refine second s h1 (fun i hi => ?_)
        have h5 := h1.bas i hi
        have h6 : s.bs i ≠ P.n + P.m := fun e => hart ⟨i, hi, e⟩
        omega
  · right
    refine second _ (Ok.plain fun i hi => ?_) (fun i hi => by show P.n + i < _; omega)
    rcases Int.lt_or_le (P.b i) 0 with hp | hp
    · exact absurd ⟨i, hi, hp⟩ hneg
    · exact hp
/-! ### Systems of constraints that are equations -/
theorem sumN_cat (n m : Nat) (f : Nat → Int) : sumN (n + m) f = sumN n f + sumN m fun k => f (n + k) := by
  induction m with
  | zero => simp [sumN]
  | succ m ih =>
    show sumN (n + m) f + f (n + m) = sumN n f + (sumN m (fun k => f (n + k)) + f (n + m))
    rw [ih]; omega
/-- The values of all variables, slacks too, of a solution of the equations without bounds. -/
def allV (P : LP) (z : Nat → Int) (v : Nat) : Int := if v < P.n then z v else - sumN P.n fun j => P.A (v - P.n) j * z j
theorem allV_row {P : LP} {s : St} (h : Tabl P s.bs s.T s.den) (z : Nat → Int) {i : Nat} (hi : i < P.m) : sumN (P.n + P.m) (fun v => allV P z v * s.T i v) = 0 := by
  rw [sumN_cat]
  have e1 : sumN P.n (fun v => allV P z v * s.T i v) = sumN P.n fun j => sumN P.m fun k => z j * (P.A k j * s.T i (P.n + k)) := sumN_congr fun j hj => by
    unfold allV
    rw [if_pos hj, h.toTab.row hi (j := j) (by unfold LP.N; omega), ← sumN_mul]
    exact sumN_congr fun k hk => by rw [t0_var P hj]
  have e2 : sumN P.m (fun k => allV P z (P.n + k) * s.T i (P.n + k)) = - sumN P.m fun k => sumN P.n fun j => z j * (P.A k j * s.T i (P.n + k)) := by
    rw [← sumN_neg]
    refine sumN_congr fun k hk => ?_
    unfold allV
    rw [if_neg (by omega), show P.n + k - P.n = k by omega, Int.neg_mul, ← sumN_mul_right]
    congr 1
    exact sumN_congr fun j _ => by grind
  rw [e1, e2, sumN_swap]
  omega
/-- Where all variables but those of the basis and one more are zero. -/
theorem allV_two {P : LP} {s : St} (h : Tabl P s.bs s.T s.den) (hno : NoArt P s) (z : Nat → Int) {c : Nat} (hc : ∀ i, i < P.m → s.bs i ≠ c) (hz : ∀ v, v < P.n + P.m → (∀ i, i < P.m → s.bs i ≠ v) → v ≠ c → allV P z v = 0) {i : Nat} (hi : i < P.m) :
    s.den * allV P z (s.bs i) + (if c < P.n + P.m then allV P z c * s.T i c else 0) = 0 := by
  have h1 := allV_row h z hi
  rw [sumN_split (k := s.bs i) _ (hno i hi)] at h1
  have e1 : s.T i (s.bs i) = s.den := by rw [h.toTab.at_basis hi hi, if_pos rfl]
  have key : ∀ v, v < P.n + P.m → v ≠ s.bs i → v ≠ c → allV P z v * s.T i v = 0 := fun v hv h2 h3 => by
    by_cases hb : ∃ k, k < P.m ∧ s.bs k = v
    · obtain ⟨k, hk, rfl⟩ := hb
      rw [h.toTab.at_basis hi hk, if_neg (fun e => h2 (by rw [e])), Int.mul_zero]
    · rw [hz v hv (fun k hk e => hb ⟨k, hk, e⟩) h3, Int.zero_mul]
  rw [e1] at h1
  by_cases hcl : c < P.n + P.m
  · rw [if_pos hcl]
    rw [sumN_one (k := c) _ hcl fun v hv hne => by
      by_cases e : v = s.bs i
      · rw [if_pos e]
      · rw [if_neg e]; exact key v hv e hne, if_neg (hc i hi).symm] at h1
    rw [Int.mul_comm s.den]; exact h1
  · rw [if_neg hcl]
    rw [sumN_eq_zero fun v hv => by
      by_cases e : v = s.bs i
      · rw [if_pos e]
      · rw [if_neg e]; exact key v hv e (by omega)] at h1
    rw [Int.mul_comm s.den]; exact h1
/-- Zero where the nonbasic variables are. -/
theorem kernel_zero {P : LP} {s : St} (h : Tabl P s.bs s.T s.den) (hno : NoArt P s) (z : Nat → Int) (hz : ∀ v, v < P.n + P.m → (∀ i, i < P.m → s.bs i ≠ v) → allV P z v = 0) : ∀ j, j < P.n → z j = 0 := fun j hj => by
  have e : allV P z j = z j := by unfold allV; rw [if_pos hj]
  by_cases hb : ∃ i, i < P.m ∧ s.bs i = j
  · obtain ⟨i, hi, rfl⟩ := hb
    have h1 := allV_two h hno z (c := P.n + P.m) (fun i hi => by have := hno i hi; omega) (fun v hv h2 _ => hz v hv h2) hi
    rw [if_neg (by omega), e] at h1
    have hp := h.pos
    rcases Int.mul_eq_zero.1 (show s.den * z (s.bs i) = 0 by omega) with h2 | h2 <;> omega
  · rw [← e]; exact hz j (by omega) (fun i hi e => hb ⟨i, hi, e⟩)
/-- A multiple of the ray where one nonbasic variable is free. -/
theorem kernel_ray {P : LP} {s : St} (h : Tabl P s.bs s.T s.den) (hno : NoArt P s) (z : Nat → Int) {c : Nat} (hcl : c < P.n + P.m) (hc : ∀ i, i < P.m → s.bs i ≠ c) (hz : ∀ v, v < P.n + P.m → (∀ i, i < P.m → s.bs i ≠ v) → v ≠ c → allV P z v = 0) :
    ∀ j, j < P.n → s.den * z j = allV P z c * rayV P s c j := fun j hj => by
  have e : allV P z j = z j := by unfold allV; rw [if_pos hj]
  by_cases ejc : j = c
  · subst ejc
    unfold rayV
    rw [if_pos rfl, e]; exact Int.mul_comm _ _
  · unfold rayV
    rw [if_neg ejc]
    by_cases hb : ∃ i, i < P.m ∧ s.bs i = j
    · obtain ⟨i, hi, rfl⟩ := hb
      have h1 := allV_two h hno z hc hz hi
      rw [if_pos hcl, e] at h1
      rw [pt_at h c hi, Int.mul_neg]
      omega
    · rw [← e, hz j (by omega) (fun i hi e => hb ⟨i, hi, e⟩) ejc, pt_out c (fun i hi e => hb ⟨i, hi, e⟩)]
      simp
end Go.Proofs.Ytkepfmglljkjhaa.LA

set_option linter.unusedVariables false
set_option linter.unusedSimpArgs false
namespace Go.Proofs.Ytkepfmglljkjhaa.LA
/-! ### Corners -/
def atI (l : List Int) (j : Nat) : Int := (l[j]?).getD 0
def dotL (n : Nat) (r : List Int) (z : Nat → Int) : Int := sumN n fun j => atI r j * z j
/-- The elements whose numbers satisfy B. -/
def pickN {α : Type} (B : Nat → Bool) (all : List α) (k : Nat) : List α := (List.range k).filterMap fun q => if B q then all[q]? else none
theorem pickN_succ {α : Type} (B : Nat → Bool) (all : List α) (k : Nat) : pickN B all (k + 1) = pickN B all k ++ (if B k then (all[k]?).toList else []) := by
  unfold pickN
  rw [List.range_succ, List.filterMap_append]
  congr 1
  by_cases h : B k
  · rw [if_pos h, List.filterMap_cons, if_pos h, List.filterMap_nil]
    cases all[k]? <;> rfl
  · rw [if_neg h, List.filterMap_cons, if_neg h, List.filterMap_nil]
theorem mem_pickN {α : Type} {B : Nat → Bool} {all : List α} {k : Nat} {r : α} : r ∈ pickN B all k ↔ ∃ q, q < k ∧ B q = true ∧ all[q]? = some r := by
  unfold pickN
  simp only [List.mem_filterMap, List.mem_range]
  constructor
  · rintro ⟨q, hq, h⟩
    by_cases hb : B q = true
    · rw [if_pos hb] at h; exact ⟨q, hq, hb, h⟩
    · rw [if_neg hb] at h; cases h
  · rintro ⟨q, hq, hb, h⟩
    exact ⟨q, hq, by rw [if_pos hb]; exact h⟩
theorem len_pickN {α : Type} (B : Nat → Bool) (all : List α) : ∀ k, k ≤ all.length → ((pickN B all k).length : Int) = sumN k fun q => if B q then 1 else 0
  | 0, _ => rfl
  | k + 1, h => by
    rw [pickN_succ, List.length_append]
    have ih := len_pickN B all k (by omega)
    show _ = sumN k _ + (if B k then 1 else 0)
    rw [← ih]
    by_cases hb : B k
    · rw [if_pos hb, if_pos hb, List.getElem?_eq_getElem (by omega)]; simp
    · rw [if_neg hb, if_neg hb]; simp
def SolV (ls : List (List Int)) (n : Nat) (x : Nat → Int) (d : Int) : Prop := ∀ r ∈ ls, dotL n r x = d * atI r n
def Kern (ls : List (List Int)) (n : Nat) : Prop := ∀ z : Nat → Int, (∀ r ∈ ls, dotL n r z = 0) → ∀ j, j < n → z j = 0
structure Corners (all fixed : List (List Int)) (n : Nat) (cs : List (List Int × Int)) : Prop where
  ok : ∀ c ∈ cs, c.1.length = n ∧ 0 < c.2 ∧ c.2 ≤ 1179648 ∧ (∀ x ∈ c.1, -5898240 ≤ x ∧ x ≤ 5898240) ∧ (∀ r ∈ all, dotL n r (atI c.1) ≤ atI r n * c.2) ∧ SolV fixed n (atI c.1) c.2
  full : ∀ B : Nat → Bool, fixed.length + (pickN B all all.length).length = n → Kern (fixed ++ pickN B all all.length) n →
    (∀ x d, 0 < d → SolV (fixed ++ pickN B all all.length) n x d → ∀ r ∈ all, dotL n r x ≤ atI r n * d) → ∃ c ∈ cs, SolV (fixed ++ pickN B all all.length) n (atI c.1) c.2
structure Alls (P : LP) (b : Nat → Int) (all : List (List Int)) : Prop where
  len : all.length = P.m + P.n
  row : ∀ q, q < P.m → ∃ r, all[q]? = some r ∧ (∀ j, j < P.n → atI r j = P.A q j) ∧ atI r P.n = b q
  unit : ∀ k, k < P.n → ∃ r, all[P.m + k]? = some r ∧ (∀ j, j < P.n → atI r j = if j = k then -1 else 0) ∧ atI r P.n = 0
/-- The variable that is zero where constraint q is an equation. -/
def vq (P : LP) (q : Nat) : Nat := if q < P.m then P.n + q else q - P.m
def qv (P : LP) (v : Nat) : Nat := if v < P.n then P.m + v else v - P.n
theorem vq_qv {P : LP} {v : Nat} (h : v < P.n + P.m) : vq P (qv P v) = v ∧ qv P v < P.m + P.n := by
  unfold vq qv
  by_cases h1 : v < P.n
  · rw [if_pos h1, if_neg (by omega)]; omega
  · rw [if_neg h1, if_pos (by omega)]; omega
theorem qv_vq {P : LP} {q : Nat} (h : q < P.m + P.n) : qv P (vq P q) = q ∧ vq P q < P.n + P.m := by
  unfold vq qv
  by_cases h1 : q < P.m
  · rw [if_pos h1, if_neg (by omega)]; omega
  · rw [if_neg h1, if_pos (by omega)]; omega
section
variable {P : LP} {b : Nat → Int} {all : List (List Int)}
theorem Alls.dot (h : Alls P b all) {q : Nat} {r : List Int} (hr : all[q]? = some r) (z : Nat → Int) : dotL P.n r z = - allV P z (vq P q) := by
  have hq : q < all.length := (List.getElem?_eq_some_iff.1 hr).1
  rw [h.len] at hq
  unfold vq allV dotL
  by_cases h1 : q < P.m
  · rw [if_pos h1, if_neg (by omega)]
    obtain ⟨r', e, ha, _⟩ := h.row q h1
    rw [hr] at e
    injection e with e
    subst e
    rw [Int.neg_neg, show P.n + q - P.n = q by omega]
    exact sumN_congr fun j hj => by rw [ha j hj]
  · rw [if_neg h1, if_pos (by omega)]
    obtain ⟨k, rfl⟩ : ∃ k, q = P.m + k := ⟨q - P.m, by omega⟩
    obtain ⟨r', e, ha, _⟩ := h.unit k (by omega)
    rw [hr] at e
    injection e with e
    subst e
    rw [show P.m + k - P.m = k by omega, sumN_one (k := k) _ (by omega) fun j hj hne => by rw [ha j hj, if_neg hne, Int.zero_mul], ha k (by omega), if_pos rfl]
    omega
theorem Alls.right (h : Alls P b all) {q : Nat} {r : List Int} (hr : all[q]? = some r) : atI r P.n = if q < P.m then b q else 0 := by
  have hq : q < all.length := (List.getElem?_eq_some_iff.1 hr).1
  rw [h.len] at hq
  by_cases h1 : q < P.m
  · rw [if_pos h1]
    obtain ⟨r', e, _, ha⟩ := h.row q h1
    rw [hr] at e
    injection e with e
    subst e
    exact ha
  · rw [if_neg h1]
    obtain ⟨k, rfl⟩ : ∃ k, q = P.m + k := ⟨q - P.m, by omega⟩
    obtain ⟨r', e, _, ha⟩ := h.unit k (by omega)
    rw [hr] at e
    injection e with e
    subst e
    exact ha
/-- What the constraints say of a vector. -/
theorem Alls.point (h : Alls P b all) {x : Nat → Int} {d : Int} (hx : ∀ r ∈ all, dotL P.n r x ≤ atI r P.n * d) : (∀ k, k < P.m → sumN P.n (fun j => P.A k j * x j) ≤ b k * d) ∧ ∀ j, j < P.n → 0 ≤ x j := by
  constructor
  · intro k hk
    obtain ⟨r, hr, ha, hb⟩ := h.row k hk
    have h1 := hx r (List.mem_of_getElem? hr)
    rw [hb] at h1
    unfold dotL at h1
    rw [sumN_congr (g := fun j => P.A k j * x j) fun j hj => by rw [ha j hj]] at h1
    exact h1
  · intro k hk
    obtain ⟨r, hr, ha, hb⟩ := h.unit k hk
    have h1 := hx r (List.mem_of_getElem? hr)
    rw [h.dot hr, hb] at h1
    have e1 : vq P (P.m + k) = k := by unfold vq; rw [if_neg (by omega)]; omega
    rw [e1] at h1
    unfold allV at h1
    rw [if_pos hk] at h1
    omega
theorem Alls.hold (h : Alls P b all) {x : Nat → Int} {d : Int} (h1 : ∀ k, k < P.m → sumN P.n (fun j => P.A k j * x j) ≤ b k * d) (h2 : ∀ j, j < P.n → 0 ≤ x j) : ∀ r ∈ all, dotL P.n r x ≤ atI r P.n * d := by
  intro r hr
  obtain ⟨q, hq, hr⟩ := List.getElem_of_mem hr
  have hr' : all[q]? = some r := by rw [List.getElem?_eq_getElem hq, hr]
  rw [h.dot hr', h.right hr']
  have hql := hq
  rw [h.len] at hql
  unfold vq allV
  by_cases h3 : q < P.m
  · rw [if_pos h3, if_neg (by omega), if_pos h3, show P.n + q - P.n = q by omega]
    have := h1 q h3
    omega
  · rw [if_neg h3, if_pos (by omega), if_neg h3]
    have := h2 (q - P.m) (by omega)
    omega
/-- No variable of the basis. -/
def nbB (P : LP) (s : St) (q : Nat) : Bool := (List.range P.m).all fun i => s.bs i != vq P q
theorem nbB_iff {s : St} {q : Nat} : nbB P s q = true ↔ ∀ i, i < P.m → s.bs i ≠ vq P q := by
  unfold nbB
  simp
theorem count_nb {s : St} (h : Tabl P s.bs s.T s.den) (hno : NoArt P s) : sumN (P.m + P.n) (fun q => if nbB P s q then 1 else 0) = P.n := by
  have e1 : sumN (P.m + P.n) (fun q => if nbB P s q then (1 : Int) else 0) = sumN (P.m + P.n) fun q => 1 + - sumN P.m fun i => if s.bs i = vq P q then 1 else 0 := sumN_congr fun q hq => by
    by_cases hb : nbB P s q = true
    · rw [if_pos hb, sumN_eq_zero fun i hi => if_neg (nbB_iff.1 hb i hi)]; rfl
    · rw [if_neg hb]
      have hx : ∃ i, i < P.m ∧ s.bs i = vq P q := Classical.byContradiction fun hn => hb (nbB_iff.2 fun i hi e => hn ⟨i, hi, e⟩)
      obtain ⟨i, hi, e⟩ := hx
      rw [sumN_one (k := i) _ hi fun k hk hne => if_neg fun e2 => hne (h.toTab.inj hk hi (e2.trans e.symm)), if_pos e]; rfl
  have e2 : sumN (P.m + P.n) (fun q => sumN P.m fun i => if s.bs i = vq P q then (1 : Int) else 0) = P.m := by
    rw [sumN_swap]
    have e3 : sumN P.m (fun i => sumN (P.m + P.n) fun q => if s.bs i = vq P q then (1 : Int) else 0) = sumN P.m fun _ => 1 := sumN_congr fun i hi => by
      have h1 := vq_qv (P := P) (hno i hi)
      rw [sumN_one (k := qv P (s.bs i)) _ h1.2 fun q hq hne => if_neg fun e => hne (by rw [e]; exact (qv_vq hq).1.symm), if_pos h1.1.symm]
    rw [e3]
    generalize P.m = m
    induction m with
    | zero => rfl
    | succ m ih => show sumN m (fun _ => 1) + 1 = _; rw [ih]; omega
  have e4 : sumN (P.m + P.n) (fun _ => (1 : Int)) = ((P.m + P.n : Nat) : Int) := by
    generalize P.m + P.n = m
    induction m with
    | zero => rfl
    | succ m ih => show sumN m (fun _ => 1) + 1 = _; rw [ih]; omega
  rw [e1, sumN_add, sumN_neg, e2, e4]
  omega
/-- The point of a tableau without an artificial variable is a corner. -/
theorem has_corner (ha : Alls P P.b all) {cs : List (List Int × Int)} (hc : Corners all [] P.n cs) {s : St} (h : Ok P s) (hno : NoArt P s) : ∃ c ∈ cs, ∀ j, j < P.n → s.den * atI c.1 j = c.2 * ptV P s P.last j := by
  have hp := h.pos
  have hpo := point_ok h hno
  have hlen : all.length ≤ all.length := Nat.le_refl _
  have hcount : (([] : List (List Int)).length + (pickN (nbB P s) all all.length).length) = P.n := by
    have h1 := len_pickN (nbB P s) all all.length hlen
    rw [ha.len, count_nb h.toTabl hno] at h1
    rw [ha.len]
    simp only [List.length_nil]
    omega
  have hker : ∀ z : Nat → Int, (∀ r ∈ [] ++ pickN (nbB P s) all all.length, dotL P.n r z = 0) → ∀ j, j < P.n → z j = 0 := fun z hz => kernel_zero h.toTabl hno z fun v hv hb => by
    have h1 := vq_qv (P := P) hv
    have hq : qv P v < all.length := by rw [ha.len]; exact h1.2
    have h2 := hz all[qv P v] (by rw [List.nil_append]; exact mem_pickN.2 ⟨qv P v, hq, nbB_iff.2 (fun i hi => by rw [h1.1]; exact hb i hi), List.getElem?_eq_getElem hq⟩)
    rw [ha.dot (List.getElem?_eq_getElem hq), h1.1] at h2
    omega
  have hstar : SolV ([] ++ pickN (nbB P s) all all.length) P.n (ptV P s P.last) s.den := fun r hr => by
    rw [List.nil_append] at hr
    obtain ⟨q, hq, hb, hr⟩ := mem_pickN.1 hr
    rw [nbB_iff] at hb
    rw [ha.dot hr, ha.right hr]
    have hql := hq
    rw [ha.len] at hql
    unfold vq at hb ⊢
    unfold allV
    by_cases h1 : q < P.m
    · rw [if_pos h1, if_neg (by omega), if_pos h1, show P.n + q - P.n = q by omega]
      rw [if_pos h1] at hb
      have h2 := column_rows h.toTabl hno (last_lt P) h1
      rw [t0_last, pt_out (P := P) (s := s) P.last (j := P.n + q) hb] at h2
      omega
    · rw [if_neg h1, if_pos (by omega), if_neg h1]
      rw [if_neg h1] at hb
      rw [pt_out (P := P) (s := s) P.last hb]; omega
  have hprop : ∀ x d, SolV ([] ++ pickN (nbB P s) all all.length) P.n x d → ∀ j, j < P.n → s.den * x j = d * ptV P s P.last j := fun x d hx j hj => by
    have h1 := hker (fun j => s.den * x j - d * ptV P s P.last j) (fun r hr => by
      have h2 := hx r hr
      have h3 := hstar r hr
      have h4 : dotL P.n r (fun j => s.den * x j - d * ptV P s P.last j) = s.den * dotL P.n r x - d * dotL P.n r (ptV P s P.last) := by
        unfold dotL
        rw [← sumN_mul, ← sumN_mul, Int.sub_eq_add_neg, ← sumN_neg, ← sumN_add]
        exact sumN_congr fun j _ => by grind
      rw [h4, h2, h3]; grind) j hj
    have h5 : s.den * x j - d * ptV P s P.last j = 0 := h1
    omega
  obtain ⟨c, hcm, hsol⟩ := hc.full (nbB P s) hcount hker (fun x d hd hx => by
    have h1 := hprop x d hx
    refine ha.hold (fun k hk => ?_) (fun j hj => ?_)
    · have h2 := hpo.2 k hk
      have h3 : s.den * sumN P.n (fun j => P.A k j * x j) = d * sumN P.n fun j => P.A k j * ptV P s P.last j := by
        rw [← sumN_mul, ← sumN_mul]
        exact sumN_congr fun j hj => by have := h1 j hj; grind
      have h4 : d * sumN P.n (fun j => P.A k j * ptV P s P.last j) ≤ d * (P.b k * s.den) := Int.mul_le_mul_of_nonneg_left h2 (by omega)
      have h5 : s.den * sumN P.n (fun j => P.A k j * x j) ≤ s.den * (P.b k * d) := by
        have h6 : d * (P.b k * s.den) = s.den * (P.b k * d) := by grind
        rw [h3]; omega
      exact Int.le_of_mul_le_mul_left h5 hp
    · have h2 := h1 j hj
      have h3 := Int.mul_nonneg (Int.le_of_lt hd) (hpo.1 j)
      rcases Int.lt_or_le (x j) 0 with h4 | h4
      · have := Int.mul_neg_of_pos_of_neg hp h4; omega
      · exact h4)
  exact ⟨c, hcm, hprop _ _ hsol⟩
/-- The ray of an unbounded tableau is among the corners of the directions. -/
theorem has_ray (ha : Alls P (fun _ => 0) all) {one : List Int} (h1 : ∀ j, j ≤ P.n → atI one j = 1) {rs : List (List Int × Int)} (hc : Corners all [one] P.n rs) {s : St} (h : Ok P s) (hno : NoArt P s) {c : Nat} (hcl : c < P.n + P.m) (hneg : s.T P.m c < 0) (hle : ∀ i, i < P.m → s.T i c ≤ 0) :
    ∃ r ∈ rs, 0 < sumN P.n fun j => P.c j * atI r.1 j := by
  have hp := h.pos
  obtain ⟨hr1, hr2, hr3⟩ := ray_ok h hno hcl hneg hle
  have hout : ∀ i, i < P.m → s.bs i ≠ c := fun i hi e => by
    have h2 := h.obj_basis P.g0 hi
    rw [← h.goal _ (by have := h.bas i hi; unfold LP.N; omega), e] at h2
    omega
  have hsum : 0 < sumN P.n fun j => rayV P s c j := by
    obtain ⟨j, hj, hpos⟩ := sumN_pos hr3
    have h2 : 0 < rayV P s c j := by
      rcases Int.lt_or_eq_of_le (hr1 j) with h3 | h3
      · exact h3
      · rw [← h3, Int.mul_zero] at hpos; omega
    have h4 := sumN_split (n := P.n) (k := j) (fun j => rayV P s c j) hj
    have h5 : 0 ≤ sumN P.n fun i => if i = j then 0 else rayV P s c i := sumN_nonneg fun i _ => by
      split
      · omega
      · exact hr1 i
    omega
  let B : Nat → Bool := fun q => nbB P s q && vq P q != c
  have hB : ∀ q, B q = true ↔ (∀ i, i < P.m → s.bs i ≠ vq P q) ∧ vq P q ≠ c := fun q => by
    show (nbB P s q && vq P q != c) = true ↔ _
    rw [Bool.and_eq_true, nbB_iff, bne_iff_ne]
  have hqc := vq_qv (P := P) hcl
  have hcount : ([one].length + (pickN B all all.length).length) = P.n := by
    have h2 := len_pickN B all all.length (Nat.le_refl _)
    have h3 : sumN (P.m + P.n) (fun q => if B q then (1 : Int) else 0) = sumN (P.m + P.n) fun q => (if nbB P s q then 1 else 0) + - (if q = qv P c then 1 else 0) := sumN_congr fun q hq => by
      by_cases e : q = qv P c
      · subst e
        have hnb : nbB P s (qv P c) = true := nbB_iff.2 fun i hi => by rw [hqc.1]; exact hout i hi
        have hnB : ¬ B (qv P c) = true := fun k => ((hB _).1 k).2 hqc.1
        rw [if_neg hnB, if_pos hnb, if_pos rfl]; rfl
      · have hne : vq P q ≠ c := fun k => e (by rw [← k]; exact (qv_vq hq).1.symm)
        by_cases hnb : nbB P s q = true
        · have : B q = true := (hB q).2 ⟨nbB_iff.1 hnb, hne⟩
          rw [if_pos this, if_pos hnb, if_neg e]; rfl
        · have : ¬ B q = true := fun k => hnb (nbB_iff.2 ((hB q).1 k).1)
          rw [if_neg this, if_neg hnb, if_neg e]; rfl
    have h4 : sumN (P.m + P.n) (fun q => if q = qv P c then (1 : Int) else 0) = 1 := by
      rw [sumN_one (k := qv P c) _ hqc.2 fun q _ hne => if_neg hne, if_pos rfl]
    rw [ha.len, h3, sumN_add, sumN_neg, h4, count_nb h.toTabl hno] at h2
    rw [ha.len]
    simp only [List.length_singleton]
    omega
  have hdot1 : ∀ z : Nat → Int, dotL P.n one z = sumN P.n z := fun z => sumN_congr fun j hj => by rw [h1 j (by omega), Int.one_mul]
  have hzero : ∀ (z : Nat → Int), (∀ r ∈ pickN B all all.length, dotL P.n r z = 0) → ∀ j, j < P.n → s.den * z j = allV P z c * rayV P s c j := fun z hz => kernel_ray h.toTabl hno z hcl hout fun v hv hb hvc => by
    have h2 := vq_qv (P := P) hv
    have hq : qv P v < all.length := by rw [ha.len]; exact h2.2
    have h3 := hz all[qv P v] (mem_pickN.2 ⟨qv P v, hq, (hB _).2 ⟨fun i hi => by rw [h2.1]; exact hb i hi, by rw [h2.1]; exact hvc⟩, List.getElem?_eq_getElem hq⟩)
    rw [ha.dot (List.getElem?_eq_getElem hq), h2.1] at h3
    omega
  have hright : ∀ r ∈ pickN B all all.length, atI r P.n = 0 := fun r hr => by
    obtain ⟨q, hq, _, hr⟩ := mem_pickN.1 hr
    rw [ha.right hr]; split <;> rfl
  have hker : Kern ([one] ++ pickN B all all.length) P.n := fun z hz => by
    have h2 := hzero z (fun r hr => hz r (List.mem_append_right _ hr))
    have h3 := hz one (by simp)
    rw [hdot1] at h3
    have h4 : s.den * sumN P.n z = allV P z c * sumN P.n fun j => rayV P s c j := by
      rw [← sumN_mul, ← sumN_mul]; exact sumN_congr fun j hj => h2 j hj
    rw [h3, Int.mul_zero] at h4
    have h5 : allV P z c = 0 := by
      rcases Int.mul_eq_zero.1 h4.symm with h5 | h5
      · exact h5
      · omega
    intro j hj
    have h6 := h2 j hj
    rw [h5, Int.zero_mul] at h6
    rcases Int.mul_eq_zero.1 h6 with h7 | h7 <;> omega
  have hsol : ∀ x d, 0 < d → SolV ([one] ++ pickN B all all.length) P.n x d → (∀ j, j < P.n → s.den * x j = allV P x c * rayV P s c j) ∧ 0 < allV P x c := fun x d hd hx => by
    have h2 := hzero x (fun r hr => by rw [hx r (List.mem_append_right _ hr), hright r hr, Int.mul_zero])
    have h3 := hx one (by simp)
    rw [hdot1, h1 P.n (Nat.le_refl _)] at h3
    have h4 : s.den * sumN P.n x = allV P x c * sumN P.n fun j => rayV P s c j := by
      rw [← sumN_mul, ← sumN_mul]; exact sumN_congr fun j hj => h2 j hj
    rw [h3] at h4
    refine ⟨h2, ?_⟩
    have h5 : 0 < s.den * (d * 1) := Int.mul_pos hp (by omega)
    rcases Int.lt_or_le 0 (allV P x c) with h6 | h6
    · exact h6
    · have h7 := Int.mul_nonneg (show 0 ≤ - allV P x c by omega) (Int.le_of_lt hsum)
      rw [Int.neg_mul] at h7
      omega
  obtain ⟨r, hrm, hrs⟩ := hc.full B hcount hker (fun x d hd hx => by
    obtain ⟨h2, h3⟩ := hsol x d hd hx
    refine ha.hold (fun k hk => ?_) (fun j hj => ?_)
    · have h4 : s.den * sumN P.n (fun j => P.A k j * x j) = allV P x c * sumN P.n fun j => P.A k j * rayV P s c j := by
        rw [← sumN_mul, ← sumN_mul]
        exact sumN_congr fun j hj => by have := h2 j hj; grind
      have h5 := Int.mul_nonneg (Int.le_of_lt h3) (show 0 ≤ - sumN P.n fun j => P.A k j * rayV P s c j by have := hr2 k hk; omega)
      rw [Int.mul_neg] at h5
      rw [Int.zero_mul]
      rcases Int.lt_or_le 0 (sumN P.n fun j => P.A k j * x j) with h6 | h6
      · have := Int.mul_pos hp h6; omega
      · exact h6
    · have h4 := h2 j hj
      have h5 := Int.mul_nonneg (Int.le_of_lt h3) (hr1 j)
      rcases Int.lt_or_le (x j) 0 with h6 | h6
      · have := Int.mul_neg_of_pos_of_neg hp h6; omega
      · exact h6)
  refine ⟨r, hrm, ?_⟩
  obtain ⟨h2, h3⟩ := hsol _ _ (hc.ok r hrm).2.1 hrs
  have h4 : s.den * sumN P.n (fun j => P.c j * atI r.1 j) = allV P (atI r.1) c * sumN P.n fun j => P.c j * rayV P s c j := by
    rw [← sumN_mul, ← sumN_mul]
    exact sumN_congr fun j hj => by have := h2 j hj; grind
  have h5 := Int.mul_pos h3 hr3
  rcases Int.lt_or_le 0 (sumN P.n fun j => P.c j * atI r.1 j) with h6 | h6
  · exact h6
  · have h7 := Int.mul_nonneg (Int.le_of_lt hp) (show 0 ≤ - sumN P.n fun j => P.c j * atI r.1 j by omega)
    rw [Int.mul_neg] at h7
    omega
end
end Go.Proofs.Ytkepfmglljkjhaa.LA

set_option linter.unusedVariables false
set_option linter.unusedSimpArgs false
namespace Go.Proofs.Ytkepfmglljkjhaa.LA
/-- What the best corner and the corners of the directions say. -/
def LinVal (P : LP) (cs rs : List (List Int × Int)) (st num den : Int) : Prop :=
  (cs = [] ∧ st = 2 ∧ num = 0 ∧ den = 1) ∨
  (cs ≠ [] ∧ 0 < P.n ∧ (∃ r ∈ rs, 0 < valP P (atI r.1)) ∧ st = 3 ∧ num = 0 ∧ den = 1) ∨
  (cs ≠ [] ∧ (0 < P.n → ∀ r ∈ rs, valP P (atI r.1) ≤ 0) ∧ st = 1 ∧ (∃ c ∈ cs, num = valP P (atI c.1) ∧ den = c.2) ∧ ∀ c ∈ cs, valP P (atI c.1) * den ≤ num * c.2)
theorem value_ok {P : LP} {all all0 : List (List Int)} {one : List Int} {cs rs : List (List Int × Int)} {st num den st0 num0 den0 : Int} (ha : Alls P P.b all) (ha0 : 0 < P.n → Alls P (fun _ => 0) all0) (h1 : 0 < P.n → ∀ j, j ≤ P.n → atI one j = 1) (hc : Corners all [] P.n cs) (hr : 0 < P.n → Corners all0 [one] P.n rs) (hv : LinVal P cs rs st num den) (ho : Outcome P st0 num0 den0) :
    st = st0 ∧ (st = 1 → 0 < den ∧ num * den0 = num0 * den) := by
  have hpt : ∀ c ∈ cs, IsPt P (atI c.1) c.2 ∧ 0 < c.2 := fun c hcm => by
    obtain ⟨_, h2, _, _, h3, _⟩ := hc.ok c hcm
    exact ⟨ha.point h3, h2⟩
  have hray : 0 < P.n → ∀ r ∈ rs, 0 < valP P (atI r.1) → IsRay P (atI r.1) := fun hn r hrm hpos => by
    obtain ⟨_, h2, _, _, h3, _⟩ := (hr hn).ok r hrm
    obtain ⟨h4, h5⟩ := (ha0 hn).point h3
    exact ⟨fun k hk => by have := h4 k hk; rw [Int.zero_mul] at this; exact this, h5, hpos⟩
  rcases hv with ⟨hcs, rfl, rfl, rfl⟩ | ⟨hcs, hn, ⟨r, hrm, hpos⟩, rfl, rfl, rfl⟩ | ⟨hcs, hno, rfl, ⟨c, hcm, rfl, rfl⟩, hmax⟩
  · -- no corner
    refine ⟨?_, fun h => by omega⟩
    rcases final P with ⟨y, hy⟩ | ⟨s, hs, hna, _⟩
    · rcases ho with ⟨_, _, ⟨x, d, hd, hx, _⟩, _⟩ | ⟨h, _⟩ | ⟨_, _, _, ⟨x, d, hd, hx⟩, _⟩
      · exact (no_point hd hx hy).elim
      · exact h.symm
      · exact (no_point hd hx hy).elim
    · obtain ⟨c, hcm, _⟩ := has_corner ha hc hs hna
      rw [hcs] at hcm; cases hcm
  · refine ⟨?_, fun h => by omega⟩
    have hR := hray hn r hrm hpos
    rcases ho with ⟨_, _, _, ⟨y, e, he, hy, _⟩⟩ | ⟨_, _, _, ⟨y, hy⟩⟩ | ⟨h, _⟩
    · exact (no_ray he hR hy).elim
    · obtain ⟨c, hcm⟩ := List.exists_mem_of_ne_nil _ hcs
      exact (no_point (hpt c hcm).2 (hpt c hcm).1 hy).elim
    · exact h.symm
  · obtain ⟨hP, hd⟩ := hpt c hcm
    rcases ho with ⟨h0, hden0, ⟨x0, d0, hd0, hx0, hv0⟩, ⟨y, e, he, hy, hye⟩⟩ | ⟨_, _, _, ⟨y, hy⟩⟩ | ⟨_, _, _, ⟨x0, d0, hd0, hx0⟩, ⟨r, hr0⟩⟩
    · refine ⟨h0.symm, fun _ => ⟨hd, ?_⟩⟩
      have hO : Outcome P 1 num0 den0 := .inl ⟨rfl, hden0, ⟨x0, d0, hd0, hx0, hv0⟩, ⟨y, e, he, hy, hye⟩⟩
      have hle : valP P (atI c.1) * den0 ≤ num0 * c.2 := by
        rcases no_better hd hP hO with h2 | h2
        · exact h2.2.2
        · omega
      have hge : num0 * c.2 ≤ valP P (atI c.1) * den0 := by
        rcases final P with ⟨z, hz⟩ | ⟨s, hs, hna, hopt | ⟨v, hv, hneg, hle2⟩⟩
        · exact (no_point hd hP hz).elim
        · obtain ⟨b1, b2, b3, b4⟩ := optimal_ok hs hna hopt
          obtain ⟨c', hcm', hcs'⟩ := has_corner ha hc hs hna
          have hsp := hs.pos
          have hdu : IsDu P (fun k => s.T P.m (P.n + k)) s.den := ⟨b2, b1⟩
          have w1 := weak hx0 hdu
          have e1 : valD P (fun k => s.T P.m (P.n + k)) = s.T P.m P.last := b4
          rw [e1] at w1
          have hV : s.den * valP P (atI c'.1) = c'.2 * s.T P.m P.last := by
            rw [← b3]
            unfold valP
            rw [← sumN_mul, ← sumN_mul]
            exact sumN_congr fun j hj => by have := hcs' j hj; grind
          have hd' := (hpt c' hcm').2
          have h2 := hmax c' hcm'
          -- num0 / den0 ≤ V / s.den
          have h3 : num0 * s.den ≤ s.T P.m P.last * den0 := by
            have h4 := Int.mul_le_mul_of_nonneg_right w1 (Int.le_of_lt hden0)
            have e2 : valP P x0 * s.den * den0 = d0 * (num0 * s.den) := by
              have : valP P x0 * s.den * den0 = (valP P x0 * den0) * s.den := by grind
              rw [this, hv0]; grind
            have e3 : s.T P.m P.last * d0 * den0 = d0 * (s.T P.m P.last * den0) := by grind
            rw [e2, e3] at h4
            exact Int.le_of_mul_le_mul_left h4 hd0
          have h5 : num0 * c'.2 ≤ valP P (atI c'.1) * den0 := by
            have h6 := Int.mul_le_mul_of_nonneg_right h3 (Int.le_of_lt hd')
            have e2 : num0 * s.den * c'.2 = s.den * (num0 * c'.2) := by grind
            have e3 : s.T P.m P.last * den0 * c'.2 = s.den * (valP P (atI c'.1) * den0) := by
              have : s.T P.m P.last * den0 * c'.2 = (c'.2 * s.T P.m P.last) * den0 := by grind
              rw [this, ← hV]; grind
            rw [e2, e3] at h6
            exact Int.le_of_mul_le_mul_left h6 hsp
          have h7 := Int.mul_le_mul_of_nonneg_right h5 (Int.le_of_lt hd)
          have h8 := Int.mul_le_mul_of_nonneg_right h2 (Int.le_of_lt hden0)
          have e4 : num0 * c'.2 * c.2 = c'.2 * (num0 * c.2) := by grind
          have e5 : valP P (atI c'.1) * den0 * c.2 = valP P (atI c'.1) * c.2 * den0 := by grind
          have e6 : valP P (atI c.1) * c'.2 * den0 = c'.2 * (valP P (atI c.1) * den0) := by grind
          have h9 : c'.2 * (num0 * c.2) ≤ c'.2 * (valP P (atI c.1) * den0) := by omega
          exact Int.le_of_mul_le_mul_left h9 hd'
        · obtain ⟨r1, r2, r3⟩ := ray_ok hs hna hv hneg hle2
          exact (no_ray he (r := rayV P s v) ⟨r2, fun j _ => r1 j, r3⟩ hy).elim
      omega
    · exact (no_point hd hP hy).elim
    · exfalso
      rcases final P with ⟨z, hz⟩ | ⟨s, hs, hna, hopt | ⟨v, hv, hneg, hle2⟩⟩
      · exact no_point hd hP hz
      · obtain ⟨b1, b2, b3, b4⟩ := optimal_ok hs hna hopt
        exact no_ray hs.pos hr0 (y := fun k => s.T P.m (P.n + k)) ⟨b2, b1⟩
      · have hn : 0 < P.n := by
          rcases Nat.eq_zero_or_pos P.n with h | h
          · have h2 := hr0.2.2
            rw [h] at h2
            exact absurd h2 (by simp [sumN])
          · exact h
        obtain ⟨r', hrm, hpos⟩ := has_ray (ha0 hn) (h1 hn) (hr hn) hs hna hv hneg hle2
        have := hno hn r' hrm
        have h3 : 0 < valP P (atI r'.1) := hpos
        omega
end Go.Proofs.Ytkepfmglljkjhaa.LA
