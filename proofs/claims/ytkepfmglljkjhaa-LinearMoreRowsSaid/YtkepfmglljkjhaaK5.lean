/-
  What the last tableau shows.
  Duality of linear programs.
-/
import Derived.Test.YtkepfmglljkjhaaK1
set_option linter.unusedVariables false
set_option linter.unusedSimpArgs false
namespace Go.Proofs.Ytkepfmglljkjhaa.LA
section
variable {P : LP} {o lim : Nat} {g : Nat → Int}
theorem Enters.uniq {s : St} {c c' : Nat} (h : Enters o lim s c) (h' : Enters o lim s c') : c = c' := by
  rcases Nat.lt_trichotomy c c' with h1 | h1 | h1
  · have := h'.2.2 c h1; have := h.2.1; omega
  · exact h1
  · have := h.2.2 c' h1; have := h'.2.1; omega
theorem Leaves.uniq {s : St} (hs : Ok P s) {c r r' : Nat} (h : Leaves P s c r) (h' : Leaves P s c r') : r = r' := by
  have h1 := h.2.2 r' h'.1 h'.2.1
  have h2 := h'.2.2 r h.1 h.2.1
  have e : s.bs r = s.bs r' := by omega
  exact hs.inj h.1 h'.1 e
theorem Step.uniq {s s' s2 : St} (hs : Ok P s) (h : Step P o lim s s') (h' : Step P o lim s s2) : s' = s2 := by
  obtain ⟨c, r, a1, a2, rfl⟩ := h
  obtain ⟨c', r', b1, b2, rfl⟩ := h'
  obtain rfl := a1.uniq b1
  obtain rfl := a2.uniq hs b2
  rfl
/-- The steps from a state, and how many there are. -/
theorem steps (ho : Obj P o lim g) {s : St} (h : Ok P s) : ∃ (k : Nat) (f : Nat → St), f 0 = s ∧ (∀ i, i ≤ k → Ok P (f i)) ∧ (∀ i, i < k → Step P o lim (f i) (f (i + 1))) ∧ ∀ i, i ≤ k → ∀ s', Step P o lim (f i) s' → i < k ∧ f (i + 1) = s' := by
  let next : St → Option St := fun s => @dite _ (∃ s', Step P o lim s s') (Classical.propDecidable _) (fun h => some h.choose) (fun _ => none)
  have hn : ∀ s s', next s = some s' → Step P o lim s s' := fun s s' e => by
    by_cases hx : ∃ s', Step P o lim s s'
    · have e2 : next s = some hx.choose := dif_pos hx
      rw [e2] at e
      injection e with e
      rw [← e]; exact hx.choose_spec
    · have e2 : next s = none := dif_neg hx
      rw [e2] at e; cases e
  obtain ⟨k, f, h0, h1, h2, h3⟩ := ends next ho (fun s s' _ e => hn s s' e) h
  refine ⟨k, f, h0, h3, fun i hi => hn _ _ (h1 i hi), fun i hi s' hs => ?_⟩
  have hik : i < k := by
    rcases Nat.lt_or_ge i k with h4 | h4
    · exact h4
    · obtain rfl : i = k := by omega
      have hx : ∃ s', Step P o lim (f i) s' := ⟨s', hs⟩
      have e2 : next (f i) = some hx.choose := dif_pos hx
      rw [e2] at h2; cases h2
  exact ⟨hik, (hn _ _ (h1 i hik)).uniq (h3 i hi) hs⟩
end
/-! ### The first phase -/
theorem Ok.plain {P : LP} (h : ∀ i, i < P.m → 0 ≤ P.b i) : Ok P ⟨fun i => P.n + i, P.T0, 1⟩ :=
  { Tabl.start P with rhs := fun i hi => by show 0 ≤ P.T0 i P.last; unfold LP.T0; rw [if_pos hi, t0_last]; exact h i hi }
theorem Ok.first {P : LP} {low : Nat} (hl : low < P.m) (hneg : P.b low < 0) (hmin : ∀ i, i < P.m → P.b low ≤ P.b i) :
    Ok P (St.piv ⟨fun i => P.n + i, P.T0, 1⟩ low (P.n + P.m)) := by
  have ha : ∀ i, i < P.m → P.T0 i (P.n + P.m) = -1 := fun i hi => by unfold LP.T0; rw [if_pos hi, t0_art]
  have hb : ∀ i, i < P.m → P.T0 i P.last = P.b i := fun i hi => by unfold LP.T0; rw [if_pos hi, t0_last]
  refine { (Tabl.start P).pivot hl (Nat.le_refl _) (by rw [ha low hl]; omega) with rhs := fun i hi => ?_ }
  show 0 ≤ pivT P.T0 1 low (P.n + P.m) i P.last
  unfold pivT
  rw [ha low hl, if_pos (by omega)]
  unfold pivQ
  by_cases e : i = low
  · subst e; rw [if_pos rfl, hb i hi]; omega
  · rw [if_neg e, ha low hl, ha i hi, hb i hi, hb low hl, Int.tdiv_one]
    have := hmin i hi
    omega
section
variable {P : LP} {s : St}
/-- The first phase is not unbounded. -/
theorem art_bounded (h : Ok P s) {c : Nat} (hc : c < P.N) (hle : ∀ i, i < P.m → s.T i c ≤ 0) : 0 ≤ s.T (P.m + 1) c := by
  rw [h.art c hc]
  unfold LP.obj
  have h1 : 0 ≤ s.den * P.g1 c := Int.mul_nonneg (Int.le_of_lt h.pos) (by unfold LP.g1; split <;> omega)
  have h2 : (sumN P.m fun i => P.g1 (s.bs i) * s.T i c) ≤ sumN P.m fun _ => 0 := sumN_le fun i hi => by
    have h3 := hle i hi
    unfold LP.g1
    split <;> omega
  rw [sumN_zero] at h2
  omega
/-- The bounds of rows of the artificial variable. -/
theorem art_zero (h : Ok P s) (hl : 0 ≤ s.T (P.m + 1) P.last) {i : Nat} (hi : i < P.m) (hb : s.bs i = P.n + P.m) : s.T i P.last = 0 := by
  rw [h.art _ (last_lt P)] at hl
  unfold LP.obj at hl
  have e : P.g1 P.last = 0 := by unfold LP.g1 LP.last; rw [if_neg (by omega)]
  rw [e, sumN_split (k := i) _ hi, hb] at hl
  have e2 : P.g1 (P.n + P.m) = 1 := by unfold LP.g1; rw [if_pos rfl]
  rw [e2] at hl
  have h1 := h.rhs i hi
  have h2 : 0 ≤ sumN P.m fun k => if k = i then 0 else P.g1 (s.bs k) * s.T k P.last := sumN_nonneg fun k hk => by
    split
    · omega
    · refine Int.mul_nonneg ?_ (h.rhs k hk)
      unfold LP.g1; split <;> omega
  omega
/-- A row of the artificial variable has another entry that is not 0. -/
theorem art_row (h : Ok P s) {r : Nat} (hr : r < P.m) (hb : s.bs r = P.n + P.m) : ∃ c, c < P.n + P.m ∧ s.T r c ≠ 0 := by
  refine Classical.byContradiction fun hno => ?_
  have h0 : ∀ k, k < P.m → s.T r (P.n + k) = 0 := fun k hk => Classical.byContradiction fun h1 => hno ⟨P.n + k, by omega, h1⟩
  have h1 := h.row hr (show P.n + P.m < P.N by unfold LP.N; omega)
  rw [sumN_eq_zero fun k hk => by rw [h0 k hk]; simp] at h1
  have h2 := h.at_basis hr hr
  rw [hb, if_pos rfl, h1] at h2
  have := h.pos
  omega
/-- The artificial variable leaves. -/
theorem Ok.drive (h : Ok P s) {r c : Nat} (hr : r < P.m) (hz : s.T r P.last = 0) (hc : c < P.n + P.m) (hne : s.T r c ≠ 0) : Ok P (s.piv r c) := by
  refine { h.toTabl.pivot hr (by omega) hne with rhs := fun i hi => ?_ }
  show 0 ≤ pivT s.T s.den r c i P.last
  have hcN : c < P.N := by unfold LP.N; omega
  unfold pivT
  by_cases e : i = r
  · subst e
    unfold pivQ
    rw [if_pos rfl, hz]
    split <;> omega
  · have h1 := h.toTabl.exact_div hr hcN (by omega : i < P.m + 2) e (last_lt P)
    rw [hz, Int.mul_zero, Int.sub_zero] at h1
    have h2 := h.rhs i hi
    have hp := h.pos
    split
    · next hn =>
      have h3 := Int.mul_nonneg h2 (show 0 ≤ - s.T r c by omega)
      rw [Int.mul_neg, ← h1, ← Int.mul_neg] at h3
      rcases Int.lt_or_le (- pivQ s.T s.den r c i P.last) 0 with h4 | h4
      · have := Int.mul_neg_of_pos_of_neg hp h4; omega
      · exact h4
    · next hn =>
      have h3 := Int.mul_nonneg h2 (show 0 ≤ s.T r c by omega)
      rw [← h1] at h3
      rcases Int.lt_or_le (pivQ s.T s.den r c i P.last) 0 with h4 | h4
      · have := Int.mul_neg_of_pos_of_neg hp h4; omega
      · exact h4
/-- No artificial variable in the basis. -/
def NoArt (P : LP) (s : St) : Prop := ∀ i, i < P.m → s.bs i < P.n + P.m
theorem NoArt.step {lim o : Nat} {s' : St} (h : NoArt P s) (hl : lim ≤ P.n + P.m) (hs : Step P o lim s s') : NoArt P s' := by
  obtain ⟨c, r, he, _, rfl⟩ := hs
  intro i hi
  show pivB s.bs r c i < _
  unfold pivB
  split
  · have := he.1; omega
  · exact h i hi
/-! ### The results -/
/-- The values of the variables in a column. -/
def ptV (P : LP) (s : St) (col : Nat) (j : Nat) : Int := sumN P.m fun i => if s.bs i = j then s.T i col else 0
theorem pt_at (h : Tabl P s.bs s.T s.den) (col : Nat) {i : Nat} (hi : i < P.m) : ptV P s col (s.bs i) = s.T i col := by
  unfold ptV
  rw [sumN_one (k := i) _ hi fun k hk hne => if_neg fun e => hne (h.inj hk hi e), if_pos rfl]
theorem pt_out (col : Nat) {j : Nat} (h : ∀ i, i < P.m → s.bs i ≠ j) : ptV P s col j = 0 := sumN_eq_zero fun i hi => if_neg (h i hi)
/-- A sum over the basis as a sum over the variables. -/
theorem sum_basis (P : LP) (s : St) (col : Nat) (f : Nat → Int) : sumN P.n (fun j => f j * ptV P s col j) = sumN P.m fun i => if s.bs i < P.n then f (s.bs i) * s.T i col else 0 := by
  have e1 : sumN P.n (fun j => f j * ptV P s col j) = sumN P.n fun j => sumN P.m fun i => if s.bs i = j then f j * s.T i col else 0 := sumN_congr fun j _ => by
    unfold ptV
    rw [← sumN_mul]
    exact sumN_congr fun i _ => by split <;> simp
  rw [e1, sumN_swap]
  refine sumN_congr fun i hi => ?_
  by_cases h : s.bs i < P.n
  · rw [if_pos h, sumN_one (k := s.bs i) _ h fun j _ hne => if_neg (Ne.symm hne), if_pos rfl]
  · rw [if_neg h]; exact sumN_eq_zero fun j hj => if_neg (by omega)
/-- The rows of a column. -/
theorem column_rows (h : Tabl P s.bs s.T s.den) (hno : NoArt P s) {col k : Nat} (hc : col < P.N) (hk : k < P.m) :
    s.den * P.t0 k col = sumN P.n (fun j => P.A k j * ptV P s col j) + ptV P s col (P.n + k) := by
  rw [h.column hk hc, sum_basis]
  unfold ptV
  rw [← sumN_add]
  refine sumN_congr fun i hi => ?_
  have hb := hno i hi
  by_cases h1 : s.bs i < P.n
  · rw [if_pos h1, t0_var P h1, if_neg (by omega)]; grind
  · obtain ⟨q, hq⟩ : ∃ q, s.bs i = P.n + q := ⟨s.bs i - P.n, by omega⟩
    rw [if_neg h1, hq, t0_slack P (by omega)]
    by_cases e : q = k
    · rw [if_pos e, if_pos (by omega)]; simp
    · rw [if_neg e, if_neg (by omega)]; simp
theorem goal_col (h : Tabl P s.bs s.T s.den) {col : Nat} (hc : col < P.N) : s.T P.m col = s.den * P.g0 col + sumN P.n fun j => P.c j * ptV P s col j := by
  rw [h.goal col hc, sum_basis]
  unfold LP.obj
  have e : (sumN P.m fun i => if s.bs i < P.n then P.c (s.bs i) * s.T i col else 0) = - sumN P.m fun i => P.g0 (s.bs i) * s.T i col := by
    rw [← sumN_neg]
    refine sumN_congr fun i _ => ?_
    unfold LP.g0
    split
    · grind
    · simp
  rw [e]; omega
/-- The point of a tableau. -/
theorem point_ok (h : Ok P s) (hno : NoArt P s) : (∀ j, 0 ≤ ptV P s P.last j) ∧ ∀ k, k < P.m → sumN P.n (fun j => P.A k j * ptV P s P.last j) ≤ P.b k * s.den := by
  have hn : ∀ j, 0 ≤ ptV P s P.last j := fun j => sumN_nonneg fun i hi => by
    split
    · exact h.rhs i hi
    · omega
  refine ⟨hn, fun k hk => ?_⟩
  have h1 := column_rows h.toTabl hno (last_lt P) hk
  rw [t0_last] at h1
  have h2 := hn (P.n + k)
  have e : P.b k * s.den = s.den * P.b k := Int.mul_comm _ _
  omega
/-- The best value, and what proves it. -/
theorem optimal_ok (h : Ok P s) (hno : NoArt P s) (hopt : ∀ j, j < P.n + P.m → 0 ≤ s.T P.m j) :
    (∀ k, k < P.m → 0 ≤ s.T P.m (P.n + k)) ∧ (∀ j, j < P.n → P.c j * s.den ≤ sumN P.m fun k => P.A k j * s.T P.m (P.n + k)) ∧
    sumN P.n (fun j => P.c j * ptV P s P.last j) = s.T P.m P.last ∧ sumN P.m (fun k => P.b k * s.T P.m (P.n + k)) = s.T P.m P.last := by
  have hrow : ∀ j, j < P.N → s.T P.m j = s.den * P.g0 j + sumN P.m fun k => P.t0 k j * s.T P.m (P.n + k) := fun j hj => by
    have h1 := h.obj_row (g := P.g0) (fun k _ => g0_slack P k) hj
    rw [← h.goal j hj] at h1
    rw [h1]
    congr 1
    exact sumN_congr fun k hk => by rw [h.goal _ (by unfold LP.N; omega)]
  have hgl : P.g0 P.last = 0 := by unfold LP.g0 LP.last; rw [if_neg (by omega)]
  refine ⟨fun k hk => hopt _ (by omega), fun j hj => ?_, ?_, ?_⟩
  · have h1 := hopt j (by omega)
    have h2 := hrow j (by unfold LP.N; omega)
    have h3 : P.g0 j = - P.c j := by unfold LP.g0; rw [if_pos hj]
    have h4 : (sumN P.m fun k => P.t0 k j * s.T P.m (P.n + k)) = sumN P.m fun k => P.A k j * s.T P.m (P.n + k) := sumN_congr fun k _ => by rw [t0_var P hj]
    rw [h3, h4] at h2
    have e : s.den * - P.c j = - (P.c j * s.den) := by grind
    omega
  · have h1 := goal_col h.toTabl (last_lt P)
    rw [hgl] at h1
    omega
  · have h1 := hrow P.last (last_lt P)
    rw [hgl] at h1
    have h4 : (sumN P.m fun k => P.t0 k P.last * s.T P.m (P.n + k)) = sumN P.m fun k => P.b k * s.T P.m (P.n + k) := sumN_congr fun k _ => by rw [t0_last]
    omega
/-- The direction of a column in which the value is not bounded. -/
def rayV (P : LP) (s : St) (c j : Nat) : Int := if j = c then s.den else - ptV P s c j
theorem ray_ok (h : Ok P s) (hno : NoArt P s) {c : Nat} (hc : c < P.n + P.m) (hneg : s.T P.m c < 0) (hle : ∀ i, i < P.m → s.T i c ≤ 0) :
    (∀ j, 0 ≤ rayV P s c j) ∧ (∀ k, k < P.m → sumN P.n (fun j => P.A k j * rayV P s c j) ≤ 0) ∧ 0 < sumN P.n fun j => P.c j * rayV P s c j := by
  have hcN : c < P.N := by unfold LP.N; omega
  have hp := h.pos
  have hpt : ∀ j, ptV P s c j ≤ 0 := fun j => by
    have : ptV P s c j ≤ sumN P.m fun _ => 0 := sumN_le fun i hi => by
      split
      · exact hle i hi
      · omega
    rw [sumN_zero] at this; exact this
  have hout : ∀ i, i < P.m → s.bs i ≠ c := fun i hi e => by
    have h1 := h.obj_basis P.g0 hi
    rw [← h.goal _ (by have := h.bas i hi; unfold LP.N; omega), e] at h1
    omega
  have hsum : ∀ f : Nat → Int, sumN P.n (fun j => f j * rayV P s c j) = (if c < P.n then f c * s.den else 0) - sumN P.n fun j => f j * ptV P s c j := fun f => by
    by_cases hcn : c < P.n
    · rw [if_pos hcn, sumN_split (k := c) (fun j => f j * rayV P s c j) hcn, sumN_split (k := c) (fun j => f j * ptV P s c j) hcn]
      have e1 : rayV P s c c = s.den := by unfold rayV; rw [if_pos rfl]
      have e2 : ptV P s c c = 0 := pt_out c hout
      have e3 : (sumN P.n fun j => if j = c then 0 else f j * rayV P s c j) = - sumN P.n fun j => if j = c then 0 else f j * ptV P s c j := by
        rw [← sumN_neg]
        refine sumN_congr fun j _ => ?_
        by_cases e : j = c
        · simp [e]
        · rw [if_neg e, if_neg e]; unfold rayV; rw [if_neg e]; grind
      rw [e1, e2, e3]; grind
    · rw [if_neg hcn]
      have e3 : (sumN P.n fun j => f j * rayV P s c j) = - sumN P.n fun j => f j * ptV P s c j := by
        rw [← sumN_neg]
        refine sumN_congr fun j hj => ?_
        unfold rayV; rw [if_neg (by omega)]; grind
      rw [e3]; omega
  refine ⟨fun j => ?_, fun k hk => ?_, ?_⟩
  · unfold rayV
    have := hpt j
    split <;> omega
  · rw [hsum]
    have h1 := column_rows h.toTabl hno hcN hk
    have h2 := hpt (P.n + k)
    by_cases hcn : c < P.n
    · rw [if_pos hcn]
      rw [t0_var P hcn] at h1
      have e : P.A k c * s.den = s.den * P.A k c := Int.mul_comm _ _
      omega
    · rw [if_neg hcn]
      obtain ⟨q, rfl⟩ : ∃ q, c = P.n + q := ⟨c - P.n, by omega⟩
      rw [t0_slack P (by omega)] at h1
      have : 0 ≤ s.den * (if q = k then 1 else 0 : Int) := Int.mul_nonneg (Int.le_of_lt hp) (by split <;> omega)
      omega
  · rw [hsum]
    have h1 := goal_col h.toTabl hcN
    by_cases hcn : c < P.n
    · rw [if_pos hcn]
      have e1 : P.g0 c = - P.c c := by unfold LP.g0; rw [if_pos hcn]
      rw [e1] at h1
      have e : s.den * - P.c c = - (P.c c * s.den) := by grind
      omega
    · rw [if_neg hcn]
      have e1 : P.g0 c = 0 := by unfold LP.g0; rw [if_neg hcn]
      rw [e1] at h1
      omega
/-- What shows that there is no point. -/
theorem refuted_ok (h : Ok P s) (hopt : ∀ j, j < P.n + P.m + 1 → 0 ≤ s.T (P.m + 1) j) (hneg : s.T (P.m + 1) P.last < 0) :
    (∀ k, k < P.m → 0 ≤ s.T (P.m + 1) (P.n + k)) ∧ (∀ j, j < P.n → 0 ≤ sumN P.m fun k => P.A k j * s.T (P.m + 1) (P.n + k)) ∧ sumN P.m (fun k => P.b k * s.T (P.m + 1) (P.n + k)) < 0 := by
  have hrow : ∀ j, j < P.N → s.T (P.m + 1) j = s.den * P.g1 j + sumN P.m fun k => P.t0 k j * s.T (P.m + 1) (P.n + k) := fun j hj => by
    have h1 := h.obj_row (g := P.g1) (fun k hk => g1_slack P hk) hj
    rw [← h.art j hj] at h1
    rw [h1]
    congr 1
    exact sumN_congr fun k hk => by rw [h.art _ (by unfold LP.N; omega)]
  refine ⟨fun k hk => hopt _ (by omega), fun j hj => ?_, ?_⟩
  · have h1 := hopt j (by omega)
    have h2 := hrow j (by unfold LP.N; omega)
    have h3 : P.g1 j = 0 := by unfold LP.g1; rw [if_neg (by omega)]
    have h4 : (sumN P.m fun k => P.t0 k j * s.T (P.m + 1) (P.n + k)) = sumN P.m fun k => P.A k j * s.T (P.m + 1) (P.n + k) := sumN_congr fun k _ => by rw [t0_var P hj]
    rw [h3, h4] at h2
    omega
  · have h1 := hrow P.last (last_lt P)
    have h3 : P.g1 P.last = 0 := by unfold LP.g1 LP.last; rw [if_neg (by omega)]
    have h4 : (sumN P.m fun k => P.t0 k P.last * s.T (P.m + 1) (P.n + k)) = sumN P.m fun k => P.b k * s.T (P.m + 1) (P.n + k) := sumN_congr fun k _ => by rw [t0_last]
    rw [h3, h4] at h1
    omega
end
end Go.Proofs.Ytkepfmglljkjhaa.LA

set_option linter.unusedVariables false
set_option linter.unusedSimpArgs false
namespace Go.Proofs.Ytkepfmglljkjhaa.LA
/-! ### Points, dual solutions, directions -/
def IsPt (P : LP) (x : Nat → Int) (d : Int) : Prop := (∀ k, k < P.m → sumN P.n (fun j => P.A k j * x j) ≤ P.b k * d) ∧ ∀ j, j < P.n → 0 ≤ x j
def IsDu (P : LP) (y : Nat → Int) (e : Int) : Prop := (∀ j, j < P.n → P.c j * e ≤ sumN P.m fun k => P.A k j * y k) ∧ ∀ k, k < P.m → 0 ≤ y k
def IsRef (P : LP) (y : Nat → Int) : Prop := (∀ j, j < P.n → 0 ≤ sumN P.m fun k => P.A k j * y k) ∧ (∀ k, k < P.m → 0 ≤ y k) ∧ sumN P.m (fun k => P.b k * y k) < 0
def IsRay (P : LP) (d : Nat → Int) : Prop := (∀ k, k < P.m → sumN P.n (fun j => P.A k j * d j) ≤ 0) ∧ (∀ j, j < P.n → 0 ≤ d j) ∧ 0 < sumN P.n fun j => P.c j * d j
def valP (P : LP) (x : Nat → Int) : Int := sumN P.n fun j => P.c j * x j
def valD (P : LP) (y : Nat → Int) : Int := sumN P.m fun k => P.b k * y k
section
variable {P : LP}
theorem swap_sum (P : LP) (x y : Nat → Int) : sumN P.n (fun j => x j * sumN P.m fun k => P.A k j * y k) = sumN P.m fun k => y k * sumN P.n fun j => P.A k j * x j := by
  have e : sumN P.n (fun j => x j * sumN P.m fun k => P.A k j * y k) = sumN P.n fun j => sumN P.m fun k => x j * (P.A k j * y k) := sumN_congr fun j _ => by rw [sumN_mul]
  rw [e, sumN_swap]
  refine sumN_congr fun k _ => ?_
  rw [← sumN_mul]
  exact sumN_congr fun j _ => by grind
theorem weak {x y : Nat → Int} {d e : Int} (hx : IsPt P x d) (hy : IsDu P y e) : valP P x * e ≤ valD P y * d := by
  have h1 : valP P x * e = sumN P.n fun j => x j * (P.c j * e) := by
    unfold valP; rw [← sumN_mul_right]; exact sumN_congr fun j _ => by grind
  have h2 : (sumN P.n fun j => x j * (P.c j * e)) ≤ sumN P.n fun j => x j * sumN P.m fun k => P.A k j * y k := sumN_le fun j hj => Int.mul_le_mul_of_nonneg_left (hy.1 j hj) (hx.2 j hj)
  have h3 : (sumN P.m fun k => y k * sumN P.n fun j => P.A k j * x j) ≤ sumN P.m fun k => y k * (P.b k * d) := sumN_le fun k hk => Int.mul_le_mul_of_nonneg_left (hx.1 k hk) (hy.2 k hk)
  have h4 : valD P y * d = sumN P.m fun k => y k * (P.b k * d) := by
    unfold valD; rw [← sumN_mul_right]; exact sumN_congr fun j _ => by grind
  rw [swap_sum] at h2
  omega
theorem no_point {x y : Nat → Int} {d : Int} (hd : 0 < d) (hx : IsPt P x d) (hy : IsRef P y) : False := by
  have h2 : 0 ≤ sumN P.n fun j => x j * sumN P.m fun k => P.A k j * y k := sumN_nonneg fun j hj => Int.mul_nonneg (hx.2 j hj) (hy.1 j hj)
  have h3 : (sumN P.m fun k => y k * sumN P.n fun j => P.A k j * x j) ≤ sumN P.m fun k => y k * (P.b k * d) := sumN_le fun k hk => Int.mul_le_mul_of_nonneg_left (hx.1 k hk) (hy.2.1 k hk)
  have h4 : (sumN P.m fun k => y k * (P.b k * d)) = (sumN P.m fun k => P.b k * y k) * d := by
    rw [← sumN_mul_right]; exact sumN_congr fun j _ => by grind
  rw [swap_sum] at h2
  have h5 := Int.mul_neg_of_neg_of_pos hy.2.2 hd
  omega
theorem no_ray {r y : Nat → Int} {e : Int} (he : 0 < e) (hr : IsRay P r) (hy : IsDu P y e) : False := by
  have h1 : (sumN P.n fun j => P.c j * r j) * e = sumN P.n fun j => r j * (P.c j * e) := by
    rw [← sumN_mul_right]; exact sumN_congr fun j _ => by grind
  have h2 : (sumN P.n fun j => r j * (P.c j * e)) ≤ sumN P.n fun j => r j * sumN P.m fun k => P.A k j * y k := sumN_le fun j hj => Int.mul_le_mul_of_nonneg_left (hy.1 j hj) (hr.2.1 j hj)
  have h3 : (sumN P.m fun k => y k * sumN P.n fun j => P.A k j * r j) ≤ sumN P.m fun _ => 0 := sumN_le fun k hk => by
    have := Int.mul_nonneg (hy.2 k hk) (show 0 ≤ - sumN P.n fun j => P.A k j * r j by have := hr.1 k hk; omega)
    rw [Int.mul_neg] at this
    omega
  rw [sumN_zero] at h3
  rw [swap_sum] at h2
  have h5 := Int.mul_pos hr.2.2 he
  omega
end
/-- The outcome of a program: 1: the best value num/den; 2: no point; 3: not bounded. -/
def Outcome (P : LP) (status num den : Int) : Prop :=
  (status = 1 ∧ 0 < den ∧ (∃ x d, 0 < d ∧ IsPt P x d ∧ valP P x * den = num * d) ∧ ∃ y e, 0 < e ∧ IsDu P y e ∧ valD P y * den = num * e) ∨
  (status = 2 ∧ num = 0 ∧ den = 0 ∧ ∃ y, IsRef P y) ∨
  (status = 3 ∧ num = 0 ∧ den = 0 ∧ (∃ x d, 0 < d ∧ IsPt P x d) ∧ ∃ r, IsRay P r)
/-- The dual program. -/
def LP.dual (P : LP) : LP := ⟨P.n, P.m, fun j k => - P.A k j, fun j => - P.c j, fun k => - P.b k⟩
section
variable {P Q : LP} {s s' num num' den den' : Int}
/-- Of two best values that bound each other. -/
theorem le_of_points {a d b e num den num' den' : Int} (hd : 0 < d) (he : 0 < e) (hden : 0 < den) (hden' : 0 < den') (h1 : a * den = num * d) (h2 : b * den' = num' * e) (h : a * e ≤ b * d) : num * den' ≤ num' * den := by
  have h3 := Int.mul_le_mul_of_nonneg_right h (Int.le_of_lt (Int.mul_pos hden hden'))
  have e1 : a * e * (den * den') = (d * e) * (num * den') := by
    have : a * e * (den * den') = (a * den) * (e * den') := by grind
    rw [this, h1]; grind
  have e2 : b * d * (den * den') = (d * e) * (num' * den) := by
    have : b * d * (den * den') = (b * den') * (d * den) := by grind
    rw [this, h2]; grind
  rw [e1, e2] at h3
  exact Int.le_of_mul_le_mul_left h3 (Int.mul_pos hd he)
/-- A program whose points are all points of another one, with the same values. -/
structure Part (Q P : LP) : Prop where
  n : Q.n = P.n
  c : ∀ j, j < P.n → Q.c j = P.c j
  pt : ∀ x d, IsPt Q x d → IsPt P x d
  ray : ∀ r, IsRay Q r → IsRay P r
theorem Part.val (h : Part Q P) (x : Nat → Int) : valP Q x = valP P x := by
  unfold valP; rw [h.n]; exact sumN_congr fun j hj => by rw [h.c j hj]
theorem part_outcome (hp : Part Q P) (h : Outcome P s num den) (h' : Outcome Q s' num' den') :
    (s = 1 → s' = 2 ∨ (s' = 1 ∧ 0 < den ∧ 0 < den' ∧ num' * den ≤ num * den')) ∧ (s = 2 → s' = 2) ∧ s' ≠ 0 := by
  refine ⟨fun e1 => ?_, fun e1 => ?_, ?_⟩
  · rcases h with ⟨_, hd, _, y, e, he0, hy, hyv⟩ | ⟨e2, _⟩ | ⟨e2, _⟩
    · rcases h' with ⟨e3, hd', ⟨x', d', hd0', hx', hxv'⟩, _⟩ | ⟨e3, _⟩ | ⟨e3, _, _, _, r, hr⟩
      · refine .inr ⟨e3, hd, hd', ?_⟩
        have w1 := weak (hp.pt _ _ hx') hy
        rw [hp.val] at hxv'
        exact le_of_points hd0' he0 hd' hd hxv' hyv w1
      · exact .inl e3
      · exact absurd hr fun hr => no_ray he0 (hp.ray r hr) hy
    · omega
    · omega
  · rcases h with ⟨e2, _⟩ | ⟨_, _, _, z, hz⟩ | ⟨e2, _⟩
    · omega
    · rcases h' with ⟨e3, hd', ⟨x', d', hd0', hx', hxv'⟩, _⟩ | ⟨e3, _⟩ | ⟨e3, _, _, ⟨x', d', hd0', hx'⟩, _⟩
      · exact absurd hz fun hz => no_point hd0' (hp.pt _ _ hx') hz
      · exact e3
      · exact absurd hz fun hz => no_point hd0' (hp.pt _ _ hx') hz
    · omega
  · rcases h' with ⟨e3, _⟩ | ⟨e3, _⟩ | ⟨e3, _⟩ <;> omega
/-- Two programs with the same points. -/
theorem same_outcome (hp : Part Q P) (hq : Part P Q) (h : Outcome P s num den) (h' : Outcome Q s' num' den') : s = s' ∧ num' * den = num * den' := by
  obtain ⟨a1, a2, a3⟩ := part_outcome hp h h'
  obtain ⟨b1, b2, b3⟩ := part_outcome hq h' h
  have hs : s = 1 ∨ s = 2 ∨ s = 3 := by rcases h with ⟨e, _⟩ | ⟨e, _⟩ | ⟨e, _⟩ <;> omega
  have hs' : s' = 1 ∨ s' = 2 ∨ s' = 3 := by rcases h' with ⟨e, _⟩ | ⟨e, _⟩ | ⟨e, _⟩ <;> omega
  have key : s = s' := by
    rcases hs with e | e | e <;> rcases hs' with e' | e' | e'
    · omega
    · have := b2 e'; omega
    · rcases a1 e with h1 | ⟨h1, _⟩ <;> omega
    · have := a2 e; omega
    · omega
    · have := a2 e; omega
    · rcases b1 e' with h1 | ⟨h1, _⟩ <;> omega
    · have := b2 e'; omega
    · omega
  refine ⟨key, ?_⟩
  subst key
  rcases hs with e | e | e
  · rcases a1 e with h1 | ⟨_, _, _, h1⟩
    · omega
    · rcases b1 e with h2 | ⟨_, _, _, h2⟩
      · omega
      · omega
  · rcases h with ⟨e1, _⟩ | ⟨_, rfl, rfl, _⟩ | ⟨e1, _⟩
    · omega
    · rcases h' with ⟨e1, _⟩ | ⟨_, rfl, rfl, _⟩ | ⟨e1, _⟩
      · omega
      · rfl
      · omega
    · omega
  · rcases h with ⟨e1, _⟩ | ⟨e1, _⟩ | ⟨_, rfl, rfl, _⟩
    · omega
    · omega
    · rcases h' with ⟨e1, _⟩ | ⟨e1, _⟩ | ⟨_, rfl, rfl, _⟩
      · omega
      · omega
      · rfl
end
end Go.Proofs.Ytkepfmglljkjhaa.LA
