/-
  What the last tableau shows.
-/
import Derived.Test.YtkepfmglljkjhaaLa7
set_option linter.unusedVariables false
set_option linter.unusedSimpArgs false
namespace Go.Proofs.Ytkepfmglljkjhaa.LA
section
variable {P : LP} {o lim : Nat} {g : Nat → Int}
theorem Enters.uniq {s : St} {c c' : Nat} (h : Enters o lim s c) (h' : Enters o lim s c') : c = c' := by
  rcases Nat.lt_trichotomy c c' with h1 | h1 | h1
  · have := h'.2.2 c h1; have := h.2.1; omega
  · exact h1
  · have := h.2.2 c' h1; have := h'.2.1; omega
theorem Leaves.uniq {s : St} (hs : Ok P s) {c r r' : Nat} (h : Leaves P s c r) (h' : Leaves P s c r') : r = r' := by
  have h1 := h.2.2 r' h'.1 h'.2.1
  have h2 := h'.2.2 r h.1 h.2.1
  have e : s.bs r = s.bs r' := by omega
  exact hs.inj h.1 h'.1 e
theorem Step.uniq {s s' s2 : St} (hs : Ok P s) (h : Step P o lim s s') (h' : Step P o lim s s2) : s' = s2 := by
  obtain ⟨c, r, a1, a2, rfl⟩ := h
  obtain ⟨c', r', b1, b2, rfl⟩ := h'
  obtain rfl := a1.uniq b1
  obtain rfl := a2.uniq hs b2
  rfl
/-- The steps from a state, and how many there are. -/
theorem steps (ho : Obj P o lim g) {s : St} (h : Ok P s) : ∃ (k : Nat) (f : Nat → St), f 0 = s ∧ (∀ i, i ≤ k → Ok P (f i)) ∧ (∀ i, i < k → Step P o lim (f i) (f (i + 1))) ∧ ∀ i, i ≤ k → ∀ s', Step P o lim (f i) s' → i < k ∧ f (i + 1) = s' := by
  let next : St → Option St := fun s => @dite _ (∃ s', Step P o lim s s') (Classical.propDecidable _) (fun h => some h.choose) (fun _ => none)
  have hn : ∀ s s', next s = some s' → Step P o lim s s' := fun s s' e => by
    by_cases hx : ∃ s', Step P o lim s s'
    · have e2 : next s = some hx.choose := dif_pos hx
      rw [e2] at e
      injection e with e
      rw [← e]; exact hx.choose_spec
    · have e2 : next s = none := dif_neg hx
      rw [e2] at e; cases e
  obtain ⟨k, f, h0, h1, h2, h3⟩ := ends next ho (fun s s' _ e => hn s s' e) h
  refine ⟨k, f, h0, h3, fun i hi => hn _ _ (h1 i hi), fun i hi s' hs => ?_⟩
  have hik : i < k := by
    rcases Nat.lt_or_ge i k with h4 | h4
    · exact h4
    · obtain rfl : i = k := by omega
      have hx : ∃ s', Step P o lim (f i) s' := ⟨s', hs⟩
      have e2 : next (f i) = some hx.choose := dif_pos hx
      rw [e2] at h2; cases h2
  exact ⟨hik, (hn _ _ (h1 i hik)).uniq (h3 i hi) hs⟩
end
/-! ### The first phase -/
theorem Ok.plain {P : LP} (h : ∀ i, i < P.m → 0 ≤ P.b i) : Ok P ⟨fun i => P.n + i, P.T0, 1⟩ :=
  { Tabl.start P with rhs := fun i hi => by show 0 ≤ P.T0 i P.last; unfold LP.T0; rw [if_pos hi, t0_last]; exact h i hi }
theorem Ok.first {P : LP} {low : Nat} (hl : low < P.m) (hneg : P.b low < 0) (hmin : ∀ i, i < P.m → P.b low ≤ P.b i) :
    Ok P (St.piv ⟨fun i => P.n + i, P.T0, 1⟩ low (P.n + P.m)) := by
  have ha : ∀ i, i < P.m → P.T0 i (P.n + P.m) = -1 := fun i hi => by unfold LP.T0; rw [if_pos hi, t0_art]
  have hb : ∀ i, i < P.m → P.T0 i P.last = P.b i := fun i hi => by unfold LP.T0; rw [if_pos hi, t0_last]
  refine { (Tabl.start P).pivot hl (Nat.le_refl _) (by rw [ha low hl]; omega) with rhs := fun i hi => ?_ }
  show 0 ≤ pivT P.T0 1 low (P.n + P.m) i P.last
  unfold pivT
  rw [ha low hl, if_pos (by omega)]
  unfold pivQ
  by_cases e : i = low
  · subst e; rw [if_pos rfl, hb i hi]; omega
  · rw [if_neg e, ha low hl, ha i hi, hb i hi, hb low hl, Int.tdiv_one]
    have := hmin i hi
    omega
section
variable {P : LP} {s : St}
/-- The first phase is not unbounded. -/
theorem art_bounded (h : Ok P s) {c : Nat} (hc : c < P.N) (hle : ∀ i, i < P.m → s.T i c ≤ 0) : 0 ≤ s.T (P.m + 1) c := by
  rw [h.art c hc]
  unfold LP.obj
  have h1 : 0 ≤ s.den * P.g1 c := Int.mul_nonneg (Int.le_of_lt h.pos) (by unfold LP.g1; split <;> omega)
  have h2 : (sumN P.m fun i => P.g1 (s.bs i) * s.T i c) ≤ sumN P.m fun _ => 0 := sumN_le fun i hi => by
    have h3 := hle i hi
    unfold LP.g1
    split <;> omega
  rw [sumN_zero] at h2
  omega
/-- The bounds of rows of the artificial variable. -/
theorem art_zero (h : Ok P s) (hl : 0 ≤ s.T (P.m + 1) P.last) {i : Nat} (hi : i < P.m) (hb : s.bs i = P.n + P.m) : s.T i P.last = 0 := by
  rw [h.art _ (last_lt P)] at hl
  unfold LP.obj at hl
  have e : P.g1 P.last = 0 := by unfold LP.g1 LP.last; rw [if_neg (by omega)]
  rw [e, sumN_split (k := i) _ hi, hb] at hl
  have e2 : P.g1 (P.n + P.m) = 1 := by unfold LP.g1; rw [if_pos rfl]
  rw [e2] at hl
  have h1 := h.rhs i hi
  have h2 : 0 ≤ sumN P.m fun k => if k = i then 0 else P.g1 (s.bs k) * s.T k P.last := sumN_nonneg fun k hk => by
    split
    · omega
    · refine Int.mul_nonneg ?_ (h.rhs k hk)
      unfold LP.g1; split <;> omega
  omega
/-- A row of the artificial variable has another entry that is not 0. -/
theorem art_row (h : Ok P s) {r : Nat} (hr : r < P.m) (hb : s.bs r = P.n + P.m) : ∃ c, c < P.n + P.m ∧ s.T r c ≠ 0 := by
  refine Classical.byContradiction fun hno => ?_
  have h0 : ∀ k, k < P.m → s.T r (P.n + k) = 0 := fun k hk => Classical.byContradiction fun h1 => hno ⟨P.n + k, by omega, h1⟩
  have h1 := h.row hr (show P.n + P.m < P.N by unfold LP.N; omega)
  rw [sumN_eq_zero fun k hk => by rw [h0 k hk]; simp] at h1
  have h2 := h.at_basis hr hr
  rw [hb, if_pos rfl, h1] at h2
  have := h.pos
  omega
/-- The artificial variable leaves. -/
theorem Ok.drive (h : Ok P s) {r c : Nat} (hr : r < P.m) (hz : s.T r P.last = 0) (hc : c < P.n + P.m) (hne : s.T r c ≠ 0) : Ok P (s.piv r c) := by
  refine { h.toTabl.pivot hr (by omega) hne with rhs := fun i hi => ?_ }
  show 0 ≤ pivT s.T s.den r c i P.last
  have hcN : c < P.N := by unfold LP.N; omega
  unfold pivT
  by_cases e : i = r
  · subst e
    unfold pivQ
    rw [if_pos rfl, hz]
    split <;> omega
  · have h1 := h.toTabl.exact_div hr hcN (by omega : i < P.m + 2) e (last_lt P)
    rw [hz, Int.mul_zero, Int.sub_zero] at h1
    have h2 := h.rhs i hi
    have hp := h.pos
    split
    · next hn =>
      have h3 := Int.mul_nonneg h2 (show 0 ≤ - s.T r c by omega)
      rw [Int.mul_neg, ← h1, ← Int.mul_neg] at h3
      rcases Int.lt_or_le (- pivQ s.T s.den r c i P.last) 0 with h4 | h4
      · have := Int.mul_neg_of_pos_of_neg hp h4; omega
      · exact h4
    · next hn =>
      have h3 := Int.mul_nonneg h2 (show 0 ≤ s.T r c by omega)
      rw [← h1] at h3
      rcases Int.lt_or_le (pivQ s.T s.den r c i P.last) 0 with h4 | h4
      · have := Int.mul_neg_of_pos_of_neg hp h4; omega
      · exact h4
/-- No artificial variable in the basis. -/
def NoArt (P : LP) (s : St) : Prop := ∀ i, i < P.m → s.bs i < P.n + P.m
theorem NoArt.step {lim o : Nat} {s' : St} (h : NoArt P s) (hl : lim ≤ P.n + P.m) (hs : Step P o lim s s') : NoArt P s' := by
  obtain ⟨c, r, he, _, rfl⟩ := hs
  intro i hi
  show pivB s.bs r c i < _
  unfold pivB
  split
  · have := he.1; omega
  · exact h i hi
/-! ### The results -/
/-- The values of the variables in a column. -/
def ptV (P : LP) (s : St) (col : Nat) (j : Nat) : Int := sumN P.m fun i => if s.bs i = j then s.T i col else 0
theorem pt_at (h : Tabl P s.bs s.T s.den) (col : Nat) {i : Nat} (hi : i < P.m) : ptV P s col (s.bs i) = s.T i col := by
  unfold ptV
  rw [sumN_one (k := i) _ hi fun k hk hne => if_neg fun e => hne (h.inj hk hi e), if_pos rfl]
theorem pt_out (col : Nat) {j : Nat} (h : ∀ i, i < P.m → s.bs i ≠ j) : ptV P s col j = 0 := sumN_eq_zero fun i hi => if_neg (h i hi)
/-- A sum over the basis as a sum over the variables. -/
theorem sum_basis (P : LP) (s : St) (col : Nat) (f : Nat → Int) : sumN P.n (fun j => f j * ptV P s col j) = sumN P.m fun i => if s.bs i < P.n then f (s.bs i) * s.T i col else 0 := by
  have e1 : sumN P.n (fun j => f j * ptV P s col j) = sumN P.n fun j => sumN P.m fun i => if s.bs i = j then f j * s.T i col else 0 := sumN_congr fun j _ => by
    unfold ptV
    rw [← sumN_mul]
    exact sumN_congr fun i _ => by split <;> simp
  rw [e1, sumN_swap]
  refine sumN_congr fun i hi => ?_
  by_cases h : s.bs i < P.n
  · rw [if_pos h, sumN_one (k := s.bs i) _ h fun j _ hne => if_neg (Ne.symm hne), if_pos rfl]
  · rw [if_neg h]; exact sumN_eq_zero fun j hj => if_neg (by omega)
/-- The rows of a column. -/
theorem column_rows (h : Tabl P s.bs s.T s.den) (hno : NoArt P s) {col k : Nat} (hc : col < P.N) (hk : k < P.m) :
    s.den * P.t0 k col = sumN P.n (fun j => P.A k j * ptV P s col j) + ptV P s col (P.n + k) := by
  rw [h.column hk hc, sum_basis]
  unfold ptV
  rw [← sumN_add]
  refine sumN_congr fun i hi => ?_
  have hb := hno i hi
  by_cases h1 : s.bs i < P.n
  · rw [if_pos h1, t0_var P h1, if_neg (by omega)]; grind
  · obtain ⟨q, hq⟩ : ∃ q, s.bs i = P.n + q := ⟨s.bs i - P.n, by omega⟩
    rw [if_neg h1, hq, t0_slack P (by omega)]
    by_cases e : q = k
    · rw [if_pos e, if_pos (by omega)]; simp
    · rw [if_neg e, if_neg (by omega)]; simp
theorem goal_col (h : Tabl P s.bs s.T s.den) {col : Nat} (hc : col < P.N) : s.T P.m col = s.den * P.g0 col + sumN P.n fun j => P.c j * ptV P s col j := by
  rw [h.goal col hc, sum_basis]
  unfold LP.obj
  have e : (sumN P.m fun i => if s.bs i < P.n then P.c (s.bs i) * s.T i col else 0) = - sumN P.m fun i => P.g0 (s.bs i) * s.T i col := by
    rw [← sumN_neg]
    refine sumN_congr fun i _ => ?_
    unfold LP.g0
    split
    · grind
    · simp
  rw [e]; omega
/-- The point of a tableau. -/
theorem point_ok (h : Ok P s) (hno : NoArt P s) : (∀ j, 0 ≤ ptV P s P.last j) ∧ ∀ k, k < P.m → sumN P.n (fun j => P.A k j * ptV P s P.last j) ≤ P.b k * s.den := by
  have hn : ∀ j, 0 ≤ ptV P s P.last j := fun j => sumN_nonneg fun i hi => by
    split
    · exact h.rhs i hi
    · omega
  refine ⟨hn, fun k hk => ?_⟩
  have h1 := column_rows h.toTabl hno (last_lt P) hk
  rw [t0_last] at h1
  have h2 := hn (P.n + k)
  have e : P.b k * s.den = s.den * P.b k := Int.mul_comm _ _
  omega
/-- The best value, and what proves it. -/
theorem optimal_ok (h : Ok P s) (hno : NoArt P s) (hopt : ∀ j, j < P.n + P.m → 0 ≤ s.T P.m j) :
    (∀ k, k < P.m → 0 ≤ s.T P.m (P.n + k)) ∧ (∀ j, j < P.n → P.c j * s.den ≤ sumN P.m fun k => P.A k j * s.T P.m (P.n + k)) ∧
    sumN P.n (fun j => P.c j * ptV P s P.last j) = s.T P.m P.last ∧ sumN P.m (fun k => P.b k * s.T P.m (P.n + k)) = s.T P.m P.last := by
  have hrow : ∀ j, j < P.N → s.T P.m j = s.den * P.g0 j + sumN P.m fun k => P.t0 k j * s.T P.m (P.n + k) := fun j hj => by
    have h1 := h.obj_row (g := P.g0) (fun k _ => g0_slack P k) hj
    rw [← h.goal j hj] at h1
    rw [h1]
    congr 1
    exact sumN_congr fun k hk => by rw [h.goal _ (by unfold LP.N; omega)]
  have hgl : P.g0 P.last = 0 := by unfold LP.g0 LP.last; rw [if_neg (by omega)]
  refine ⟨fun k hk => hopt _ (by omega), fun j hj => ?_, ?_, ?_⟩
  · have h1 := hopt j (by omega)
    have h2 := hrow j (by unfold LP.N; omega)
    have h3 : P.g0 j = - P.c j := by unfold LP.g0; rw [if_pos hj]
    have h4 : (sumN P.m fun k => P.t0 k j * s.T P.m (P.n + k)) = sumN P.m fun k => P.A k j * s.T P.m (P.n + k) := sumN_congr fun k _ => by rw [t0_var P hj]
    rw [h3, h4] at h2
    have e : s.den * - P.c j = - (P.c j * s.den) := by grind
    omega
  · have h1 := goal_col h.toTabl (last_lt P)
    rw [hgl] at h1
    omega
  · have h1 := hrow P.last (last_lt P)
    rw [hgl] at h1
    have h4 : (sumN P.m fun k => P.t0 k P.last * s.T P.m (P.n + k)) = sumN P.m fun k => P.b k * s.T P.m (P.n + k) := sumN_congr fun k _ => by rw [t0_last]
    omega
/-- The direction of a column in which the value is not bounded. -/
def rayV (P : LP) (s : St) (c j : Nat) : Int := if j = c then s.den else - ptV P s c j
theorem ray_ok (h : Ok P s) (hno : NoArt P s) {c : Nat} (hc : c < P.n + P.m) (hneg : s.T P.m c < 0) (hle : ∀ i, i < P.m → s.T i c ≤ 0) :
    (∀ j, 0 ≤ rayV P s c j) ∧ (∀ k, k < P.m → sumN P.n (fun j => P.A k j * rayV P s c j) ≤ 0) ∧ 0 < sumN P.n fun j => P.c j * rayV P s c j := by
  have hcN : c < P.N := by unfold LP.N; omega
  have hp := h.pos
  have hpt : ∀ j, ptV P s c j ≤ 0 := fun j => by
    have : ptV P s c j ≤ sumN P.m fun _ => 0 := sumN_le fun i hi => by
      split
      · exact hle i hi
      · omega
    rw [sumN_zero] at this; exact this
  have hout : ∀ i, i < P.m → s.bs i ≠ c := fun i hi e => by
    have h1 := h.obj_basis P.g0 hi
    rw [← h.goal _ (by have := h.bas i hi; unfold LP.N; omega), e] at h1
    omega
  have hsum : ∀ f : Nat → Int, sumN P.n (fun j => f j * rayV P s c j) = (if c < P.n then f c * s.den else 0) - sumN P.n fun j => f j * ptV P s c j := fun f => by
    by_cases hcn : c < P.n
    · rw [if_pos hcn, sumN_split (k := c) (fun j => f j * rayV P s c j) hcn, sumN_split (k := c) (fun j => f j * ptV P s c j) hcn]
      have e1 : rayV P s c c = s.den := by unfold rayV; rw [if_pos rfl]
      have e2 : ptV P s c c = 0 := pt_out c hout
      have e3 : (sumN P.n fun j => if j = c then 0 else f j * rayV P s c j) = - sumN P.n fun j => if j = c then 0 else f j * ptV P s c j := by
        rw [← sumN_neg]
        refine sumN_congr fun j _ => ?_
        by_cases e : j = c
        · simp [e]
        · rw [if_neg e, if_neg e]; unfold rayV; rw [if_neg e]; grind
      rw [e1, e2, e3]; grind
    · rw [if_neg hcn]
      have e3 : (sumN P.n fun j => f j * rayV P s c j) = - sumN P.n fun j => f j * ptV P s c j := by
        rw [← sumN_neg]
        refine sumN_congr fun j hj => ?_
        unfold rayV; rw [if_neg (by omega)]; grind
      rw [e3]; omega
  refine ⟨fun j => ?_, fun k hk => ?_, ?_⟩
  · unfold rayV
    have := hpt j
    split <;> omega
  · rw [hsum]
    have h1 := column_rows h.toTabl hno hcN hk
    have h2 := hpt (P.n + k)
    by_cases hcn : c < P.n
    · rw [if_pos hcn]
      rw [t0_var P hcn] at h1
      have e : P.A k c * s.den = s.den * P.A k c := Int.mul_comm _ _
      omega
    · rw [if_neg hcn]
      obtain ⟨q, rfl⟩ : ∃ q, c = P.n + q := ⟨c - P.n, by omega⟩
      rw [t0_slack P (by omega)] at h1
      have : 0 ≤ s.den * (if q = k then 1 else 0 : Int) := Int.mul_nonneg (Int.le_of_lt hp) (by split <;> omega)
      omega
  · rw [hsum]
    have h1 := goal_col h.toTabl hcN
    by_cases hcn : c < P.n
    · rw [if_pos hcn]
      have e1 : P.g0 c = - P.c c := by unfold LP.g0; rw [if_pos hcn]
      rw [e1] at h1
      have e : s.den * - P.c c = - (P.c c * s.den) := by grind
      omega
    · rw [if_neg hcn]
      have e1 : P.g0 c = 0 := by unfold LP.g0; rw [if_neg hcn]
      rw [e1] at h1
      omega
/-- What shows that there is no point. -/
theorem refuted_ok (h : Ok P s) (hopt : ∀ j, j < P.n + P.m + 1 → 0 ≤ s.T (P.m + 1) j) (hneg : s.T (P.m + 1) P.last < 0) :
    (∀ k, k < P.m → 0 ≤ s.T (P.m + 1) (P.n + k)) ∧ (∀ j, j < P.n → 0 ≤ sumN P.m fun k => P.A k j * s.T (P.m + 1) (P.n + k)) ∧ sumN P.m (fun k => P.b k * s.T (P.m + 1) (P.n + k)) < 0 := by
  have hrow : ∀ j, j < P.N → s.T (P.m + 1) j = s.den * P.g1 j + sumN P.m fun k => P.t0 k j * s.T (P.m + 1) (P.n + k) := fun j hj => by
    have h1 := h.obj_row (g := P.g1) (fun k hk => g1_slack P hk) hj
    rw [← h.art j hj] at h1
    rw [h1]
    congr 1
    exact sumN_congr fun k hk => by rw [h.art _ (by unfold LP.N; omega)]
  refine ⟨fun k hk => hopt _ (by omega), fun j hj => ?_, ?_⟩
  · have h1 := hopt j (by omega)
    have h2 := hrow j (by unfold LP.N; omega)
    have h3 : P.g1 j = 0 := by unfold LP.g1; rw [if_neg (by omega)]
    have h4 : (sumN P.m fun k => P.t0 k j * s.T (P.m + 1) (P.n + k)) = sumN P.m fun k => P.A k j * s.T (P.m + 1) (P.n + k) := sumN_congr fun k _ => by rw [t0_var P hj]
    rw [h3, h4] at h2
    omega
  · have h1 := hrow P.last (last_lt P)
    have h3 : P.g1 P.last = 0 := by unfold LP.g1 LP.last; rw [if_neg (by omega)]
    have h4 : (sumN P.m fun k => P.t0 k P.last * s.T (P.m + 1) (P.n + k)) = sumN P.m fun k => P.b k * s.T (P.m + 1) (P.n + k) := sumN_congr fun k _ => by rw [t0_last]
    rw [h3, h4] at h1
    omega
end
end Go.Proofs.Ytkepfmglljkjhaa.LA
