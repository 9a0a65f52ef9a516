/-
  Steps of the simplex method: a run without end comes back.
-/
import Derived.Test.YtkepfmglljkjhaaLa5
set_option linter.unusedVariables false
set_option linter.unusedSimpArgs false
namespace Go.Proofs.Ytkepfmglljkjhaa.LA
/-! ### Pigeons -/
theorem pigeon : ∀ (N : Nat) (f : Nat → Nat), (∀ k, k ≤ N → f k < N) → ∃ a b, a < b ∧ b ≤ N ∧ f a = f b
  | 0, f, h => absurd (h 0 (Nat.le_refl _)) (by omega)
  | N + 1, f, h => by
    -- the last value is put aside
    by_cases hx : ∃ a, a < N + 1 ∧ f a = f (N + 1)
    · obtain ⟨a, h1, h2⟩ := hx
      exact ⟨a, N + 1, h1, Nat.le_refl _, h2⟩
    · have hne : ∀ a, a ≤ N → f a ≠ f (N + 1) := fun a ha e => hx ⟨a, by omega, e⟩
      obtain ⟨a, b, h1, h2, h3⟩ := pigeon N (fun k => if f k < f (N + 1) then f k else f k - 1) (fun k hk => by
        have h1 := h k (by omega)
        have h2 := h (N + 1) (Nat.le_refl _)
        have h3 := hne k hk
        split <;> omega)
      refine ⟨a, b, h1, by omega, ?_⟩
      have h4 := hne a (by omega)
      have h5 := hne b h2
      split at h3 <;> split at h3 <;> omega
/-- A list of numbers as one number. -/
def code (V : Nat) (f : Nat → Nat) : Nat → Nat
  | 0 => 0
  | n + 1 => code V f n * V + f n
theorem code_lt {V : Nat} {f : Nat → Nat} : ∀ {n : Nat}, (∀ i, i < n → f i < V) → code V f n < V ^ n
  | 0, _ => by simp [code]
  | n + 1, h => by
    have h1 := code_lt (n := n) fun i hi => h i (by omega)
    have h2 := h n (by omega)
    rw [code, Nat.pow_succ]
    have h3 : (code V f n + 1) * V ≤ V ^ n * V := Nat.mul_le_mul_right _ h1
    rw [Nat.add_mul] at h3
    omega
theorem code_inj {V : Nat} {f g : Nat → Nat} : ∀ {n : Nat}, (∀ i, i < n → f i < V) → (∀ i, i < n → g i < V) → code V f n = code V g n → ∀ i, i < n → f i = g i
  | 0, _, _, _, i, hi => absurd hi (by omega)
  | n + 1, hf, hg, h, i, hi => by
    have h1 := hf n (by omega)
    have h2 := hg n (by omega)
    rw [code, code] at h
    have h3 : f n = g n := by
      have e1 : (code V f n * V + f n) % V = f n := by rw [Nat.add_comm, Nat.add_mul_mod_self_right, Nat.mod_eq_of_lt h1]
      have e2 : (code V g n * V + g n) % V = g n := by rw [Nat.add_comm, Nat.add_mul_mod_self_right, Nat.mod_eq_of_lt h2]
      rw [← e1, ← e2, h]
    have h4 : code V f n = code V g n := Nat.eq_of_mul_eq_mul_right (show 0 < V by omega) (by omega)
    rcases Nat.lt_or_ge i n with h5 | h5
    · exact code_inj (fun i hi => hf i (by omega)) (fun i hi => hg i (by omega)) h4 i h5
    · rw [show i = n by omega]; exact h3
/-! ### The steps of the simplex method -/
structure St where
  bs : Nat → Nat
  T : Nat → Nat → Int
  den : Int
/-- The column that enters: the first one with a negative cost. -/
def Enters (o lim : Nat) (s : St) (c : Nat) : Prop := c < lim ∧ s.T o c < 0 ∧ ∀ k, k < c → 0 ≤ s.T o k
/-- The row that leaves. -/
def Leaves (P : LP) (s : St) (c r : Nat) : Prop := r < P.m ∧ 0 < s.T r c ∧ ∀ i, i < P.m → 0 < s.T i c →
  s.T r P.last * s.T i c < s.T i P.last * s.T r c ∨ (s.T r P.last * s.T i c = s.T i P.last * s.T r c ∧ s.bs r ≤ s.bs i)
def St.piv (s : St) (r c : Nat) : St := ⟨pivB s.bs r c, pivT s.T s.den r c, pivD s.T r c⟩
def Step (P : LP) (o lim : Nat) (s s' : St) : Prop := ∃ c r, Enters o lim s c ∧ Leaves P s c r ∧ s' = s.piv r c
/-- A tableau whose bounds are not negative. -/
structure Ok (P : LP) (s : St) : Prop extends Tabl P s.bs s.T s.den where
  rhs : ∀ i, i < P.m → 0 ≤ s.T i P.last
/-- The objective of a row. -/
structure Obj (P : LP) (o lim : Nat) (g : Nat → Int) : Prop where
  le : P.m ≤ o
  lt : o < P.m + 2
  lim : lim ≤ P.n + P.m + 1
  slack : ∀ k, k < P.m → g (P.n + k) = 0
  row : ∀ s : St, Tabl P s.bs s.T s.den → ∀ j, j < P.N → s.T o j = P.obj g s.bs s.T s.den j
theorem obj_goal (P : LP) : Obj P P.m (P.n + P.m) P.g0 := ⟨Nat.le_refl _, by omega, by omega, fun k _ => g0_slack P k, fun s h => h.goal⟩
theorem obj_art (P : LP) : Obj P (P.m + 1) (P.n + P.m + 1) P.g1 := ⟨by omega, by omega, Nat.le_refl _, fun k hk => g1_slack P hk, fun s h => h.art⟩
section
variable {P : LP} {o lim : Nat} {g : Nat → Int} {s s' : St}
theorem last_lt (P : LP) : P.last < P.N := by unfold LP.last LP.N; omega
theorem piv_pos {T : Nat → Nat → Int} {den : Int} {r c : Nat} (h : 0 < T r c) (i j : Nat) : pivT T den r c i j = pivQ T den r c i j := by unfold pivT; rw [if_neg (by omega)]
theorem pivD_pos {T : Nat → Nat → Int} {r c : Nat} (h : 0 < T r c) : pivD T r c = T r c := by unfold pivD; rw [if_neg (by omega)]
/-- A step keeps the bounds. -/
theorem Ok.step (h : Ok P s) (hl : lim ≤ P.n + P.m + 1) (hs : Step P o lim s s') : Ok P s' := by
  obtain ⟨c, r, he, ⟨hr, hp, hmin⟩, rfl⟩ := hs
  have hc : c ≤ P.n + P.m := by have := he.1; omega
  have hcN : c < P.N := by unfold LP.N; omega
  refine { h.toTabl.pivot hr hc (by omega) with rhs := fun i hi => ?_ }
  show 0 ≤ pivT s.T s.den r c i P.last
  rw [piv_pos hp]
  by_cases e : i = r
  · subst e; unfold pivQ; rw [if_pos rfl]; exact h.rhs i hi
  · have h1 := h.toTabl.exact_div hr hcN (by omega : i < P.m + 2) e (last_lt P)
    have h2 : 0 ≤ s.T i P.last * s.T r c - s.T i c * s.T r P.last := by
      by_cases h3 : 0 < s.T i c
      · have h4 := hmin i hi h3
        have e1 : s.T r P.last * s.T i c = s.T i c * s.T r P.last := Int.mul_comm _ _
        omega
      · have h4 := Int.mul_nonneg (h.rhs i hi) (show 0 ≤ s.T r c by omega)
        have h5 := Int.mul_nonneg (show 0 ≤ - s.T i c by omega) (h.rhs r hr)
        rw [Int.neg_mul] at h5
        omega
    rw [← h1] at h2
    exact Int.nonneg_of_mul_nonneg_right h2 h.pos |> fun h => h
/-- What a step makes of the value. -/
theorem step_value (ho : Obj P o lim g) (h : Ok P s) (hs : Step P o lim s s') : ∃ c r, Enters o lim s c ∧ Leaves P s c r ∧ s' = s.piv r c ∧
    s.den * s'.T o P.last = s.T o P.last * s'.den - s.T o c * s.T r P.last ∧ s'.den = s.T r c := by
  obtain ⟨c, r, he, hl, rfl⟩ := hs
  have hc : c ≤ P.n + P.m := by have := he.1; have := ho.lim; omega
  have hcN : c < P.N := by unfold LP.N; omega
  refine ⟨c, r, he, hl, rfl, ?_, pivD_pos hl.2.1⟩
  show s.den * pivT s.T s.den r c o P.last = s.T o P.last * pivD s.T r c - _
  rw [piv_pos hl.2.1, pivD_pos hl.2.1]
  exact h.toTabl.exact_div hl.1 hcN ho.lt (by have := hl.1; have := ho.le; omega) (last_lt P)
end
/-! ### A run without end comes back to a basis -/
structure Run (P : LP) (o lim : Nat) (g : Nat → Int) (st : Nat → St) : Prop where
  obj : Obj P o lim g
  ok : ∀ k, Ok P (st k)
  step : ∀ k, Step P o lim (st k) (st (k + 1))
section
variable {P : LP} {o lim : Nat} {g : Nat → Int} {st : Nat → St}
def le2 (a b : St) (o l : Nat) : Prop := a.T o l * b.den ≤ b.T o l * a.den
theorem le2_trans {a b c : St} {o l : Nat} (ha : 0 < a.den) (hb : 0 < b.den) (hc : 0 < c.den) (h1 : le2 a b o l) (h2 : le2 b c o l) : le2 a c o l := by
  unfold le2 at *
  have h3 := Int.mul_le_mul_of_nonneg_right h1 (Int.le_of_lt hc)
  have h4 := Int.mul_le_mul_of_nonneg_right h2 (Int.le_of_lt ha)
  have h5 : b.den * (a.T o l * c.den) ≤ b.den * (c.T o l * a.den) := by grind
  exact Int.le_of_mul_le_mul_left h5 hb
theorem Run.le_succ (h : Run P o lim g st) (k : Nat) : le2 (st k) (st (k + 1)) o P.last := by
  obtain ⟨c, r, he, hl, e, h1, h2⟩ := step_value h.obj (h.ok k) (h.step k)
  have h3 := Int.mul_nonneg (show 0 ≤ -((st k).T o c) by have := he.2.1; omega) ((h.ok k).rhs r hl.1)
  unfold le2
  rw [Int.neg_mul] at h3
  have e1 : (st k).den * (st (k + 1)).T o P.last = (st (k + 1)).T o P.last * (st k).den := Int.mul_comm _ _
  omega
theorem Run.le_add (h : Run P o lim g st) (k : Nat) : ∀ d, le2 (st k) (st (k + d)) o P.last
  | 0 => by unfold le2; exact Int.le_refl _
  | d + 1 => le2_trans (h.ok _).pos (h.ok _).pos (h.ok _).pos (h.le_add k d) (h.le_succ (k + d))
theorem Run.le_of (h : Run P o lim g st) {i j : Nat} (hij : i ≤ j) : le2 (st i) (st j) o P.last := by
  obtain ⟨d, rfl⟩ := Nat.le.dest hij
  exact h.le_add i d
/-- The states are determined by their bases. -/
theorem same_state {P : LP} {s s' : St} (h : Tabl P s.bs s.T s.den) (h' : Tabl P s'.bs s'.T s'.den) (e : ∀ i, i < P.m → s.bs i = s'.bs i) : s.den = s'.den ∧ ∀ i, i < P.m + 2 → ∀ j, j < P.N → s.T i j = s'.T i j := by
  obtain ⟨x, hx, a1, a2⟩ := h.ex
  obtain ⟨y, hy, b1, b2⟩ := h'.ex
  have hcol : ∀ i j, j < P.m → P.cols s.bs i j = P.cols s'.bs i j := fun i j hj => by unfold LP.cols; rw [e j hj]
  have hdet : det P.m (P.cols s.bs) = det P.m (P.cols s'.bs) := det_congr fun i _ j hj => hcol i j hj
  have hp := h.pos
  have hp' := h'.pos
  have hxy : x = y := by
    rw [hdet] at a1
    rcases hx with rfl | rfl <;> rcases hy with rfl | rfl <;> omega
  subst hxy
  have hd : s.den = s'.den := by rw [a1, b1, hdet]
  have hT : ∀ i, i < P.m → ∀ j, j < P.N → s.T i j = s'.T i j := fun i hi j hj => by
    rw [a2 i hi j hj, b2 i hi j hj]
    congr 1
    exact det_congr fun t _ q hq => by
      unfold setC
      split
      · rfl
      · exact hcol t q hq
  have hobj : ∀ g j, j < P.N → P.obj g s.bs s.T s.den j = P.obj g s'.bs s'.T s'.den j := fun g j hj => by
    unfold LP.obj
    rw [hd, sumN_congr (g := fun i => g (s'.bs i) * s'.T i j) fun i hi => by rw [e i hi, hT i hi j hj]]
  refine ⟨hd, fun i hi j hj => ?_⟩
  by_cases c : i < P.m
  · exact hT i c j hj
  · rcases (by omega : i = P.m ∨ i = P.m + 1) with rfl | rfl
    · rw [h.goal j hj, h'.goal j hj, hobj _ j hj]
    · rw [h.art j hj, h'.art j hj, hobj _ j hj]
/-- Some basis comes again. -/
theorem Run.cycle (h : Run P o lim g st) : ∃ a b, a < b ∧ ∀ i, i < P.m → (st a).bs i = (st b).bs i := by
  have hb : ∀ k i, i < P.m → (st k).bs i < P.n + P.m + 1 := fun k i hi => by have := (h.ok k).bas i hi; omega
  obtain ⟨a, b, h1, _, h2⟩ := pigeon ((P.n + P.m + 1) ^ P.m) (fun k => code (P.n + P.m + 1) (st k).bs P.m) (fun k _ => code_lt (hb k))
  exact ⟨a, b, h1, code_inj (hb a) (hb b) h2⟩
end
end Go.Proofs.Ytkepfmglljkjhaa.LA
