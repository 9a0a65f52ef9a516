/-
  The levels of facts: plain.
-/
import Derived.Test.YtihkgdlanfemcaaMD
import Derived.Test.YtihkgdlanfemcaaMC
namespace Go.Proofs.Ytihkgdlanfemcaa
open Go.RowKit
set_option linter.unusedVariables false
set_option linter.unusedSimpArgs false

/-- The facts of the first layers. -/
def layP (st : List Int) (ops : List OpV) : Nat → Int → Prop
  | 0, p => p ∈ st
  | k + 1, p => layP st ops k p ∨ ∃ o ∈ ops, (∀ q ∈ o.pre, layP st ops k q) ∧ p ∈ o.add
theorem layP_mono {st : List Int} {ops : List OpV} {p : Int} {k : Nat} (h : layP st ops k p) : ∀ d, layP st ops (k + d) p
  | 0 => h
  | d + 1 => .inl (layP_mono h d)
theorem layP_le {st : List Int} {ops : List OpV} {p : Int} {j k : Nat} (h : layP st ops j p) (hjk : j ≤ k) : layP st ops k p := by
  have := layP_mono h (k - j)
  rwa [Nat.add_sub_cancel' hjk] at this
/-- The level of a fact, or -1. -/
def LevI (n : Nat) (st : List Int) (ops : List OpV) (p : Int) (v : Int) : Prop :=
  (v = -1 ∧ ∀ k ≤ n, ¬ layP st ops k p) ∨ ∃ k : Nat, v = (k : Int) ∧ k ≤ n ∧ layP st ops k p ∧ ∀ j, j < k → ¬ layP st ops j p
theorem LevI.uniq {n : Nat} {st : List Int} {ops : List OpV} {p v v' : Int} (h : LevI n st ops p v) (h' : LevI n st ops p v') : v = v' := by
  rcases h with ⟨e, h⟩ | ⟨k, e, hk, h1, h2⟩ <;> rcases h' with ⟨e', h'⟩ | ⟨k', e', hk', h1', h2'⟩
  · rw [e, e']
  · exact absurd h1' (h k' hk')
  · exact absurd h1 (h' k hk)
  · rcases Nat.lt_trichotomy k k' with h3 | h3 | h3
    · exact absurd h1 (h2' k h3)
    · rw [e, e', h3]
    · exact absurd h1' (h2 k' h3)
/-- The levels of all facts. -/
structure Levs (n : Nat) (st : List Int) (ops : List OpV) (V : List Int) : Prop where
  len : V.length = n
  lev : ∀ p : Nat, p < n → LevI n st ops (p : Int) (valAt V (p : Int))
theorem Levs.uniq {n : Nat} {st : List Int} {ops : List OpV} {V V' : List Int} (h : Levs n st ops V) (h' : Levs n st ops V') : V = V' := by
  refine List.ext_getElem (by rw [h.len, h'.len]) fun i hi hj => ?_
  rw [← valAt_getElem hi, ← valAt_getElem hj]
  exact (h.lev i (by rw [← h.len]; exact hi)).uniq (h'.lev i (by rw [← h.len]; exact hi))
/-- The operators before place (i, j) add a fact to a layer. -/
def Added (st : List Int) (ops : List OpV) (L i j : Nat) (p : Int) : Prop :=
  ∃ (k : Nat) (o : OpV), ops[k]? = some o ∧ (∀ q ∈ o.pre, layP st ops L q) ∧ (k < i ∧ p ∈ o.add ∨ k = i ∧ p ∈ o.add.take j)
/-- The levels while the layer after layer L is made. -/
structure LevSt (n : Nat) (st : List Int) (ops : List OpV) (L i j : Nat) (V : List Int) : Prop where
  len : V.length = n
  old : ∀ p : Nat, p < n → layP st ops L (p : Int) → ∃ k : Nat, valAt V (p : Int) = (k : Int) ∧ k ≤ L ∧ layP st ops k (p : Int) ∧ ∀ j, j < k → ¬ layP st ops j (p : Int)
  new : ∀ p : Nat, p < n → ¬ layP st ops L (p : Int) → (Added st ops L i j (p : Int) ∧ valAt V (p : Int) = (L : Int) + 1) ∨ (¬ Added st ops L i j (p : Int) ∧ valAt V (p : Int) = -1)
section
variable {n : Nat} {st : List Int} {ops : List OpV} {L i j : Nat} {V : List Int}
theorem added_zero (p : Int) : ¬ Added st ops L 0 0 p := fun ⟨k, o, _, _, h⟩ => by
  rcases h with ⟨h, _⟩ | ⟨_, h⟩
  · omega
  · simp at h
theorem LevSt.start (h : V.length = n) (hV : ∀ p : Nat, p < n → valAt V (p : Int) = if (p : Int) ∈ st then 0 else -1) : LevSt n st ops 0 0 0 V :=
  ⟨h, fun p hp hl => ⟨0, by rw [hV p hp, if_pos (show (p : Int) ∈ st from hl)]; rfl, Nat.le_refl _, hl, fun j hj => by omega⟩, fun p hp hl => .inr ⟨added_zero _, by rw [hV p hp, if_neg (show ¬ (p : Int) ∈ st from hl)]⟩⟩
theorem LevSt.neg (h : LevSt n st ops L i j V) {p : Nat} (hp : p < n) : layP st ops L (p : Int) ↔ ¬ (valAt V (p : Int) < 0 ∨ valAt V (p : Int) ≥ (L : Int) + 1) := by
  by_cases hl : layP st ops L (p : Int)
  · obtain ⟨k, h1, h2, _⟩ := h.old p hp hl
    exact ⟨fun _ => by omega, fun _ => hl⟩
  · rcases h.new p hp hl with ⟨_, h1⟩ | ⟨_, h1⟩
    · exact ⟨fun h => absurd h hl, fun h2 => by omega⟩
    · exact ⟨fun h => absurd h hl, fun h2 => by omega⟩
theorem added_skip {o : OpV} (ho : ops[i]? = some o) (hc : ¬ ∀ q ∈ o.pre, layP st ops L q) (p : Int) : Added st ops L (i + 1) 0 p ↔ Added st ops L i 0 p := by
  constructor
  · rintro ⟨k, o', h1, h2, h3⟩
    rcases h3 with ⟨h3, h4⟩ | ⟨_, h4⟩
    · rcases Nat.lt_or_ge k i with h5 | h5
      · exact ⟨k, o', h1, h2, .inl ⟨h5, h4⟩⟩
      · have : k = i := by omega
        subst this
        rw [ho] at h1
        injection h1 with h1
        subst h1
        exact absurd h2 hc
    · simp at h4
  · rintro ⟨k, o', h1, h2, h3⟩
    rcases h3 with ⟨h3, h4⟩ | ⟨_, h4⟩
    · exact ⟨k, o', h1, h2, .inl ⟨by omega, h4⟩⟩
    · simp at h4
theorem added_row {o : OpV} (ho : ops[i]? = some o) {m : Nat} (hm : o.add.length ≤ m) (p : Int) : Added st ops L (i + 1) 0 p ↔ Added st ops L i m p := by
  constructor
  · rintro ⟨k, o', h1, h2, h3⟩
    rcases h3 with ⟨h3, h4⟩ | ⟨_, h4⟩
    · rcases Nat.lt_or_ge k i with h5 | h5
      · exact ⟨k, o', h1, h2, .inl ⟨h5, h4⟩⟩
      · have : k = i := by omega
        subst this
        rw [ho] at h1
        injection h1 with h1
        subst h1
        exact ⟨k, o, ho, h2, .inr ⟨rfl, by rw [List.take_of_length_le hm]; exact h4⟩⟩
    · simp at h4
  · rintro ⟨k, o', h1, h2, h3⟩
    rcases h3 with ⟨h3, h4⟩ | ⟨h3, h4⟩
    · exact ⟨k, o', h1, h2, .inl ⟨by omega, h4⟩⟩
    · exact ⟨k, o', h1, h2, .inl ⟨by omega, List.mem_of_mem_take h4⟩⟩
theorem added_next {o : OpV} (ho : ops[i]? = some o) (hc : ∀ q ∈ o.pre, layP st ops L q) {x : Int} (hx : o.add[j]? = some x) (p : Int) : Added st ops L i (j + 1) p ↔ Added st ops L i j p ∨ p = x := by
  constructor
  · rintro ⟨k, o', h1, h2, h3⟩
    rcases h3 with h3 | ⟨h3, h4⟩
    · exact .inl ⟨k, o', h1, h2, .inl h3⟩
    · subst h3
      rw [ho] at h1
      injection h1 with h1
      subst h1
      rw [List.take_add_one, hx] at h4
      rcases List.mem_append.1 h4 with h5 | h5
      · exact .inl ⟨k, o, ho, h2, .inr ⟨rfl, h5⟩⟩
      · exact .inr (by simpa using h5)
  · rintro (⟨k, o', h1, h2, h3⟩ | rfl)
    · rcases h3 with h3 | ⟨h3, h4⟩
      · exact ⟨k, o', h1, h2, .inl h3⟩
      · refine ⟨k, o', h1, h2, .inr ⟨h3, ?_⟩⟩
        rw [List.take_add_one]
        exact List.mem_append_left _ h4
    · refine ⟨i, o, ho, hc, .inr ⟨rfl, ?_⟩⟩
      rw [List.take_add_one, hx]
      simp
theorem LevSt.of_added (h : LevSt n st ops L i j V) {i' j' : Nat} (he : ∀ p, Added st ops L i' j' p ↔ Added st ops L i j p) : LevSt n st ops L i' j' V :=
  ⟨h.len, h.old, fun p hp hl => by rw [he]; exact h.new p hp hl⟩
theorem LevSt.skip (h : LevSt n st ops L i 0 V) {o : OpV} (ho : ops[i]? = some o) (hc : ¬ ∀ q ∈ o.pre, layP st ops L q) : LevSt n st ops L (i + 1) 0 V := h.of_added (added_skip ho hc)
theorem LevSt.row (h : LevSt n st ops L i j V) {o : OpV} (ho : ops[i]? = some o) (hm : o.add.length ≤ j) : LevSt n st ops L (i + 1) 0 V := h.of_added (added_row ho hm)
/-- A fact that has a level already. -/
theorem LevSt.had (h : LevSt n st ops L i j V) {o : OpV} (ho : ops[i]? = some o) (hc : ∀ q ∈ o.pre, layP st ops L q) {x : Nat} (hx : o.add[j]? = some (x : Int)) (hxn : x < n) (hv : ¬ valAt V (x : Int) < 0) : LevSt n st ops L i (j + 1) V := by
  refine ⟨h.len, h.old, fun p hp hl => ?_⟩
  rw [added_next ho hc hx]
  by_cases e : p = x
  · subst e
    rcases h.new p hp hl with ⟨_, h1⟩ | ⟨_, h1⟩
    · exact .inl ⟨.inr rfl, h1⟩
    · omega
  · rcases h.new p hp hl with ⟨h2, h1⟩ | ⟨h2, h1⟩
    · exact .inl ⟨.inl h2, h1⟩
    · exact .inr ⟨fun h3 => h3.elim h2 (fun e2 => e (by omega)), h1⟩
/-- A fact that gets its level. -/
theorem LevSt.give (h : LevSt n st ops L i j V) {o : OpV} (ho : ops[i]? = some o) (hc : ∀ q ∈ o.pre, layP st ops L q) {x : Nat} (hx : o.add[j]? = some (x : Int)) (hxn : x < n) (hv : valAt V (x : Int) < 0) : LevSt n st ops L i (j + 1) (V.set x ((L : Int) + 1)) := by
  have hset : ∀ p : Nat, valAt (V.set x ((L : Int) + 1)) (p : Int) = if p = x then (L : Int) + 1 else valAt V (p : Int) := fun p => by
    rw [valAt_set (by rw [h.len]; exact hxn), Int.toNat_natCast]
  refine ⟨by rw [List.length_set]; exact h.len, fun p hp hl => ?_, fun p hp hl => ?_⟩
  · have hpx : p ≠ x := fun e => by
      subst e
      obtain ⟨k, h1, _⟩ := h.old p hp hl
      omega
    rw [hset, if_neg hpx]
    exact h.old p hp hl
  · rw [hset, added_next ho hc hx]
    by_cases e : p = x
    · rw [if_pos e]; exact .inl ⟨.inr (by rw [e]), rfl⟩
    · rw [if_neg e]
      rcases h.new p hp hl with ⟨h2, h1⟩ | ⟨h2, h1⟩
      · exact .inl ⟨.inl h2, h1⟩
      · exact .inr ⟨fun h3 => h3.elim h2 (fun e2 => e (by omega)), h1⟩
theorem lay_added {p : Int} : layP st ops (L + 1) p ↔ layP st ops L p ∨ Added st ops L ops.length 0 p := by
  constructor
  · rintro (h | ⟨o, h1, h2, h3⟩)
    · exact .inl h
    · obtain ⟨k, hk⟩ := List.getElem?_of_mem h1
      exact .inr ⟨k, o, hk, h2, .inl ⟨(List.getElem?_eq_some_iff.1 hk).1, h3⟩⟩
  · rintro (h | ⟨k, o, h1, h2, h3⟩)
    · exact .inl h
    · rcases h3 with ⟨_, h3⟩ | ⟨_, h3⟩
      · exact .inr ⟨o, List.mem_of_getElem? h1, h2, h3⟩
      · simp at h3
/-- The next layer. -/
theorem LevSt.next (h : LevSt n st ops L ops.length 0 V) : LevSt n st ops (L + 1) 0 0 V := by
  refine ⟨h.len, fun p hp hl => ?_, fun p hp hl => .inr ⟨added_zero _, ?_⟩⟩
  · by_cases hL : layP st ops L (p : Int)
    · obtain ⟨k, h1, h2, h3⟩ := h.old p hp hL
      exact ⟨k, h1, by omega, h3⟩
    · rcases h.new p hp hL with ⟨h2, h1⟩ | ⟨h2, h1⟩
      · exact ⟨L + 1, by rw [h1]; simp, Nat.le_refl _, hl, fun j hj hlj => hL (layP_le hlj (by omega))⟩
      · exact absurd hl (fun h3 => (lay_added.1 h3).elim hL h2)
  · rcases h.new p hp (fun h3 => hl (.inl h3)) with ⟨h2, h1⟩ | ⟨h2, h1⟩
    · exact absurd (lay_added.2 (.inr h2)) hl
    · exact h1
theorem LevSt.levs (h : LevSt n st ops n i 0 V) (hi : i = 0) : Levs n st ops V := by
  subst hi
  refine ⟨h.len, fun p hp => ?_⟩
  by_cases hL : layP st ops n (p : Int)
  · obtain ⟨k, h1, h2, h3, h4⟩ := h.old p hp hL
    exact .inr ⟨k, h1, h2, h3, h4⟩
  · rcases h.new p hp hL with ⟨h2, _⟩ | ⟨_, h1⟩
    · exact absurd h2 (added_zero _)
    · exact .inl ⟨h1, fun k hk hlk => hL (layP_le hlk hk)⟩
theorem Levs.rng {V : List Int} (h : Levs n st ops V) : ∀ v ∈ V, -1 ≤ v ∧ v ≤ (n : Int) := fun v hv => by
  obtain ⟨i, hi, e⟩ := List.mem_iff_getElem.1 hv
  rw [← valAt_getElem hi] at e
  rcases h.lev i (by rw [← h.len]; exact hi) with ⟨h1, _⟩ | ⟨k, h1, h2, _⟩
  · omega
  · omega
theorem LevSt.rng (h : LevSt n st ops L i j V) : ∀ v ∈ V, -1 ≤ v ∧ v ≤ (L : Int) + 1 := fun v hv => by
  obtain ⟨p, hp, e⟩ := List.mem_iff_getElem.1 hv
  rw [← valAt_getElem hp] at e
  have hpn : p < n := by rw [← h.len]; exact hp
  by_cases hL : layP st ops L (p : Int)
  · obtain ⟨k, h1, h2, _⟩ := h.old p hpn hL; omega
  · rcases h.new p hpn hL with ⟨_, h1⟩ | ⟨_, h1⟩ <;> omega
end
/-- The levels of a task's facts. -/
noncomputable def levV (n : Nat) (st : List Int) (ops : List OpV) : List Int := @Classical.epsilon _ ⟨[]⟩ (Levs n st ops)
theorem Levs.eq {n : Nat} {st : List Int} {ops : List OpV} {V : List Int} (h : Levs n st ops V) : V = levV n st ops := h.uniq (@Classical.epsilon_spec _ (Levs n st ops) ⟨V, h⟩)

end Go.Proofs.Ytihkgdlanfemcaa
