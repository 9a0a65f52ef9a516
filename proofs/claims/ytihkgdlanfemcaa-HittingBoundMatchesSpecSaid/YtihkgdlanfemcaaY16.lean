/-
  The least cost of a relaxed plan as a lower bound of plans, and the costs of cuts below it: plain.
-/
import Derived.Test.YtihkgdlanfemcaaY9
import Derived.Test.YtihkgdlanfemcaaY12
import Derived.Test.YtihkgdlanfemcaaY13
namespace Go.Proofs.Ytihkgdlanfemcaa
open Go.RowKit
set_option linter.unusedVariables false
set_option linter.unusedSimpArgs false

section
variable {n : Nat} {ops : List OpV} {goal st : List Int}
theorem Cst.set (hst : SetP st (n : Int)) {l : List Int} {c : Int} (h : Cst n ops st l c) : SetP l (n : Int) := by
  induction h with
  | init => exact hst
  | step _ _ _ _ => exact nextV_set n _ _
/-- With more facts the same path can be gone, without deletions. -/
theorem Cst.more {st' : List Int} (hst : SetP st (n : Int)) (hst' : SetP st' (n : Int)) (hadd : ∀ o ∈ ops, ∀ p ∈ o.add, 0 ≤ p ∧ p < (n : Int)) (hs : ∀ q ∈ st, q ∈ st') {l : List Int} {c : Int} (h : Cst n (ops.map rxO) st l c) : ∃ l', Cst n (ops.map rxO) st' l' c ∧ SetP l' (n : Int) ∧ ∀ q ∈ l, q ∈ l' := by
  induction h with
  | init => exact ⟨st', .init, hst', hs⟩
  | @step l c p o hh hp hq ih =>
    obtain ⟨l', h1, h2, h3⟩ := ih
    refine ⟨_, .step h1 hp (fun q hqq => h3 q (hq q hqq)), nextV_set n _ _, fun q hqq => ?_⟩
    rw [List.getElem?_map] at hp
    obtain ⟨o', ho', rfl⟩ := Option.map_eq_some_iff.1 hp
    have ha := hadd o' (List.mem_of_getElem? ho')
    have hl := Cst.set hst hh
    rcases (rx_mem hl ha).1 hqq with h | h
    · exact (rx_mem h2 ha).2 (.inl (h3 q h))
    · exact (rx_mem h2 ha).2 (.inr h)
/-- The facts of a state that is reached without some operators are reachable without them. -/
theorem rbest_ex (hc : ∀ o ∈ ops, 0 ≤ o.cost) (goal st : List Int) : ∃ d, RBest n ops goal st d := by
  by_cases h : ∃ (c : Nat) (l : List Int), Cst n ops st l (c : Int) ∧ ∀ q ∈ goal, q ∈ l
  · have hmin : ∃ (c : Nat), (∃ l : List Int, Cst n ops st l (c : Int) ∧ ∀ q ∈ goal, q ∈ l) ∧ ∀ c' : Nat, (∃ l : List Int, Cst n ops st l (c' : Int) ∧ ∀ q ∈ goal, q ∈ l) → c ≤ c' := by
      obtain ⟨c0, hc0⟩ := h
      have key : ∀ (m c : Nat), c ≤ m → (∃ l : List Int, Cst n ops st l (c : Int) ∧ ∀ q ∈ goal, q ∈ l) → ∃ (c : Nat), (∃ l : List Int, Cst n ops st l (c : Int) ∧ ∀ q ∈ goal, q ∈ l) ∧ ∀ c' : Nat, (∃ l : List Int, Cst n ops st l (c' : Int) ∧ ∀ q ∈ goal, q ∈ l) → c ≤ c' := by
        intro m
        induction m with
        | zero => intro c hm hx; exact ⟨c, hx, fun c' _ => by omega⟩
        | succ m ih =>
          intro c hm hx
          by_cases hl : ∃ c' : Nat, c' < c ∧ ∃ l : List Int, Cst n ops st l (c' : Int) ∧ ∀ q ∈ goal, q ∈ l
          · obtain ⟨c', hlt, hx'⟩ := hl
            exact ih c' (by omega) hx'
          · exact ⟨c, hx, fun c' hx' => by
              rcases Nat.lt_or_ge c' c with h | h
              · exact absurd ⟨c', h, hx'⟩ hl
              · exact h⟩
      exact key c0 c0 (Nat.le_refl _) hc0
    obtain ⟨c, ⟨l, hl, hg⟩, hmin⟩ := hmin
    have hall : ∀ (l : List Int) (c' : Int), Cst n ops st l c' → (∀ q ∈ goal, q ∈ l) → (c : Int) ≤ c' := fun l c' h1 h2 => by
      have h0 := h1.nn hc
      obtain ⟨k, rfl⟩ := Int.eq_ofNat_of_zero_le h0
      have := hmin k ⟨l, h1, h2⟩
      omega
    rcases Int.le_total (c : Int) 1000000000 with h1 | h1
    · exact ⟨c, .inr ⟨l, hl, hg⟩, h1, hall⟩
    · exact ⟨1000000000, .inl rfl, Int.le_refl _, fun l c' h2 h3 => Int.le_trans h1 (hall l c' h2 h3)⟩
  · refine ⟨1000000000, .inl rfl, Int.le_refl _, fun l c h1 h2 => ?_⟩
    obtain ⟨k, rfl⟩ := Int.eq_ofNat_of_zero_le (h1.nn hc)
    exact absurd ⟨k, l, h1, h2⟩ h
theorem RBest.uniq {d d' : Int} (h : RBest n ops goal st d) (h' : RBest n ops goal st d') : d = d' := by
  have key : ∀ {d d' : Int}, RBest n ops goal st d → RBest n ops goal st d' → d ≤ d' := fun h h' => by
    rcases h'.1 with e | ⟨l, h1, h2⟩
    · rw [e]; exact h.2.1
    · exact h.2.2 l _ h1 h2
  exact Int.le_antisymm (key h h') (key h' h)
end
/-- The least cost of a relaxed plan from a state. -/
noncomputable def rdist (n : Nat) (ops : List OpV) (goal l : List Int) : Int := @Classical.epsilon _ ⟨0⟩ (RBest n ops goal l)
theorem rdist_spec {n : Nat} {ops : List OpV} (hc : ∀ o ∈ ops, 0 ≤ o.cost) (goal l : List Int) : RBest n ops goal l (rdist n ops goal l) := @Classical.epsilon_spec _ (RBest n ops goal l) (rbest_ex hc goal l)
theorem rx_cost {ops : List OpV} (hc : ∀ o ∈ ops, 0 ≤ o.cost) : ∀ o ∈ ops.map rxO, 0 ≤ o.cost := fun o ho => by
  obtain ⟨o', h1, rfl⟩ := List.mem_map.1 ho
  exact hc o' h1
/-! ### Paths as lists of operators -/
inductive Pth (n : Nat) (ops : List OpV) (st : List Int) : List Int → List Nat → Prop
  | init : Pth n ops st st []
  | step {l : List Int} {ps : List Nat} {p : Nat} {o : OpV} : Pth n ops st l ps → ops[p]? = some o → (∀ q ∈ o.pre, q ∈ l) → Pth n ops st (nextV n l o) (ps ++ [p])
def costOf (cs : List Int) (ps : List Nat) : Int := (ps.map fun (p : Nat) => valAt cs (p : Int)).sum
theorem costOf_snoc (cs : List Int) (ps : List Nat) (p : Nat) : costOf cs (ps ++ [p]) = costOf cs ps + valAt cs (p : Int) := by
  unfold costOf; rw [List.map_append, List.sum_append]; simp
theorem Cst.pth {n : Nat} {ops : List OpV} {st l : List Int} {c : Int} (h : Cst n (ops.map rxO) st l c) : ∃ ps, Pth n (ops.map rxO) st l ps ∧ c = costOf (ops.map (·.cost)) ps := by
  induction h with
  | init => exact ⟨[], .init, rfl⟩
  | @step l c p o hh hp hq ih =>
    obtain ⟨ps, h1, h2⟩ := ih
    refine ⟨ps ++ [p], .step h1 hp hq, ?_⟩
    rw [costOf_snoc, h2]
    rw [List.getElem?_map] at hp
    obtain ⟨o', ho', rfl⟩ := Option.map_eq_some_iff.1 hp
    have : valAt (ops.map (·.cost)) (p : Int) = o'.cost := valAt_of (by simp [ho'])
    rw [this]; rfl
theorem Pth.rng {n : Nat} {ops : List OpV} {st l : List Int} {ps : List Nat} (h : Pth n ops st l ps) : ∀ p ∈ ps, p < ops.length := by
  induction h with
  | init => simp
  | @step l ps p o _ hp _ ih =>
    intro q hq
    rcases List.mem_append.1 hq with h | h
    · exact ih q h
    · rw [List.mem_singleton.1 h]; exact (List.getElem?_eq_some_iff.1 hp).1
/-- A path that uses no operator of a cut reaches only what is reachable without the cut. -/
theorem Pth.reach {n : Nat} {ops : List OpV} {st l : List Int} {ps : List Nat} {C : List Int} (h : Pth n (ops.map rxO) st l ps) (hC : ∀ p ∈ ps, (p : Int) ∉ C) : ∀ q ∈ l, Reach st ops (useOut C) q := by
  induction h with
  | init => exact fun q hq => .init hq
  | @step l ps p o _ hp hpre ih =>
    have ih' := ih (fun q hq => hC q (List.mem_append_left _ hq))
    rw [List.getElem?_map] at hp
    obtain ⟨o', ho', rfl⟩ := Option.map_eq_some_iff.1 hp
    intro q hq
    rcases (nextV_mem.1 hq).2 with h | h
    · exact .step ho' (by simp [useOut, hC p (by simp)]) (fun x hx => ih' x (hpre x hx)) h
    · exact ih' q h.1
theorem cost_lower {left C : List Int} {c : Int} (hset : SetP C (left.length : Int)) (hc : 0 ≤ c) : ∀ (ps : List Nat), (∀ p ∈ ps, p < left.length) → costOf (lower left C c) ps ≤ costOf left ps ∧ ((∃ p ∈ ps, (p : Int) ∈ C) → costOf (lower left C c) ps + c ≤ costOf left ps)
  | [], _ => ⟨Int.le_refl _, fun ⟨p, h, _⟩ => by simp at h⟩
  | p :: ps, hp => by
    obtain ⟨h1, h2⟩ := cost_lower hset hc ps (fun q hq => hp q (List.mem_cons_of_mem _ hq))
    have h3 := lower_at (c := c) C left hset.pairwise hset.1 (p : Int) (by omega)
    have e : ∀ cs : List Int, costOf cs (p :: ps) = valAt cs (p : Int) + costOf cs ps := fun cs => by unfold costOf; rw [List.map_cons, List.sum_cons]
    rw [e, e, h3]
    by_cases hin : (p : Int) ∈ C
    · rw [if_pos hin]; exact ⟨by omega, fun _ => by omega⟩
    · rw [if_neg hin]
      refine ⟨by omega, fun ⟨q, hq, hqC⟩ => ?_⟩
      rcases List.mem_cons.1 hq with h | h
      · subst h; exact absurd hqC hin
      · have := h2 ⟨q, h, hqC⟩; omega
theorem cost_nn {cs : List Int} (h : ∀ c ∈ cs, 0 ≤ c) : ∀ (ps : List Nat), (∀ p ∈ ps, p < cs.length) → 0 ≤ costOf cs ps
  | [], _ => Int.le_refl _
  | p :: ps, hp => by
    have h1 := cost_nn h ps (fun q hq => hp q (List.mem_cons_of_mem _ hq))
    have h2 := h _ (valAt_mem (l := cs) (i := (p : Int)) (by omega) (by have := hp p (List.mem_cons_self ..); omega))
    unfold costOf at *
    rw [List.map_cons, List.sum_cons]
    omega
section
variable {n : Nat} {st goal : List Int} {ops : List OpV} {c0 : List Int} {cs : List (List Int × Int)}
/-- The cuts together cost no more than a relaxed plan. -/
theorem CutsOk.path (h : CutsOk n st goal ops c0 cs) (hl : c0.length = ops.length) (hv : ∀ c ∈ c0, 0 ≤ c ∧ c ≤ 100) {b : List Int} {ps : List Nat} (hp : Pth n (ops.map rxO) st b ps) (hg : ∀ q ∈ goal, q ∈ b) : totalOf cs ≤ costOf c0 ps := by
  have hr : ∀ p ∈ ps, p < ops.length := fun p hq => by have := hp.rng p hq; rwa [List.length_map] at this
  have key : ∀ k, k ≤ cs.length → totalOf (cs.take k) + costOf (leftOf c0 (cs.take k)) ps ≤ costOf c0 ps := by
    intro k
    induction k with
    | zero => intro _; simp [totalOf, leftOf]
    | succ k ih =>
      intro hk
      have hx := List.getElem?_eq_getElem (show k < cs.length by omega)
      have hc := h k _ hx
      have h1 := ih (by omega)
      rw [leftOf_succ hx, totalOf_succ hx]
      have hex : ∃ p ∈ ps, (p : Int) ∈ cs[k].1 := Classical.byContradiction fun hno =>
        hc.cut fun q hq => hp.reach (fun p hpp hpc => hno ⟨p, hpp, hpc⟩) q (hg q hq)
      have h2 := (cost_lower (left := leftOf c0 (cs.take k)) (C := cs[k].1) (c := cs[k].2) (by rw [leftOf_len, hl]; exact hc.set) (by have := hc.pos; omega) ps (fun p hpp => by rw [leftOf_len, hl]; exact hr p hpp)).2 hex
      omega
  have h1 := key cs.length (Nat.le_refl _)
  rw [List.take_length] at h1
  have h2 := cost_nn (cs := leftOf c0 cs) (fun c hc => by
    have := h.left_in hl hv cs.length c (by rw [List.take_length]; exact hc)
    exact this.1) ps (fun p hpp => by rw [leftOf_len, hl]; exact hr p hpp)
  omega
/-- The value of the goal is no more than the costs of the cuts and its value by what is left. -/
theorem CutsOk.value (h : CutsOk n st goal ops c0 cs) (hl : c0.length = ops.length) (hv : ∀ c ∈ c0, 0 ≤ c ∧ c ≤ 100) (hst : ∀ p ∈ st, 0 ≤ p ∧ p < (n : Int)) (hadd : ∀ o ∈ ops, ∀ p ∈ o.add, 0 ≤ p ∧ p < (n : Int)) : combV false (valuesV false n st ops c0) goal ≤ totalOf cs + combV false (valuesV false n st ops (leftOf c0 cs)) goal := by
  have hB : ∀ k, Best false n st ops (leftOf c0 (cs.take k)) (valuesV false n st ops (leftOf c0 (cs.take k))) := fun k =>
    best_ex hst hadd (fun c hc => by have := h.left_in hl hv k c hc; unfold InV; omega)
  have key : ∀ k, k ≤ cs.length → combV false (valuesV false n st ops c0) goal ≤ totalOf (cs.take k) + combV false (valuesV false n st ops (leftOf c0 (cs.take k))) goal := by
    intro k
    induction k with
    | zero => intro _; simp [totalOf, leftOf]
    | succ k ih =>
      intro hk
      have hx := List.getElem?_eq_getElem (show k < cs.length by omega)
      have h1 := ih (by omega)
      have h2 := (h k _ hx).drop _ _ (hB k) (by have := hB (k + 1); rw [leftOf_succ hx] at this; exact this)
      rw [totalOf_succ hx, leftOf_succ hx]
      omega
  have h1 := key cs.length (Nat.le_refl _)
  rwa [List.take_length] at h1
end
end Go.Proofs.Ytihkgdlanfemcaa
