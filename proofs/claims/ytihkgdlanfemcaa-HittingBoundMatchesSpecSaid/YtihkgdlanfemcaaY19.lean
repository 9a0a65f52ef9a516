/-
  relaxplanExample: what it returns.
-/
import Derived.Test.YtihkgdlanfemcaaY15
import Derived.Test.YtihkgdlanfemcaaY2
import Derived.Test.YtihkgdlanfemcaaY8
import Derived.Test.YtihkgdlanfemcaaY9
import Derived.Test.YtihkgdlanfemcaaY18
import Derived.Test.YtihkgdlanfemcaaY16
namespace Go.Proofs.Ytihkgdlanfemcaa
open Go.RowKit
set_option linter.unusedVariables false
set_option linter.unusedSimpArgs false
theorem chain_low {l : List Int} {c : Int} (h : Cst 2 (chainV.ops.map rxO) [] l c) : 0 ≤ c ∧ (0 ∈ l → 2 ≤ c) ∧ (1 ∈ l → 5 ≤ c) := by
  induction h with
  | init => simp
  | @step l c p o _ hp hq ih =>
    match p, hp with
    | 0, hp =>
      obtain rfl : (⟨[], [0], [], 2⟩ : OpV) = o := by simpa [chainV, rxO] using hp
      refine ⟨by dsimp only; omega, fun _ => by dsimp only; omega, fun h => ?_⟩
      have h1 := (nextV_mem.1 h).2
      simp at h1
      have := ih.2.2 h1
      dsimp only; omega
    | 1, hp =>
      obtain rfl : (⟨[0], [1], [], 3⟩ : OpV) = o := by simpa [chainV, rxO] using hp
      have := ih.2.1 (hq 0 (by simp))
      exact ⟨by dsimp only; omega, fun _ => by dsimp only; omega, fun _ => by dsimp only; omega⟩
    | p + 2, hp => simp [chainV] at hp
theorem chain_best {d : Int} (h : RBest 2 (chainV.ops.map rxO) chainV.goal [] d) : d = 5 := by
  have h1 := Cst.step (n := 2) (p := 0) (o := ⟨[], [0], [], 2⟩) (.init : Cst 2 (chainV.ops.map rxO) [] [] 0) rfl (by simp)
  have h2 := Cst.step (n := 2) (p := 1) (o := ⟨[0], [1], [], 3⟩) h1 rfl (fun q hq => by simp at hq; subst hq; exact nextV_mem.2 ⟨by omega, .inl (by simp)⟩)
  have h3 := h.2.2 _ _ h2 (fun q hq => by simp [chainV] at hq; subst hq; exact nextV_mem.2 ⟨by omega, .inl (by simp)⟩)
  rcases h.1 with e | ⟨l, h4, h5⟩
  · simp at h3; omega
  · have := (chain_low h4).2.2 (h5 1 (by simp [chainV]))
    simp at h3; omega
/-- No more states are reached than there are sets of facts. -/
theorem few_states {n : Nat} {ops : List OpV} {st : List Int} {ls : List (List Int)} (hst : SetP st (n : Int)) (hn : ls.Nodup) (hr : ∀ l ∈ ls, Rch n ops st l) : ls.length ≤ 2 ^ n := by
  have hset : ∀ l ∈ ls, SetP l (n : Int) := fun l hl => by
    have h := hr l hl
    cases h with
    | init => exact hst
    | step _ _ _ => exact nextV_set n _ _
  have h1 : (ls.map wordV).Nodup := by
    refine List.pairwise_map.2 (List.Pairwise.imp_of_mem (fun {a b} ha hb hab => ?_) hn)
    exact fun e => hab (word_inj (hset a ha) (hset b hb) e)
  have h2 := nodup_len (m := 2 ^ n) h1 (fun x hx => by
    obtain ⟨l, hl, rfl⟩ := List.mem_map.1 hx
    have h3 := wordV_lt n (hset l hl).nodup (hset l hl).1
    have h4 := wordV_nn l
    have h5 : ((2 ^ n : Nat) : Int) = 2 ^ n := by simp
    omega)
  simpa using h2
theorem RBOut.small {n : Nat} {ops : List OpV} {goal st : List Int} {d c j : Int} (h : RBOut n ops goal st d c j) (hst : SetP st (n : Int)) (hn : n ≤ 10) : (c = 0 ∧ j = 0) ∧ RBest n ops goal st d := by
  rcases h with ⟨h1, h2, _⟩ | ⟨_, ls, h1, h2, h3⟩
  · exact ⟨h1, h2⟩
  · have h4 := few_states hst h1 h3
    have h5 : 2 ^ n ≤ 2 ^ 10 := Nat.pow_le_pow_right (by decide) hn
    have h6 : (2 : Nat) ^ 10 = 1024 := by decide
    omega
end Go.Proofs.Ytihkgdlanfemcaa
