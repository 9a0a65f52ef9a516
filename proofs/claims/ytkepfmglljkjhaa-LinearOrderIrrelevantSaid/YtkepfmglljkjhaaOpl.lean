/-
  A law's argument of type [][]int, as the walk wants it.
-/
import Derived.Test.YtkepfmglljkjhaaMA
import Derived.Test.YtkepfmglljkjhaaBf3
namespace Go.Proofs.Ytkepfmglljkjhaa
open Go.Joins Go.ChangeShapes Go.WideShapes Go.RowKit Go.Deep
set_option linter.unusedVariables false
set_option linter.unusedSimpArgs false

section
variable {H : Type} {enc : TypeId × Value → H} {w : World}
/-- All that is read of rows. -/
def RowsRead (w : World) (A : Option Addr) (ls : List (List Int)) : Prop := ∀ (i : Nat) (r : List Int), ls[i]? = some r → ∃ ad B c, A = some ad ∧ w.cell? (ad.add i) = some (.slice B r.length c) ∧ Ints w B r ∧ NilOk B r c
theorem RowsRead.llr {A : Option Addr} {ls : List (List Int)} (h : RowsRead w A ls) : LLR w A ls := fun i r hr => by
  obtain ⟨ad, B, c, e, h1, h2, _⟩ := h i r hr
  exact ⟨ad, B, c, e, h1, h2⟩
theorem RowsRead.lens {A : Option Addr} {ls : List (List Int)} (h : RowsRead w A ls) : ∀ s ∈ ls, s.length ≤ 9223372036854775807 := fun s hs => by
  obtain ⟨i, hi⟩ := List.getElem?_of_mem hs
  obtain ⟨_, _, _, _, _, _, h3⟩ := h i s hi
  exact Nat.le_trans h3.2.1 h3.2.2
theorem read_rows {fuel : Nat} {cs : List Value} {x : DataW H × List MemPlace} (h : DataW.trod enc Try.prog w 0 (fun _ => true) true fuel 22 cs = some x) :
    ∃ A c ls, cs = [.slice A ls.length c] ∧ ls.length ≤ c ∧ lenOk c ∧ (A = none → ls = [] ∧ c = 0) ∧ RowsRead w A ls := by
  rcases open_slice1 Try.underlying22 (by kernel_rfl) h with ⟨rfl, rfl⟩ | ⟨a, len, cap, m, n, V, D, Pl, rfl, hb, hl, hm, hmm, hx, hi⟩
  · exact ⟨none, 0, [], rfl, Nat.le_refl _, by unfold lenOk; omega, fun _ => ⟨rfl, rfl⟩, fun k o hk => by simp at hk⟩
  · simp only [if_true] at hmm
    subst hmm
    have each : ∀ i : Nat, ∃ r : List Int, i < m → ∃ B c, w.cell? (a.add i) = some (.slice B r.length c) ∧ Ints w B r ∧ NilOk B r c := by
      intro i
      by_cases him : i < m
      · obtain ⟨hc, t0⟩ := hi i him
        obtain ⟨B, c, r, e0, q0, m0, n0, I0, _⟩ := read_ints t0
        injection e0 with e0
        rw [e0] at hc
        exact ⟨r, fun _ => ⟨B, c, hc, I0, n0, q0, m0⟩⟩
      · exact ⟨[], fun h => absurd h him⟩
    obtain ⟨f, hf⟩ := Classical.axiomOfChoice each
    refine ⟨some a, m, (List.range len).map f, by simp, by simpa using hl, by unfold lenOk; simp only [maxLen] at hm; omega, (fun h => by cases h), fun k o hk => ?_⟩
    obtain ⟨hk1, rfl⟩ := List.getElem?_eq_some_iff.1 hk
    rw [List.length_map, List.length_range] at hk1
    obtain ⟨B, c, r⟩ := hf k (by omega)
    exact ⟨a, B, c, rfl, by simpa using r⟩
set_option maxRecDepth 100000 in
theorem open_rowsW {r : Go.Reach} {b0 : Nat} {v : Value} {d : DataW H} {p : List MemPlace} (hv : Value.okWide Try.prog w r b0 22 v) (h : DataW.Trod enc Try.prog w 0 (fun _ => true) true 22 v d p) :
    ∃ A c ls, v = .slice A ls.length c ∧ ls.length ≤ c ∧ lenOk c ∧ (A = none → ls = [] ∧ c = 0) ∧ RowsRead w A ls := by
  obtain ⟨a0, len, cap, rfl⟩ := okWide_slice Try.underlying22 hv
  obtain ⟨fuel, hf⟩ := h
  obtain ⟨A, c, xs, e, q⟩ := read_rows hf
  refine ⟨A, c, xs, ?_, q⟩
  simpa [Value.cells] using e
end

end Go.Proofs.Ytkepfmglljkjhaa
