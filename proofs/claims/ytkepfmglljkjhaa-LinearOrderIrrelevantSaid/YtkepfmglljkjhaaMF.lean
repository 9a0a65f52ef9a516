/-
  R.Copy, R.With: what they return.
  S.Within: what it returns.
  two, relaxedExample: what they return.
-/
import Derived.Test.YtkepfmglljkjhaaMC
import Derived.Test.YtkepfmglljkjhaaMA
import Derived.Test.YtkepfmglljkjhaaMB
import Derived.Test.YtkepfmglljkjhaaME
namespace Go.Proofs.Ytkepfmglljkjhaa
open Go.RowKit
set_option linter.unusedVariables false
set_option linter.unusedSimpArgs false

set_option maxRecDepth 100000 in
set_option maxHeartbeats 400000 in
theorem copy_any (w : World) (A : Option Addr) (c n : Nat) (xs : List Int) (hI : Ints w A xs) (hn : xs.length = n) (hnil : A = none → xs = [] ∧ c = 0) (hlen : n ≤ 1000000000000) :
    Calls Try.prog 13 #[.slice A n c] w fun e w' => ∃ A' c', e = .returned (.slice A' n c') ∧ OwnI w.heap.size w' (.slice A' n c') xs ∧ (A' = none → xs = [] ∧ c' = 0) ∧ Below w.heap.size w w' := by
  go_enter Try.func13, Try.ntmps13
  go_wp2_with (at_builtin; go_must (refine wpList_copy rfl (.tmp 4) (.tmp 5) rfl A c n xs rfl rfl hn hnil hI hlen ?_; intro A1 c1 w1 o1 hnil1 B1))
  go_ret
  exact ⟨A1, c1, rfl, o1, hnil1, B1⟩

theorem OwnI.form_at' {base n : Nat} {w : World} {v : Value} {xs : List Int} (h : OwnI base w v xs) (hn : xs.length = n) : ∃ A c, v = .slice A n c ∧ (A = none → xs = [] ∧ c = 0) := by
  subst hn
  obtain ⟨A, c, rfl, h1, _⟩ := h.form
  exact ⟨A, c, rfl, h1⟩
end Go.Proofs.Ytkepfmglljkjhaa

namespace Go.Proofs.Ytkepfmglljkjhaa
open Go.RowKit
end Go.Proofs.Ytkepfmglljkjhaa

namespace Go.Proofs.Ytkepfmglljkjhaa
open Go.RowKit
set_option linter.unusedVariables false
set_option linter.unusedSimpArgs false

/-- The task of the examples. -/
def twoV : TaskV := ⟨2, [], [0, 1], [⟨[], [0], [], 2⟩, ⟨[], [1], [], 3⟩]⟩
def chainV : TaskV := ⟨2, [], [1], [⟨[], [0], [], 2⟩, ⟨[0], [1], [], 3⟩]⟩
theorem ints_one {w : World} {g : Nat} {x : Int} (h0 : w.cell? ⟨g, 0, none⟩ = some (.int .i64 x)) : Ints w (some ⟨g, 0, none⟩) [x] := fun j u hu => by
  cases j with
  | zero => simp at hu; subst hu; exact ⟨_, rfl, h0⟩
  | succ j => simp at hu
theorem ints_two {w : World} {g : Nat} {x y : Int} (h0 : w.cell? ⟨g, 0, none⟩ = some (.int .i64 x)) (h1 : w.cell? ⟨g, 1, none⟩ = some (.int .i64 y)) : Ints w (some ⟨g, 0, none⟩) [x, y] := fun j u hu => by
  cases j with
  | zero => simp at hu; subst hu; exact ⟨_, rfl, h0⟩
  | succ j =>
    cases j with
    | zero => simp at hu; subst hu; exact ⟨_, rfl, h1⟩
    | succ j => simp at hu
theorem ops_two {w : World} {g : Nat} {o p : OpV} {A0 A1 A2 B0 B1 B2 : Option Addr} {c0 c1 c2 d0 d1 d2 : Nat} (h0 : w.cell? ⟨g, 0, none⟩ = some (.slice A0 o.pre.length c0)) (h1 : w.cell? ⟨g, 1, none⟩ = some (.slice A1 o.add.length c1)) (h2 : w.cell? ⟨g, 2, none⟩ = some (.slice A2 o.del.length c2)) (h3 : w.cell? ⟨g, 3, none⟩ = some (.int .i64 o.cost)) (hm : OpMem w A0 A1 A2 o)
    (k0 : w.cell? ⟨g, 4, none⟩ = some (.slice B0 p.pre.length d0)) (k1 : w.cell? ⟨g, 5, none⟩ = some (.slice B1 p.add.length d1)) (k2 : w.cell? ⟨g, 6, none⟩ = some (.slice B2 p.del.length d2)) (k3 : w.cell? ⟨g, 7, none⟩ = some (.int .i64 p.cost)) (km : OpMem w B0 B1 B2 p) : OpsAt w (some ⟨g, 0, none⟩) [o, p] := fun j u hu => by
  cases j with
  | zero => simp at hu; subst hu; exact ⟨_, _, _, _, _, _, _, rfl, h0, h1, h2, h3, hm⟩
  | succ j =>
    cases j with
    | zero => simp at hu; subst hu; exact ⟨_, _, _, _, _, _, _, rfl, k0, k1, k2, k3, km⟩
    | succ j => simp at hu
theorem two_valid : Valid twoV := by
  refine ⟨by decide, by decide, SetP.nil _, ?_, by decide, ?_⟩
  · exact SetP.of_pairwise (by simp [twoV]) (by simp [twoV])
  · intro o ho
    simp only [twoV, List.mem_cons, List.not_mem_nil, or_false] at ho
    rcases ho with rfl | rfl
    · exact ⟨⟨SetP.nil _, SetP.of_pairwise (by simp [twoV]) (by simp), SetP.nil _, by simp⟩, by decide, by decide⟩
    · exact ⟨⟨SetP.nil _, SetP.of_pairwise (by simp [twoV]) (by simp), SetP.nil _, by simp⟩, by decide, by decide⟩
theorem two_best (s : Bool) : Best s 2 [] twoV.ops (twoV.ops.map (·.cost)) [2, 3] := by
  refine ⟨⟨⟨rfl, ?_, by simp⟩, ?_⟩, ?_⟩
  · intro v hv
    simp only [List.mem_cons, List.not_mem_nil, or_false] at hv
    unfold InV
    omega
  · intro i o c hi ho hc p hp
    match i, hi with
    | 0, _ => cases ho; cases hc; simp at hp; subst hp; cases s <;> decide
    | 1, _ => cases ho; cases hc; simp at hp; subst hp; cases s <;> decide
  · intro U hU p
    have h0 := hU.closed 0 _ _ (by decide) rfl rfl 0 (by simp)
    have h1 := hU.closed 1 _ _ (by decide) rfl rfl 1 (by simp)
    have e0 : opV s U ⟨[], [0], [], 2⟩ 2 = 2 := by unfold opV; rw [combV_nil]; rfl
    have e1 : opV s U ⟨[], [1], [], 3⟩ 3 = 3 := by unfold opV; rw [combV_nil]; rfl
    rw [e0] at h0
    rw [e1] at h1
    have hl := hU.shape.len
    unfold valAt at h0 h1 ⊢
    rcases Nat.lt_or_ge p.toNat 2 with hp | hp
    · rcases (by omega : p.toNat = 0 ∨ p.toNat = 1) with e | e
      · rw [e]; exact h0
      · rw [e]; exact h1
    · rw [List.getElem?_eq_none (by omega), List.getElem?_eq_none (by simpa using hp)]
      exact Int.le_refl _
theorem two_values (s : Bool) : valuesV s 2 [] twoV.ops (twoV.ops.map (·.cost)) = [2, 3] := (best_eq (two_best s)).symm
theorem two_within : withinV 2 [] twoV.ops (fun _ => true) = [0, 1] := by
  refine SetP.ext withinV_set (SetP.of_pairwise (n := 2) (by simp) (by simp)) fun x => ?_
  rw [withinV_mem]
  constructor
  · rintro ⟨h0, h1, _⟩
    have : x = 0 ∨ x = 1 := by omega
    simpa using this
  · intro h
    have hx : x = 0 ∨ x = 1 := by simpa using h
    rcases hx with rfl | rfl
    · exact ⟨by decide, by decide, .step (i := 0) (o := ⟨[], [0], [], 2⟩) rfl rfl (by simp) (by simp)⟩
    · exact ⟨by decide, by decide, .step (i := 1) (o := ⟨[], [1], [], 3⟩) rfl rfl (by simp) (by simp)⟩
end Go.Proofs.Ytkepfmglljkjhaa
