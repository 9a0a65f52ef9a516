/-
  lmcut.Find: what it returns.
-/
import Derived.Test.YtihkgdlanfemcaaZMI
import Derived.Test.YtihkgdlanfemcaaZMA
import Derived.Deep.AppendLies
namespace Go.Proofs.Ytihkgdlanfemcaa
open Go.RowKit
set_option linter.unusedVariables false
set_option linter.unusedSimpArgs false

/-- A cut in memory: a list of operators and a cost. -/
def PCut (B : Nat) (w : World) (row : Option Nat) (cs : List Value) (x : List Int × Int) : Prop := ∃ v, cs = [v, .int .i64 x.2] ∧ PList B w row [v] x.1
theorem pcut_stable (B : Nat) : Stable (PCut B) := by
  constructor
  · rintro w w' row cs x ⟨v, e, h⟩ hb
    exact ⟨v, e, (plist_stable B).below h hb⟩
  · rintro w w' row cs x ⟨v, e, h⟩ hg
    exact ⟨⟨v, e, ((plist_stable B).grown h hg).1⟩, ⟨v, e, ((plist_stable B).grown h hg).2⟩⟩
def OwnCs (base : Nat) (w : World) (v : Value) (xs : List (List Int × Int)) : Prop := OwnEs (PCut base) 80 2 base w v xs
theorem OwnCs.far {base : Nat} {w : World} {v : Value} {xs : List (List Int × Int)} (h : OwnCs base w v xs) {p : Addr} (hp : p.block < base) (u : Value) : OwnCs base (w.setCell p u) v xs :=
  OwnEs.far h (fun h hp => by obtain ⟨v, e, h⟩ := h; exact ⟨v, e, plist_far h hp⟩) hp u
theorem OwnCs.below {base : Nat} {w w' : World} {v : Value} {xs : List (List Int × Int)} (h : OwnCs base w v xs) (hb : Below w.heap.size w w') : OwnCs base w' v xs := OwnEs.below (pcut_stable _) h hb
theorem OwnCs.drew {base : Nat} {w : World} {v : Value} {xs : List (List Int × Int)} (h : OwnCs base w v xs) : OwnCs base w.drew v xs := h.below (bdrew (Below.refl _ _))
theorem OwnI.grown {base : Nat} {w w' : World} {v : Value} {xs : List Int} {row : Option Nat} (h : OwnI base w v xs) (hg : w.grownBy w' row) (hne : ∀ k, row = some k → v.ownBlock ≠ some k) : OwnI base w' v xs := by
  obtain ⟨h1, h2⟩ := h
  refine ⟨h1, ?_⟩
  rcases h2 with h2 | ⟨g, cap, cur, hv, hb, hh, r⟩
  · exact Or.inl h2
  · refine Or.inr ⟨g, cap, cur, hv, hb, (hg.block g ?_ (fun e => hne g e.symm (by rw [hv]; rfl))).trans hh, r⟩
    rcases Nat.lt_or_ge g w.heap.size with hl | hl
    · exact hl
    · rw [Array.getElem?_eq_none hl] at hh; cases hh
theorem IArr.own {w : World} {g base n : Nat} {xs : List Int} (h : IArr w g xs) (hn : xs.length = n) (hb : base ≤ g) (hm : n ≤ 1000000000000) : OwnI base w (.slice (some ⟨g, 0, none⟩) n n) xs := by
  subst hn
  refine ⟨by simp, .inr ⟨g, xs.length, (xs.map (Value.int .i64)).toArray, rfl, hb, h, Nat.le_refl _, by simp only [maxLen]; omega, by simp, ?_⟩⟩
  rw [Nat.mul_one]
  exact List.take_of_length_le (by simp)
/-- All goals can be reached. -/
def GoalR (t : TaskV) (st : List Int) : Prop := ∀ q ∈ t.goal, Reach st t.ops (fun _ => true) q
theorem goal_inf_iff {n : Nat} {st goal : List Int} {ops : List OpV} {cs V : List Int} (hV : Best false n st ops cs V) (hlc : cs.length = ops.length) (hc : ∀ c ∈ cs, 0 ≤ c ∧ c ≤ 100) (hst : ∀ p ∈ st, 0 ≤ p ∧ p < (n : Int))
    (hops : ∀ o ∈ ops, (∀ p ∈ o.pre, 0 ≤ p ∧ p < (n : Int)) ∧ ∀ p ∈ o.add, 0 ≤ p ∧ p < (n : Int)) (hg : ∀ p ∈ goal, 0 ≤ p ∧ p < (n : Int)) : combV false V goal = 1000000000 ↔ ¬ ∀ q ∈ goal, Reach st ops (fun _ => true) q := by
  rw [combV_inf hV.fix.shape.all]
  have key := fun q (h : q ∈ goal) => inf_reach hV hlc (fun c h => by have := hc c h; unfold InV; omega) (fun c h => by have := hc c h; omega) (fun p h => (hst p h).1) hops (hg q h).1 (hg q h).2
  constructor
  · rintro ⟨x, hx, h⟩ hall; exact (key x hx).1 h (hall x hx)
  · intro h
    exact Classical.byContradiction fun hn => h fun q hq => Classical.byContradiction fun hr => hn ⟨q, hq, (key q hq).2 hr⟩
theorem OwnI.away {base : Nat} {w : World} {v : Value} {xs : List Int} (h : OwnI base w v xs) {p : Addr} (hp : v.ownBlock ≠ some p.block) (u : Value) : OwnI base (w.setCell p u) v xs := by
  obtain ⟨h1, h2⟩ := h
  refine ⟨h1, ?_⟩
  rcases h2 with h2 | ⟨g, cap, cur, hv, hg, hh, r⟩
  · exact Or.inl h2
  · exact Or.inr ⟨g, cap, cur, hv, hg, (Below.heap_setCell w p u g (fun e => hp (by rw [hv, e]; rfl))).trans hh, r⟩
theorem PCut.form {B : Nat} {w : World} {row : Option Nat} {cs : List Value} {x : List Int × Int} (h : PCut B w row cs x) : ∃ A c, cs = [.slice A x.1.length c, .int .i64 x.2] ∧ Ints w A x.1 ∧ (A = none → x.1 = [] ∧ c = 0) := by
  obtain ⟨v, rfl, A, c, e, hI, hn, _⟩ := h
  injection e with e
  subst e
  exact ⟨A, c, rfl, hI, hn⟩
end Go.Proofs.Ytihkgdlanfemcaa
