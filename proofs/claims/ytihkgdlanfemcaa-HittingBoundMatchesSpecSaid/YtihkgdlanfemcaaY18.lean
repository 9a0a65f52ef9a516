/-
  relaxplan.Best: its rows and its table of costs.
  relaxplan.Best: what it returns.
-/
import Derived.Test.YtihkgdlanfemcaaY5
import Derived.Test.YtihkgdlanfemcaaY17
import Derived.Test.YtihkgdlanfemcaaChecked
import Derived.Shelf.SlSortCmp.NoneTotal
import Derived.Test.YtihkgdlanfemcaaY9
import Derived.Maps.Own
import Derived.Maps.OwnOps
import Derived.Maps.OwnSet
import Derived.Test.YtihkgdlanfemcaaY7
namespace Go.Proofs.Ytihkgdlanfemcaa
open Go.RowKit Go.Sort Go.Maps
set_option linter.unusedVariables false
set_option linter.unusedSimpArgs false
/-! ### The states' row -/
def OwnS (base : Nat) (w : World) (v : Value) (ls : List (List Int)) : Prop := Own1 encW 99 base w v ls
theorem OwnS.below {base : Nat} {w w' : World} {v : Value} {ls : List (List Int)} (h : OwnS base w v ls) (hb : Below w.heap.size w w') : OwnS base w' v ls := OwnEs.below (p1_stable _) h hb
theorem OwnS.form {base : Nat} {w : World} {v : Value} {ls : List (List Int)} (h : OwnS base w v ls) : ∃ A c, v = .slice A ls.length c := OwnEs.form h
theorem OwnS.at_ {base n c k : Nat} {w : World} {A : Option Addr} {ls : List (List Int)} (h : OwnS base w (.slice A n c) ls) (hk : k < ls.length) :
    ∃ g l, A = some ⟨g, 0, none⟩ ∧ Hid (ls[k]? = some l) ∧ w.cell? ⟨g, k, none⟩ = some (.int .u32 (wv l)) := by
  obtain ⟨g, cs, l, rfl, _, _, hl, _, hc, hP⟩ := OwnEs.at_ h hk
  unfold P1 at hP
  subst hP
  refine ⟨g, l, rfl, hl, ?_⟩
  have h1 := hc 0 _ rfl
  rw [Nat.mul_one, Nat.add_zero] at h1
  exact h1
theorem OwnS.other {base K : Nat} {w w' : World} {v : Value} {ls : List (List Int)} (h : OwnS base w v ls) (hg : w.grownBy w' (some K)) (hK : K < base) : OwnS base w' v ls := by
  obtain ⟨cells, ⟨h1, h2⟩, h3⟩ := h
  refine ⟨cells, ⟨h1, ?_⟩, h3⟩
  rcases h2 with h2 | ⟨g, cap, cur, hv, hb, hh, r⟩
  · exact Or.inl h2
  · refine Or.inr ⟨g, cap, cur, hv, hb, (hg.block g ?_ (fun e => ?_)).trans hh, r⟩
    · rcases Nat.lt_or_ge g w.heap.size with hl | hl
      · exact hl
      · rw [Array.getElem?_eq_none hl] at hh; cases hh
    · injection e with e; omega
theorem OwnS.apart {base K : Nat} {w : World} {v : Value} {ls : List (List Int)} (h : OwnS base w v ls) (hK : K < base) : some K ≠ v.ownBlock := fun e => by
  have := (OwnEs.lt h K e.symm).1
  omega
/-! ### slices.SortFunc -/
/-! ### The table of costs -/
def TabM (B m : Nat) (w : World) (D : DataW Unit) : Prop := w.ownsMap Try.prog 99 (plainElem Try.prog 3) B m D
theorem TabM.below {B m : Nat} {w w' : World} {D : DataW Unit} (h : TabM B m w D) (hb : Below w.heap.size w w') : TabM B m w' D := by
  have hlt := World.ownsMap.lt h
  obtain ⟨es, clock, h1, h2⟩ := h
  exact ⟨es, clock, (hb.block B hlt).trans h1, h2⟩
theorem SetP.wf {l : List Int} {n : Nat} (h : SetP l (n : Int)) (hn : n ≤ 24) : (Lit.int .u32 (wordV l)).wf = true := WalkArith.wf_u32 (by have := h.word_u32 hn; omega)
theorem SetP.key {l : List Int} {n : Nat} (h : SetP l (n : Int)) (hn : n ≤ 24) : keyOf Try.prog 99 (.int .u32 (wordV l)) = some (.int .u32 (wordV l)) := keyOf_int_mk Try.underlying99 (h.wf hn)
/-- The table holds the costs f of the states ls. -/
structure KM (D : DataW Unit) (ls : List (List Int)) (n : Nat) (f : List Int → Int) : Prop where
  has : ∀ l, SetP l (n : Int) → Maps.has D (.int .u32 (wordV l)) = decide (l ∈ ls)
  val : ∀ l, SetP l (n : Int) → l ∈ ls → D.atKey (.int .u32 (wordV l)) (.lit (.int .i64 0)) = .lit (.int .i64 (f l))
theorem KM.put {D : DataW Unit} {ls ls' : List (List Int)} {n : Nat} {f f' : List Int → Int} (h : KM D ls n f) (hD : IsMap D) {r : List Int} (hr : SetP r (n : Int)) (hm : ∀ l, l ∈ ls' ↔ l ∈ ls ∨ l = r) {y : Int} (hy : f' r = y) (hf : ∀ l ∈ ls, l ≠ r → f' l = f l) : KM (D.put (.int .u32 (wordV r)) (.lit (.int .i64 y))) ls' n f' := by
  have hne : ∀ l, SetP l (n : Int) → l ≠ r → (Lit.int .u32 (wordV l)) ≠ .int .u32 (wordV r) := fun l hl e h1 => e (word_inj hl hr (by injection h1))
  refine ⟨fun l hl => ?_, fun l hl hin => ?_⟩
  · by_cases e : l = r
    · subst e
      rw [Maps.has_put_same hD (k := .int .u32 (wordV l)) trivial, decide_eq_true ((hm l).2 (.inr rfl))]
    · rw [Maps.has_put_other (hne l hl e), h.has l hl]
      refine decide_eq_decide.2 ?_
      rw [hm]
      exact ⟨.inl, fun h => h.resolve_right e⟩
  · by_cases e : l = r
    · subst e
      rw [Maps.atKey_put_same hD (k := .int .u32 (wordV l)) trivial, hy]
    · rw [Maps.atKey_put_other (hne l hl e)]
      have hl2 := ((hm l).1 hin).resolve_right e
      rw [h.val l hl hl2, hf l hl2 e]
theorem KM.mem {D : DataW Unit} {ls ls' : List (List Int)} {n : Nat} {f : List Int → Int} (h : KM D ls n f) (hm : ∀ l, l ∈ ls' ↔ l ∈ ls) : KM D ls' n f :=
  ⟨fun l hl => by rw [h.has l hl]; exact decide_eq_decide.2 (hm l).symm, fun l hl hin => h.val l hl ((hm l).1 hin)⟩
theorem KM.at_ {D : DataW Unit} {ls : List (List Int)} {n : Nat} {f : List Int → Int} (h : KM D ls n f) {l : List Int} (hl : SetP l (n : Int)) (hin : l ∈ ls) {c : Int} (hat : D.atKey (.int .u32 (wordV l)) (.lit (.int .i64 0)) = .lit (.int .i64 c)) : c = f l := by
  rw [h.val l hl hin] at hat
  injection hat with hat
  injection hat with _ hat
  exact hat.symm
end Go.Proofs.Ytihkgdlanfemcaa

namespace Go.Proofs.Ytihkgdlanfemcaa
open Go.RowKit Go.Sort Go.Maps
set_option linter.unusedVariables false
set_option linter.unusedSimpArgs false

/-- What relaxplan.Best returns: a cost, or a fault where too many states are reached. -/
def RBOut (n : Nat) (ops : List OpV) (goal st : List Int) (d c j : Int) : Prop :=
  ((c = 0 ∧ j = 0) ∧ RBest n ops goal st d ∧ ∃ ls, RSt n ops st ls ls.length 0 ∧ ls.length ≤ 2000) ∨ ((d = 0 ∧ c = 10 ∧ j = -7) ∧ ∃ ls : List (List Int), ls.Nodup ∧ ls.length = 2001 ∧ ∀ l ∈ ls, Rch n ops st l)
end Go.Proofs.Ytihkgdlanfemcaa
