/-
  The least cost of a relaxed plan, by the states in the order of their bits: plain.
-/
import Derived.Test.YtihkgdlanfemcaaWd
import Derived.Test.YtihkgdlanfemcaaBf3
namespace Go.Proofs.Ytihkgdlanfemcaa
open Go.RowKit
set_option linter.unusedVariables false
set_option linter.unusedSimpArgs false

/-- A state is reached for a cost. -/
inductive Cst (n : Nat) (ops : List OpV) (st : List Int) : List Int → Int → Prop
  | init : Cst n ops st st 0
  | step {l : List Int} {c : Int} {p : Nat} {o : OpV} : Cst n ops st l c → ops[p]? = some o → (∀ q ∈ o.pre, q ∈ l) → Cst n ops st (nextV n l o) (c + o.cost)
/-- What relaxplan.Best returns (ops: without deletions). -/
def RBest (n : Nat) (ops : List OpV) (goal st : List Int) (d : Int) : Prop :=
  (d = 1000000000 ∨ ∃ l, Cst n ops st l d ∧ ∀ q ∈ goal, q ∈ l) ∧ d ≤ 1000000000 ∧ ∀ l c, Cst n ops st l c → (∀ q ∈ goal, q ∈ l) → d ≤ c
theorem Cst.rch {n : Nat} {ops : List OpV} {st l : List Int} {c : Int} (h : Cst n ops st l c) : Rch n ops st l := by
  induction h with
  | init => exact .init
  | @step l c p o _ hp hc ih =>
    have := Rch.step (op := p) ih (List.getElem?_eq_some_iff.1 hp).1 ⟨o, by simpa using hp, hc⟩
    rwa [opAt_of (o := o) (by simpa using hp)] at this
theorem Cst.nn {n : Nat} {ops : List OpV} {st l : List Int} {c : Int} (hc : ∀ o ∈ ops, 0 ≤ o.cost) (h : Cst n ops st l c) : 0 ≤ c := by
  induction h with
  | init => exact Int.le_refl _
  | step _ hp _ ih => have := hc _ (List.mem_of_getElem? hp); omega
theorem RBest.nn {n : Nat} {ops : List OpV} {goal st : List Int} {d : Int} (hc : ∀ o ∈ ops, 0 ≤ o.cost) (h : RBest n ops goal st d) : 0 ≤ d := by
  rcases h.1 with e | ⟨l, hl, _⟩
  · omega
  · exact hl.nn hc

/-! ### The order of the states -/
/-- A step leads to a later state, or to the same one. -/
def Ordered (n : Nat) (ops : List OpV) (ls : List (List Int)) : Prop := ∀ (i j : Nat) (l : List Int) (p : Nat) (o : OpV), ls[i]? = some l → ops[p]? = some o → (∀ q ∈ o.pre, q ∈ l) → ls[j]? = some (nextV n l o) → i ≤ j
/-- The table of costs, and the least one of a goal state so far. -/
structure DPI (n : Nat) (ops : List OpV) (goal st : List Int) (ls : List (List Int)) (k p g : Nat) (f : List Int → Int) (b : Int) : Prop where
  real : ∀ l ∈ ls, f l = 1000000000 ∨ Cst n ops st l (f l)
  rng : ∀ l ∈ ls, 0 ≤ f l ∧ f l ≤ 1000000000
  start : f st = 0
  done : ∀ (j q : Nat) (l : List Int) (o : OpV), (j < k ∨ (j = k ∧ q < p)) → ops[q]? = some o → ls[j]? = some l → (∀ x ∈ o.pre, x ∈ l) → f (nextV n l o) ≤ f l + o.cost
  low : ∀ (j : Nat) (l : List Int), j < g → ls[j]? = some l → (∀ q ∈ goal, q ∈ l) → b ≤ f l
  breal : b = 1000000000 ∨ ∃ l, Cst n ops st l b ∧ ∀ q ∈ goal, q ∈ l
  brng : 0 ≤ b ∧ b ≤ 1000000000
section
variable {n : Nat} {ops : List OpV} {goal st : List Int} {ls : List (List Int)} {k p g : Nat} {f : List Int → Int} {b : Int}
theorem DPI.init (hf : ∀ l ∈ ls, f l = if l = st then 0 else 1000000000) (hst : f st = 0) : DPI n ops goal st ls 0 0 0 f 1000000000 := by
  refine ⟨fun l hl => ?_, fun l hl => ?_, hst, fun j q l o h => by omega, fun j l h => by omega, .inl rfl, by omega⟩
  · by_cases e : l = st
    · rw [e, hst]; exact .inr .init
    · rw [hf l hl, if_neg e]; exact .inl rfl
  · rw [hf l hl]; split <;> omega
theorem DPI.goal_yes (h : DPI n ops goal st ls k 0 k f b) {l : List Int} (hl : ls[k]? = some l) (hg : ∀ q ∈ goal, q ∈ l) : DPI n ops goal st ls k 0 (k + 1) f (min b (f l)) := by
  have hm := List.mem_of_getElem? hl
  refine ⟨h.real, h.rng, h.start, h.done, fun j l' hj hl' hg' => ?_, ?_, ?_⟩
  · by_cases e : j = k
    · rw [e, hl] at hl'; injection hl' with hl'; subst hl'; exact Int.min_le_right _ _
    · have := h.low j l' (by omega) hl' hg'
      omega
  · rcases Int.le_total b (f l) with e | e
    · rw [Int.min_eq_left e]; exact h.breal
    · rw [Int.min_eq_right e]
      rcases h.real l hm with e2 | e2
      · exact .inl e2
      · exact .inr ⟨l, e2, hg⟩
  · have := h.rng l hm; have := h.brng; omega
theorem DPI.goal_no (h : DPI n ops goal st ls k 0 k f b) {l : List Int} (hl : ls[k]? = some l) (hg : ¬ ∀ q ∈ goal, q ∈ l) : DPI n ops goal st ls k 0 (k + 1) f b :=
  ⟨h.real, h.rng, h.start, h.done, fun j l' hj hl' hg' => by
    by_cases e : j = k
    · rw [e, hl] at hl'; injection hl' with hl'; subst hl'; exact absurd hg' hg
    · exact h.low j l' (by omega) hl' hg', h.breal, h.brng⟩
theorem DPI.skip (h : DPI n ops goal st ls k p g f b) {l : List Int} {o : OpV} (hl : ls[k]? = some l) (ho : ops[p]? = some o) (hc : ¬ ∀ x ∈ o.pre, x ∈ l) : DPI n ops goal st ls k (p + 1) g f b :=
  ⟨h.real, h.rng, h.start, fun j q l' o' hjq ho' hl' hc' => by
    by_cases e : j = k ∧ q = p
    · obtain ⟨rfl, rfl⟩ := e
      rw [hl] at hl'; injection hl' with hl'; subst hl'
      rw [ho] at ho'; injection ho' with ho'; subst ho'
      exact absurd hc' hc
    · exact h.done j q l' o' (by omega) ho' hl' hc', h.low, h.breal, h.brng⟩
theorem DPI.row (h : DPI n ops goal st ls k p (k + 1) f b) (hp : ops.length ≤ p) : DPI n ops goal st ls (k + 1) 0 (k + 1) f b :=
  ⟨h.real, h.rng, h.start, fun j q l o hjq ho hl hc => h.done j q l o (by have := (List.getElem?_eq_some_iff.1 ho).1; omega) ho hl hc, h.low, h.breal, h.brng⟩
theorem DPI.use (h : DPI n ops goal st ls k p (k + 1) f b) (hOrd : Ordered n ops ls) (hnd : ls.Nodup) (hcost : ∀ o ∈ ops, 0 ≤ o.cost) {l : List Int} {o : OpV} (hl : ls[k]? = some l) (ho : ops[p]? = some o) (hc : ∀ x ∈ o.pre, x ∈ l) (hcl : ∀ (l : List Int) (p : Nat) (o : OpV), l ∈ ls → ops[p]? = some o → (∀ q ∈ o.pre, q ∈ l) → nextV n l o ∈ ls) {f' : List Int → Int}
    (hf1 : f' (nextV n l o) = min (f (nextV n l o)) (f l + o.cost)) (hf2 : ∀ r ∈ ls, r ≠ nextV n l o → f' r = f r) (hst : st ∈ ls) : DPI n ops goal st ls k (p + 1) (k + 1) f' b := by
  have hm := List.mem_of_getElem? hl
  have hin := hcl l p o hm ho hc
  have hco := hcost o (List.mem_of_getElem? ho)
  have hrl := h.rng l hm
  have hrn := h.rng _ hin
  have hle : ∀ r ∈ ls, f' r ≤ f r := fun r hr => by
    by_cases e : r = nextV n l o
    · rw [e, hf1]; omega
    · rw [hf2 r hr e]; exact Int.le_refl _
  obtain ⟨jn, hjn⟩ := List.getElem?_of_mem hin
  have hkj := hOrd k jn l p o hl ho hc hjn
  -- nothing that was passed already becomes less
  have hsame : ∀ (j : Nat) (r : List Int), j ≤ k → ls[j]? = some r → f' r = f r := fun j r hj hr => by
    by_cases e : r = nextV n l o
    · have hjj : j = jn := by
        have h1 := (List.getElem?_inj (i := j) (j := jn) (List.getElem?_eq_some_iff.1 hr).1 hnd).1 (by rw [hr, hjn, e])
        exact h1
      have hjk : j = k := by omega
      subst hjk
      rw [hl] at hr
      injection hr with hr
      subst hr
      rw [← e] at hf1
      rw [hf1]
      omega
    · exact hf2 r (List.mem_of_getElem? hr) e
  refine ⟨fun r hr => ?_, fun r hr => ?_, ?_, fun j q l' o' hjq ho' hl' hc' => ?_, fun j l' hj hl' hg' => ?_, h.breal, h.brng⟩
  · by_cases e : r = nextV n l o
    · subst e
      rw [hf1]
      rcases Int.le_total (f (nextV n l o)) (f l + o.cost) with e2 | e2
      · rw [Int.min_eq_left e2]; exact h.real _ hin
      · rw [Int.min_eq_right e2]
        rcases h.real l hm with e3 | e3
        · exact .inl (by omega)
        · exact .inr (.step e3 ho hc)
    · rw [hf2 r hr e]; exact h.real r hr
  · by_cases e : r = nextV n l o
    · subst e; rw [hf1]; omega
    · rw [hf2 r hr e]; exact h.rng r hr
  · by_cases e : st = nextV n l o
    · rw [e, hf1, ← e, h.start]; omega
    · rw [hf2 st hst e]; exact h.start
  · by_cases e : j = k ∧ q = p
    · obtain ⟨rfl, rfl⟩ := e
      rw [hl] at hl'; injection hl' with hl'; subst hl'
      rw [ho] at ho'; injection ho' with ho'; subst ho'
      rw [hsame j l (Nat.le_refl _) hl, hf1]
      omega
    · rw [hsame j l' (by omega) hl']
      have h1 := h.done j q l' o' (by omega) ho' hl' hc'
      by_cases e2 : nextV n l' o' = nextV n l o
      · rw [e2, hf1]; rw [e2] at h1; omega
      · have := hle _ (hcl l' q o' (List.mem_of_getElem? hl') ho' hc'); omega
  · rw [hsame j l' (by omega) hl']; exact h.low j l' hj hl' hg'
theorem DPI.best (h : DPI n ops goal st ls ls.length 0 ls.length f b) (hst : st ∈ ls) (hcl : ∀ (l : List Int) (p : Nat) (o : OpV), l ∈ ls → ops[p]? = some o → (∀ q ∈ o.pre, q ∈ l) → nextV n l o ∈ ls) : RBest n ops goal st b := by
  have key : ∀ l c, Cst n ops st l c → l ∈ ls ∧ f l ≤ c := fun l c hc => by
    induction hc with
    | init => exact ⟨hst, by rw [h.start]; exact Int.le_refl _⟩
    | @step l c p o _ ho hpre ih =>
      obtain ⟨j, hj⟩ := List.getElem?_of_mem ih.1
      have h1 := h.done j p l o (.inl (List.getElem?_eq_some_iff.1 hj).1) ho hj hpre
      exact ⟨hcl l p o ih.1 ho hpre, by omega⟩
  refine ⟨h.breal, h.brng.2, fun l c hc hg => ?_⟩
  obtain ⟨hl, hle⟩ := key l c hc
  obtain ⟨j, hj⟩ := List.getElem?_of_mem hl
  have := h.low j l (List.getElem?_eq_some_iff.1 hj).1 hj hg
  omega
end
theorem RSt.closed {n : Nat} {ops : List OpV} {st : List Int} {ls : List (List Int)} (h : RSt n ops st ls ls.length 0) : ∀ (l : List Int) (p : Nat) (o : OpV), l ∈ ls → ops[p]? = some o → (∀ q ∈ o.pre, q ∈ l) → nextV n l o ∈ ls := fun l p o hl ho hc => by
  obtain ⟨j, hj⟩ := List.getElem?_of_mem hl
  have := h.done j p l (.inl (List.getElem?_eq_some_iff.1 hj).1) (List.getElem?_eq_some_iff.1 ho).1 hj ⟨o, by simpa using ho, hc⟩
  rwa [opAt_of (o := o) (by simpa using ho)] at this
/-- States that are sorted by their number of bits. -/
theorem ordered_of {n : Nat} {ops : List OpV} {ls : List (List Int)} (hn : n ≤ 24) (hset : ∀ l ∈ ls, SetP l (n : Int)) (hnd : ls.Nodup) (hs : ∀ (i j : Nat) (a b : List Int), i < j → ls[i]? = some a → ls[j]? = some b → ones32 (wordV a) ≤ ones32 (wordV b)) : Ordered n (ops.map rxO) ls := fun i j l p o hl ho hc hj => by
  rcases Nat.lt_or_ge j i with h | h
  · exfalso
    have h1 := hs j i _ _ h hj hl
    rw [List.getElem?_map] at ho
    obtain ⟨o', ho', rfl⟩ := Option.map_eq_some_iff.1 ho
    have hls := hset l (List.mem_of_getElem? hl)
    have hns := hset _ (List.mem_of_getElem? hj)
    have hsub : ∀ x ∈ l, x ∈ nextV n l (rxO o') := fun x hx => nextV_mem.2 ⟨hls.1 x hx, .inr ⟨hx, by simp [rxO]⟩⟩
    by_cases e : l = nextV n l (rxO o')
    · rw [← e] at hj
      have := (List.getElem?_inj (i := j) (j := i) (List.getElem?_eq_some_iff.1 hj).1 hnd).1 (by rw [hj, hl])
      omega
    · have := word_ones hls hns hn hsub e
      omega
  · exact h

end Go.Proofs.Ytihkgdlanfemcaa
