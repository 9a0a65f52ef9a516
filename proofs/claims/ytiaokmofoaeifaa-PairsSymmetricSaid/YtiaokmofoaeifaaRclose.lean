/-
  What can be reached without deletions: a plain law.
-/
import Derived.Test.YtiaokmofoaeifaaTask
import Derived.Test.YtiaokmofoaeifaaTplain
namespace Go.Proofs.Ytiaokmofoaeifaa
set_option linter.unusedVariables false
set_option linter.unusedSimpArgs false

/-- The facts that operators, for which use holds, reach without deletions. -/
inductive Reach (st : List Int) (ops : List OpV) (use : Nat → Bool) : Int → Prop
  | init {p : Int} : p ∈ st → Reach st ops use p
  | step {p : Int} {i : Nat} {o : OpV} : ops[i]? = some o → use i = true → (∀ q ∈ o.pre, Reach st ops use q) → p ∈ o.add → Reach st ops use p
theorem Reach.mono {st st' : List Int} {ops : List OpV} {use use' : Nat → Bool} (h1 : ∀ p ∈ st, p ∈ st') (h2 : ∀ i, use i = true → use' i = true) {p : Int} (h : Reach st ops use p) : Reach st' ops use' p := by
  induction h with
  | init h => exact .init (h1 _ h)
  | step h1 h3 _ h4 ih => exact .step h1 (h2 _ h3) ih h4
open Classical in
noncomputable def closeV (n : Nat) (st : List Int) (ops : List OpV) (use : Nat → Bool) : List Bool := (List.range n).map fun (p : Nat) => decide (Reach st ops use (p : Int))
theorem closeV_len (n : Nat) (st : List Int) (ops : List OpV) (use : Nat → Bool) : (closeV n st ops use).length = n := by simp [closeV]
theorem closeV_get {n p : Nat} {st : List Int} {ops : List OpV} {use : Nat → Bool} (h : p < n) : (closeV n st ops use)[p]? = some true ↔ Reach st ops use (p : Int) := by simp [closeV, h]

def falses (bs : List Bool) : Nat := (bs.map fun b => if b then 0 else 1).sum
theorem falses_set {bs : List Bool} : ∀ {i : Nat}, bs[i]? = some false → falses (bs.set i true) < falses bs := by
  induction bs with
  | nil => intro i h; simp at h
  | cons b bs ih =>
    intro i h
    cases i with
    | zero => simp at h; subst h; simp [falses]
    | succ i => have := ih (by simpa using h); simp only [falses, List.set_cons_succ, List.map_cons, List.sum_cons] at *; omega
/-- What is true so far can be reached; the state is true. -/
structure Sound (n : Nat) (st : List Int) (ops : List OpV) (use : Nat → Bool) (bs : List Bool) : Prop where
  len : bs.length = n
  init : ∀ p ∈ st, bs[p.toNat]? = some true
  sound : ∀ p : Nat, bs[p]? = some true → Reach st ops use (p : Int)
def ClosedB (ops : List OpV) (use : Nat → Bool) (k : Nat) (bs : List Bool) : Prop :=
  ∀ (i : Nat) (o : OpV), i < k → ops[i]? = some o → use i = true → (∀ q ∈ o.pre, bs[q.toNat]? = some true) → ∀ p ∈ o.add, bs[p.toNat]? = some true
section
variable {n : Nat} {st : List Int} {ops : List OpV} {use : Nat → Bool} {bs : List Bool}
theorem closedB_zero : ClosedB ops use 0 bs := fun i o hi => absurd hi (by omega)
theorem closedB_succ {k : Nat} {o : OpV} (h : ClosedB ops use k bs) (ho : ops[k]? = some o) (h2 : use k = true → (∀ q ∈ o.pre, bs[q.toNat]? = some true) → ∀ p ∈ o.add, bs[p.toNat]? = some true) : ClosedB ops use (k + 1) bs := by
  intro i o' hi ho' hu hq p hp
  by_cases e : i = k
  · subst e
    rw [ho] at ho'; injection ho' with ho'; subst ho'
    exact h2 hu hq p hp
  · exact h i o' (by omega) ho' hu hq p hp
theorem Sound.set_ (h : Sound n st ops use bs) {i : Nat} {o : OpV} (ho : ops[i]? = some o) (hu : use i = true) (hpre : ∀ q ∈ o.pre, Reach st ops use q) {p : Int} (hp : p ∈ o.add) (p0 : 0 ≤ p) : Sound n st ops use (bs.set p.toNat true) := by
  refine ⟨by rw [List.length_set]; exact h.len, fun q hq => ?_, fun q hq => ?_⟩
  · have := h.init q hq
    rw [List.getElem?_set]
    split
    · rename_i e
      rw [if_pos (by rw [e]; exact (List.getElem?_eq_some_iff.1 this).1)]
    · exact this
  · rw [List.getElem?_set] at hq
    split at hq
    · rename_i e
      subst e
      rw [Int.toNat_of_nonneg p0]
      exact .step ho hu hpre hp
    · exact h.sound q hq
theorem Sound.pre (h : Sound n st ops use bs) {xs : List Int} (hx : ∀ q ∈ xs, bs[q.toNat]? = some true) (h0 : ∀ q ∈ xs, 0 ≤ q) : ∀ q ∈ xs, Reach st ops use q := fun q hq => by
  have := h.sound _ (hx q hq)
  rwa [Int.toNat_of_nonneg (h0 q hq)] at this
theorem Sound.all (h : Sound n st ops use bs) (hc : ClosedB ops use ops.length bs) {p : Int} (hr : Reach st ops use p) : bs[p.toNat]? = some true := by
  induction hr with
  | init hp => exact h.init _ hp
  | step ho hu _ hp ih => exact hc _ _ (List.getElem?_eq_some_iff.1 ho).1 ho hu ih _ hp
theorem Sound.eq (h : Sound n st ops use bs) (hc : ClosedB ops use ops.length bs) : bs = closeV n st ops use := by
  apply List.ext_getElem?
  intro p
  rcases Nat.lt_or_ge p n with hp | hp
  · have h1 : bs[p]? = some true ↔ (closeV n st ops use)[p]? = some true := by
      rw [closeV_get hp]
      exact ⟨h.sound p, fun hr => by have := h.all hc hr; simpa using this⟩
    obtain ⟨a, ha⟩ : ∃ a, bs[p]? = some a := ⟨_, List.getElem?_eq_getElem (by rw [h.len]; exact hp)⟩
    obtain ⟨b, hb⟩ : ∃ b, (closeV n st ops use)[p]? = some b := ⟨_, List.getElem?_eq_getElem (by rw [closeV_len]; exact hp)⟩
    rw [ha, hb] at h1 ⊢
    cases a <;> cases b <;> simp_all
  · rw [List.getElem?_eq_none (by rw [h.len]; exact hp), List.getElem?_eq_none (by rw [closeV_len]; exact hp)]
/-- The bools at the start. -/
def init3 (n : Nat) (l : List Int) : List Bool := l.foldl (fun bs p => bs.set p.toNat true) (List.replicate n false)
theorem init3_nil (n : Nat) : init3 n [] = List.replicate n false := rfl
theorem init3_succ {n k : Nat} {l : List Int} {x : Int} (h : l[k]? = some x) : init3 n (l.take (k + 1)) = (init3 n (l.take k)).set x.toNat true := by
  unfold init3
  rw [List.take_add_one, h]
  simp only [Option.toList, List.foldl_append, List.foldl_cons, List.foldl_nil]
theorem init3_len (n : Nat) (l : List Int) : (init3 n l).length = n := by
  have : ∀ (l : List Int) (vs : List Bool), (l.foldl (fun bs p => bs.set p.toNat true) vs).length = vs.length := by
    intro l
    induction l with
    | nil => intro vs; rfl
    | cons x l ih => intro vs; rw [List.foldl_cons, ih, List.length_set]
  unfold init3
  rw [this, List.length_replicate]
theorem init3_get : ∀ (l : List Int) (vs : List Bool) (p : Nat), (∀ x ∈ l, 0 ≤ x) → p < vs.length → (l.foldl (fun bs p => bs.set p.toNat true) vs)[p]? = if (p : Int) ∈ l then some true else vs[p]? := by
  intro l
  induction l with
  | nil => intro vs p _ _; rfl
  | cons x l ih =>
    intro vs p h hp
    rw [List.foldl_cons, ih _ _ (fun y hy => h y (List.mem_cons_of_mem _ hy)) (by rw [List.length_set]; exact hp)]
    have hx := h x (List.mem_cons_self ..)
    by_cases e : (p : Int) ∈ l
    · rw [if_pos e, if_pos (List.mem_cons_of_mem _ e)]
    · rw [if_neg e, List.getElem?_set]
      by_cases e2 : x.toNat = p
      · have e3 : (p : Int) = x := by omega
        rw [if_pos e2, if_pos (by omega), if_pos (by rw [e3]; exact List.mem_cons_self ..)]
      · rw [if_neg e2, if_neg (fun k => by
          rcases List.mem_cons.1 k with k | k
          · omega
          · exact e k)]
theorem init3_sound (h : ∀ p ∈ st, 0 ≤ p ∧ p < (n : Int)) : Sound n st ops use (init3 n st) := by
  refine ⟨init3_len n st, fun p hp => ?_, fun p hp => ?_⟩
  · have := h p hp
    unfold init3
    rw [init3_get st _ p.toNat (fun x hx => (h x hx).1) (by simp; omega), Int.toNat_of_nonneg this.1, if_pos hp]
  · have hl := (List.getElem?_eq_some_iff.1 hp).1
    rw [init3_len] at hl
    unfold init3 at hp
    rw [init3_get st _ p (fun x hx => (h x hx).1) (by simpa using hl)] at hp
    split at hp
    · rename_i hm; exact .init hm
    · simp [hl] at hp
end

end Go.Proofs.Ytiaokmofoaeifaa
