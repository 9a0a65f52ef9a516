/-
  A set with a number added; what is reached, as a list: plain laws.
-/
import Derived.Test.YtiaokmofoaeifaaRclose
namespace Go.Proofs.Ytiaokmofoaeifaa
set_option linter.unusedVariables false
set_option linter.unusedSimpArgs false

/-- A set with a number added. -/
def withV (l : List Int) (n : Int) : List Int := l.takeWhile (fun x => decide (x < n)) ++ n :: (l.dropWhile (fun x => decide (x < n))).filter (fun x => decide (x ≠ n))
/-- The first j elements are less than n. -/
theorem takeWhile_at {l : List Int} {n : Int} : ∀ {j : Nat}, (∀ x ∈ l.take j, x < n) → (∀ x, l[j]? = some x → ¬ x < n) → l.takeWhile (fun x => decide (x < n)) = l.take j ∧ l.dropWhile (fun x => decide (x < n)) = l.drop j := by
  induction l with
  | nil => intro j _ _; simp
  | cons a l ih =>
    intro j h1 h2
    cases j with
    | zero =>
      have := h2 a (by simp)
      simp [List.takeWhile_cons, List.dropWhile_cons, this]
    | succ j =>
      have ha := h1 a (by simp)
      have := ih (j := j) (fun x hx => h1 x (by simp [hx])) (fun x hx => h2 x (by simpa using hx))
      simp [List.takeWhile_cons, List.dropWhile_cons, ha, this.1, this.2]
theorem mem_takeWhile_lt {l : List Int} {n x : Int} (h : x ∈ l.takeWhile (fun x => decide (x < n))) : x < n := by
  induction l with
  | nil => simp at h
  | cons a l ih =>
    rw [List.takeWhile_cons] at h
    split at h
    · rename_i ha
      rcases List.mem_cons.1 h with e | e
      · subst e; simpa using ha
      · exact ih e
    · simp at h
theorem mem_dropWhile_ge {l : List Int} {n x : Int} (hs : l.Pairwise (· < ·)) (h : x ∈ l.dropWhile (fun x => decide (x < n))) : n ≤ x := by
  induction l with
  | nil => simp at h
  | cons a l ih =>
    rw [List.dropWhile_cons] at h
    rw [List.pairwise_cons] at hs
    split at h
    · exact ih hs.2 h
    · rename_i ha
      have ha : ¬ a < n := by simpa using ha
      rcases List.mem_cons.1 h with e | e
      · subst e; omega
      · have := hs.1 x e; omega
theorem withV_mem {l : List Int} {n x : Int} : x ∈ withV l n ↔ x = n ∨ x ∈ l := by
  have e := List.takeWhile_append_dropWhile (p := fun x => decide (x < n)) (l := l)
  unfold withV
  rw [List.mem_append, List.mem_cons, List.mem_filter]
  constructor
  · rintro (h | h | ⟨h, _⟩)
    · right; rw [← e]; exact List.mem_append_left _ h
    · exact .inl h
    · right; rw [← e]; exact List.mem_append_right _ h
  · rintro (h | h)
    · exact .inr (.inl h)
    · rw [← e] at h
      rcases List.mem_append.1 h with h | h
      · exact .inl h
      · by_cases k : x = n
        · exact .inr (.inl k)
        · exact .inr (.inr ⟨h, by simpa using k⟩)
theorem withV_set {l : List Int} {n m : Int} (h : SetP l m) (h0 : 0 ≤ n) (h1 : n < m) : SetP (withV l n) m := by
  have hp := h.pairwise
  refine SetP.of_pairwise (fun x hx => ?_) ?_
  · rcases withV_mem.1 hx with e | e
    · subst e; exact ⟨h0, h1⟩
    · exact h.1 x e
  · have e := List.takeWhile_append_dropWhile (p := fun x => decide (x < n)) (l := l)
    have hp2 := hp
    rw [← e, List.pairwise_append] at hp2
    unfold withV
    rw [List.pairwise_append]
    refine ⟨hp2.1, ?_, fun a ha b hb => ?_⟩
    · rw [List.pairwise_cons]
      refine ⟨fun b hb => ?_, hp2.2.1.filter _⟩
      rw [List.mem_filter] at hb
      have h2 := mem_dropWhile_ge hp hb.1
      have h3 : b ≠ n := by simpa using hb.2
      omega
    · have ha' := mem_takeWhile_lt ha
      rcases List.mem_cons.1 hb with k | k
      · subst k; exact ha'
      · rw [List.mem_filter] at k
        have h2 := mem_dropWhile_ge hp k.1
        omega
theorem withV_in {l : List Int} {n m : Int} (h : SetP l m) (hm : n ∈ l) : withV l n = l :=
  SetP.ext (withV_set h (h.1 n hm).1 (h.1 n hm).2) h fun x => by rw [withV_mem]; exact ⟨fun k => k.elim (fun e => e ▸ hm) id, .inr⟩
theorem withV_len {l : List Int} {n : Int} (hs : l.Pairwise (· < ·)) (hm : n ∉ l) : (withV l n).length = l.length + 1 := by
  have e := congrArg List.length (List.takeWhile_append_dropWhile (p := fun x => decide (x < n)) (l := l))
  rw [List.length_append] at e
  unfold withV
  rw [List.length_append, List.length_cons, List.filter_eq_self.2]
  · omega
  · intro a ha
    have : a ∈ l := by
      rw [← List.takeWhile_append_dropWhile (p := fun x => decide (x < n)) (l := l)]
      exact List.mem_append_right _ ha
    simp only [ne_eq, decide_eq_true_eq]
    intro k; subst k; exact hm this
theorem withV_len_le {l : List Int} {n : Int} : (withV l n).length ≤ l.length + 1 := by
  have e := congrArg List.length (List.takeWhile_append_dropWhile (p := fun x => decide (x < n)) (l := l))
  rw [List.length_append] at e
  unfold withV
  rw [List.length_append, List.length_cons]
  have := List.length_filter_le (fun x => decide (x ≠ n)) (l.dropWhile (fun x => decide (x < n)))
  omega
/-- .. as the program computes it. -/
theorem withV_skip {l : List Int} {n : Int} {j : Nat} (hs : l.Pairwise (· < ·)) (h1 : ∀ x ∈ l.take j, x < n) (h2 : l[j]? = some n) : withV l n = l.take j ++ [n] ++ l.drop (j + 1) := by
  obtain ⟨e1, e2⟩ := takeWhile_at (l := l) (n := n) (j := j) h1 (fun x hx => by rw [h2] at hx; injection hx with hx; omega)
  unfold withV
  rw [e1, e2]
  have hl := (List.getElem?_eq_some_iff.1 h2)
  obtain ⟨hl, hv⟩ := hl
  rw [List.drop_eq_getElem_cons hl, hv, List.filter_cons]
  simp only [ne_eq, not_true, decide_false]
  rw [List.filter_eq_self.2]
  · simp
  · intro a ha
    have := hs
    rw [← List.take_append_drop (j + 1) l, List.pairwise_append] at this
    have := this.2.2 n (by
      rw [List.take_add_one, h2]; simp) a ha
    simp; omega
theorem withV_put {l : List Int} {n : Int} {j : Nat} (hs : l.Pairwise (· < ·)) (h1 : ∀ x ∈ l.take j, x < n) (h2 : ∀ x, l[j]? = some x → n < x) : withV l n = l.take j ++ [n] ++ l.drop j := by
  obtain ⟨e1, e2⟩ := takeWhile_at (l := l) (n := n) (j := j) h1 (fun x hx => by have := h2 x hx; omega)
  unfold withV
  rw [e1, e2, List.filter_eq_self.2]
  · simp
  · intro a ha
    simp only [ne_eq, decide_eq_true_eq]
    obtain ⟨i, hi, rfl⟩ := List.mem_iff_getElem.1 ha
    rw [List.length_drop] at hi
    rw [List.getElem_drop]
    have h3 := h2 l[j] (List.getElem?_eq_getElem (by omega))
    by_cases e : i = 0
    · subst e; simp; omega
    · have := List.pairwise_iff_getElem.1 hs j (j + i) (by omega) (by omega) (by omega)
      omega

/-- What is reached, as a list. -/
noncomputable def withinV (n : Nat) (st : List Int) (ops : List OpV) (use : Nat → Bool) : List Int := (((List.range n).filter fun (p : Nat) => @decide (Reach st ops use (p : Int)) (Classical.propDecidable _)).map fun (p : Nat) => (p : Int))
section
variable {n : Nat} {st : List Int} {ops : List OpV} {use : Nat → Bool}
theorem withinV_mem {x : Int} : x ∈ withinV n st ops use ↔ 0 ≤ x ∧ x < (n : Int) ∧ Reach st ops use x := by
  unfold withinV
  rw [List.mem_map]
  constructor
  · rintro ⟨p, hp, rfl⟩
    rw [List.mem_filter, List.mem_range] at hp
    exact ⟨by omega, by omega, (@decide_eq_true_iff _ (Classical.propDecidable _)).1 hp.2⟩
  · rintro ⟨h0, h1, h2⟩
    refine ⟨x.toNat, ?_, by omega⟩
    rw [List.mem_filter, List.mem_range]
    exact ⟨by omega, (@decide_eq_true_iff _ (Classical.propDecidable _)).2 (by rw [Int.toNat_of_nonneg h0]; exact h2)⟩
theorem withinV_set : SetP (withinV n st ops use) (n : Int) := by
  refine SetP.of_pairwise (fun x hx => ⟨(withinV_mem.1 hx).1, (withinV_mem.1 hx).2.1⟩) ?_
  unfold withinV
  rw [List.pairwise_map]
  exact (List.pairwise_lt_range.filter _).imp (fun h => by omega)
theorem withinV_len : (withinV n st ops use).length ≤ n := by
  unfold withinV
  rw [List.length_map]
  exact Nat.le_trans (List.length_filter_le _ _) (by simp)
/-- What the reference has found so far. -/
structure SoundL (n : Nat) (st : List Int) (ops : List OpV) (use : Nat → Bool) (l : List Int) : Prop where
  set : SetP l (n : Int)
  init : ∀ p ∈ st, p ∈ l
  sound : ∀ p ∈ l, Reach st ops use p
def ClosedL (ops : List OpV) (use : Nat → Bool) (k : Nat) (l : List Int) : Prop :=
  ∀ (i : Nat) (o : OpV), i < k → ops[i]? = some o → use i = true → (∀ q ∈ o.pre, q ∈ l) → ∀ p ∈ o.add, p ∈ l
theorem closedL_zero {l : List Int} : ClosedL ops use 0 l := fun i o hi => absurd hi (by omega)
theorem closedL_succ {l : List Int} {k : Nat} {o : OpV} (h : ClosedL ops use k l) (ho : ops[k]? = some o) (h2 : use k = true → (∀ q ∈ o.pre, q ∈ l) → ∀ p ∈ o.add, p ∈ l) : ClosedL ops use (k + 1) l := by
  intro i o' hi ho' hu hq
  by_cases e : i = k
  · subst e
    rw [ho] at ho'; injection ho' with ho'; subst ho'
    exact h2 hu hq
  · exact h i o' (by omega) ho' hu hq
theorem SoundL.start (hs : SetP st (n : Int)) : SoundL n st ops use st := ⟨hs, fun _ h => h, fun _ h => .init h⟩
theorem SoundL.with_ {l : List Int} (h : SoundL n st ops use l) {i : Nat} {o : OpV} (ho : ops[i]? = some o) (hu : use i = true) (hq : ∀ q ∈ o.pre, Reach st ops use q) {p : Int} (hp : p ∈ o.add) (h0 : 0 ≤ p) (h1 : p < (n : Int)) : SoundL n st ops use (withV l p) :=
  ⟨withV_set h.set h0 h1, fun q hq => withV_mem.2 (.inr (h.init q hq)), fun q hq' => by
    rcases withV_mem.1 hq' with e | e
    · subst e; exact .step ho hu hq hp
    · exact h.sound q e⟩
theorem SoundL.eq {l : List Int} (h : SoundL n st ops use l) (hc : ClosedL ops use ops.length l) : l = withinV n st ops use := by
  refine SetP.ext h.set withinV_set fun x => ?_
  rw [withinV_mem]
  constructor
  · intro hx; exact ⟨(h.set.1 x hx).1, (h.set.1 x hx).2, h.sound x hx⟩
  · rintro ⟨hx0, hx1, hr⟩
    clear hx0 hx1
    induction hr with
    | init hp => exact h.init _ hp
    | step ho hu _ hp ih => exact hc _ _ (List.getElem?_eq_some_iff.1 ho).1 ho hu ih _ hp
/-- A list that is sound and contains a closed one is the whole. -/
theorem SoundL.eq_of_sub {l l' : List Int} (h : SoundL n st ops use l') (hl : l = withinV n st ops use) (hs : ∀ x ∈ l, x ∈ l') : l' = withinV n st ops use := by
  refine SetP.ext h.set withinV_set fun x => ⟨fun hx => ?_, fun hx => hs x (by rw [hl]; exact hx)⟩
  rw [withinV_mem]
  exact ⟨(h.set.1 x hx).1, (h.set.1 x hx).2, h.sound x hx⟩
theorem SoundL.len {l : List Int} (h : SoundL n st ops use l) : l.length ≤ n := by
  have := h.set.length (by omega)
  omega
/-- One pass over the operators. -/
structure Pass (ops : List OpV) (use : Nat → Bool) (k : Nat) (l0 l : List Int) : Prop where
  sub : ∀ x ∈ l0, x ∈ l
  le : l0.length ≤ l.length
  lt : l ≠ l0 → l0.length < l.length
  closed : l = l0 → ClosedL ops use k l
theorem Pass.start (l : List Int) : Pass ops use 0 l l := ⟨fun _ h => h, Nat.le_refl _, fun h => absurd rfl h, fun _ => closedL_zero⟩
theorem Pass.with_ {k : Nat} {l0 l : List Int} (h : Pass ops use k l0 l) {p : Int} (hs : l.Pairwise (· < ·)) (hp : p ∉ l) : Pass ops use k l0 (withV l p) := by
  have hl := withV_len hs hp
  refine ⟨fun x hx => withV_mem.2 (.inr (h.sub x hx)), ?_, fun _ => ?_, fun e => ?_⟩
  · have := h.le; omega
  · have := h.le; omega
  · have := h.le; rw [e] at hl; omega
theorem Pass.succ {k : Nat} {l0 l : List Int} {o : OpV} (h : Pass ops use k l0 l) (ho : ops[k]? = some o) (h2 : l = l0 → use k = true → (∀ q ∈ o.pre, q ∈ l) → ∀ p ∈ o.add, p ∈ l) : Pass ops use (k + 1) l0 l :=
  ⟨h.sub, h.le, h.lt, fun e => closedL_succ (h.closed e) ho (h2 e)⟩
/-- After r rounds. -/
def Rounds (n : Nat) (st : List Int) (ops : List OpV) (use : Nat → Bool) (r : Nat) (l : List Int) : Prop := l = withinV n st ops use ∨ r ≤ l.length
theorem Rounds.succ {r : Nat} {l0 l : List Int} (h : Rounds n st ops use r l0) (hs : SoundL n st ops use l) (hp : Pass ops use ops.length l0 l) : Rounds n st ops use (r + 1) l := by
  rcases h with h | h
  · exact .inl (hs.eq_of_sub h hp.sub)
  · by_cases e : l = l0
    · exact .inl (hs.eq (hp.closed e))
    · exact .inr (by have := hp.lt e; omega)
theorem Rounds.end_ {r : Nat} {l : List Int} (h : Rounds n st ops use r l) (hs : SoundL n st ops use l) (hr : n < r) : l = withinV n st ops use := by
  rcases h with h | h
  · exact h
  · have := hs.len; omega
end

end Go.Proofs.Ytiaokmofoaeifaa
