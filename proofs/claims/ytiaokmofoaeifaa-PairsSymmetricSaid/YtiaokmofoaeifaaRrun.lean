/-
  The states of a plan: a plain law.
-/
import Derived.Test.YtiaokmofoaeifaaTask
import Derived.Test.YtiaokmofoaeifaaTplain
import Derived.Test.YtiaokmofoaeifaaRclose
namespace Go.Proofs.Ytiaokmofoaeifaa
set_option linter.unusedVariables false
set_option linter.unusedSimpArgs false

/-- The state after an operator. -/
def nextV (n : Nat) (s : List Int) (o : OpV) : List Int := ((List.range n).map fun (p : Nat) => (p : Int)).filter fun p => decide (p ∈ o.add ∨ (p ∈ s ∧ p ∉ o.del))
theorem nextV_mem {n : Nat} {s : List Int} {o : OpV} {x : Int} : x ∈ nextV n s o ↔ (0 ≤ x ∧ x < (n : Int)) ∧ (x ∈ o.add ∨ (x ∈ s ∧ x ∉ o.del)) := by
  unfold nextV
  rw [List.mem_filter, List.mem_map]
  simp only [decide_eq_true_eq, List.mem_range]
  constructor
  · rintro ⟨⟨a, h, rfl⟩, h2⟩
    exact ⟨⟨by omega, by omega⟩, h2⟩
  · rintro ⟨⟨h0, h1⟩, h2⟩
    exact ⟨⟨x.toNat, by omega, by omega⟩, h2⟩
theorem nextV_set (n : Nat) (s : List Int) (o : OpV) : SetP (nextV n s o) n := by
  refine SetP.of_pairwise (fun x hx => (nextV_mem.1 hx).1) ?_
  unfold nextV
  refine List.Pairwise.filter _ ?_
  rw [List.pairwise_map]
  exact List.Pairwise.imp (fun h => by omega) List.pairwise_lt_range
theorem nextV_len (n : Nat) (s : List Int) (o : OpV) : (nextV n s o).length ≤ n := by
  unfold nextV
  exact Nat.le_trans (List.length_filter_le _ _) (by simp)
/-- A set with the right members is that state. -/
theorem nextV_eq {n : Nat} {s r : List Int} {o : OpV} (hs : ∀ x ∈ s, 0 ≤ x ∧ x < (n : Int)) (ha : ∀ x ∈ o.add, 0 ≤ x ∧ x < (n : Int)) (hr : r.Pairwise (· < ·)) (h : ∀ x, x ∈ r ↔ x ∈ o.add ∨ (x ∈ s ∧ x ∉ o.del)) : r = nextV n s o := by
  have hrs : SetP r n := SetP.of_pairwise (fun x hx => by
    rcases (h x).1 hx with h1 | h1
    · exact ha x h1
    · exact hs x h1.1) hr
  refine hrs.ext (nextV_set n s o) fun x => ?_
  rw [h, nextV_mem]
  constructor
  · intro h1
    refine ⟨?_, h1⟩
    rcases h1 with h2 | h2
    · exact ha x h2
    · exact hs x h2.1
  · exact fun h1 => h1.2
/-- An operator is applicable. -/
def CanV (ops : List OpV) (s : List Int) (op : Int) : Prop := ∃ o, ops[op.toNat]? = some o ∧ ∀ q ∈ o.pre, q ∈ s
/-- The operator, if there is one. -/
def opAt (ops : List OpV) (op : Int) : OpV := (ops[op.toNat]?).getD ⟨[], [], [], 0⟩
theorem opAt_of {ops : List OpV} {op : Int} {o : OpV} (h : ops[op.toNat]? = some o) : opAt ops op = o := by unfold opAt; rw [h]; rfl
/-- The states of a plan, as far as its steps are applicable. -/
noncomputable def runV (n : Nat) (ops : List OpV) : List Int → List Int → List (List Int)
  | s, [] => [s]
  | s, op :: plan => @ite _ (CanV ops s op) (Classical.propDecidable _) (s :: runV n ops (nextV n s (opAt ops op)) plan) [s]
section
variable {n : Nat} {ops : List OpV}
theorem runV_nil (s : List Int) : runV n ops s [] = [s] := by unfold runV; rfl
theorem runV_yes {s plan : List Int} {op : Int} (h : CanV ops s op) : runV n ops s (op :: plan) = s :: runV n ops (nextV n s (opAt ops op)) plan := by
  rw [runV]; exact if_pos h
theorem runV_no {s plan : List Int} {op : Int} (h : ¬ CanV ops s op) : runV n ops s (op :: plan) = [s] := by
  rw [runV]; exact if_neg h
theorem runV_head : ∀ (plan s : List Int), (runV n ops s plan)[0]? = some s
  | [], s => by rw [runV_nil]; rfl
  | op :: plan, s => by
    by_cases h : CanV ops s op
    · rw [runV_yes h]; rfl
    · rw [runV_no h]; rfl
theorem runV_len : ∀ (plan s : List Int), 1 ≤ (runV n ops s plan).length ∧ (runV n ops s plan).length ≤ plan.length + 1
  | [], s => by rw [runV_nil]; simp
  | op :: plan, s => by
    by_cases h : CanV ops s op
    · rw [runV_yes h]
      have := runV_len plan (nextV n s (opAt ops op))
      simp only [List.length_cons]; omega
    · rw [runV_no h]; simp
theorem runV_set : ∀ (plan s : List Int), SetP s n → ∀ r ∈ runV n ops s plan, SetP r n
  | [], s, hs, r, hr => by
    rw [runV_nil] at hr
    rw [List.mem_singleton.1 hr]; exact hs
  | op :: plan, s, hs, r, hr => by
    by_cases h : CanV ops s op
    · rw [runV_yes h] at hr
      rcases List.mem_cons.1 hr with e | e
      · rw [e]; exact hs
      · exact runV_set plan _ (nextV_set n s _) r e
    · rw [runV_no h] at hr
      rw [List.mem_singleton.1 hr]; exact hs
/-- From a state to the next one. -/
theorem runV_step : ∀ (plan s : List Int) (i : Nat) (r' : List Int), (runV n ops s plan)[i + 1]? = some r' → ∃ op r, plan[i]? = some op ∧ (runV n ops s plan)[i]? = some r ∧ CanV ops r op ∧ r' = nextV n r (opAt ops op)
  | [], s, i, r', h => by rw [runV_nil] at h; simp at h
  | op :: plan, s, i, r', h => by
    by_cases hc : CanV ops s op
    · rw [runV_yes hc] at h ⊢
      rw [List.getElem?_cons_succ] at h
      cases i with
      | zero =>
        rw [runV_head] at h
        injection h with h
        exact ⟨op, s, rfl, rfl, hc, h.symm⟩
      | succ i =>
        obtain ⟨op', r, h1, h2, h3, h4⟩ := runV_step plan _ i r' h
        exact ⟨op', r, by simpa using h1, by simpa using h2, h3, h4⟩
    · rw [runV_no hc] at h; simp at h
/-- What a state holds is reached without deletions, by the operators used so far. -/
theorem runV_reach {use : Nat → Bool} {plan st : List Int} : ∀ (i : Nat) (r : List Int), (runV n ops st plan)[i]? = some r → (∀ j op, j < i → plan[j]? = some op → use op.toNat = true) → ∀ x ∈ r, Reach st ops use x := by
  intro i
  induction i with
  | zero =>
    intro r hr _ x hx
    rw [runV_head] at hr
    injection hr with hr
    subst hr
    exact .init hx
  | succ i ih =>
    intro r hr hu x hx
    obtain ⟨op, r0, h1, h2, ⟨o, ho, hpre⟩, rfl⟩ := runV_step plan st i r hr
    have ih' := ih r0 h2 (fun j op hj => hu j op (by omega))
    rw [opAt_of ho] at hx
    rcases (nextV_mem.1 hx).2 with h3 | h3
    · exact .step ho (hu i op (by omega) h1) (fun q hq => ih' q (hpre q hq)) h3
    · exact ih' x h3.1
/-- The first state with a fact, or the number of states. -/
def firstV (l : List (List Int)) (p : Int) : Nat := l.findIdx fun r => decide (p ∈ r)
theorem firstV_lt {l : List (List Int)} {p : Int} {i : Nat} (hi : i < firstV l p) {r : List Int} (hr : l[i]? = some r) : p ∉ r := by
  have h := List.not_of_lt_findIdx hi
  obtain ⟨hlt, rfl⟩ := List.getElem?_eq_some_iff.1 hr
  exact of_decide_eq_false h
theorem firstV_at {l : List (List Int)} {p : Int} (h : firstV l p < l.length) : ∃ r, l[firstV l p]? = some r ∧ p ∈ r := by
  have h2 := @List.findIdx_getElem _ (fun r => decide (p ∈ r)) l h
  exact ⟨_, List.getElem?_eq_getElem h, of_decide_eq_true h2⟩
/-- Ahead of the first state with a fact no operator adds it. -/
theorem runV_not {plan st : List Int} {p : Int} (p0 : 0 ≤ p) (p1 : p < (n : Int)) {j : Nat} {op : Int} {o : OpV} (hj : j + 1 < firstV (runV n ops st plan) p) (hjl : j + 1 < (runV n ops st plan).length) (hop : plan[j]? = some op) (ho : ops[op.toNat]? = some o) : p ∉ o.add := by
  intro hm
  obtain ⟨op', r, h1, h2, h3, h4⟩ := runV_step plan st j _ (List.getElem?_eq_getElem hjl)
  rw [hop] at h1
  injection h1 with h1
  subst h1
  have h5 := firstV_lt hj (List.getElem?_eq_getElem hjl)
  rw [h4, opAt_of ho] at h5
  exact h5 (nextV_mem.2 ⟨⟨p0, p1⟩, .inl hm⟩)
/-- The fact that a state is the first to hold is added by the operator ahead of it. -/
theorem runV_adds {plan st : List Int} {p : Int} {i : Nat} (hi : firstV (runV n ops st plan) p = i + 1) (hl : i + 1 < (runV n ops st plan).length) : ∃ op o r, plan[i]? = some op ∧ ops[op.toNat]? = some o ∧ (runV n ops st plan)[i]? = some r ∧ (∀ q ∈ o.pre, q ∈ r) ∧ p ∈ o.add := by
  obtain ⟨r', h0, h0'⟩ := firstV_at (by rw [hi]; exact hl)
  rw [hi] at h0
  obtain ⟨op, r, h1, h2, ⟨o, ho, hpre⟩, h4⟩ := runV_step plan st i r' h0
  refine ⟨op, o, r, h1, ho, h2, hpre, ?_⟩
  rw [h4, opAt_of ho] at h0'
  rcases (nextV_mem.1 h0').2 with h5 | h5
  · exact h5
  · exact absurd h5.1 (firstV_lt (by rw [hi]; omega) h2)
end

end Go.Proofs.Ytiaokmofoaeifaa
