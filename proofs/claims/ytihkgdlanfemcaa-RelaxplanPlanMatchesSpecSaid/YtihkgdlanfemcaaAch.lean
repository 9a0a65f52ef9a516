/-
  The relaxed plan that achieves facts one by one: plain.
-/
import Derived.Test.YtihkgdlanfemcaaSup
import Derived.Test.YtihkgdlanfemcaaMC
namespace Go.Proofs.Ytihkgdlanfemcaa
open Go.RowKit
set_option linter.unusedVariables false
set_option linter.unusedSimpArgs false

/-- The supporter of a fact. -/
def supOf (V : List Int) (ops : List OpV) (p : Int) : Int := (supTo V ops p ops.length).1
theorem supL_get {n p : Nat} {V : List Int} {ops : List OpV} (h : p < n) : (supL n V ops)[p]? = some (supOf V ops (p : Int)) := by simp [supL, supOf, h]
theorem supOf_good {V : List Int} {ops : List OpV} {p : Int} (h : ¬ supOf V ops p < 0) : ∃ k o, supOf V ops p = ((k : Nat) : Int) ∧ ops[k]? = some o ∧ goodO V o p := by
  obtain ⟨k, h1, _, o, h2, h3⟩ := supTo_good (V := V) (ops := ops) (p := p) ops.length (Nat.le_refl _) (by unfold supOf at h; omega)
  exact ⟨k, o, h1, h2, h3⟩
/-- The plan behind a fact. -/
def rpV (V : List Int) (ops : List OpV) : Nat → List Int → Int → List Int
  | 0, plan, _ => plan
  | k + 1, plan, p => if supOf V ops p < 0 ∨ supOf V ops p ∈ plan then plan else (opAt ops (supOf V ops p)).pre.foldl (rpV V ops k) plan ++ [supOf V ops p]
section
variable {V : List Int} {ops : List OpV}
theorem rpV_skip {k : Nat} {plan : List Int} {p : Int} (h : supOf V ops p < 0 ∨ supOf V ops p ∈ plan) : rpV V ops k plan p = plan := by
  cases k with
  | zero => rfl
  | succ k => rw [rpV, if_pos h]
theorem rpV_do {k i : Nat} {o : OpV} {plan : List Int} {p : Int} (ho : ops[i]? = some o) (he : supOf V ops p = (i : Int)) (h : (i : Int) ∉ plan) : rpV V ops (k + 1) plan p = o.pre.foldl (rpV V ops k) plan ++ [(i : Int)] := by
  rw [rpV, if_neg (by rw [he]; intro hc; rcases hc with hc | hc; omega; exact h hc), he, opAt_of (o := o) (by simpa using ho)]
theorem rpV_mono : ∀ (k : Nat) (plan : List Int) (p x : Int), x ∈ plan → x ∈ rpV V ops k plan p
  | 0, _, _, _, h => h
  | k + 1, plan, p, x, h => by
    rw [rpV]
    split
    · exact h
    · refine List.mem_append_left _ ?_
      have key : ∀ (l : List Int) (pl : List Int), x ∈ pl → x ∈ l.foldl (rpV V ops k) pl := by
        intro l
        induction l with
        | nil => intro pl h; exact h
        | cons y l ih => intro pl h; rw [List.foldl_cons]; exact ih _ (rpV_mono k pl y x h)
      exact key _ _ h
theorem fold_mono (k : Nat) {x : Int} : ∀ (l : List Int) (pl : List Int), x ∈ pl → x ∈ l.foldl (rpV V ops k) pl
  | [], _, h => h
  | y :: l, pl, h => by rw [List.foldl_cons]; exact fold_mono k l _ (rpV_mono k pl y x h)
theorem fold_succ {k j : Nat} {l pl : List Int} {y : Int} (h : l[j]? = some y) : (l.take (j + 1)).foldl (rpV V ops k) pl = rpV V ops k ((l.take j).foldl (rpV V ops k) pl) y := by
  rw [List.take_add_one, h, List.foldl_append]; rfl

/-! ### What is done -/
/-- Where a fact is achieved: what is planned is done, and what is done else supports no fact of its level or a lower one. -/
structure AchPre (n : Nat) (V : List Int) (ops : List OpV) (D : List Bool) (plan : List Int) (p : Int) : Prop where
  len : D.length = ops.length
  yes : ∀ i : Nat, (i : Int) ∈ plan → i < ops.length → D[i]? = some true
  no : ∀ i : Nat, D[i]? = some true → (i : Int) ∈ plan ∨ ∀ q, valAt V q ≤ valAt V p → supOf V ops q ≠ (i : Int)
def AchPost (ops : List OpV) (D D' : List Bool) (plan' : List Int) : Prop := D'.length = ops.length ∧ ∀ i : Nat, i < ops.length → (D'[i]? = some true ↔ D[i]? = some true ∨ (i : Int) ∈ plan')
theorem AchPre.same {n : Nat} {D : List Bool} {plan : List Int} {p : Int} (h : AchPre n V ops D plan p) : AchPost ops D D plan :=
  ⟨h.len, fun i hi => ⟨.inl, fun h2 => h2.elim id (fun h2 => h.yes i h2 hi)⟩⟩
theorem AchPre.planned {n : Nat} {D : List Bool} {plan : List Int} {p : Int} (h : AchPre n V ops D plan p) {i : Nat} (he : supOf V ops p = (i : Int)) (hd : D[i]? = some true) : (i : Int) ∈ plan :=
  (h.no i hd).resolve_right (fun h2 => h2 p (Int.le_refl _) he)
theorem AchPre.notplanned {n : Nat} {D : List Bool} {plan : List Int} {p : Int} (h : AchPre n V ops D plan p) {i : Nat} (hi : i < ops.length) (hd : D[i]? = some false) : (i : Int) ∉ plan := fun h2 => by
  have := h.yes i h2 hi
  rw [hd] at this
  cases this
/-- While the preconditions are achieved. -/
def AchMid (ops : List OpV) (i : Nat) (D Dj : List Bool) (pj : List Int) : Prop := Dj.length = ops.length ∧ ∀ k : Nat, k < ops.length → (Dj[k]? = some true ↔ D[k]? = some true ∨ k = i ∨ (k : Int) ∈ pj)
theorem AchPre.mid {n : Nat} {D : List Bool} {plan : List Int} {p : Int} (h : AchPre n V ops D plan p) {i : Nat} (hi : i < ops.length) : AchMid ops i D (D.set i true) plan := by
  refine ⟨by rw [List.length_set]; exact h.len, fun k hk => ?_⟩
  rw [List.getElem?_set]
  by_cases e : i = k
  · subst e
    rw [if_pos rfl, if_pos (by rw [h.len]; exact hi)]
    exact ⟨fun _ => .inr (.inl rfl), fun _ => rfl⟩
  · rw [if_neg e]
    exact ⟨.inl, fun h2 => h2.elim id (fun h2 => h2.elim (fun h2 => absurd h2.symm e) (fun h2 => h.yes k h2 hk))⟩
theorem AchMid.pre {n : Nat} {D Dj : List Bool} {plan pj : List Int} {p q : Int} (h : AchPre n V ops D plan p) {i : Nat} {o : OpV} (ho : ops[i]? = some o) (hg : goodO V o p) (hq : q ∈ o.pre) (hs : ∀ x ∈ plan, x ∈ pj) (hm : AchMid ops i D Dj pj) : AchPre n V ops Dj pj q := by
  refine ⟨hm.1, fun k hk hkl => (hm.2 k hkl).2 (.inr (.inr hk)), fun k hk => ?_⟩
  have hkl : k < ops.length := by rw [← hm.1]; exact (List.getElem?_eq_some_iff.1 hk).1
  rcases (hm.2 k hkl).1 hk with h1 | h1 | h1
  · rcases h.no k h1 with h2 | h2
    · exact .inl (hs _ h2)
    · exact .inr (fun r hr => h2 r (by have := (hg.2.2 q hq).2; omega))
  · subst h1
    refine .inr (fun r hr he => ?_)
    obtain ⟨k', o', h2, h3, h4⟩ := supOf_good (V := V) (ops := ops) (p := r) (by omega)
    have : k' = k := by omega
    subst this
    rw [ho] at h3
    injection h3 with h3
    subst h3
    have := (h4.2.2 q hq).2
    omega
  · exact .inl h1
theorem AchMid.step {D Dj D' : List Bool} {pj p' : List Int} {i : Nat} (hm : AchMid ops i D Dj pj) (h : AchPost ops Dj D' p') (hs : ∀ x ∈ pj, x ∈ p') : AchMid ops i D D' p' := by
  refine ⟨h.1, fun k hk => ?_⟩
  rw [h.2 k hk, hm.2 k hk]
  constructor
  · rintro ((h1 | h1 | h1) | h1)
    · exact .inl h1
    · exact .inr (.inl h1)
    · exact .inr (.inr (hs _ h1))
    · exact .inr (.inr h1)
  · rintro (h1 | h1 | h1)
    · exact .inl (.inl h1)
    · exact .inl (.inr (.inl h1))
    · exact .inr h1
theorem AchMid.post {D Dj : List Bool} {pj : List Int} {i : Nat} (hm : AchMid ops i D Dj pj) : AchPost ops D Dj (pj ++ [(i : Int)]) := by
  refine ⟨hm.1, fun k hk => ?_⟩
  rw [hm.2 k hk, List.mem_append, List.mem_singleton]
  constructor
  · rintro (h1 | h1 | h1)
    · exact .inl h1
    · exact .inr (.inr (by omega))
    · exact .inr (.inl h1)
  · rintro (h1 | h1 | h1)
    · exact .inl h1
    · exact .inr (.inr h1)
    · exact .inr (.inl (by omega))
/-- At a goal nothing is done beyond the plan. -/
theorem AchPost.pre {n : Nat} {D : List Bool} {plan : List Int} (hl : D.length = ops.length) (h : ∀ i : Nat, i < ops.length → (D[i]? = some true ↔ (i : Int) ∈ plan)) (p : Int) : AchPre n V ops D plan p :=
  ⟨hl, fun i hi hil => (h i hil).2 hi, fun i hi => .inl ((h i (by rw [← hl]; exact (List.getElem?_eq_some_iff.1 hi).1)).1 hi)⟩
end
/-- The relaxed plan for the first goals. -/
def planTo (V : List Int) (ops : List OpV) (n : Nat) (goal : List Int) : List Int := goal.foldl (rpV V ops (n + 1)) []
/-- All its elements are numbers of operators, none twice; it is as long as there are operators at most. -/
theorem ach_nodup {V : List Int} {ops : List OpV} : ∀ (k : Nat) (plan : List Int) (p : Int), valAt V p < (k : Int) → plan.Nodup → (∀ x ∈ plan, 0 ≤ x ∧ x < (ops.length : Int)) → (rpV V ops k plan p).Nodup ∧ (∀ x ∈ rpV V ops k plan p, 0 ≤ x ∧ x < (ops.length : Int)) ∧ ∀ x ∈ rpV V ops k plan p, x ∉ plan → ∃ q, valAt V q ≤ valAt V p ∧ supOf V ops q = x
  | 0, plan, p, _, hn, hr => ⟨hn, hr, fun x hx h => absurd hx h⟩
  | k + 1, plan, p, hk, hn, hr => by
    by_cases hs : supOf V ops p < 0 ∨ supOf V ops p ∈ plan
    · rw [rpV_skip hs]; exact ⟨hn, hr, fun x hx h => absurd hx h⟩
    · obtain ⟨i, o, he, ho, hg⟩ := supOf_good (V := V) (ops := ops) (p := p) (fun h => hs (.inl h))
      have hni : (i : Int) ∉ plan := fun h => hs (.inr (by rw [he]; exact h))
      rw [rpV_do ho he hni]
      have key : ∀ (l : List Int), (∀ q ∈ l, q ∈ o.pre) → (l.foldl (rpV V ops k) plan).Nodup ∧ (∀ x ∈ l.foldl (rpV V ops k) plan, 0 ≤ x ∧ x < (ops.length : Int)) ∧ ∀ x ∈ l.foldl (rpV V ops k) plan, x ∉ plan → ∃ q, valAt V q < valAt V p ∧ (∃ r ∈ o.pre, valAt V q ≤ valAt V r) ∧ supOf V ops q = x := by
        intro l
        have gen : ∀ (l pl : List Int), (∀ q ∈ l, q ∈ o.pre) → pl.Nodup → (∀ x ∈ pl, 0 ≤ x ∧ x < (ops.length : Int)) → (∀ x ∈ pl, x ∉ plan → ∃ q, valAt V q < valAt V p ∧ (∃ r ∈ o.pre, valAt V q ≤ valAt V r) ∧ supOf V ops q = x) → (l.foldl (rpV V ops k) pl).Nodup ∧ (∀ x ∈ l.foldl (rpV V ops k) pl, 0 ≤ x ∧ x < (ops.length : Int)) ∧ ∀ x ∈ l.foldl (rpV V ops k) pl, x ∉ plan → ∃ q, valAt V q < valAt V p ∧ (∃ r ∈ o.pre, valAt V q ≤ valAt V r) ∧ supOf V ops q = x := by
          intro l
          induction l with
          | nil => intro pl _ h1 h2 h3; exact ⟨h1, h2, h3⟩
          | cons y l ih =>
            intro pl hl h1 h2 h3
            have hy := hg.2.2 y (hl y (List.mem_cons_self ..))
            obtain ⟨a1, a2, a3⟩ := ach_nodup (V := V) (ops := ops) k pl y (by omega) h1 h2
            rw [List.foldl_cons]
            refine ih _ (fun q hq => hl q (List.mem_cons_of_mem _ hq)) a1 a2 (fun x hx hxp => ?_)
            by_cases hxl : x ∈ pl
            · exact h3 x hxl hxp
            · obtain ⟨q, hq1, hq2⟩ := a3 x hx hxl
              exact ⟨q, by omega, ⟨y, hl y (List.mem_cons_self ..), hq1⟩, hq2⟩
        exact fun hl => gen l plan hl hn hr (fun x hx h => absurd hx h)
      obtain ⟨b1, b2, b3⟩ := key o.pre (fun _ h => h)
      have hil : (i : Int) < (ops.length : Int) := by have := (List.getElem?_eq_some_iff.1 ho).1; omega
      refine ⟨?_, fun x hx => ?_, fun x hx hxp => ?_⟩
      · rw [List.nodup_append]
        refine ⟨b1, by simp, fun a ha c hc => ?_⟩
        rw [List.mem_singleton.1 hc]
        intro e
        subst e
        obtain ⟨q, _, ⟨r, hr1, hr2⟩, hq2⟩ := b3 _ ha hni
        obtain ⟨k', o', h2, h3, h4⟩ := supOf_good (V := V) (ops := ops) (p := q) (by omega)
        have : k' = i := by omega
        subst this
        rw [ho] at h3
        injection h3 with h3
        subst h3
        have := (h4.2.2 r hr1).2
        omega
      · rcases List.mem_append.1 hx with h | h
        · exact b2 x h
        · rw [List.mem_singleton.1 h]; omega
      · rcases List.mem_append.1 hx with h | h
        · obtain ⟨q, h1, _, h2⟩ := b3 x h hxp
          exact ⟨q, by omega, h2⟩
        · rw [List.mem_singleton.1 h]; exact ⟨p, Int.le_refl _, he⟩
theorem plan_ok {V : List Int} {ops : List OpV} {n : Nat} (hV : ∀ q, valAt V q ≤ (n : Int)) : ∀ (goal pl : List Int), pl.Nodup → (∀ x ∈ pl, 0 ≤ x ∧ x < (ops.length : Int)) → (goal.foldl (rpV V ops (n + 1)) pl).Nodup ∧ ∀ x ∈ goal.foldl (rpV V ops (n + 1)) pl, 0 ≤ x ∧ x < (ops.length : Int)
  | [], pl, h1, h2 => ⟨h1, h2⟩
  | p :: goal, pl, h1, h2 => by
    obtain ⟨a1, a2, _⟩ := ach_nodup (V := V) (ops := ops) (n + 1) pl p (by have := hV p; omega) h1 h2
    rw [List.foldl_cons]
    exact plan_ok hV goal _ a1 a2
theorem nodup_len : ∀ {m : Nat} {l : List Int}, l.Nodup → (∀ x ∈ l, 0 ≤ x ∧ x < (m : Int)) → l.length ≤ m
  | 0, l, _, hr => by
    cases l with
    | nil => exact Nat.le_refl _
    | cons x l => have := hr x (List.mem_cons_self ..); omega
  | m + 1, l, hn, hr => by
    have h1 : ∀ x ∈ l.erase (m : Int), 0 ≤ x ∧ x < (m : Int) := fun x hx => by
      obtain ⟨h2, h3⟩ := (List.Nodup.mem_erase_iff hn).1 hx
      have := hr x h3
      omega
    have h2 := nodup_len (hn.erase _) h1
    have h3 := List.length_erase (a := (m : Int)) (l := l)
    split at h3 <;> omega

end Go.Proofs.Ytihkgdlanfemcaa
