/-
  Several own rows of integers; the costs of states: plain.
-/
import Derived.Test.YtihkgdlanfemcaaBf4
import Derived.Test.YtihkgdlanfemcaaMC
namespace Go.Proofs.Ytihkgdlanfemcaa
open Go.RowKit
set_option linter.unusedVariables false
set_option linter.unusedSimpArgs false

/-! ### Own rows of integers -/
structure OwnL (base : Nat) (w : World) (vs : List Value) (xss : List (List Int)) : Prop where
  len : vs.length = xss.length
  own : ∀ (i : Nat) (v : Value) (xs : List Int), vs[i]? = some v → xss[i]? = some xs → OwnI base w v xs
  sep : ∀ (i j : Nat) (u v : Value), i ≠ j → vs[i]? = some u → vs[j]? = some v → Sep u v
section
variable {base : Nat} {w w' : World} {vs : List Value} {xss : List (List Int)}
theorem OwnL.nil (base : Nat) (w : World) : OwnL base w [] [] := ⟨rfl, fun i v xs h => by simp at h, fun i j u v _ h => by simp at h⟩
theorem OwnL.below (h : OwnL base w vs xss) (hb : Below w.heap.size w w') : OwnL base w' vs xss := ⟨h.len, fun i v xs h1 h2 => (h.own i v xs h1 h2).below hb, h.sep⟩
theorem OwnL.more (h : OwnL base w vs xss) : OwnL base w (vs ++ [.slice none 0 0]) (xss ++ [[]]) := by
  have key : ∀ (i : Nat) (v : Value), (vs ++ [Value.slice none 0 0])[i]? = some v → (i < vs.length ∧ vs[i]? = some v) ∨ (i = vs.length ∧ v = .slice none 0 0) := fun i v hv => by
    rcases Nat.lt_or_ge i vs.length with hl | hl
    · rw [List.getElem?_append_left hl] at hv; exact .inl ⟨hl, hv⟩
    · rw [List.getElem?_append_right hl] at hv
      have h0 : i - vs.length = 0 := by
        have := (List.getElem?_eq_some_iff.1 hv).1
        simp at this; omega
      rw [h0] at hv
      simp at hv
      exact .inr ⟨by omega, hv.symm⟩
  refine ⟨by simp [h.len], fun i v xs h1 h2 => ?_, fun i j u v hij h1 h2 => ?_⟩
  · rcases key i v h1 with ⟨hl, h1⟩ | ⟨rfl, rfl⟩
    · rw [List.getElem?_append_left (by rw [← h.len]; exact hl)] at h2
      exact h.own i v xs h1 h2
    · rw [h.len, List.getElem?_append_right (Nat.le_refl _)] at h2
      simp at h2
      subst h2
      exact OwnI.nil _ _
  · rcases key i u h1 with ⟨_, h1⟩ | ⟨rfl, rfl⟩
    · rcases key j v h2 with ⟨_, h2⟩ | ⟨rfl, rfl⟩
      · exact h.sep i j u v hij h1 h2
      · exact (sep_nil u).symm
    · exact sep_nil v
theorem OwnL.push (h : OwnL base w vs xss) (i : Nat) {v : Value} {xs ys : List Int} (hv : vs[i]? = some v) (hx : xss[i]? = some xs) {v' : Value} (o : OwnI base w' v' ys) (hg : w.grownBy w' v.ownBlock) (hat : v'.ownBlock = v.ownBlock ∨ v'.ownBlock = some w.heap.size) : OwnL base w' (vs.set i v') (xss.set i ys) := by
  have hil := (List.getElem?_eq_some_iff.1 hv).1
  have hb : ∀ (j : Nat) (u : Value), vs[j]? = some u → ∀ k, u.ownBlock = some k → k < w.heap.size := fun j u hu k hk => by
    have hj := (List.getElem?_eq_some_iff.1 hu).1
    exact (h.own j u _ hu (List.getElem?_eq_getElem (by rw [← h.len]; exact hj))).bnd k hk
  refine ⟨by simp [h.len], fun j u zs h1 h2 => ?_, fun j k u z hjk h1 h2 => ?_⟩
  · by_cases e : i = j
    · subst e
      rw [List.getElem?_set_self hil] at h1
      rw [List.getElem?_set_self (by rw [← h.len]; exact hil)] at h2
      injection h1 with h1; injection h2 with h2
      subst h1; subst h2
      exact o
    · rw [List.getElem?_set_ne e] at h1 h2
      exact own_grown_i (h.own j u zs h1 h2) hg (h.sep i j v u e hv h1)
  · by_cases e : i = j
    · subst e
      rw [List.getElem?_set_self hil] at h1
      rw [List.getElem?_set_ne hjk] at h2
      injection h1 with h1
      subst h1
      exact (Sep.next (h.sep k i z v (Ne.symm hjk) h2 hv) hat (hb k z h2)).symm
    · rw [List.getElem?_set_ne e] at h1
      by_cases e2 : i = k
      · subst e2
        rw [List.getElem?_set_self hil] at h2
        injection h2 with h2
        subst h2
        exact Sep.next (h.sep j i u v hjk h1 hv) hat (hb j u h1)
      · rw [List.getElem?_set_ne e2] at h2
        exact h.sep j k u z hjk h1 h2
theorem OwnI.away' {base : Nat} {w : World} {v : Value} {xs : List Int} (h : OwnI base w v xs) {p : Addr} (hp : v.ownBlock ≠ some p.block) (u : Value) : OwnI base (w.setCell p u) v xs := by
  obtain ⟨h1, h2⟩ := h
  refine ⟨h1, ?_⟩
  rcases h2 with h2 | ⟨g, cap, cur, hv, hg, hh, r⟩
  · exact Or.inl h2
  · exact Or.inr ⟨g, cap, cur, hv, hg, (Below.heap_setCell w p u g (fun e => hp (by rw [hv, ← e]; rfl))).trans hh, r⟩
theorem OwnL.write (h : OwnL base w vs xss) (i : Nat) {n c g : Nat} {xs : List Int} (hv : vs[i]? = some (.slice (some ⟨g, 0, none⟩) n c)) (hx : xss[i]? = some xs) (hn : xs.length = n) (k : Nat) (x : Int) : OwnL base (w.setCell ⟨g, k, none⟩ (.int .i64 x)) vs (xss.set i (xs.set k x)) := by
  have hil := (List.getElem?_eq_some_iff.1 hv).1
  refine ⟨by simp [h.len], fun j u zs h1 h2 => ?_, h.sep⟩
  by_cases e : i = j
  · subst e
    rw [List.getElem?_set_self (by rw [← h.len]; exact hil)] at h2
    injection h2 with h2
    rw [hv] at h1
    injection h1 with h1
    subst h1; subst h2
    exact (h.own i _ xs hv hx).set_ hn k x
  · rw [List.getElem?_set_ne e] at h2
    exact (h.own j u zs h1 h2).away' (fun hc => h.sep i j _ u e hv h1 g rfl hc) _
end
/-! ### Costs of states -/
/-- What no plan can be cheaper than. -/
structure HCons (n : Nat) (ops : List OpV) (goal : List Int) (H : List Int → Int) : Prop where
  goal : ∀ l, (∀ q ∈ goal, q ∈ l) → SetP l (n : Int) → H l ≤ 0
  inf : ∀ l, SetP l (n : Int) → H l ≤ 1000000000
  step : ∀ (l : List Int) (p : Nat) (o : OpV), SetP l (n : Int) → ops[p]? = some o → CanV ops l (p : Int) → H (nextV n l o) < 1000000000 → H l ≤ H (nextV n l o) + o.cost
/-- The number of an operator's arc: from, to, cost. -/
def IsArc (n : Nat) (ops : List OpV) (ls : List (List Int)) (a : Nat × Nat × Int) : Prop := ∃ (l : List Int) (p : Nat) (o : OpV), ls[a.1]? = some l ∧ ops[p]? = some o ∧ CanV ops l (p : Int) ∧ ls[a.2.1]? = some (nextV n l o) ∧ a.2.2 = o.cost
structure DSt (n : Nat) (ops : List OpV) (goal : List Int) (ls : List (List Int)) (D : List Int) : Prop where
  len : D.length = ls.length
  all : AllV D
  zero : ∀ (i : Nat) (l : List Int), ls[i]? = some l → (∀ q ∈ goal, q ∈ l) → D[i]? = some 0
  low : ∀ H, HCons n ops goal H → ∀ (i : Nat) (l : List Int) (d : Int), ls[i]? = some l → D[i]? = some d → H l ≤ d
/-- An arc lowers nothing. -/
def ArcOk (D : List Int) (a : Nat × Nat × Int) : Prop := ∀ x y, D[a.1]? = some x → D[a.2.1]? = some y → y < 1000000000 → x ≤ y + a.2.2
noncomputable def startD (goal : List Int) (ls : List (List Int)) : List Int := ls.map fun l => @ite _ (∀ q ∈ goal, q ∈ l) (Classical.propDecidable _) 0 1000000000
section
variable {n : Nat} {ops : List OpV} {goal : List Int} {ls : List (List Int)} {D : List Int}
theorem startD_at {i : Nat} {l : List Int} (h : ls[i]? = some l) : (startD goal ls)[i]? = some (@ite _ (∀ q ∈ goal, q ∈ l) (Classical.propDecidable _) 0 1000000000) := by
  unfold startD; rw [List.getElem?_map, h]; rfl
theorem startD_st (hset : ∀ l ∈ ls, SetP l (n : Int)) : DSt n ops goal ls (startD goal ls) := by
  refine ⟨by simp [startD], fun v hv => ?_, fun i l hl hg => ?_, fun H hH i l d hl hd => ?_⟩
  · unfold startD at hv
    obtain ⟨l, _, rfl⟩ := List.mem_map.1 hv
    unfold InV
    by_cases h : ∀ q ∈ goal, q ∈ l
    · rw [if_pos h]; omega
    · rw [if_neg h]; omega
  · rw [startD_at hl, if_pos hg]
  · rw [startD_at hl] at hd
    injection hd with hd
    have hs := hset l (List.mem_of_getElem? hl)
    by_cases h : ∀ q ∈ goal, q ∈ l
    · rw [if_pos h] at hd; have := hH.goal l h hs; omega
    · rw [if_neg h] at hd; have := hH.inf l hs; omega
theorem startD_yes {k : Nat} {l : List Int} (h : ls[k]? = some l) (hg : ∀ q ∈ goal, q ∈ l) : startD goal (ls.take k) ++ [0] = startD goal (ls.take (k + 1)) := by
  unfold startD
  rw [List.take_add_one, h, List.map_append]
  simp only [Option.toList, List.map_cons, List.map_nil]
  rw [if_pos hg]
theorem startD_no {k : Nat} {l : List Int} (h : ls[k]? = some l) (hg : ¬ ∀ q ∈ goal, q ∈ l) : startD goal (ls.take k) ++ [1000000000] = startD goal (ls.take (k + 1)) := by
  unfold startD
  rw [List.take_add_one, h, List.map_append]
  simp only [Option.toList, List.map_cons, List.map_nil]
  rw [if_neg hg]
theorem words_succ {k : Nat} {l : List Int} (h : ls[k]? = some l) : (ls.take k).map wordV ++ [wordV l] = (ls.take (k + 1)).map wordV := by
  rw [List.take_add_one, h, List.map_append]; rfl
theorem DSt.set_ (h : DSt n ops goal ls D) (hset : ∀ l ∈ ls, SetP l (n : Int)) (hops : ∀ o ∈ ops, 0 ≤ o.cost) {a : Nat × Nat × Int} (ha : IsArc n ops ls a) {x y : Int} (hx : D[a.1]? = some x) (hy : D[a.2.1]? = some y) (hy2 : y < 1000000000) (hlt : y + a.2.2 < x) : DSt n ops goal ls (D.set a.1 (y + a.2.2)) := by
  obtain ⟨l, p, o, h1, h2, h3, h4, h5⟩ := ha
  have hil := (List.getElem?_eq_some_iff.1 hx).1
  have hyV := h.all y (List.mem_of_getElem? hy)
  have hxV := h.all x (List.mem_of_getElem? hx)
  have hc := hops o (List.mem_of_getElem? h2)
  unfold InV at hyV hxV
  refine ⟨by rw [List.length_set]; exact h.len, allV_set h.all _ (by unfold InV; omega), fun i l' hl' hg => ?_, fun H hH i l' d hl' hd => ?_⟩
  · rw [List.getElem?_set_ne (fun e => by
      subst e
      have := h.zero a.1 l' hl' hg
      rw [hx] at this
      injection this with this
      omega)]
    exact h.zero i l' hl' hg
  · by_cases e : a.1 = i
    · subst e
      rw [List.getElem?_set_self hil] at hd
      injection hd with hd
      rw [h1] at hl'
      injection hl' with hl'
      subst hl'
      have k1 := h.low H hH a.2.1 _ y h4 hy
      have k2 := hH.step l p o (hset l (List.mem_of_getElem? h1)) h2 h3 (by omega)
      omega
    · rw [List.getElem?_set_ne e] at hd
      exact h.low H hH i l' d hl' hd
/-- Which arcs are in the list. -/
structure ArcsTo (n : Nat) (ops : List OpV) (ls : List (List Int)) (A : List (Nat × Nat × Int)) (i p k : Nat) : Prop where
  sound : ∀ a ∈ A, IsArc n ops ls a
  all : ∀ (i' p' k' : Nat) (l : List Int) (o : OpV), (i' < i ∨ i' = i ∧ (p' < p ∨ p' = p ∧ k' < k)) → ls[i']? = some l → ops[p']? = some o → CanV ops l (p' : Int) → ls[k']? = some (nextV n l o) → (i', k', o.cost) ∈ A
  len : A.length ≤ 80000 * i + 2000 * p + k
theorem ArcsTo.start : ArcsTo n ops ls [] 0 0 0 := ⟨fun a h => (List.not_mem_nil h).elim, fun i' p' k' l o h => by omega, by simp⟩
variable {A : List (Nat × Nat × Int)} {i p k : Nat}
theorem ArcsTo.add (h : ArcsTo n ops ls A i p k) {l : List Int} {o : OpV} (hl : ls[i]? = some l) (ho : ops[p]? = some o) (hc : CanV ops l (p : Int)) (hk : ls[k]? = some (nextV n l o)) : ArcsTo n ops ls (A ++ [(i, k, o.cost)]) i p (k + 1) := by
  refine ⟨fun a ha => ?_, fun i' p' k' l' o' hlt hl' ho' hc' hk' => ?_, by rw [List.length_append]; have := h.len; simp; omega⟩
  · rcases List.mem_append.1 ha with e | e
    · exact h.sound a e
    · rw [List.mem_singleton.1 e]; exact ⟨l, p, o, hl, ho, hc, hk, rfl⟩
  · by_cases e : i' = i ∧ p' = p ∧ k' = k
    · obtain ⟨rfl, rfl, rfl⟩ := e
      rw [ho] at ho'
      injection ho' with ho'
      subst ho'
      exact List.mem_append_right _ (List.mem_singleton.2 rfl)
    · exact List.mem_append_left _ (h.all i' p' k' l' o' (by omega) hl' ho' hc' hk')
theorem ArcsTo.skip (h : ArcsTo n ops ls A i p k) {l : List Int} {o : OpV} (hl : ls[i]? = some l) (ho : ops[p]? = some o) (hk : ls[k]? ≠ some (nextV n l o)) : ArcsTo n ops ls A i p (k + 1) :=
  ⟨h.sound, fun i' p' k' l' o' hlt hl' ho' hc' hk' => by
    by_cases e : i' = i ∧ p' = p ∧ k' = k
    · obtain ⟨rfl, rfl, rfl⟩ := e
      rw [ho] at ho'
      injection ho' with ho'
      subst ho'
      rw [hl] at hl'
      injection hl' with hl'
      subst hl'
      exact absurd hk' hk
    · exact h.all i' p' k' l' o' (by omega) hl' ho' hc' hk', by have := h.len; omega⟩
theorem ArcsTo.col (h : ArcsTo n ops ls A i p k) (hk : ls.length ≤ k) (hk2 : k ≤ 2000) : ArcsTo n ops ls A i (p + 1) 0 :=
  ⟨h.sound, fun i' p' k' l' o' hlt hl' ho' hc' hk' => h.all i' p' k' l' o' (by have := (List.getElem?_eq_some_iff.1 hk').1; omega) hl' ho' hc' hk', by have := h.len; omega⟩
theorem ArcsTo.none (h : ArcsTo n ops ls A i p 0) {l : List Int} (hl : ls[i]? = some l) (hc : ¬ CanV ops l (p : Int)) : ArcsTo n ops ls A i (p + 1) 0 :=
  ⟨h.sound, fun i' p' k' l' o' hlt hl' ho' hc' hk' => by
    by_cases e : i' = i ∧ p' = p
    · obtain ⟨rfl, rfl⟩ := e
      rw [hl] at hl'
      injection hl' with hl'
      subst hl'
      exact absurd hc' hc
    · exact h.all i' p' k' l' o' (by omega) hl' ho' hc' hk', by have := h.len; omega⟩
theorem ArcsTo.row (h : ArcsTo n ops ls A i p 0) (hp : ops.length ≤ p) (hp2 : p ≤ 40) : ArcsTo n ops ls A (i + 1) 0 0 :=
  ⟨h.sound, fun i' p' k' l' o' hlt hl' ho' hc' hk' => h.all i' p' k' l' o' (by have := (List.getElem?_eq_some_iff.1 ho').1; omega) hl' ho' hc' hk', by have := h.len; omega⟩
/-- The least costs of plans from the states of a closed list. -/
structure DOk (n : Nat) (ops : List OpV) (goal : List Int) (ls : List (List Int)) (D : List Int) : Prop where
  st : DSt n ops goal ls D
  closed : ∀ (i p k : Nat) (l : List Int) (o : OpV), ls[i]? = some l → ops[p]? = some o → CanV ops l (p : Int) → ls[k]? = some (nextV n l o) → ArcOk D (i, k, o.cost)
theorem dok_of (h : DSt n ops goal ls D) (hA : ArcsTo n ops ls A ls.length 0 0) (hc : ∀ a ∈ A, ArcOk D a) : DOk n ops goal ls D :=
  ⟨h, fun i p k l o hl ho hcan hk => hc _ (hA.all i p k l o (.inl (List.getElem?_eq_some_iff.1 hl).1) hl ho hcan hk)⟩
end

end Go.Proofs.Ytihkgdlanfemcaa
