/-
  Several own rows of integers; the costs of states: plain.
  The values of relaxed.Max exist for every state and are a lower bound of costs: plain.
  Tables of values: as functions, in memory, and what lowering a value does.
  pairs: the greatest value of a set, lowering a value: what they return.
  strips.Union, Contains of one element; pairs: use: what they return.
  pairs: find: what it returns.
  pairs.Values, Goal, Exclusive: what they return.
  helmsmanref3.HittingFault: the fault of sets and costs.
  A law's argument of type [][]int, as the walk wants it.
  Rows of lists that lie anywhere: append of a whole [][]int, of one list; the reading of an argument [][]int with its size.
-/
import Derived.Test.YtihkgdlanfemcaaZ9
import Derived.Test.YtihkgdlanfemcaaZ2
import Derived.Test.YtihkgdlanfemcaaZ16
import Derived.Test.YtihkgdlanfemcaaZ8
import Derived.Test.YtihkgdlanfemcaaZ1
import Derived.Test.YtihkgdlanfemcaaZ7
import Derived.SizedLaws
namespace Go.Proofs.Ytihkgdlanfemcaa
open Go.RowKit
set_option linter.unusedVariables false
set_option linter.unusedSimpArgs false

/-! ### Own rows of integers -/
structure OwnL (base : Nat) (w : World) (vs : List Value) (xss : List (List Int)) : Prop where
  len : vs.length = xss.length
  own : ∀ (i : Nat) (v : Value) (xs : List Int), vs[i]? = some v → xss[i]? = some xs → OwnI base w v xs
  sep : ∀ (i j : Nat) (u v : Value), i ≠ j → vs[i]? = some u → vs[j]? = some v → Sep u v
section
variable {base : Nat} {w w' : World} {vs : List Value} {xss : List (List Int)}
theorem OwnL.nil (base : Nat) (w : World) : OwnL base w [] [] := ⟨rfl, fun i v xs h => by simp at h, fun i j u v _ h => by simp at h⟩
theorem OwnL.below (h : OwnL base w vs xss) (hb : Below w.heap.size w w') : OwnL base w' vs xss := ⟨h.len, fun i v xs h1 h2 => (h.own i v xs h1 h2).below hb, h.sep⟩
theorem OwnL.more (h : OwnL base w vs xss) : OwnL base w (vs ++ [.slice none 0 0]) (xss ++ [[]]) := by
  have key : ∀ (i : Nat) (v : Value), (vs ++ [Value.slice none 0 0])[i]? = some v → (i < vs.length ∧ vs[i]? = some v) ∨ (i = vs.length ∧ v = .slice none 0 0) := fun i v hv => by
    rcases Nat.lt_or_ge i vs.length with hl | hl
    · rw [List.getElem?_append_left hl] at hv; exact .inl ⟨hl, hv⟩
    · rw [List.getElem?_append_right hl] at hv
      have h0 : i - vs.length = 0 := by
        have := (List.getElem?_eq_some_iff.1 hv).1
        simp at this; omega
      rw [h0] at hv
      simp at hv
      exact .inr ⟨by omega, hv.symm⟩
  refine ⟨by simp [h.len], fun i v xs h1 h2 => ?_, fun i j u v hij h1 h2 => ?_⟩
  · rcases key i v h1 with ⟨hl, h1⟩ | ⟨rfl, rfl⟩
    · rw [List.getElem?_append_left (by rw [← h.len]; exact hl)] at h2
      exact h.own i v xs h1 h2
    · rw [h.len, List.getElem?_append_right (Nat.le_refl _)] at h2
      simp at h2
      subst h2
      exact OwnI.nil _ _
  · rcases key i u h1 with ⟨_, h1⟩ | ⟨rfl, rfl⟩
    · rcases key j v h2 with ⟨_, h2⟩ | ⟨rfl, rfl⟩
      · exact h.sep i j u v hij h1 h2
      · exact (sep_nil u).symm
    · exact sep_nil v
theorem OwnL.push (h : OwnL base w vs xss) (i : Nat) {v : Value} {xs ys : List Int} (hv : vs[i]? = some v) (hx : xss[i]? = some xs) {v' : Value} (o : OwnI base w' v' ys) (hg : w.grownBy w' v.ownBlock) (hat : v'.ownBlock = v.ownBlock ∨ v'.ownBlock = some w.heap.size) : OwnL base w' (vs.set i v') (xss.set i ys) := by
  have hil := (List.getElem?_eq_some_iff.1 hv).1
  have hb : ∀ (j : Nat) (u : Value), vs[j]? = some u → ∀ k, u.ownBlock = some k → k < w.heap.size := fun j u hu k hk => by
    have hj := (List.getElem?_eq_some_iff.1 hu).1
    exact (h.own j u _ hu (List.getElem?_eq_getElem (by rw [← h.len]; exact hj))).bnd k hk
  refine ⟨by simp [h.len], fun j u zs h1 h2 => ?_, fun j k u z hjk h1 h2 => ?_⟩
  · by_cases e : i = j
    · subst e
      rw [List.getElem?_set_self hil] at h1
      rw [List.getElem?_set_self (by rw [← h.len]; exact hil)] at h2
      injection h1 with h1; injection h2 with h2
      subst h1; subst h2
      exact o
    · rw [List.getElem?_set_ne e] at h1 h2
      exact own_grown_i (h.own j u zs h1 h2) hg (h.sep i j v u e hv h1)
  · by_cases e : i = j
    · subst e
      rw [List.getElem?_set_self hil] at h1
      rw [List.getElem?_set_ne hjk] at h2
      injection h1 with h1
      subst h1
      exact (Sep.next (h.sep k i z v (Ne.symm hjk) h2 hv) hat (hb k z h2)).symm
    · rw [List.getElem?_set_ne e] at h1
      by_cases e2 : i = k
      · subst e2
        rw [List.getElem?_set_self hil] at h2
        injection h2 with h2
        subst h2
        exact Sep.next (h.sep j i u v hjk h1 hv) hat (hb j u h1)
      · rw [List.getElem?_set_ne e2] at h2
        exact h.sep j k u z hjk h1 h2
theorem OwnI.away' {base : Nat} {w : World} {v : Value} {xs : List Int} (h : OwnI base w v xs) {p : Addr} (hp : v.ownBlock ≠ some p.block) (u : Value) : OwnI base (w.setCell p u) v xs := by
  obtain ⟨h1, h2⟩ := h
  refine ⟨h1, ?_⟩
  rcases h2 with h2 | ⟨g, cap, cur, hv, hg, hh, r⟩
  · exact Or.inl h2
  · exact Or.inr ⟨g, cap, cur, hv, hg, (Below.heap_setCell w p u g (fun e => hp (by rw [hv, ← e]; rfl))).trans hh, r⟩
theorem OwnL.write (h : OwnL base w vs xss) (i : Nat) {n c g : Nat} {xs : List Int} (hv : vs[i]? = some (.slice (some ⟨g, 0, none⟩) n c)) (hx : xss[i]? = some xs) (hn : xs.length = n) (k : Nat) (x : Int) : OwnL base (w.setCell ⟨g, k, none⟩ (.int .i64 x)) vs (xss.set i (xs.set k x)) := by
  have hil := (List.getElem?_eq_some_iff.1 hv).1
  refine ⟨by simp [h.len], fun j u zs h1 h2 => ?_, h.sep⟩
  by_cases e : i = j
  · subst e
    rw [List.getElem?_set_self (by rw [← h.len]; exact hil)] at h2
    injection h2 with h2
    rw [hv] at h1
    injection h1 with h1
    subst h1; subst h2
    exact (h.own i _ xs hv hx).set_ hn k x
  · rw [List.getElem?_set_ne e] at h2
    exact (h.own j u zs h1 h2).away' (fun hc => h.sep i j _ u e hv h1 g rfl hc) _
end
/-! ### Costs of states -/
/-- What no plan can be cheaper than. -/
structure HCons (n : Nat) (ops : List OpV) (goal : List Int) (H : List Int → Int) : Prop where
  goal : ∀ l, (∀ q ∈ goal, q ∈ l) → SetP l (n : Int) → H l ≤ 0
  inf : ∀ l, SetP l (n : Int) → H l ≤ 1000000000
  step : ∀ (l : List Int) (p : Nat) (o : OpV), SetP l (n : Int) → ops[p]? = some o → CanV ops l (p : Int) → H (nextV n l o) < 1000000000 → H l ≤ H (nextV n l o) + o.cost
/-- The number of an operator's arc: from, to, cost. -/
def IsArc (n : Nat) (ops : List OpV) (ls : List (List Int)) (a : Nat × Nat × Int) : Prop := ∃ (l : List Int) (p : Nat) (o : OpV), ls[a.1]? = some l ∧ ops[p]? = some o ∧ CanV ops l (p : Int) ∧ ls[a.2.1]? = some (nextV n l o) ∧ a.2.2 = o.cost
structure DSt (n : Nat) (ops : List OpV) (goal : List Int) (ls : List (List Int)) (D : List Int) : Prop where
  len : D.length = ls.length
  all : AllV D
  zero : ∀ (i : Nat) (l : List Int), ls[i]? = some l → (∀ q ∈ goal, q ∈ l) → D[i]? = some 0
  low : ∀ H, HCons n ops goal H → ∀ (i : Nat) (l : List Int) (d : Int), ls[i]? = some l → D[i]? = some d → H l ≤ d
/-- An arc lowers nothing. -/
def ArcOk (D : List Int) (a : Nat × Nat × Int) : Prop := ∀ x y, D[a.1]? = some x → D[a.2.1]? = some y → y < 1000000000 → x ≤ y + a.2.2
noncomputable def startD (goal : List Int) (ls : List (List Int)) : List Int := ls.map fun l => @ite _ (∀ q ∈ goal, q ∈ l) (Classical.propDecidable _) 0 1000000000
section
variable {n : Nat} {ops : List OpV} {goal : List Int} {ls : List (List Int)} {D : List Int}
theorem startD_at {i : Nat} {l : List Int} (h : ls[i]? = some l) : (startD goal ls)[i]? = some (@ite _ (∀ q ∈ goal, q ∈ l) (Classical.propDecidable _) 0 1000000000) := by
  unfold startD; rw [List.getElem?_map, h]; rfl
theorem startD_st (hset : ∀ l ∈ ls, SetP l (n : Int)) : DSt n ops goal ls (startD goal ls) := by
  refine ⟨by simp [startD], fun v hv => ?_, fun i l hl hg => ?_, fun H hH i l d hl hd => ?_⟩
  · unfold startD at hv
    obtain ⟨l, _, rfl⟩ := List.mem_map.1 hv
    unfold InV
    by_cases h : ∀ q ∈ goal, q ∈ l
    · rw [if_pos h]; omega
    · rw [if_neg h]; omega
  · rw [startD_at hl, if_pos hg]
  · rw [startD_at hl] at hd
    injection hd with hd
    have hs := hset l (List.mem_of_getElem? hl)
    by_cases h : ∀ q ∈ goal, q ∈ l
    · rw [if_pos h] at hd; have := hH.goal l h hs; omega
    · rw [if_neg h] at hd; have := hH.inf l hs; omega
theorem startD_yes {k : Nat} {l : List Int} (h : ls[k]? = some l) (hg : ∀ q ∈ goal, q ∈ l) : startD goal (ls.take k) ++ [0] = startD goal (ls.take (k + 1)) := by
  unfold startD
  rw [List.take_add_one, h, List.map_append]
  simp only [Option.toList, List.map_cons, List.map_nil]
  rw [if_pos hg]
theorem startD_no {k : Nat} {l : List Int} (h : ls[k]? = some l) (hg : ¬ ∀ q ∈ goal, q ∈ l) : startD goal (ls.take k) ++ [1000000000] = startD goal (ls.take (k + 1)) := by
  unfold startD
  rw [List.take_add_one, h, List.map_append]
  simp only [Option.toList, List.map_cons, List.map_nil]
  rw [if_neg hg]
theorem words_succ {k : Nat} {l : List Int} (h : ls[k]? = some l) : (ls.take k).map wordV ++ [wordV l] = (ls.take (k + 1)).map wordV := by
  rw [List.take_add_one, h, List.map_append]; rfl
theorem DSt.set_ (h : DSt n ops goal ls D) (hset : ∀ l ∈ ls, SetP l (n : Int)) (hops : ∀ o ∈ ops, 0 ≤ o.cost) {a : Nat × Nat × Int} (ha : IsArc n ops ls a) {x y : Int} (hx : D[a.1]? = some x) (hy : D[a.2.1]? = some y) (hy2 : y < 1000000000) (hlt : y + a.2.2 < x) : DSt n ops goal ls (D.set a.1 (y + a.2.2)) := by
  obtain ⟨l, p, o, h1, h2, h3, h4, h5⟩ := ha
  have hil := (List.getElem?_eq_some_iff.1 hx).1
  have hyV := h.all y (List.mem_of_getElem? hy)
  have hxV := h.all x (List.mem_of_getElem? hx)
  have hc := hops o (List.mem_of_getElem? h2)
  unfold InV at hyV hxV
  refine ⟨by rw [List.length_set]; exact h.len, allV_set h.all _ (by unfold InV; omega), fun i l' hl' hg => ?_, fun H hH i l' d hl' hd => ?_⟩
  · rw [List.getElem?_set_ne (fun e => by
      subst e
      have := h.zero a.1 l' hl' hg
      rw [hx] at this
      injection this with this
      omega)]
    exact h.zero i l' hl' hg
  · by_cases e : a.1 = i
    · subst e
      rw [List.getElem?_set_self hil] at hd
      injection hd with hd
      rw [h1] at hl'
      injection hl' with hl'
      subst hl'
      have k1 := h.low H hH a.2.1 _ y h4 hy
      have k2 := hH.step l p o (hset l (List.mem_of_getElem? h1)) h2 h3 (by omega)
      omega
    · rw [List.getElem?_set_ne e] at hd
      exact h.low H hH i l' d hl' hd
/-- Which arcs are in the list. -/
structure ArcsTo (n : Nat) (ops : List OpV) (ls : List (List Int)) (A : List (Nat × Nat × Int)) (i p k : Nat) : Prop where
  sound : ∀ a ∈ A, IsArc n ops ls a
  all : ∀ (i' p' k' : Nat) (l : List Int) (o : OpV), (i' < i ∨ i' = i ∧ (p' < p ∨ p' = p ∧ k' < k)) → ls[i']? = some l → ops[p']? = some o → CanV ops l (p' : Int) → ls[k']? = some (nextV n l o) → (i', k', o.cost) ∈ A
  len : A.length ≤ 80000 * i + 2000 * p + k
theorem ArcsTo.start : ArcsTo n ops ls [] 0 0 0 := ⟨fun a h => (List.not_mem_nil h).elim, fun i' p' k' l o h => by omega, by simp⟩
variable {A : List (Nat × Nat × Int)} {i p k : Nat}
theorem ArcsTo.add (h : ArcsTo n ops ls A i p k) {l : List Int} {o : OpV} (hl : ls[i]? = some l) (ho : ops[p]? = some o) (hc : CanV ops l (p : Int)) (hk : ls[k]? = some (nextV n l o)) : ArcsTo n ops ls (A ++ [(i, k, o.cost)]) i p (k + 1) := by
  refine ⟨fun a ha => ?_, fun i' p' k' l' o' hlt hl' ho' hc' hk' => ?_, by rw [List.length_append]; have := h.len; simp; omega⟩
  · rcases List.mem_append.1 ha with e | e
    · exact h.sound a e
    · rw [List.mem_singleton.1 e]; exact ⟨l, p, o, hl, ho, hc, hk, rfl⟩
  · by_cases e : i' = i ∧ p' = p ∧ k' = k
    · obtain ⟨rfl, rfl, rfl⟩ := e
      rw [ho] at ho'
      injection ho' with ho'
      subst ho'
      exact List.mem_append_right _ (List.mem_singleton.2 rfl)
    · exact List.mem_append_left _ (h.all i' p' k' l' o' (by omega) hl' ho' hc' hk')
theorem ArcsTo.skip (h : ArcsTo n ops ls A i p k) {l : List Int} {o : OpV} (hl : ls[i]? = some l) (ho : ops[p]? = some o) (hk : ls[k]? ≠ some (nextV n l o)) : ArcsTo n ops ls A i p (k + 1) :=
  ⟨h.sound, fun i' p' k' l' o' hlt hl' ho' hc' hk' => by
    by_cases e : i' = i ∧ p' = p ∧ k' = k
    · obtain ⟨rfl, rfl, rfl⟩ := e
      rw [ho] at ho'
      injection ho' with ho'
      subst ho'
      rw [hl] at hl'
      injection hl' with hl'
      subst hl'
      exact absurd hk' hk
    · exact h.all i' p' k' l' o' (by omega) hl' ho' hc' hk', by have := h.len; omega⟩
theorem ArcsTo.col (h : ArcsTo n ops ls A i p k) (hk : ls.length ≤ k) (hk2 : k ≤ 2000) : ArcsTo n ops ls A i (p + 1) 0 :=
  ⟨h.sound, fun i' p' k' l' o' hlt hl' ho' hc' hk' => h.all i' p' k' l' o' (by have := (List.getElem?_eq_some_iff.1 hk').1; omega) hl' ho' hc' hk', by have := h.len; omega⟩
theorem ArcsTo.none (h : ArcsTo n ops ls A i p 0) {l : List Int} (hl : ls[i]? = some l) (hc : ¬ CanV ops l (p : Int)) : ArcsTo n ops ls A i (p + 1) 0 :=
  ⟨h.sound, fun i' p' k' l' o' hlt hl' ho' hc' hk' => by
    by_cases e : i' = i ∧ p' = p
    · obtain ⟨rfl, rfl⟩ := e
      rw [hl] at hl'
      injection hl' with hl'
      subst hl'
      exact absurd hc' hc
    · exact h.all i' p' k' l' o' (by omega) hl' ho' hc' hk', by have := h.len; omega⟩
theorem ArcsTo.row (h : ArcsTo n ops ls A i p 0) (hp : ops.length ≤ p) (hp2 : p ≤ 40) : ArcsTo n ops ls A (i + 1) 0 0 :=
  ⟨h.sound, fun i' p' k' l' o' hlt hl' ho' hc' hk' => h.all i' p' k' l' o' (by have := (List.getElem?_eq_some_iff.1 ho').1; omega) hl' ho' hc' hk', by have := h.len; omega⟩
/-- The least costs of plans from the states of a closed list. -/
structure DOk (n : Nat) (ops : List OpV) (goal : List Int) (ls : List (List Int)) (D : List Int) : Prop where
  st : DSt n ops goal ls D
  closed : ∀ (i p k : Nat) (l : List Int) (o : OpV), ls[i]? = some l → ops[p]? = some o → CanV ops l (p : Int) → ls[k]? = some (nextV n l o) → ArcOk D (i, k, o.cost)
theorem dok_of (h : DSt n ops goal ls D) (hA : ArcsTo n ops ls A ls.length 0 0) (hc : ∀ a ∈ A, ArcOk D a) : DOk n ops goal ls D :=
  ⟨h, fun i p k l o hl ho hcan hk => hc _ (hA.all i p k l o (.inl (List.getElem?_eq_some_iff.1 hl).1) hl ho hcan hk)⟩
end

end Go.Proofs.Ytihkgdlanfemcaa

namespace Go.Proofs.Ytihkgdlanfemcaa
open Go.RowKit
set_option linter.unusedVariables false
set_option linter.unusedSimpArgs false

theorem best_down {s : Bool} {n : Nat} {st : List Int} {ops : List OpV} {cs : List Int} (hadd : ∀ o ∈ ops, ∀ p ∈ o.add, 0 ≤ p ∧ p < (n : Int)) (hcs : AllV cs) : ∀ (m : Nat) (V : List Int), sumV V ≤ m → Above s n st ops cs V → ∃ V', Best s n st ops cs V' := by
  intro m
  induction m with
  | zero =>
    intro V hm hV
    refine ⟨V, best_of hV fun i o c hi ho hc p hp => ?_⟩
    refine Classical.byContradiction fun hlt => ?_
    have hpr := hadd o (List.mem_of_getElem? ho) p hp
    have hin := opV_in (s := s) hV.shape.all o (hcs c (List.mem_of_getElem? hc))
    obtain ⟨y, hy⟩ : ∃ y, V[p.toNat]? = some y := ⟨_, List.getElem?_eq_getElem (by rw [hV.shape.len]; omega)⟩
    rw [valAt_of hy] at hlt
    have := sum_set hy hin.1 (by omega : opV s V o c < y)
    omega
  | succ m ih =>
    intro V hm hV
    by_cases hcl : ClosedTo s ops cs ops.length V
    · exact ⟨V, best_of hV hcl⟩
    · obtain ⟨i, o, c, ho, hc, p, hp, hlt⟩ : ∃ i o c, ops[i]? = some o ∧ cs[i]? = some c ∧ ∃ p ∈ o.add, ¬ valAt V p ≤ opV s V o c := by
        refine Classical.byContradiction fun hn => hcl fun i o c hi ho hc p hp => Classical.byContradiction fun h => hn ⟨i, o, c, ho, hc, p, hp, h⟩
      have hcv := hcs c (List.mem_of_getElem? hc)
      have hpr := hadd o (List.mem_of_getElem? ho) p hp
      have hin := opV_in (s := s) hV.shape.all o hcv
      obtain ⟨y, hy⟩ : ∃ y, V[p.toNat]? = some y := ⟨_, List.getElem?_eq_getElem (by rw [hV.shape.len]; omega)⟩
      rw [valAt_of hy] at hlt
      have h1 := sum_set hy hin.1 (by omega : opV s V o c < y)
      exact ih _ (by omega) (above_set hV (bound_of hV ho hc hcv) hp hin hy (by omega))
theorem best_ex {s : Bool} {n : Nat} {st : List Int} {ops : List OpV} {cs : List Int} (hst : ∀ p ∈ st, 0 ≤ p ∧ p < (n : Int)) (hadd : ∀ o ∈ ops, ∀ p ∈ o.add, 0 ≤ p ∧ p < (n : Int)) (hcs : AllV cs) : Best s n st ops cs (valuesV s n st ops cs) := by
  obtain ⟨V, hV⟩ := best_down hadd hcs _ _ (Nat.le_refl _) (initV_above (s := s) (ops := ops) (cs := cs) hst)
  exact values_best hV
end Go.Proofs.Ytihkgdlanfemcaa

namespace Go.Proofs.Ytihkgdlanfemcaa
open Go.RowKit
set_option linter.unusedVariables false
set_option linter.unusedSimpArgs false

def rowV (n : Nat) (f : Int → Int) : List Int := (List.range n).map fun (q : Nat) => f (q : Int)
theorem rowV_len (n : Nat) (f : Int → Int) : (rowV n f).length = n := by simp [rowV]
theorem rowV_get {n q : Nat} {f : Int → Int} (h : q < n) : (rowV n f)[q]? = some (f (q : Int)) := by simp [rowV, h]
theorem rowV_ext {n : Nat} {f g : Int → Int} (h : ∀ q : Nat, q < n → f (q : Int) = g (q : Int)) : rowV n f = rowV n g := by
  unfold rowV
  refine List.map_congr_left fun q hq => h q (List.mem_range.1 hq)
/-- A value and its mirror image are replaced. -/
def updT (V : Int → Int → Int) (p q x : Int) : Int → Int → Int := fun p' q' => if (p' = p ∧ q' = q) ∨ (p' = q ∧ q' = p) then x else V p' q'
/-- .. if that is less. -/
def setT (V : Int → Int → Int) (p q x : Int) : Int → Int → Int := if x < V p q then updT V p q x else V
theorem setT_no {V : Int → Int → Int} {p q x : Int} (h : ¬ x < V p q) : setT V p q x = V := if_neg h
theorem setT_yes {V : Int → Int → Int} {p q x : Int} (h : x < V p q) : setT V p q x = updT V p q x := if_pos h

/-! ### In memory -/
/-- Block g holds a table: n rows of n values, each in a block of its own. -/
structure Tbl (w : World) (g : Nat) (bs : List Nat) (n : Nat) (V : Int → Int → Int) : Prop where
  arr : Arr w g 22 (bs.map fun b => Value.slice (some ⟨b, 0, none⟩) n n)
  len : bs.length = n
  rows : ∀ (p b : Nat), bs[p]? = some b → IArr w b (rowV n (V (p : Int)))
  diff : ∀ b ∈ bs, b ≠ g
  nodup : bs.Nodup
section
variable {w w' : World} {g n : Nat} {bs : List Nat} {V : Int → Int → Int}
theorem Tbl.lt (h : Tbl w g bs n V) : g < w.heap.size ∧ ∀ b ∈ bs, b < w.heap.size := ⟨h.arr.lt, fun b hb => by
  obtain ⟨i, hi, rfl⟩ := List.getElem_of_mem hb
  exact Arr.lt (h.rows i _ (List.getElem?_eq_getElem hi))⟩
theorem Tbl.same (h : Tbl w g bs n V) (hg : w'.heap[g]? = w.heap[g]?) (hb : ∀ b ∈ bs, w'.heap[b]? = w.heap[b]?) : Tbl w' g bs n V :=
  ⟨hg.trans h.arr, h.len, fun p b hp => (hb b (List.mem_of_getElem? hp)).trans (h.rows p b hp), h.diff, h.nodup⟩
theorem Tbl.below (h : Tbl w g bs n V) (hb : Below w.heap.size w w') : Tbl w' g bs n V := h.same (hb.block g h.lt.1) (fun b hm => hb.block b (h.lt.2 b hm))
theorem Tbl.at_ (h : Tbl w g bs n V) {p q : Int} (hp : 0 ≤ p ∧ p < (n : Int)) (hq : 0 ≤ q ∧ q < (n : Int)) :
    ∃ b, Hid (bs[p.toNat]? = some b) ∧ w.cell? ⟨g, p.toNat, none⟩ = some (.slice (some ⟨b, 0, none⟩) n n) ∧ w.cell? ⟨b, q.toNat, none⟩ = some (.int .i64 (V p q)) ∧ w.frozen? ⟨b, q.toNat, none⟩ = false := by
  have hpl : p.toNat < bs.length := by rw [h.len]; omega
  refine ⟨bs[p.toNat], Lib.hid (List.getElem?_eq_getElem hpl), ?_, ?_, Arr.free (h.rows _ _ (List.getElem?_eq_getElem hpl)) _⟩
  · rw [h.arr.cell]; simp [hpl]
  · have hr := h.rows _ _ (List.getElem?_eq_getElem hpl)
    have e : ((p.toNat : Nat) : Int) = p := by omega
    rw [e] at hr
    rw [Arr.cell hr, List.getElem?_map, rowV_get (by omega)]
    have e2 : ((q.toNat : Nat) : Int) = q := by omega
    rw [e2]; rfl
end
/-- Only the rows were written. -/
structure Wr (bs : List Nat) (w w' : World) : Prop where
  os : w'.os = w.os
  tape : w'.tape = w.tape
  output : w'.output = w.output
  size : w.heap.size ≤ w'.heap.size
  block : ∀ k, k < w.heap.size → k ∉ bs → w'.heap[k]? = w.heap[k]?
section
variable {bs : List Nat} {a w w' : World}
theorem Wr.refl (bs : List Nat) (w : World) : Wr bs w w := ⟨rfl, rfl, rfl, Nat.le_refl _, fun _ _ _ => rfl⟩
theorem Wr.of (h : Below w.heap.size w w') : Wr bs w w' := ⟨h.os, h.tape, h.output, h.size, fun k hk _ => h.block k hk⟩
theorem Wr.trans (h : Wr bs a w) (k : Wr bs w w') : Wr bs a w' := ⟨k.os.trans h.os, k.tape.trans h.tape, k.output.trans h.output, Nat.le_trans h.size k.size, fun i hi hn => (k.block i (Nat.lt_of_lt_of_le hi h.size) hn).trans (h.block i hi hn)⟩
theorem Wr.below {B : Nat} (h : Wr bs w w') (hB : B ≤ w.heap.size) (hb : ∀ b ∈ bs, B ≤ b) : Below B w w' := ⟨h.os, h.tape, h.output, h.size, fun k hk => h.block k (by omega) (fun hm => by have := hb k hm; omega)⟩
theorem Wr.set_ (h : Wr bs a w) {p : Addr} (hp : p.block ∈ bs) (u : Value) : Wr bs a (w.setCell p u) :=
  h.trans ⟨rfl, rfl, rfl, by simp [World.setCell], fun k hk hn => Below.heap_setCell _ _ _ _ (fun e => hn (by rw [e]; exact hp))⟩
theorem Cls.wr {l : List (Nat × Nat × Value)} {K : Nat} (hW : Wr bs w w') (hK : ∀ b ∈ bs, b < K) (hC : Cls w l) (hl : ∀ x ∈ l, K ≤ x.1) : Cls w' l := by
  induction l with
  | nil => trivial
  | cons x r ih =>
    obtain ⟨b, k, v⟩ := x
    obtain ⟨⟨h1, h2⟩, h3⟩ := hC
    have hlt := World.block_lt_of_cell? w ⟨b, k, none⟩ h1
    have hne : w'.heap[b]? = w.heap[b]? := hW.block b hlt (fun e => by
      have h4 := hK b e
      have h5 : K ≤ b := hl (b, k, v) (by simp)
      omega)
    exact ⟨⟨(World.cell?_of_block (w := w) hne).trans h1, (World.frozen?_of_block (w := w) hne).trans h2⟩, ih h3 (fun x hx => hl x (by simp [hx]))⟩
end

/-! ### The greatest value of a set's pairs, pair by pair -/
def Cov (V : Int → Int → Int) (l : List Int) (k j : Nat) (o : Int) : Prop :=
  0 ≤ o ∧ (∀ (a b : Nat) (p q : Int), (a < k ∧ b ≤ a ∨ a = k ∧ b < j) → l[a]? = some p → l[b]? = some q → V p q ≤ o) ∧
    ∀ z, 0 ≤ z → (∀ (a b : Nat) (p q : Int), (a < k ∧ b ≤ a ∨ a = k ∧ b < j) → l[a]? = some p → l[b]? = some q → V p q ≤ z) → o ≤ z
theorem Cov.start (V : Int → Int → Int) (l : List Int) : Cov V l 0 0 0 := ⟨Int.le_refl _, fun a b p q h => by omega, fun z hz _ => hz⟩
theorem Cov.step {V : Int → Int → Int} {l : List Int} {k j : Nat} {o p q m : Int} (h : Cov V l k j o) (hp : l[k]? = some p) (hq : l[j]? = some q) (hm : m = if o < V p q then V p q else o) : Cov V l k (j + 1) m := by
  obtain ⟨h0, h1, h2⟩ := h
  have hm1 : o ≤ m ∧ V p q ≤ m ∧ (m = o ∨ m = V p q) := by
    rw [hm]; split <;> omega
  refine ⟨by omega, fun a b p' q' hab ha hb => ?_, fun z hz hall => ?_⟩
  · by_cases e : a = k ∧ b = j
    · obtain ⟨rfl, rfl⟩ := e
      rw [hp] at ha; rw [hq] at hb
      injection ha with ha; injection hb with hb
      subst ha; subst hb
      omega
    · have := h1 a b p' q' (by omega) ha hb
      omega
  · have h3 := h2 z hz (fun a b p' q' hab ha hb => hall a b p' q' (by omega) ha hb)
    have h4 := hall k j p q (by omega) hp hq
    omega
theorem Cov.row {V : Int → Int → Int} {l : List Int} {k : Nat} {o : Int} (h : Cov V l k (k + 1) o) : Cov V l (k + 1) 0 o :=
  ⟨h.1, fun a b p q hab => h.2.1 a b p q (by omega), fun z hz hall => h.2.2 z hz fun a b p q hab => hall a b p q (by omega)⟩
/-! ### Lowering values -/
def sumN (l : List Nat) (f : Nat → Nat) : Nat := (l.map f).sum
theorem sumN_le {f g : Nat → Nat} : ∀ {l : List Nat}, (∀ x ∈ l, f x ≤ g x) → sumN l f ≤ sumN l g
  | [], _ => Nat.le_refl _
  | x :: l, h => by
    have h1 := sumN_le (l := l) (f := f) (g := g) (fun y hy => h y (List.mem_cons_of_mem _ hy))
    have h2 := h x (List.mem_cons_self ..)
    simp only [sumN, List.map_cons, List.sum_cons] at *
    omega
theorem sumN_lt {f g : Nat → Nat} : ∀ {l : List Nat}, (∀ x ∈ l, f x ≤ g x) → (∃ x ∈ l, f x < g x) → sumN l f < sumN l g
  | [], _, h => by obtain ⟨x, hx, _⟩ := h; cases hx
  | x :: l, h, hx => by
    obtain ⟨y, hy, hlt⟩ := hx
    have h2 := h x (List.mem_cons_self ..)
    have h3 := sumN_le (l := l) (f := f) (g := g) (fun y hy => h y (List.mem_cons_of_mem _ hy))
    rcases List.mem_cons.1 hy with e | e
    · subst e
      simp only [sumN, List.map_cons, List.sum_cons] at *
      omega
    · have h1 := sumN_lt (l := l) (f := f) (g := g) (fun y hy => h y (List.mem_cons_of_mem _ hy)) ⟨y, e, hlt⟩
      simp only [sumN, List.map_cons, List.sum_cons] at *
      omega
def sumT (n : Nat) (V : Int → Int → Int) : Nat := sumN (List.range n) fun p => sumN (List.range n) fun q => (V (p : Int) (q : Int)).toNat
theorem sumT_lt {n : Nat} {U V : Int → Int → Int} (h : ∀ p q, Rng n p → Rng n q → U p q ≤ V p q) {p q : Int} (hp : Rng n p) (hq : Rng n q) (h0 : 0 ≤ U p q) (hlt : U p q < V p q) : sumT n U < sumT n V := by
  unfold Rng at *
  have hr : ∀ x ∈ List.range n, (0 : Int) ≤ (x : Int) ∧ (x : Int) < (n : Int) := fun x hx => by have := List.mem_range.1 hx; omega
  refine sumN_lt (fun a ha => sumN_le fun b hb => ?_) ⟨p.toNat, List.mem_range.2 (by omega), sumN_lt (fun b hb => ?_) ⟨q.toNat, List.mem_range.2 (by omega), ?_⟩⟩
  · have := h a b (hr a ha) (hr b hb); omega
  · have e : ((p.toNat : Nat) : Int) = p := by omega
    rw [e]
    have := h p b hp (hr b hb); omega
  · have e : ((p.toNat : Nat) : Int) = p := by omega
    have e2 : ((q.toNat : Nat) : Int) = q := by omega
    rw [e, e2]; omega
/-- The values are at least those that no operator can lower. -/
structure PAb (n : Nat) (st : List Int) (ops : List OpV) (V : Int → Int → Int) : Prop where
  all : ∀ p q, Rng n p → Rng n q → InV (V p q)
  zero : ∀ p ∈ st, ∀ q ∈ st, V p q = 0
  sym : ∀ p q, Rng n p → Rng n q → V p q = V q p
  great : ∀ U, PFix n st ops U → ∀ p q, Rng n p → Rng n q → U p q ≤ V p q
section
variable {n : Nat} {st : List Int} {ops : List OpV} {V : Int → Int → Int}
theorem pfix_symm {U : Int → Int → Int} (h : PFix n st ops U) : PFix n st ops (fun p q => U q p) := by
  refine ⟨fun p q hp hq => h.all q p hq hp, fun p hp q hq => h.zero q hq p hp, fun o ho p q l hp hq ha => ?_⟩
  have h1 := h.closed o ho q p l hq hp ha.symm
  have h2 : valP (fun p q => U q p) l = valP U l := Int.le_antisymm (valP_le valP_nn fun p hp q hq => valP_ge hq hp) (valP_le valP_nn fun p hp q hq => valP_ge (V := fun p q => U q p) hq hp)
  show U q p ≤ _
  rw [h2]; exact h1
theorem PAb.set_ (h : PAb n st ops V) {p q x : Int} (hp : Rng n p) (hq : Rng n q) (hx : InV x) (hb : ∀ U, PFix n st ops U → U p q ≤ x) : PAb n st ops (setT V p q x) := by
  by_cases hlt : x < V p q
  · rw [setT_yes hlt]
    refine ⟨fun a b ha hb => ?_, fun a ha b hbb => ?_, fun a b ha hb => ?_, fun U hU a b ha hb2 => ?_⟩
    · unfold updT; split
      · exact hx
      · exact h.all a b ha hb
    · unfold updT
      rw [if_neg]
      · exact h.zero a ha b hbb
      · have hx0 : 0 ≤ x := hx.1
        rintro (⟨rfl, rfl⟩ | ⟨rfl, rfl⟩)
        · have := h.zero a ha b hbb; omega
        · have := h.zero b hbb a ha; omega
    · unfold updT
      by_cases e : (a = p ∧ b = q) ∨ (a = q ∧ b = p)
      · rw [if_pos e, if_pos (by rcases e with e | e; exact .inr ⟨e.2, e.1⟩; exact .inl ⟨e.2, e.1⟩)]
      · rw [if_neg e, if_neg (by rintro (k | k); exact e (.inr ⟨k.2, k.1⟩); exact e (.inl ⟨k.2, k.1⟩))]
        exact h.sym a b ha hb
    · unfold updT
      split
      · rename_i e
        rcases e with ⟨rfl, rfl⟩ | ⟨rfl, rfl⟩
        · exact hb U hU
        · exact hb _ (pfix_symm hU)
      · exact h.great U hU a b ha hb2
  · rw [setT_no hlt]; exact h
theorem PAb.set_lt (h : PAb n st ops V) {p q x : Int} (hp : Rng n p) (hq : Rng n q) (hx : InV x) (hlt : x < V p q) : sumT n (setT V p q x) < sumT n V := by
  rw [setT_yes hlt]
  have hs := h.sym p q hp hq
  refine sumT_lt (p := p) (q := q) (fun a b ha hb => ?_) hp hq ?_ ?_
  · unfold updT; split
    · rename_i e
      rcases e with ⟨rfl, rfl⟩ | ⟨rfl, rfl⟩ <;> omega
    · exact Int.le_refl _
  · unfold updT; rw [if_pos (.inl ⟨rfl, rfl⟩)]; exact hx.1
  · unfold updT; rw [if_pos (.inl ⟨rfl, rfl⟩)]; exact hlt
/-- While an operator is applied: V0 the values at its start, b whether some value was changed, P what is known if none was. -/
structure Use (n : Nat) (st : List Int) (ops : List OpV) (V0 V : Int → Int → Int) (b : Bool) (P : Prop) : Prop where
  ab : PAb n st ops V
  down : b = true → sumT n V < sumT n V0
  keep : b = false → V = V0 ∧ P
theorem Use.set_ {V0 : Int → Int → Int} {b : Bool} {P P' : Prop} (h : Use n st ops V0 V b P) {p q x : Int} (hp : Rng n p) (hq : Rng n q) (hx : InV x) (hb : ∀ U, PFix n st ops U → U p q ≤ x) (hP : V = V0 → P → V0 p q ≤ x → P') :
    Use n st ops V0 (setT V p q x) (decide (x < V p q) || b) P' := by
  refine ⟨h.ab.set_ hp hq hx hb, fun hc => ?_, fun hc => ?_⟩
  · by_cases hlt : x < V p q
    · have h1 := h.ab.set_lt hp hq hx hlt
      cases b with
      | true => have := h.down rfl; omega
      | false => rw [(h.keep rfl).1] at h1 ⊢; exact h1
    · rw [setT_no hlt]
      refine h.down ?_
      simpa [hlt] using hc
  · simp only [Bool.or_eq_false_iff, decide_eq_false_iff_not] at hc
    obtain ⟨h1, h2⟩ := h.keep hc.2
    rw [setT_no hc.1]
    exact ⟨h1, hP h1 h2 (by rw [← h1]; omega)⟩
theorem Use.imp {V0 : Int → Int → Int} {b : Bool} {P P' : Prop} (h : Use n st ops V0 V b P) (hP : V = V0 → P → P') : Use n st ops V0 V b P' := ⟨h.ab, h.down, fun hb => ⟨(h.keep hb).1, hP (h.keep hb).1 (h.keep hb).2⟩⟩
end

end Go.Proofs.Ytihkgdlanfemcaa

namespace Go.Proofs.Ytihkgdlanfemcaa
open Go.RowKit
set_option linter.unusedVariables false
set_option linter.unusedSimpArgs false
theorem Wr.drew {bs : List Nat} {a w : World} (h : Wr bs a w) : Wr bs a w.drew := ⟨h.os, h.tape, h.output, h.size, h.block⟩
theorem Tbl.drew {w : World} {g n : Nat} {bs : List Nat} {V : Int → Int → Int} (h : Tbl w g bs n V) : Tbl w.drew g bs n V := ⟨h.arr, h.len, h.rows, h.diff, h.nodup⟩
end Go.Proofs.Ytihkgdlanfemcaa

namespace Go.Proofs.Ytihkgdlanfemcaa
open Go.RowKit
set_option linter.unusedVariables false
set_option linter.unusedSimpArgs false
section
variable {n : Nat} {st : List Int} {ops : List OpV} {V U : Int → Int → Int} {o : OpV} {p q : Int}
end
end Go.Proofs.Ytihkgdlanfemcaa

namespace Go.Proofs.Ytihkgdlanfemcaa
open Go.RowKit
set_option linter.unusedVariables false
set_option linter.unusedSimpArgs false

/-- .. of which only the first k rows are made. -/
structure TblTo (w : World) (g : Nat) (bs : List Nat) (n k : Nat) (V : Int → Int → Int) : Prop where
  arr : Arr w g 22 ((bs.map fun b => Value.slice (some ⟨b, 0, none⟩) n n) ++ List.replicate (n - k) (Value.slice none 0 0))
  len : bs.length = k
  rows : ∀ (p b : Nat), bs[p]? = some b → IArr w b (rowV n (V (p : Int)))
  diff : ∀ b ∈ bs, b ≠ g
  nodup : bs.Nodup
section
variable {w w' : World} {g n k : Nat} {bs : List Nat} {V : Int → Int → Int}
theorem TblTo.lt (h : TblTo w g bs n k V) : g < w.heap.size ∧ ∀ b ∈ bs, b < w.heap.size := ⟨h.arr.lt, fun b hb => by
  obtain ⟨i, hi, rfl⟩ := List.getElem_of_mem hb
  exact Arr.lt (h.rows i _ (List.getElem?_eq_getElem hi))⟩
theorem TblTo.below (h : TblTo w g bs n k V) (hb : Below w.heap.size w w') : TblTo w' g bs n k V :=
  ⟨(hb.block g h.lt.1).trans h.arr, h.len, fun p b hp => (hb.block b (h.lt.2 b (List.mem_of_getElem? hp))).trans (h.rows p b hp), h.diff, h.nodup⟩
theorem TblTo.at_ (h : TblTo w g bs n k V) {p q : Nat} (hp : p < k) (hq : q < n) :
    ∃ b, Hid (bs[p]? = some b) ∧ b < w.heap.size ∧ w.cell? ⟨g, p, none⟩ = some (.slice (some ⟨b, 0, none⟩) n n) ∧ w.cell? ⟨b, q, none⟩ = some (.int .i64 (V p q)) ∧ w.frozen? ⟨b, q, none⟩ = false := by
  have hpl : p < bs.length := by rw [h.len]; omega
  refine ⟨bs[p], Lib.hid (List.getElem?_eq_getElem hpl), h.lt.2 _ (List.getElem_mem hpl), ?_, ?_, Arr.free (h.rows _ _ (List.getElem?_eq_getElem hpl)) _⟩
  · rw [h.arr.cell, List.getElem?_append_left (by simpa using hpl)]; simp [hpl]
  · have hr := h.rows _ _ (List.getElem?_eq_getElem hpl)
    rw [Arr.cell hr, List.getElem?_map, rowV_get hq]; rfl
theorem TblTo.next (h : TblTo w g bs n k V) (hk : k < n) : w.cell? ⟨g, k, none⟩ = some (.slice none 0 0) ∧ w.frozen? ⟨g, k, none⟩ = false := by
  refine ⟨?_, Arr.free h.arr _⟩
  rw [h.arr.cell, List.getElem?_append_right (by simp [h.len]), List.length_map, h.len, Nat.sub_self, List.getElem?_replicate, if_pos (by omega)]
theorem TblTo.congr {U : Int → Int → Int} (h : TblTo w g bs n k V) (he : ∀ p q : Nat, p < k → q < n → V p q = U p q) : TblTo w g bs n k U :=
  ⟨h.arr, h.len, fun p b hp => by
    have := (List.getElem?_eq_some_iff.1 hp).1
    have h1 := h.rows p b hp
    rw [rowV_ext (fun q hq => he p q (by rw [← h.len]; exact this) hq)] at h1
    exact h1, h.diff, h.nodup⟩
theorem TblTo.add (h : TblTo w g bs n k V) (hk : k < n) (hz : ∀ q : Nat, q < n → V k q = 0) : TblTo ((w.setCell ⟨g, k, none⟩ (.slice (some ⟨w.heap.size, 0, none⟩) n n)).alloc (.cells (Array.replicate n (.int .i64 0)) 3)) g (bs ++ [w.heap.size]) n (k + 1) V := by
  have hg := h.lt.1
  have hbl := h.lt.2
  refine ⟨?_, by simp [h.len], fun p b hp => ?_, fun b hb => ?_, ?_⟩
  · have h1 := (h.arr.set_ k (.slice (some ⟨w.heap.size, 0, none⟩) n n)).alloc (.cells (Array.replicate n (.int .i64 0)) 3)
    have e : ((bs.map fun b => Value.slice (some ⟨b, 0, none⟩) n n) ++ List.replicate (n - k) (Value.slice none 0 0)).set k (.slice (some ⟨w.heap.size, 0, none⟩) n n) = ((bs ++ [w.heap.size]).map fun b => Value.slice (some ⟨b, 0, none⟩) n n) ++ List.replicate (n - (k + 1)) (Value.slice none 0 0) := by
      have hl : (bs.map fun b => Value.slice (some ⟨b, 0, none⟩) n n).length = k := by simp [h.len]
      rw [List.set_append_right _ _ (by omega), hl, Nat.sub_self]
      have e2 : n - k = (n - (k + 1)) + 1 := by omega
      rw [e2, List.replicate_succ]
      simp
    rw [e] at h1
    exact h1
  · rcases Nat.lt_or_ge p bs.length with hl | hl
    · rw [List.getElem?_append_left hl] at hp
      have h1 := (h.rows p b hp).far (p := ⟨g, k, none⟩) (fun e => h.diff b (List.mem_of_getElem? hp) e.symm) (.slice (some ⟨w.heap.size, 0, none⟩) n n)
      exact h1.below ((Below.refl _ _).alloc (Nat.le_refl _) _)
    · rw [List.getElem?_append_right hl] at hp
      have hp0 : p = bs.length := by
        have := (List.getElem?_eq_some_iff.1 hp).1
        simp at this; omega
      subst hp0
      simp at hp
      subst hp
      have h1 := IArr.made (w.setCell ⟨g, k, none⟩ (.slice (some ⟨w.heap.size, 0, none⟩) n n)) n w.heap.size (by simp)
      have e : rowV n (V ((bs.length : Nat) : Int)) = List.replicate n 0 := by
        apply List.ext_getElem?
        intro i
        by_cases hi : i < n
        · rw [rowV_get hi, h.len, hz i hi]; simp [hi]
        · rw [List.getElem?_eq_none (by rw [rowV_len]; omega), List.getElem?_eq_none (by simp; omega)]
      rw [e]
      exact h1
  · rcases List.mem_append.1 hb with h1 | h1
    · exact h.diff b h1
    · rw [List.mem_singleton.1 h1]; omega
  · rw [List.nodup_append]
    refine ⟨h.nodup, by simp, fun a ha b hb => ?_⟩
    rw [List.mem_singleton.1 hb]
    have := hbl a ha
    omega
theorem TblTo.full (h : TblTo w g bs n n V) : Tbl w g bs n V := ⟨by have := h.arr; simpa using this, h.len, h.rows, h.diff, h.nodup⟩
theorem TblTo.start (w : World) (n k : Nat) (V : Int → Int → Int) (hk : k = w.heap.size) : TblTo (w.alloc (.cells (Array.replicate n (Value.slice none 0 0)) 22)) k [] n 0 V := by
  subst hk
  refine ⟨?_, rfl, fun p b h => by simp at h, fun b h => (List.not_mem_nil h).elim, List.nodup_nil⟩
  have h := Arr.new w 22 (List.replicate n (Value.slice none 0 0))
  rw [List.toArray_replicate] at h
  simpa using h
end
end Go.Proofs.Ytihkgdlanfemcaa

namespace Go.Proofs.Ytihkgdlanfemcaa
open Go.RowKit
set_option linter.unusedVariables false
set_option linter.unusedSimpArgs false

/-- A table in blocks from B on. -/
def TabAt (B : Nat) (w : World) (g n : Nat) (V : Int → Int → Int) : Prop := ∃ bs, B ≤ g ∧ (∀ b ∈ bs, B ≤ b) ∧ Tbl w g bs n V
section
variable {B : Nat} {w w' : World} {g n : Nat} {V : Int → Int → Int}
theorem TabAt.below (h : TabAt B w g n V) (hb : Below w.heap.size w w') : TabAt B w' g n V := by
  obtain ⟨bs, h1, h2, h3⟩ := h
  exact ⟨bs, h1, h2, h3.below hb⟩
theorem TabAt.mono {B' : Nat} (h : TabAt B w g n V) (hb : B' ≤ B) : TabAt B' w g n V := by
  obtain ⟨bs, h1, h2, h3⟩ := h
  exact ⟨bs, by omega, fun b hm => by have := h2 b hm; omega, h3⟩
theorem TabAt.far (h : TabAt B w g n V) {p : Addr} (hp : p.block < B) (u : Value) : TabAt B (w.setCell p u) g n V := by
  obtain ⟨bs, h1, h2, h3⟩ := h
  exact ⟨bs, h1, h2, h3.same (Below.heap_setCell _ _ _ _ (by omega)) (fun b hm => Below.heap_setCell _ _ _ _ (by have := h2 b hm; omega))⟩
theorem TabAt.drew (h : TabAt B w g n V) : TabAt B w.drew g n V := by
  obtain ⟨bs, h1, h2, h3⟩ := h
  exact ⟨bs, h1, h2, h3.drew⟩
theorem TabAt.at_ (h : TabAt B w g n V) {p q : Int} (hp : 0 ≤ p ∧ p < (n : Int)) (hq : 0 ≤ q ∧ q < (n : Int)) :
    ∃ b, w.cell? ⟨g, p.toNat, none⟩ = some (.slice (some ⟨b, 0, none⟩) n n) ∧ w.cell? ⟨b, q.toNat, none⟩ = some (.int .i64 (V p q)) := by
  obtain ⟨bs, h1, h2, h3⟩ := h
  obtain ⟨b, _, h4, h5, _⟩ := h3.at_ hp hq
  exact ⟨b, h4, h5⟩
theorem TabAt.row (h : TabAt B w g n V) {p : Nat} (hp : p < n) :
    ∃ b, w.cell? ⟨g, p, none⟩ = some (.slice (some ⟨b, 0, none⟩) n n) ∧ Ints w (some ⟨b, 0, none⟩) (rowV n (V (p : Int))) := by
  obtain ⟨bs, h1, h2, h3⟩ := h
  have hl : p < bs.length := by rw [h3.len]; exact hp
  refine ⟨bs[p], ?_, (h3.rows p _ (List.getElem?_eq_getElem hl)).ints⟩
  rw [h3.arr.cell]; simp [hl]
end
end Go.Proofs.Ytihkgdlanfemcaa

namespace Go.Proofs.Ytihkgdlanfemcaa
open Go.RowKit
set_option linter.unusedVariables false
set_option linter.unusedSimpArgs false

set_option maxRecDepth 100000 in
set_option maxHeartbeats 4000000 in
theorem hittingfault_any (w : World) (A : Option Addr) (ca : Nat) (sets : List (List Int)) (hL : LLR w A sets) (hsl : ∀ s ∈ sets, s.length ≤ 9223372036854775807) (hl : sets.length ≤ 9223372036854775807) (C : Option Addr) (cc : Nat) (cs : List Int) (hC : Ints w C cs) (hcl : cs.length ≤ 9223372036854775807) :
    Calls Try.prog 50 #[.slice A sets.length ca, .slice C cs.length cc] w fun e w' => e = .returned (.agg #[.int .i64 (hfault sets cs).1, .int .i64 (hfault sets cs).2]) ∧ Below w.heap.size w w' := by
  by_cases h1 : (sets.length : Int) > 16
  · have h1' : decide ((sets.length : Int) > 16) = true := decide_eq_true h1
    rw [hfault_1 (.inl (by omega))]
    go_enter Try.func50, Try.ntmps50
    go_wp2_with fail
    refine (at_any _ _ _).mono ?_
    rintro e w11 ⟨rfl, hB11⟩
    have D11 := dstep w hB11 (by repeat (first | with_reducible exact Below.refl _ _ | with_reducible apply bdrew | with_reducible apply bdrewN | with_reducible apply balloc | ((with_reducible refine bset ?_ ?_ _); rotate_left; (first | omega | (simp <;> omega)))))
    have d11s := D11.size
    have C11 := Cls.below (l := [(w.heap.size, 0, .int .i64 0), (w.heap.size, 1, .int .i64 0)]) hB11 (by simp [Cls, go_sem])
    have F11 := C11
    simp only [Cls, and_true] at F11
    have y11w0 : w.heap.size < w11.heap.size := C11.blk (b := w.heap.size) (k := 0) (v := .int .i64 0) (by simp)
    have y11wp1 : w.heap.size < w11.heap.size + 1 := (by omega)
    have y11wp2 : w.heap.size < w11.heap.size + 1 + 1 := (by omega)
    go_wp2_with fail
    refine bodyPost_ret (v := .agg #[.int .i64 2, .int .i64 (-1)]) ?_ rfl ⟨rfl, by repeat (first | with_reducible exact D11 | with_reducible apply bdrew | with_reducible apply bdrewN | with_reducible apply balloc | ((with_reducible refine bset ?_ ?_ _); rotate_left; (first | omega | (simp <;> omega))))⟩
    simp [results, Try.results50, go_sem, F11, y11w0, y11wp1, y11wp2]
  · have h1' : decide ((sets.length : Int) > 16) = false := decide_eq_false h1
    by_cases h2 : (cs.length : Int) > 16
    · have h2' : decide ((cs.length : Int) > 16) = true := decide_eq_true h2
      rw [hfault_1 (.inr (by omega))]
      go_enter Try.func50, Try.ntmps50
      go_wp2_with fail
      refine (at_any _ _ _).mono ?_
      rintro e w11 ⟨rfl, hB11⟩
      have D11 := dstep w hB11 (by repeat (first | with_reducible exact Below.refl _ _ | with_reducible apply bdrew | with_reducible apply bdrewN | with_reducible apply balloc | ((with_reducible refine bset ?_ ?_ _); rotate_left; (first | omega | (simp <;> omega)))))
      have d11s := D11.size
      have C11 := Cls.below (l := [(w.heap.size, 0, .int .i64 0), (w.heap.size, 1, .int .i64 0)]) hB11 (by simp [Cls, go_sem])
      have F11 := C11
      simp only [Cls, and_true] at F11
      have y11w0 : w.heap.size < w11.heap.size := C11.blk (b := w.heap.size) (k := 0) (v := .int .i64 0) (by simp)
      have y11wp1 : w.heap.size < w11.heap.size + 1 := (by omega)
      have y11wp2 : w.heap.size < w11.heap.size + 1 + 1 := (by omega)
      go_wp2_with fail
      refine bodyPost_ret (v := .agg #[.int .i64 2, .int .i64 (-1)]) ?_ rfl ⟨rfl, by repeat (first | with_reducible exact D11 | with_reducible apply bdrew | with_reducible apply bdrewN | with_reducible apply balloc | ((with_reducible refine bset ?_ ?_ _); rotate_left; (first | omega | (simp <;> omega))))⟩
      simp [results, Try.results50, go_sem, F11, y11w0, y11wp1, y11wp2]
    · have h2' : decide ((cs.length : Int) > 16) = false := decide_eq_false h2
      have hs16 : sets.length ≤ 16 := by omega
      have hc16 : cs.length ≤ 16 := by omega
      have HNB := Lib.hid (show ¬ (16 < sets.length ∨ 16 < cs.length) by omega)
      have HSL := Lib.hid hsl
      clear hsl
      go_enter Try.func50, Try.ntmps50
      go_wp2_with fail
      go_loopw [5] (fun x wr => ∃ k : Nat, k ≤ cs.length ∧ x = .int .i64 k ∧ Hid (CostsIn (cs.take k)) ∧ Below w.heap.size w wr ∧ Cls wr [(w.heap.size, 0, .int .i64 0), (w.heap.size, 1, .int .i64 0)]) (fun x _ => cs.length - (intOf x).toNat)
      case atStart => exact ⟨0, Nat.zero_le _, rfl, Lib.hid (by unfold CostsIn; simp), (by repeat (first | with_reducible exact Below.refl _ _ | with_reducible apply bdrew | with_reducible apply bdrewN | with_reducible apply balloc | ((with_reducible refine bset ?_ ?_ _); rotate_left; (first | omega | (simp <;> omega))))), (by simp [Cls, go_sem])⟩
      case round =>
        obtain ⟨k, hk, rfl, hci, hBr, hCr⟩ := hrel
        obtain ⟨w1, rfl⟩ : ∃ wo : World, wo = wr := ⟨_, rfl⟩
        have drs := hBr.size
        have Fr := hCr
        simp only [Cls, and_true] at Fr
        have yrw0 : w.heap.size < w1.heap.size := hCr.blk (b := w.heap.size) (k := 0) (v := .int .i64 0) (by simp)
        have yrwp1 : w.heap.size < w1.heap.size + 1 := (by omega)
        have yrwp2 : w.heap.size < w1.heap.size + 1 + 1 := (by omega)
        by_cases hlt : k < cs.length
        · obtain ⟨ad, x, rfl, hx, hxc⟩ := (hC.below hBr).at_ hlt
          by_cases hx0 : 0 ≤ x ∧ x ≤ 1000000
          · obtain ⟨hx1, hx2⟩ := hx0
            have HCN := Lib.hid (show CostsIn (cs.take (k + 1)) from fun c hc => by
              rw [List.take_add_one, hx.out] at hc
              rcases List.mem_append.1 hc with h | h
              · exact hci.out c h
              · have : c = x := by simpa using h
                omega)
            go_wp2_with fail
            refine (in_yes _ _ _ _ hx1 hx2).mono ?_
            rintro e w' ⟨rfl, rfl⟩
            go_wp2_with fail
            go_roundw
            case rel => exact ⟨k + 1, by omega, by go_num, HCN, (by repeat (first | with_reducible exact hBr | with_reducible apply bdrew | with_reducible apply bdrewN | with_reducible apply balloc | ((with_reducible refine bset ?_ ?_ _); rotate_left; (first | omega | (simp <;> omega))))), (by simp [Cls, go_sem, Fr, yrw0, yrwp1, yrwp2])⟩
            case measure => simp [intOf]; omega
          · have hx1 : x < 0 ∨ 1000000 < x := by omega
            have HF := Lib.hid (hfault_2 HNB.out (fun h => by have := h x (List.mem_of_getElem? hx.out); omega))
            go_wp2_with fail
            refine (in_no _ _ _ _ hx1).mono ?_
            rintro e w' ⟨rfl, rfl⟩
            go_wp2_with fail
            refine (at_any _ _ _).mono ?_
            rintro e w11 ⟨rfl, hB11⟩
            have D11 := dstep w hB11 (by repeat (first | with_reducible exact hBr | with_reducible apply bdrew | with_reducible apply bdrewN | with_reducible apply balloc | ((with_reducible refine bset ?_ ?_ _); rotate_left; (first | omega | (simp <;> omega)))))
            have d11s := D11.size
            have C11 := Cls.below (l := [(w.heap.size, 0, .int .i64 0), (w.heap.size, 1, .int .i64 0)]) hB11 (by simp [Cls, go_sem, Fr, yrw0, yrwp1, yrwp2])
            have F11 := C11
            simp only [Cls, and_true] at F11
            have y11w0 : w.heap.size < w11.heap.size := C11.blk (b := w.heap.size) (k := 0) (v := .int .i64 0) (by simp)
            have y11wp1 : w.heap.size < w11.heap.size + 1 := (by omega)
            have y11wp2 : w.heap.size < w11.heap.size + 1 + 1 := (by omega)
            go_wp2_with fail
            refine bodyPost_ret (v := .agg #[.int .i64 3, .int .i64 (-2)]) ?_ rfl ⟨by rw [HF.out], by repeat (first | with_reducible exact D11 | with_reducible apply bdrew | with_reducible apply bdrewN | with_reducible apply balloc | ((with_reducible refine bset ?_ ?_ _); rotate_left; (first | omega | (simp <;> omega))))⟩
            simp [results, Try.results50, go_sem, F11, y11w0, y11wp1, y11wp2]
        · have HCI := Lib.hid (show CostsIn cs from fun c hc => hci.out c (by rw [List.take_of_length_le (by omega)]; exact hc))
          have HF3 := Lib.hid (hfault_3 HNB.out HCI.out)
          clear hci
          go_wp2_with fail
          go_loopw [6] (fun x wr => ∃ k : Nat, k ≤ sets.length ∧ x = .int .i64 k ∧ Hid (∀ s ∈ sets.take k, hitc (cs.length : Int) s = 0) ∧ Below w.heap.size w wr ∧ Cls wr [(w.heap.size, 0, .int .i64 0), (w.heap.size, 1, .int .i64 0)]) (fun x _ => sets.length - (intOf x).toNat)
          case atStart => exact ⟨0, Nat.zero_le _, rfl, Lib.hid (by simp), (by repeat (first | with_reducible exact hBr | with_reducible apply bdrew | with_reducible apply bdrewN | with_reducible apply balloc | ((with_reducible refine bset ?_ ?_ _); rotate_left; (first | omega | (simp <;> omega))))), (Cls.below (w := w1) (by repeat (first | with_reducible exact Below.refl _ _ | with_reducible apply bdrew | with_reducible apply bdrewN | with_reducible apply balloc | ((with_reducible refine bset ?_ ?_ _); rotate_left; (first | omega | (simp <;> omega))))) hCr)⟩
          case round =>
            obtain ⟨j, hj, rfl, hgo, hBq, hCq⟩ := hrel
            obtain ⟨w2, rfl⟩ : ∃ wo : World, wo = wr := ⟨_, rfl⟩
            have dqs := hBq.size
            have Fq := hCq
            simp only [Cls, and_true] at Fq
            have yqw0 : w.heap.size < w2.heap.size := hCq.blk (b := w.heap.size) (k := 0) (v := .int .i64 0) (by simp)
            have yqwp1 : w.heap.size < w2.heap.size + 1 := (by omega)
            have yqwp2 : w.heap.size < w2.heap.size + 1 + 1 := (by omega)
            by_cases hlj : j < sets.length
            · obtain ⟨ad, s, B1, c1, rfl, hs, hsc, hI⟩ := (hL.below hBq).at_ hlj
              have hsle := HSL.out s (List.mem_of_getElem? hs.out)
              have HAT := Lib.hid (setsFault_at (m := (cs.length : Int)) sets 0 j s hgo.out hs.out)
              rw [Nat.zero_add] at HAT
              by_cases h0 : s.length = 0
              · have HF := Lib.hid (show hfault sets cs = (9, (j : Int)) by rw [HF3.out, HAT.out (by rw [hitc_empty h0]; omega), hitc_empty h0])
                have h0' : ((s.length : Int) == 0) = true := by simp [h0]
                go_wp2_with fail
                refine (at_any _ _ _).mono ?_
                rintro e w11 ⟨rfl, hB11⟩
                have D11 := dstep w hB11 (by repeat (first | with_reducible exact hBq | with_reducible apply bdrew | with_reducible apply bdrewN | with_reducible apply balloc | ((with_reducible refine bset ?_ ?_ _); rotate_left; (first | omega | (simp <;> omega)))))
                have d11s := D11.size
                have C11 := Cls.below (l := [(w.heap.size, 0, .int .i64 0), (w.heap.size, 1, .int .i64 0)]) hB11 (by simp [Cls, go_sem, Fq, yqw0, yqwp1, yqwp2])
                have F11 := C11
                simp only [Cls, and_true] at F11
                have y11w0 : w.heap.size < w11.heap.size := C11.blk (b := w.heap.size) (k := 0) (v := .int .i64 0) (by simp)
                have y11wp1 : w.heap.size < w11.heap.size + 1 := (by omega)
                have y11wp2 : w.heap.size < w11.heap.size + 1 + 1 := (by omega)
                go_wp2_with fail
                refine bodyPost_ret (v := .agg #[.int .i64 9, .int .i64 (j : Int)]) ?_ rfl ⟨by rw [HF.out], by repeat (first | with_reducible exact D11 | with_reducible apply bdrew | with_reducible apply bdrewN | with_reducible apply balloc | ((with_reducible refine bset ?_ ?_ _); rotate_left; (first | omega | (simp <;> omega))))⟩
                simp [results, Try.results50, go_sem, F11, y11w0, y11wp1, y11wp2]
              · have h0' : ((s.length : Int) == 0) = false := beq_eq_false_iff_ne.2 (by omega)
                by_cases hset : SetP s (cs.length : Int)
                · have HSE := Lib.hid hset
                  have HGN := Lib.hid (show ∀ x ∈ sets.take (j + 1), hitc (cs.length : Int) x = 0 from fun x hx => by
                    rw [List.take_add_one, hs.out] at hx
                    rcases List.mem_append.1 hx with h | h
                    · exact hgo.out x h
                    · have : x = s := by simpa using h
                      rw [this]; exact hitc_good h0 HSE.out)
                  clear hset
                  go_wp2_with fail
                  refine (risset_q _ _ _ _ _ hI hsle (by omega) (by omega)).mono ?_
                  rintro e w9 ⟨he, mm, rfl⟩
                  rw [setB_true.2 HSE.out] at he
                  subst he
                  go_wp2_with fail
                  go_roundw
                  case rel => exact ⟨j + 1, by omega, by go_num, HGN, (by repeat (first | with_reducible exact hBq | with_reducible apply bdrew | with_reducible apply bdrewN | with_reducible apply balloc | ((with_reducible refine bset ?_ ?_ _); rotate_left; (first | omega | (simp <;> omega))))), (by simp [Cls, go_sem, Fq, yqw0, yqwp1, yqwp2])⟩
                  case measure => simp [intOf]; omega
                · have HSE := Lib.hid hset
                  have HF := Lib.hid (show hfault sets cs = (5, (j : Int)) by rw [HF3.out, HAT.out (by rw [hitc_bad h0 hset]; omega), hitc_bad h0 hset])
                  clear hset
                  go_wp2_with fail
                  refine (risset_q _ _ _ _ _ hI hsle (by omega) (by omega)).mono ?_
                  rintro e w9 ⟨he, mm, rfl⟩
                  rw [setB_false.2 HSE.out] at he
                  subst he
                  go_wp2_with fail
                  refine (at_any _ _ _).mono ?_
                  rintro e w11 ⟨rfl, hB11⟩
                  have D11 := dstep w hB11 (by repeat (first | with_reducible exact hBq | with_reducible apply bdrew | with_reducible apply bdrewN | with_reducible apply balloc | ((with_reducible refine bset ?_ ?_ _); rotate_left; (first | omega | (simp <;> omega)))))
                  have d11s := D11.size
                  have C11 := Cls.below (l := [(w.heap.size, 0, .int .i64 0), (w.heap.size, 1, .int .i64 0)]) hB11 (by simp [Cls, go_sem, Fq, yqw0, yqwp1, yqwp2])
                  have F11 := C11
                  simp only [Cls, and_true] at F11
                  have y11w0 : w.heap.size < w11.heap.size := C11.blk (b := w.heap.size) (k := 0) (v := .int .i64 0) (by simp)
                  have y11wp1 : w.heap.size < w11.heap.size + 1 := (by omega)
                  have y11wp2 : w.heap.size < w11.heap.size + 1 + 1 := (by omega)
                  go_wp2_with fail
                  refine bodyPost_ret (v := .agg #[.int .i64 5, .int .i64 (j : Int)]) ?_ rfl ⟨by rw [HF.out], by repeat (first | with_reducible exact D11 | with_reducible apply bdrew | with_reducible apply bdrewN | with_reducible apply balloc | ((with_reducible refine bset ?_ ?_ _); rotate_left; (first | omega | (simp <;> omega))))⟩
                  simp [results, Try.results50, go_sem, F11, y11w0, y11wp1, y11wp2]
            · have HF := Lib.hid (show hfault sets cs = (0, 0) by rw [HF3.out, setsFault_good sets 0 (fun s hs => hgo.out s (by rw [List.take_of_length_le (by omega)]; exact hs))])
              go_wp2_with fail
              refine bodyPost_ret (v := .agg #[.int .i64 0, .int .i64 0]) ?_ rfl ⟨by rw [HF.out], by repeat (first | with_reducible exact hBq | with_reducible apply bdrew | with_reducible apply bdrewN | with_reducible apply balloc | ((with_reducible refine bset ?_ ?_ _); rotate_left; (first | omega | (simp <;> omega))))⟩
              simp [results, Try.results50, go_sem, Fq, yqw0, yqwp1, yqwp2]


end Go.Proofs.Ytihkgdlanfemcaa

namespace Go.Proofs.Ytihkgdlanfemcaa
open Go.Joins Go.ChangeShapes Go.WideShapes Go.RowKit Go.Deep
set_option linter.unusedVariables false
set_option linter.unusedSimpArgs false

section
variable {H : Type} {enc : TypeId × Value → H} {w : World}
/-- All that is read of rows. -/
def RowsRead (w : World) (A : Option Addr) (ls : List (List Int)) : Prop := ∀ (i : Nat) (r : List Int), ls[i]? = some r → ∃ ad B c, A = some ad ∧ w.cell? (ad.add i) = some (.slice B r.length c) ∧ Ints w B r ∧ NilOk B r c
theorem RowsRead.llr {A : Option Addr} {ls : List (List Int)} (h : RowsRead w A ls) : LLR w A ls := fun i r hr => by
  obtain ⟨ad, B, c, e, h1, h2, _⟩ := h i r hr
  exact ⟨ad, B, c, e, h1, h2⟩
theorem RowsRead.lens {A : Option Addr} {ls : List (List Int)} (h : RowsRead w A ls) : ∀ s ∈ ls, s.length ≤ 9223372036854775807 := fun s hs => by
  obtain ⟨i, hi⟩ := List.getElem?_of_mem hs
  obtain ⟨_, _, _, _, _, _, h3⟩ := h i s hi
  exact Nat.le_trans h3.2.1 h3.2.2
theorem read_rows {fuel : Nat} {cs : List Value} {x : DataW H × List MemPlace} (h : DataW.trod enc Try.prog w 0 (fun _ => true) true fuel 27 cs = some x) :
    ∃ A c ls, cs = [.slice A ls.length c] ∧ ls.length ≤ c ∧ lenOk c ∧ (A = none → ls = [] ∧ c = 0) ∧ RowsRead w A ls := by
  rcases open_slice1 Try.underlying27 (by kernel_rfl) h with ⟨rfl, rfl⟩ | ⟨a, len, cap, m, n, V, D, Pl, rfl, hb, hl, hm, hmm, hx, hi⟩
  · exact ⟨none, 0, [], rfl, Nat.le_refl _, by unfold lenOk; omega, fun _ => ⟨rfl, rfl⟩, fun k o hk => by simp at hk⟩
  · simp only [if_true] at hmm
    subst hmm
    have each : ∀ i : Nat, ∃ r : List Int, i < m → ∃ B c, w.cell? (a.add i) = some (.slice B r.length c) ∧ Ints w B r ∧ NilOk B r c := by
      intro i
      by_cases him : i < m
      · obtain ⟨hc, t0⟩ := hi i him
        obtain ⟨B, c, r, e0, q0, m0, n0, I0, _⟩ := read_ints t0
        injection e0 with e0
        rw [e0] at hc
        exact ⟨r, fun _ => ⟨B, c, hc, I0, n0, q0, m0⟩⟩
      · exact ⟨[], fun h => absurd h him⟩
    obtain ⟨f, hf⟩ := Classical.axiomOfChoice each
    refine ⟨some a, m, (List.range len).map f, by simp, by simpa using hl, by unfold lenOk; simp only [maxLen] at hm; omega, (fun h => by cases h), fun k o hk => ?_⟩
    obtain ⟨hk1, rfl⟩ := List.getElem?_eq_some_iff.1 hk
    rw [List.length_map, List.length_range] at hk1
    obtain ⟨B, c, r⟩ := hf k (by omega)
    exact ⟨a, B, c, rfl, by simpa using r⟩
set_option maxRecDepth 100000 in
theorem open_rowsW {r : Go.Reach} {b0 : Nat} {v : Value} {d : DataW H} {p : List MemPlace} (hv : Value.okWide Try.prog w r b0 27 v) (h : DataW.Trod enc Try.prog w 0 (fun _ => true) true 27 v d p) :
    ∃ A c ls, v = .slice A ls.length c ∧ ls.length ≤ c ∧ lenOk c ∧ (A = none → ls = [] ∧ c = 0) ∧ RowsRead w A ls := by
  obtain ⟨a0, len, cap, rfl⟩ := okWide_slice Try.underlying27 hv
  obtain ⟨fuel, hf⟩ := h
  obtain ⟨A, c, xs, e, q⟩ := read_rows hf
  refine ⟨A, c, xs, ?_, q⟩
  simpa [Value.cells] using e
end

end Go.Proofs.Ytihkgdlanfemcaa

namespace Go.Proofs.Ytihkgdlanfemcaa
open Go.Joins Go.ChangeShapes Go.WideShapes Go.RowKit Go.Deep
set_option linter.unusedVariables false
set_option linter.unusedSimpArgs false

/-- A cell that leads to a list of integers, wherever it lies. -/
def PAny (w : World) (row : Option Nat) (cs : List Value) (r : List Int) : Prop :=
  ∃ A c, cs = [.slice A r.length c] ∧ Ints w A r ∧ NilOk A r c ∧ (r ≠ [] → ∀ ad, A = some ad → some ad.block ≠ row)
theorem ints_lt {w : World} {ad : Addr} {r : List Int} (h : Ints w (some ad) r) (hr : r ≠ []) : ad.block < w.heap.size := by
  cases r with
  | nil => exact absurd rfl hr
  | cons x r =>
    obtain ⟨ad', e, hc⟩ := h 0 (.int .i64 x) rfl
    injection e with e
    subst e
    exact World.block_lt_of_cell? w _ hc
theorem Ints.grown2 {w w' : World} {A : Option Addr} {xs : List Int} {row : Option Nat} (h : Ints w A xs) (hg : w.grownBy w' row) (hne : xs ≠ [] → ∀ ad, A = some ad → some ad.block ≠ row) : Ints w' A xs := by
  by_cases e : xs = []
  · subst e; exact Ints.nil _ _
  · exact h.grown hg (hne e)
theorem pany_stable : Stable PAny := by
  constructor
  · rintro w w' row cs r ⟨A, c, e, hI, hn, ha⟩ hb
    exact ⟨A, c, e, hI.below hb, hn, ha⟩
  · rintro w w' row cs r ⟨A, c, e, hI, hn, ha⟩ hg
    have hI' := hI.grown2 hg ha
    refine ⟨⟨A, c, e, hI', hn, ha⟩, ⟨A, c, e, hI', hn, fun hr ad h k => ?_⟩⟩
    subst h
    have := ints_lt hI hr
    injection k with k
    omega
def OwnLA (base : Nat) (w : World) (v : Value) (rows : List (List Int)) : Prop := OwnEs PAny 22 1 base w v rows
theorem OwnLA.below {base : Nat} {w w' : World} {v : Value} {rows : List (List Int)} (h : OwnLA base w v rows) (hb : Below w.heap.size w w') : OwnLA base w' v rows := OwnEs.below pany_stable h hb
theorem OwnLA.read {base n c : Nat} {w : World} {A : Option Addr} {ls : List (List Int)} (h : OwnLA base w (.slice A n c) ls) : RowsRead w A ls := fun i r hr => by
  obtain ⟨g, cs, a, rfl, _, _, ha, _, hc, B, c', rfl, hI, hn, _⟩ := OwnEs.at_ h (i := i) (List.getElem?_eq_some_iff.1 hr).1
  have : a = r := by have := ha.out; rw [hr] at this; injection this with this; exact this.symm
  subst this
  refine ⟨⟨g, 0, none⟩, B, c', rfl, ?_, hI, hn⟩
  have h1 := hc 0 _ rfl
  have e : ((⟨g, 0, none⟩ : Addr).add i) = ⟨g, i, none⟩ := by
    unfold Addr.add; split
    · rename_i hj; subst hj; rfl
    · simp
  rw [e]
  simpa using h1
theorem RowsRead.below {w w' : World} {A : Option Addr} {ls : List (List Int)} (h : RowsRead w A ls) (hb : Below w.heap.size w w') : RowsRead w' A ls := fun i r hr => by
  obtain ⟨ad, B, c, e, h1, h2, h3⟩ := h i r hr
  exact ⟨ad, B, c, e, (hb.cell (World.block_lt_of_cell? w _ h1)).trans h1, h2.below hb, h3⟩
theorem RowsRead.nil (w : World) (A : Option Addr) : RowsRead w A [] := fun i r h => by simp at h
/-- The cells of rows. -/
theorem RowsRead.cells {w : World} {ad : Addr} {ls : List (List Int)} (h : RowsRead w (some ad) ls) : ∃ cs : List Value, cs.length = ls.length ∧ (∀ j u, cs[j]? = some u → w.cell? (ad.add j) = some u) ∧ (∀ u ∈ cs, u.oneCell' = true) ∧
    ∀ (i : Nat) (r : List Int), ls[i]? = some r → ∃ B c, cs[i]? = some (.slice B r.length c) ∧ Ints w B r ∧ NilOk B r c := by
  have each : ∀ i : Nat, ∃ u : Value, ∀ r, ls[i]? = some r → ∃ B c, u = .slice B r.length c ∧ w.cell? (ad.add i) = some u ∧ Ints w B r ∧ NilOk B r c := fun i => by
    cases hi : ls[i]? with
    | none => exact ⟨default, fun r hr => by cases hr⟩
    | some r =>
      obtain ⟨ad', B, c, e, h1, h2, h3⟩ := h i r hi
      injection e with e
      subst e
      exact ⟨.slice B r.length c, fun r' hr => by injection hr with hr; subst hr; exact ⟨B, c, rfl, h1, h2, h3⟩⟩
  obtain ⟨f, hf⟩ := Classical.axiomOfChoice each
  have hat : ∀ (j : Nat) (u : Value), ((List.range ls.length).map f)[j]? = some u → ∃ r, ls[j]? = some r ∧ u = f j := fun j u hu => by
    obtain ⟨hj, rfl⟩ := List.getElem?_eq_some_iff.1 hu
    rw [List.length_map, List.length_range] at hj
    exact ⟨ls[j], List.getElem?_eq_getElem hj, by simp⟩
  refine ⟨(List.range ls.length).map f, by simp, fun j u hu => ?_, fun u hu => ?_, fun i r hr => ?_⟩
  · obtain ⟨r, hr, rfl⟩ := hat j u hu
    obtain ⟨B, c, e, hc, _⟩ := hf j r hr
    exact hc
  · obtain ⟨j, hj⟩ := List.getElem?_of_mem hu
    obtain ⟨r, hr, rfl⟩ := hat j u hj
    obtain ⟨B, c, e, hc, _⟩ := hf j r hr
    rw [e]; rfl
  · obtain ⟨B, c, e, hc, hI, hn⟩ := hf i r hr
    have hi := (List.getElem?_eq_some_iff.1 hr).1
    exact ⟨B, c, by rw [List.getElem?_map, List.getElem?_range hi]; simp [e], hI, hn⟩
set_option maxRecDepth 100000 in
/-- append(v, x...) of rows. -/
theorem wpList_catL {ops : Array Oper} {rest : List Oper} {o : Oper} {a : Act} {w : World} {Q : Exit → Act → World → Prop} (hgd : o.guard = none) (s x : Operand)
    (ho : o.op = .call { callee := .builtin .append, args := #[s, x], argTypes := #[27, 27] })
    (w0 : World) (l : List (Nat × Nat × Value)) (base : Nat) (v : Value) (xs : List (List Int)) (hs : a.eval s = v) (hown : OwnLA base w v xs) (A : Option Addr) (c m : Nat) (ys : List (List Int)) (hx : a.eval x = .slice A m c) (hm : ys.length = m) (hnil : A = none → ys = [] ∧ c = 0) (hR : RowsRead w A ys)
    (zs : List (List Int)) (hzs : xs ++ ys = zs) (hfar : ∀ (i : Nat) (r : List Int) (B : Addr) (cc : Nat), ys[i]? = some r → r ≠ [] → (∃ ad, A = some ad ∧ w.cell? (ad.add i) = some (.slice (some B) r.length cc)) → some B.block ≠ v.ownBlock)
    (hlen : (xs.length + m) * 24 ≤ 140737488355328) (hbase : base ≤ w.heap.size) (h0 : w0.heap.size ≤ base) (hB : Below w0.heap.size w0 w) (hC : Cls w l) (hl : ∀ x ∈ l, x.1 < base)
    (h : ∀ v' w', OwnLA base w' v' zs → Below w0.heap.size w0 w' → Cls w' l → w.heap.size ≤ w'.heap.size → wpList Try.prog ops Q rest (a.put o.dst v') w') : wpList Try.prog ops Q (o :: rest) a w := by
  obtain ⟨i0, hi0, hz⟩ := Option.map_eq_some_iff.1 info_list
  simp only [Prod.mk.injEq] at hz
  obtain ⟨cells, hr, hcs⟩ := hown
  have hcl := hr.1
  subst hm
  subst hzs
  cases A with
  | none =>
    obtain ⟨rfl, rfl⟩ := hnil rfl
    refine wpList_append_own_none hgd s x 27 ho base 22 i0 1 Try.underlying27 hi0 v xs.length cells hs hr hx ?_
    exact h v w (by rw [List.append_nil]; exact ⟨cells, hr, hcs⟩) hB hC (Nat.le_refl _)
  | some ad =>
    obtain ⟨news, hnl, hat, h1, hrd⟩ := hR.cells
    refine wpList_append_own_at w hgd s x 27 ho base 22 i0 (.slice none 0 0) 1 24 Try.underlying27 hi0 hz.1 hz.2.1 hz.2.2 rfl (by decide) v xs.length cells hs hr ad ys.length c news hx (by omega) hat h1 ?_ hlen hbase ?_
    · simp only [maxLen]; omega
    · intro v' w' h2 h3 _ h4
      refine h v' w' ⟨cells ++ news, by rw [List.length_append]; exact h2, fun i r ha => ?_⟩ ?_ ?_ h3.size
      · have key : ∀ {cs : List Value} {a : List Int}, PAny w v.ownBlock cs a → PAny w' v'.ownBlock cs a := fun hp => by
          rcases h4 with h4 | h4
          · rw [h4]; exact (pany_stable.grown hp h3).1
          · rw [h4]; exact (pany_stable.grown hp h3).2
        rw [Nat.mul_one] at *
        rcases Nat.lt_or_ge i xs.length with hi | hi
        · rw [List.getElem?_append_left hi] at ha
          have e1 : ((cells ++ news).drop i).take 1 = (cells.drop (i * 1)).take 1 := by
            rw [Nat.mul_one, List.drop_append_of_le_length (by omega), List.take_append_of_le_length (by rw [List.length_drop]; omega)]
          rw [e1]
          exact key (hcs i r ha)
        · rw [List.getElem?_append_right hi] at ha
          obtain ⟨B, cc, e2, hI, hn⟩ := hrd _ _ ha
          have e1 : ((cells ++ news).drop i).take 1 = [.slice B r.length cc] := by
            rw [List.drop_append, List.drop_eq_nil_of_le (by omega), List.nil_append, show i - cells.length = i - xs.length by omega]
            have hlt := (List.getElem?_eq_some_iff.1 e2).1
            rw [List.drop_eq_getElem_cons hlt]
            obtain ⟨_, e3⟩ := List.getElem?_eq_some_iff.1 e2
            rw [e3]; rfl
          rw [e1]
          exact key ⟨B, cc, rfl, hI, hn, fun hne ad' hB' => by
            subst hB'
            exact hfar _ _ ad' cc ha hne ⟨ad, rfl, hat _ _ e2⟩⟩
      · exact hB.grown h3 (Nat.le_trans h0 hbase) (fun k hk => Nat.le_trans h0 (hr.lt k hk).1)
      · exact hC.grown hr h3 hl

section
variable {H : Type} {enc : TypeId × Value → H} {w : World}
/-- .. and how many there can be. -/
theorem rows_size {fuel : Nat} {cs : List Value} {x : DataW H × List MemPlace} (h : DataW.trod enc Try.prog w 0 (fun _ => true) true fuel 27 cs = some x) :
    ∃ A c n, cs = [.slice A n c] ∧ (n = 0 ∨ ∃ els sp, x.1 = .slice els sp ∧ els.length = n) := by
  rcases open_slice1 Try.underlying27 (by kernel_rfl) h with ⟨rfl, rfl⟩ | ⟨a, len, cap, m, n, V, D, Pl, rfl, hb, hl, hm, hmm, hx, hi⟩
  · exact ⟨none, 0, 0, rfl, .inl rfl⟩
  · refine ⟨some a, cap, len, rfl, .inr ?_⟩
    rw [hx]
    exact ⟨_, _, rfl, by simp⟩
set_option maxRecDepth 100000 in
theorem open_rowsS {r : Go.Reach} {b0 : Nat} {v : Value} {d : DataW H} {p : List MemPlace} (hv : Value.okWide Try.prog w r b0 27 v) (h : DataW.Trod enc Try.prog w 0 (fun _ => true) true 27 v d p) :
    ∃ A c ls, v = .slice A ls.length c ∧ ls.length ≤ c ∧ lenOk c ∧ (A = none → ls = [] ∧ c = 0) ∧ RowsRead w A ls ∧ (ls = [] ∨ ∃ els sp, d = .slice els sp ∧ els.length = ls.length) := by
  obtain ⟨A, c, ls, e, h1, h2, h3, h4⟩ := open_rowsW hv h
  refine ⟨A, c, ls, e, h1, h2, h3, h4, ?_⟩
  obtain ⟨fuel, hf⟩ := h
  obtain ⟨A', c', n, e', h5⟩ := rows_size hf
  subst e
  have e2 : (Value.slice A ls.length c).cells.toList = [.slice A ls.length c] := rfl
  rw [show (Value.slice A ls.length c).cells.toList = [.slice A ls.length c] from rfl] at e'
  injection e' with e'
  injection e' with e3 e4 e5
  rcases h5 with h5 | ⟨els, sp, h6, h7⟩
  · exact .inl (List.eq_nil_of_length_eq_zero (by omega))
  · exact .inr ⟨els, sp, h6, by omega⟩
end
/-- A single row. -/
theorem rows_one {w : World} {g : Nat} {B : Option Addr} {r : List Int} {c : Nat} (h : w.cell? ⟨g, 0, none⟩ = some (.slice B r.length c)) (hI : Ints w B r) (hn : NilOk B r c) : RowsRead w (some ⟨g, 0, none⟩) [r] := fun i x hx => by
  match i, hx with
  | 0, hx => simp at hx; subst hx; exact ⟨_, B, c, rfl, h, hI, hn⟩
  | i + 1, hx => simp at hx
/-- How long a row of rows can be that came in. -/
theorem rows_room {H : Type} {ts : List TypeId} {ds : List (DataW H)} {ls : List (List Int)} {j : Nat} {d : DataW H} (hwt : (DataW.weightsEach Try.prog ts ds).all (· ≤ reachBytes) = true) (ht : ts[j]? = some 27) (hd : ds[j]? = some d)
    (h : ls = [] ∨ ∃ els sp, d = .slice els sp ∧ els.length = ls.length) : ls.length * 24 ≤ 140737488351232 := by
  rcases h with rfl | ⟨els, sp, rfl, h⟩
  · simp
  · have h1 := sized_slice hwt ht hd Try.underlying27
    have e : Try.prog.bytesOf 22 = 24 := by kernel_rfl
    have e2 : reachBytes = 140737488351232 := rfl
    rw [e, e2] at h1
    omega

end Go.Proofs.Ytihkgdlanfemcaa
