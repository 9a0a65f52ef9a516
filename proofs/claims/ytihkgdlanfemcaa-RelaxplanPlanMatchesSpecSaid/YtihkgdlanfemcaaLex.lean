/-
  Layers and reachable facts; the relaxed plan can be carried out: plain.
-/
import Derived.Test.YtihkgdlanfemcaaAch
import Derived.Test.YtihkgdlanfemcaaRxd
import Derived.Test.YtihkgdlanfemcaaMC
namespace Go.Proofs.Ytihkgdlanfemcaa
open Go.RowKit
set_option linter.unusedVariables false
set_option linter.unusedSimpArgs false

section
variable {n : Nat} {st : List Int} {ops : List OpV}
theorem lay_reach {k : Nat} : ∀ {p : Int}, layP st ops k p → Reach st ops (fun _ => true) p := by
  induction k with
  | zero => exact fun h => .init h
  | succ k ih =>
    rintro p (h | ⟨o, ho, hq, hp⟩)
    · exact ih h
    · obtain ⟨i, hi⟩ := List.getElem?_of_mem ho
      exact .step hi rfl (fun q h => ih (hq q h)) hp
/-- A layer that the next one does not pass holds all reachable facts. -/
theorem lay_all {k : Nat} (hs : ∀ p, layP st ops (k + 1) p → layP st ops k p) {p : Int} (h : Reach st ops (fun _ => true) p) : layP st ops k p := by
  induction h with
  | init h => exact layP_le (j := 0) h (Nat.zero_le _)
  | step h1 _ _ h4 ih => exact hs _ (.inr ⟨_, List.mem_of_getElem? h1, ih, h4⟩)
open Classical in
/-- How many facts a layer holds. -/
noncomputable def layN (n : Nat) (st : List Int) (ops : List OpV) (k : Nat) : Nat := ((List.range n).filter fun (p : Nat) => decide (layP st ops k (p : Int))).length
theorem filter_lt {l : List Nat} {f g : Nat → Bool} (h : ∀ x ∈ l, f x = true → g x = true) {y : Nat} (hy : y ∈ l) (h1 : f y = false) (h2 : g y = true) : (l.filter f).length < (l.filter g).length := by
  have key : ∀ (l : List Nat), (∀ x ∈ l, f x = true → g x = true) → (l.filter f).length ≤ (l.filter g).length := by
    intro l
    induction l with
    | nil => intro _; exact Nat.le_refl _
    | cons a l ih =>
      intro h
      have h3 := ih (fun x hx => h x (List.mem_cons_of_mem _ hx))
      have h4 := h a (List.mem_cons_self ..)
      rw [List.filter_cons, List.filter_cons]
      by_cases e : f a = true
      · rw [if_pos e, if_pos (h4 e)]; simp; omega
      · rw [if_neg e]; split <;> simp <;> omega
  induction l with
  | nil => simp at hy
  | cons a l ih =>
    have hl := key l (fun x hx => h x (List.mem_cons_of_mem _ hx))
    rw [List.filter_cons, List.filter_cons]
    rcases List.mem_cons.1 hy with e | e
    · subst e; rw [if_neg (by rw [h1]; simp), if_pos h2]; simp; omega
    · have h3 := ih (fun x hx => h x (List.mem_cons_of_mem _ hx)) e
      have h4 := h a (List.mem_cons_self ..)
      by_cases e2 : f a = true
      · rw [if_pos e2, if_pos (h4 e2)]; simp; omega
      · rw [if_neg e2]; split <;> simp <;> omega
theorem lay_rng (hst : ∀ p ∈ st, 0 ≤ p ∧ p < (n : Int)) (hadd : ∀ o ∈ ops, ∀ p ∈ o.add, 0 ≤ p ∧ p < (n : Int)) {k : Nat} {p : Int} (h : layP st ops k p) : 0 ≤ p ∧ p < (n : Int) := by
  induction k with
  | zero => exact hst p h
  | succ k ih =>
    rcases h with h | ⟨o, ho, _, hp⟩
    · exact ih h
    · exact hadd o ho p hp
open Classical in
theorem layN_grow (hst : ∀ p ∈ st, 0 ≤ p ∧ p < (n : Int)) (hadd : ∀ o ∈ ops, ∀ p ∈ o.add, 0 ≤ p ∧ p < (n : Int)) (k : Nat) : (∃ j, j ≤ k ∧ ∀ p, layP st ops (j + 1) p → layP st ops j p) ∨ k + 1 ≤ layN n st ops (k + 1) := by
  induction k with
  | zero =>
    by_cases hs : ∀ p, layP st ops (0 + 1) p → layP st ops 0 p
    · exact .inl ⟨0, Nat.le_refl _, hs⟩
    · refine .inr ?_
      obtain ⟨p, hp⟩ := Classical.not_forall.1 hs
      obtain ⟨h1, h2⟩ := Classical.not_imp.1 hp
      obtain ⟨p0, p1⟩ := lay_rng hst hadd h1
      obtain ⟨q, rfl⟩ := Int.eq_ofNat_of_zero_le p0
      have := filter_lt (l := List.range n) (f := fun (x : Nat) => @decide (layP st ops 0 (x : Int)) (Classical.propDecidable _)) (g := fun (x : Nat) => @decide (layP st ops (0 + 1) (x : Int)) (Classical.propDecidable _)) (fun x _ hx => by
        rw [decide_eq_true_iff] at hx ⊢; exact .inl hx) (y := q) (by rw [List.mem_range]; omega) (by rw [decide_eq_false_iff_not]; exact h2) (by rw [decide_eq_true_iff]; exact h1)
      unfold layN
      omega
  | succ k ih =>
    rcases ih with ⟨j, hj, hs⟩ | ih
    · exact .inl ⟨j, by omega, hs⟩
    · by_cases hs : ∀ p, layP st ops (k + 1 + 1) p → layP st ops (k + 1) p
      · exact .inl ⟨k + 1, Nat.le_refl _, hs⟩
      · refine .inr ?_
        obtain ⟨p, hp⟩ := Classical.not_forall.1 hs
        obtain ⟨h1, h2⟩ := Classical.not_imp.1 hp
        obtain ⟨p0, p1⟩ := lay_rng hst hadd h1
        obtain ⟨q, rfl⟩ := Int.eq_ofNat_of_zero_le p0
        have := filter_lt (l := List.range n) (f := fun (x : Nat) => @decide (layP st ops (k + 1) (x : Int)) (Classical.propDecidable _)) (g := fun (x : Nat) => @decide (layP st ops (k + 1 + 1) (x : Int)) (Classical.propDecidable _)) (fun x _ hx => by
          rw [decide_eq_true_iff] at hx ⊢; exact .inl hx) (y := q) (by rw [List.mem_range]; omega) (by rw [decide_eq_false_iff_not]; exact h2) (by rw [decide_eq_true_iff]; exact h1)
        unfold layN at ih ⊢
        omega
/-- The layer of the number of facts holds all reachable facts. -/
theorem reach_lay (hst : ∀ p ∈ st, 0 ≤ p ∧ p < (n : Int)) (hadd : ∀ o ∈ ops, ∀ p ∈ o.add, 0 ≤ p ∧ p < (n : Int)) {p : Int} (h : Reach st ops (fun _ => true) p) : layP st ops n p := by
  rcases layN_grow hst hadd n with ⟨j, hj, hs⟩ | hn
  · exact layP_le (lay_all hs h) hj
  · exfalso
    have : layN n st ops (n + 1) ≤ n := by
      unfold layN
      exact Nat.le_trans (List.length_filter_le _ _) (by simp)
    omega
variable {V : List Int}
theorem Levs.reach (hV : Levs n st ops V) (hst : ∀ p ∈ st, 0 ≤ p ∧ p < (n : Int)) (hadd : ∀ o ∈ ops, ∀ p ∈ o.add, 0 ≤ p ∧ p < (n : Int)) {p : Nat} (hp : p < n) : 0 ≤ valAt V (p : Int) ↔ Reach st ops (fun _ => true) (p : Int) := by
  rcases hV.lev p hp with ⟨h1, h2⟩ | ⟨k, h1, h2, h3, _⟩
  · exact ⟨fun h => by omega, fun h => absurd (reach_lay hst hadd h) (h2 n (Nat.le_refl _))⟩
  · exact ⟨fun _ => lay_reach h3, fun _ => by omega⟩
theorem Levs.zero (hV : Levs n st ops V) {p : Nat} (hp : p < n) : valAt V (p : Int) = 0 ↔ (p : Int) ∈ st := by
  rcases hV.lev p hp with ⟨h1, h2⟩ | ⟨k, h1, h2, h3, h4⟩
  · exact ⟨fun h => by omega, fun h => absurd h (h2 0 (Nat.zero_le _))⟩
  · constructor
    · intro h
      have : k = 0 := by omega
      subst this
      exact h3
    · intro h
      refine Classical.byContradiction fun hc => h4 0 (by omega) h
/-- A fact of a positive level has a supporter. -/
theorem Levs.supp (hV : Levs n st ops V) (hst : ∀ p ∈ st, 0 ≤ p ∧ p < (n : Int)) (hadd : ∀ o ∈ ops, ∀ p ∈ o.add, 0 ≤ p ∧ p < (n : Int)) {p : Nat} (hp : p < n) (h0 : 0 < valAt V (p : Int)) : 0 ≤ supOf V ops (p : Int) := by
  rcases hV.lev p hp with ⟨h1, h2⟩ | ⟨k, h1, h2, h3, h4⟩
  · omega
  · match k, h3 with
    | 0, _ => omega
    | k + 1, h3 =>
      rcases h3 with h3 | ⟨o, ho, hq, hpa⟩
      · exact absurd h3 (h4 k (by omega))
      · obtain ⟨i, hi⟩ := List.getElem?_of_mem ho
        refine supTo_some hi (p := (p : Int)) ⟨hpa, h0, fun q hqq => ?_⟩ ops.length (List.getElem?_eq_some_iff.1 hi).1 (Nat.le_refl _)
        have hlq := hq q hqq
        obtain ⟨q0, q1⟩ := lay_rng hst hadd hlq
        obtain ⟨q, rfl⟩ := Int.eq_ofNat_of_zero_le q0
        rcases hV.lev q (by omega) with ⟨_, g2⟩ | ⟨j, g1, _, _, g4⟩
        · exact absurd hlq (g2 k (by omega))
        · have : j ≤ k := Classical.byContradiction fun hc => g4 k (by omega) hlq
          omega
theorem Levs.sup_iff (hV : Levs n st ops V) (hst : ∀ p ∈ st, 0 ≤ p ∧ p < (n : Int)) (hadd : ∀ o ∈ ops, ∀ p ∈ o.add, 0 ≤ p ∧ p < (n : Int)) {p : Nat} (hp : p < n) : 0 ≤ supOf V ops (p : Int) ↔ Reach st ops (fun _ => true) (p : Int) ∧ (p : Int) ∉ st := by
  rw [← hV.reach hst hadd hp, ← hV.zero hp]
  constructor
  · intro h
    obtain ⟨_, _, _, _, hg⟩ := supOf_good (V := V) (ops := ops) (p := (p : Int)) (by omega)
    have := hg.2.1
    omega
  · intro h
    exact hV.supp hst hadd hp (by omega)

/-! ### Carrying the plan out -/
/-- The state behind a plan without deletions. -/
def execS (n : Nat) (ops : List OpV) (st : List Int) (pl : List Int) : List Int := pl.foldl (fun l i => nextV n l (rxO (opAt ops i))) st
theorem execS_snoc (pl : List Int) (i : Int) : execS n ops st (pl ++ [i]) = nextV n (execS n ops st pl) (rxO (opAt ops i)) := by
  unfold execS; rw [List.foldl_append]; rfl
def costP (ops : List OpV) (pl : List Int) : Int := (pl.map fun i => (opAt ops i).cost).sum
theorem costP_snoc (pl : List Int) (i : Int) : costP ops (pl ++ [i]) = costP ops pl + (opAt ops i).cost := by
  unfold costP; rw [List.map_append, List.sum_append]; simp
/-- The plan can be carried out, and what its operators add is there. -/
structure Exec (n : Nat) (ops : List OpV) (st pl : List Int) : Prop where
  run : Cst n (ops.map rxO) st (execS n ops st pl) (costP ops pl)
  step : ∀ (a : List Int) (i : Int) (b : List Int), pl = a ++ i :: b → ∃ o, ops[i.toNat]? = some o ∧ ∀ q ∈ o.pre, q ∈ execS n ops st a
  adds : ∀ (i : Nat) (o : OpV), (i : Int) ∈ pl → ops[i]? = some o → ∀ p ∈ o.add, p ∈ execS n ops st pl
  init : ∀ p ∈ st, p ∈ execS n ops st pl
theorem Exec.nil : Exec n ops st [] := ⟨.init, fun a i b h => by simp at h, fun i o h => by simp at h, fun p h => h⟩
theorem Exec.snoc (hst : SetP st (n : Int)) (hadd : ∀ o ∈ ops, ∀ p ∈ o.add, 0 ≤ p ∧ p < (n : Int)) {pl : List Int} (h : Exec n ops st pl) {i : Nat} {o : OpV} (ho : ops[i]? = some o) (hq : ∀ q ∈ o.pre, q ∈ execS n ops st pl) : Exec n ops st (pl ++ [(i : Int)]) := by
  have e : opAt ops (i : Int) = o := opAt_of (by simpa using ho)
  have hs := Cst.set hst h.run
  have hm : ∀ p, p ∈ execS n ops st (pl ++ [(i : Int)]) ↔ p ∈ execS n ops st pl ∨ p ∈ o.add := fun p => by
    rw [execS_snoc, e]; exact rx_mem hs (hadd o (List.mem_of_getElem? ho))
  refine ⟨?_, fun a j b hab => ?_, fun j o' hj ho' p hp => ?_, fun p hp => (hm p).2 (.inl (h.init p hp))⟩
  · have := Cst.step h.run (p := i) (o := rxO o) (by rw [List.getElem?_map, ho]; rfl) hq
    rw [execS_snoc, costP_snoc, e]
    exact this
  · rcases List.eq_nil_or_concat b with rfl | ⟨b', x, rfl⟩
    · obtain ⟨h1, h2⟩ := List.append_inj' hab rfl
      injection h2 with h2
      subst h1; subst h2
      exact ⟨o, by simpa using ho, hq⟩
    · have h1 : pl ++ [(i : Int)] = (a ++ j :: b') ++ [x] := by rw [hab]; simp
      obtain ⟨h2, _⟩ := List.append_inj' h1 rfl
      exact h.step a j b' h2
  · rw [hm]
    rcases List.mem_append.1 hj with h1 | h1
    · exact .inl (h.adds j o' h1 ho' p hp)
    · have : j = i := by
        have h2 : (j : Int) = (i : Int) := by simpa using h1
        omega
      subst this
      rw [ho] at ho'
      injection ho' with ho'
      subst ho'
      exact .inr hp
/-- Behind the plan of a fact the fact is there. -/
theorem ach_exec (hV : Levs n st ops V) (hst : SetP st (n : Int)) (hadd : ∀ o ∈ ops, (∀ p ∈ o.pre, 0 ≤ p ∧ p < (n : Int)) ∧ ∀ p ∈ o.add, 0 ≤ p ∧ p < (n : Int)) : ∀ (k : Nat) (plan : List Int) (p : Int), 0 ≤ p → p < (n : Int) → 0 ≤ valAt V p → valAt V p < (k : Int) → Exec n ops st plan → Exec n ops st (rpV V ops k plan p) ∧ p ∈ execS n ops st (rpV V ops k plan p) ∧ ∀ x ∈ execS n ops st plan, x ∈ execS n ops st (rpV V ops k plan p)
  | 0, plan, p, _, _, h0, hk, _ => by omega
  | k + 1, plan, p, p0, p1, h0, hk, hE => by
    have hadd' : ∀ o ∈ ops, ∀ p ∈ o.add, 0 ≤ p ∧ p < (n : Int) := fun o ho => (hadd o ho).2
    obtain ⟨p, rfl⟩ := Int.eq_ofNat_of_zero_le p0
    have hpn : p < n := by omega
    by_cases hs : supOf V ops (p : Int) < 0 ∨ supOf V ops (p : Int) ∈ plan
    · rw [rpV_skip hs]
      refine ⟨hE, ?_, fun x h => h⟩
      by_cases hn : supOf V ops (p : Int) < 0
      · have hz : valAt V (p : Int) = 0 := Classical.byContradiction fun hc => by
          have := hV.supp hst.1 hadd' hpn (by omega)
          omega
        exact hE.init _ ((hV.zero hpn).1 hz)
      · obtain ⟨i, o, he, ho, hg⟩ := supOf_good hn
        exact hE.adds i o (by rw [← he]; exact hs.resolve_left hn) ho _ hg.1
    · obtain ⟨i, o, he, ho, hg⟩ := supOf_good (V := V) (ops := ops) (p := (p : Int)) (fun h => hs (.inl h))
      have hni : (i : Int) ∉ plan := fun h => hs (.inr (by rw [he]; exact h))
      rw [rpV_do ho he hni]
      have key : ∀ (l pl : List Int), (∀ q ∈ l, q ∈ o.pre) → Exec n ops st pl → Exec n ops st (l.foldl (rpV V ops k) pl) ∧ (∀ q ∈ l, q ∈ execS n ops st (l.foldl (rpV V ops k) pl)) ∧ ∀ x ∈ execS n ops st pl, x ∈ execS n ops st (l.foldl (rpV V ops k) pl) := by
        intro l
        induction l with
        | nil => intro pl _ h; exact ⟨h, by simp, fun x h => h⟩
        | cons y l ih =>
          intro pl hl h
          have hy := hl y (List.mem_cons_self ..)
          have hr := (hadd o (List.mem_of_getElem? ho)).1 y hy
          have hv := hg.2.2 y hy
          obtain ⟨a1, a2, a3⟩ := ach_exec hV hst hadd k pl y hr.1 hr.2 hv.1 (by omega) h
          obtain ⟨b1, b2, b3⟩ := ih _ (fun q hq => hl q (List.mem_cons_of_mem _ hq)) a1
          rw [List.foldl_cons]
          exact ⟨b1, fun q hq => by
            rcases List.mem_cons.1 hq with e | e
            · subst e; exact b3 _ a2
            · exact b2 q e, fun x hx => b3 x (a3 x hx)⟩
      obtain ⟨c1, c2, c3⟩ := key o.pre plan (fun _ h => h) hE
      have hs := c1.snoc hst hadd' ho c2
      refine ⟨hs, hs.adds i o (by simp) ho _ hg.1, fun x hx => ?_⟩
      rw [execS_snoc, opAt_of (o := o) (by simpa using ho)]
      exact (rx_mem (Cst.set hst c1.run) (hadd' o (List.mem_of_getElem? ho))).2 (.inl (c3 x hx))
theorem plan_exec (hV : Levs n st ops V) (hst : SetP st (n : Int)) (hadd : ∀ o ∈ ops, (∀ p ∈ o.pre, 0 ≤ p ∧ p < (n : Int)) ∧ ∀ p ∈ o.add, 0 ≤ p ∧ p < (n : Int)) : ∀ (goal pl : List Int), (∀ q ∈ goal, 0 ≤ q ∧ q < (n : Int)) → (∀ q ∈ goal, 0 ≤ valAt V q) → Exec n ops st pl → Exec n ops st (goal.foldl (rpV V ops (n + 1)) pl) ∧ (∀ q ∈ goal, q ∈ execS n ops st (goal.foldl (rpV V ops (n + 1)) pl)) ∧ ∀ x ∈ execS n ops st pl, x ∈ execS n ops st (goal.foldl (rpV V ops (n + 1)) pl)
  | [], pl, _, _, h => ⟨h, by simp, fun x h => h⟩
  | y :: goal, pl, hr, hl, h => by
    have hy := hr y (List.mem_cons_self ..)
    have hv : valAt V y ≤ (n : Int) := by
      obtain ⟨y0, y1⟩ := hy
      obtain ⟨y, rfl⟩ := Int.eq_ofNat_of_zero_le y0
      rcases hV.lev y (by omega) with ⟨h1, _⟩ | ⟨j, h1, h2, _⟩ <;> omega
    obtain ⟨a1, a2, a3⟩ := ach_exec hV hst hadd (n + 1) pl y hy.1 hy.2 (hl y (List.mem_cons_self ..)) (by omega) h
    obtain ⟨b1, b2, b3⟩ := plan_exec hV hst hadd goal _ (fun q hq => hr q (List.mem_cons_of_mem _ hq)) (fun q hq => hl q (List.mem_cons_of_mem _ hq)) a1
    rw [List.foldl_cons]
    exact ⟨b1, fun q hq => by
      rcases List.mem_cons.1 hq with e | e
      · subst e; exact b3 _ a2
      · exact b2 q e, fun x hx => b3 x (a3 x hx)⟩
end

end Go.Proofs.Ytihkgdlanfemcaa
