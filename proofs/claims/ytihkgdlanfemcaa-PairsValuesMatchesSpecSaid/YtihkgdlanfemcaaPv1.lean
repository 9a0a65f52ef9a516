/-
  Values of pairs, round by round: a plain law: where nothing changes they are the greatest that no operator can lower.
-/
import Derived.Test.YtihkgdlanfemcaaMP
namespace Go.Proofs.Ytihkgdlanfemcaa
set_option linter.unusedVariables false
set_option linter.unusedSimpArgs false

open Classical in
/-- The set that must hold ahead of an operator so that two facts hold behind it. -/
noncomputable def arcV (o : OpV) (p q : Int) : Option (List Int) :=
  if p ∈ o.add ∧ q ∉ o.add ∧ q ∉ o.del then some (withV o.pre q) else if q ∈ o.add ∧ p ∉ o.add ∧ p ∉ o.del then some (withV o.pre p) else if p ∈ o.add ∧ q ∈ o.add then some o.pre else none
theorem arcV_left {o : OpV} {p q : Int} (h : p ∈ o.add ∧ q ∉ o.add ∧ q ∉ o.del) : arcV o p q = some (withV o.pre q) := by unfold arcV; rw [if_pos h]
theorem arcV_right {o : OpV} {p q : Int} (h : q ∈ o.add ∧ p ∉ o.add ∧ p ∉ o.del) : arcV o p q = some (withV o.pre p) := by unfold arcV; rw [if_neg (fun k => h.2.1 k.1), if_pos h]
theorem arcV_both {o : OpV} {p q : Int} (h : p ∈ o.add ∧ q ∈ o.add) : arcV o p q = some o.pre := by unfold arcV; rw [if_neg (fun k => k.2.1 h.2), if_neg (fun k => k.2.1 h.1), if_pos h]
theorem arcV_none {o : OpV} {p q : Int} (h1 : ¬ (p ∈ o.add ∧ q ∉ o.add ∧ q ∉ o.del)) (h2 : ¬ (q ∈ o.add ∧ p ∉ o.add ∧ p ∉ o.del)) (h3 : ¬ (p ∈ o.add ∧ q ∈ o.add)) : arcV o p q = none := by unfold arcV; rw [if_neg h1, if_neg h2, if_neg h3]
theorem arcV_some {o : OpV} {p q : Int} {l : List Int} (h : arcV o p q = some l) : Arc o p q l := by
  by_cases h1 : p ∈ o.add ∧ q ∉ o.add ∧ q ∉ o.del
  · rw [arcV_left h1] at h; injection h with h; subst h
    exact .left h1.1 h1.2.1 h1.2.2 (fun x => withV_mem)
  · by_cases h2 : q ∈ o.add ∧ p ∉ o.add ∧ p ∉ o.del
    · rw [arcV_right h2] at h; injection h with h; subst h
      exact .right h2.1 h2.2.1 h2.2.2 (fun x => withV_mem)
    · by_cases h3 : p ∈ o.add ∧ q ∈ o.add
      · rw [arcV_both h3] at h; injection h with h; subst h
        exact .both h3.1 h3.2
      · rw [arcV_none h1 h2 h3] at h; cases h
theorem arcV_of {o : OpV} {p q : Int} {l : List Int} (h : Arc o p q l) : ∃ m, arcV o p q = some m ∧ ∀ x, x ∈ m ↔ x ∈ l := by
  cases h with
  | both h1 h2 => exact ⟨_, arcV_both ⟨h1, h2⟩, fun x => Iff.rfl⟩
  | left h1 h2 h3 h4 => exact ⟨_, arcV_left ⟨h1, h2, h3⟩, fun x => by rw [withV_mem, h4]⟩
  | right h1 h2 h3 h4 => exact ⟨_, arcV_right ⟨h1, h2, h3⟩, fun x => by rw [withV_mem, h4]⟩
/-- What one operator makes of a value. -/
noncomputable def stepO (V : Int → Int → Int) (p q x : Int) (o : OpV) : Int := match arcV o p q with | none => x | some l => min x (plusV (valP V l) o.cost)
theorem stepO_none {V : Int → Int → Int} {p q x : Int} {o : OpV} (h : arcV o p q = none) : stepO V p q x o = x := by unfold stepO; rw [h]
theorem stepO_some {V : Int → Int → Int} {p q x : Int} {o : OpV} {l : List Int} (h : arcV o p q = some l) : stepO V p q x o = min x (plusV (valP V l) o.cost) := by unfold stepO; rw [h]
/-- What the first k operators make of it. -/
noncomputable def toO (V : Int → Int → Int) (ops : List OpV) (p q : Int) (k : Nat) : Int := (ops.take k).foldl (stepO V p q) (V p q)
noncomputable def fullO (V : Int → Int → Int) (ops : List OpV) (p q : Int) : Int := ops.foldl (stepO V p q) (V p q)
theorem toO_zero (V : Int → Int → Int) (ops : List OpV) (p q : Int) : toO V ops p q 0 = V p q := rfl
theorem toO_succ {V : Int → Int → Int} {ops : List OpV} {p q : Int} {k : Nat} {o : OpV} (h : ops[k]? = some o) : toO V ops p q (k + 1) = stepO V p q (toO V ops p q k) o := by
  unfold toO
  rw [List.take_add_one, h]
  simp
theorem toO_all {V : Int → Int → Int} {ops : List OpV} {p q : Int} {k : Nat} (h : ops.length ≤ k) : toO V ops p q k = fullO V ops p q := by
  unfold toO fullO
  rw [List.take_of_length_le h]
/-- The values are at least those that no operator can lower. -/
structure RAb (n : Nat) (st : List Int) (ops : List OpV) (V : Int → Int → Int) : Prop where
  all : ∀ p q, Rng n p → Rng n q → InV (V p q)
  zero : ∀ p ∈ st, ∀ q ∈ st, V p q = 0
  great : ∀ U, PFix n st ops U → ∀ p q, Rng n p → Rng n q → U p q ≤ V p q
section
variable {n : Nat} {st : List Int} {ops : List OpV} {V : Int → Int → Int}
theorem stepO_le {p q x : Int} {o : OpV} : stepO V p q x o ≤ x := by
  cases e : arcV o p q with
  | none => rw [stepO_none e]; exact Int.le_refl _
  | some l => rw [stepO_some e]; exact Int.min_le_left _ _
theorem fold_le {p q : Int} : ∀ (os : List OpV) (x : Int), os.foldl (stepO V p q) x ≤ x
  | [], x => Int.le_refl _
  | o :: os, x => Int.le_trans (fold_le os _) stepO_le
theorem fold_arc {p q : Int} {o : OpV} {l : List Int} (ha : arcV o p q = some l) : ∀ (os : List OpV) (x : Int), o ∈ os → os.foldl (stepO V p q) x ≤ plusV (valP V l) o.cost
  | [], x, h => by cases h
  | o' :: os, x, h => by
    rcases List.mem_cons.1 h with h | h
    · subst h
      refine Int.le_trans (fold_le os _) ?_
      rw [stepO_some ha]
      exact Int.min_le_right _ _
    · exact fold_arc ha os _ h
theorem fold_ge {p q z : Int} : ∀ (os : List OpV) (x : Int), z ≤ x → (∀ o ∈ os, ∀ l, arcV o p q = some l → z ≤ plusV (valP V l) o.cost) → z ≤ os.foldl (stepO V p q) x
  | [], x, h, _ => h
  | o :: os, x, h, ha => by
    refine fold_ge os _ ?_ (fun o' ho' => ha o' (List.mem_cons_of_mem _ ho'))
    cases e : arcV o p q with
    | none => rw [stepO_none e]; exact h
    | some l => rw [stepO_some e]; exact Int.le_min.2 ⟨h, ha o (by simp) l e⟩
theorem arc_in (hops : OpsIn n ops) {o : OpV} (ho : o ∈ ops) {p q : Int} (hp : Rng n p) (hq : Rng n q) {l : List Int} (h : arcV o p q = some l) : ∀ x ∈ l, Rng n x := (arcV_some h).rng (hops o ho).1 hp hq
theorem RAb.valIn (h : RAb n st ops V) (hops : OpsIn n ops) {o : OpV} (ho : o ∈ ops) {p q : Int} (hp : Rng n p) (hq : Rng n q) {l : List Int} (ha : arcV o p q = some l) : InV (valP V l) := valP_in h.all (arc_in hops ho hp hq ha)
theorem fold_in (h : RAb n st ops V) (hops : OpsIn n ops) {p q : Int} (hp : Rng n p) (hq : Rng n q) (os : List OpV) (hos : ∀ o ∈ os, o ∈ ops) : InV (os.foldl (stepO V p q) (V p q)) := by
  have h1 := h.all p q hp hq
  have h2 := fold_le (V := V) (p := p) (q := q) os (V p q)
  have h3 := fold_ge (V := V) (p := p) (q := q) (z := 0) os (V p q) h1.1 (fun o ho l hl => (plusV_in (h.valIn hops (hos o ho) hp hq hl) (costIn hops (hos o ho))).1)
  exact ⟨h3, Int.le_trans h2 h1.2⟩
theorem toO_in (h : RAb n st ops V) (hops : OpsIn n ops) {p q : Int} (hp : Rng n p) (hq : Rng n q) (k : Nat) : InV (toO V ops p q k) := fold_in h hops hp hq _ (fun o ho => List.mem_of_mem_take ho)
theorem fullO_le {p q : Int} : fullO V ops p q ≤ V p q := fold_le _ _
theorem RAb.full (h : RAb n st ops V) (hops : OpsIn n ops) (hst : ∀ q ∈ st, Rng n q) : RAb n st ops (fullO V ops) := by
  refine ⟨fun p q hp hq => fold_in h hops hp hq _ (fun o ho => ho), fun p hp q hq => ?_, fun U hU p q hp hq => ?_⟩
  · have h1 := (fold_in h hops (hst p hp) (hst q hq) ops (fun o ho => ho)).1
    have h2 : fullO V ops p q ≤ V p q := fullO_le
    rw [h.zero p hp q hq] at h2
    exact Int.le_antisymm h2 h1
  · refine fold_ge _ _ (h.great U hU p q hp hq) (fun o ho l hl => ?_)
    refine Int.le_trans (hU.closed o ho p q l hp hq (arcV_some hl)) ?_
    exact plusV_mono (valP_in hU.all (arc_in hops ho hp hq hl)) (costIn hops ho) (h.valIn hops ho hp hq hl) (costIn hops ho) (valP_mono (fun a ha b hb => h.great U hU a b (arc_in hops ho hp hq hl a ha) (arc_in hops ho hp hq hl b hb))) (Int.le_refl _)
theorem RAb.best (h : RAb n st ops V) (hops : OpsIn n ops) (hs : ∀ p q, Rng n p → Rng n q → fullO V ops p q = V p q) : PBest n st ops V :=
  ⟨⟨h.all, h.zero, fun o ho p q l hp hq ha => by
    obtain ⟨m, hm, hml⟩ := arcV_of ha
    have h1 : fullO V ops p q ≤ plusV (valP V m) o.cost := fold_arc hm ops _ ho
    rw [hs p q hp hq, valP_congr hml] at h1
    exact h1⟩, h.great⟩
theorem RAb.less (h : RAb n st ops V) (hops : OpsIn n ops) {p q : Int} (hp : Rng n p) (hq : Rng n q) (hne : fullO V ops p q ≠ V p q) : sumT n (fullO V ops) < sumT n V := by
  have h1 : fullO V ops p q ≤ V p q := fullO_le
  exact sumT_lt (fun a b _ _ => fullO_le) hp hq (fold_in h hops hp hq ops (fun o ho => ho)).1 (by omega)
end
open Classical in
/-- The values at the start. -/
noncomputable def initP (st : List Int) (p q : Int) : Int := if p ∈ st ∧ q ∈ st then 0 else 1000000000
theorem initP_yes {st : List Int} {p q : Int} (h1 : p ∈ st) (h2 : q ∈ st) : initP st p q = 0 := if_pos ⟨h1, h2⟩
theorem initP_no {st : List Int} {p q : Int} (h : ¬ (p ∈ st ∧ q ∈ st)) : initP st p q = 1000000000 := if_neg h
theorem RAb.start (n : Nat) (st : List Int) (ops : List OpV) : RAb n st ops (initP st) := by
  refine ⟨fun p q _ _ => ?_, fun p hp q hq => initP_yes hp hq, fun U hU p q hp hq => ?_⟩
  · by_cases h : p ∈ st ∧ q ∈ st
    · rw [initP_yes h.1 h.2]; exact InV.zero
    · rw [initP_no h]; exact InV.inf
  · by_cases h : p ∈ st ∧ q ∈ st
    · rw [initP_yes h.1 h.2, hU.zero p h.1 q h.2]; exact Int.le_refl _
    · rw [initP_no h]; exact (hU.all p q hp hq).2
/-- A table of values. -/
def tabR (n : Nat) (V : Int → Int → Int) : List (List Int) := (List.range n).map fun (p : Nat) => rowV n (V (p : Int))
theorem tabR_len (n : Nat) (V : Int → Int → Int) : (tabR n V).length = n := by simp [tabR]
theorem tabR_get {n p : Nat} {V : Int → Int → Int} (h : p < n) : (tabR n V)[p]? = some (rowV n (V (p : Int))) := by simp [tabR, h]
theorem tabR_take {n p : Nat} {V : Int → Int → Int} (h : p < n) : (tabR n V).take p ++ [rowV n (V (p : Int))] = (tabR n V).take (p + 1) := by
  rw [List.take_add_one, tabR_get h]; rfl
/-- The value of a set, as the reference counts it. -/
def valTo (V : Int → Int → Int) (l : List Int) (k j : Nat) : Int := match l[k]? with
  | some p => (l.take j).foldl (fun o q => max o (V p q)) ((l.take k).foldl (fun o p => l.foldl (fun o q => max o (V p q)) o) 0)
  | none => valP V l
theorem valTo_start {V : Int → Int → Int} {l : List Int} {p : Int} (h : l[0]? = some p) : valTo V l 0 0 = 0 := by unfold valTo; rw [h]; rfl
theorem valTo_nil {V : Int → Int → Int} {l : List Int} {k : Nat} (h : l.length ≤ k) : valTo V l k 0 = valP V l := by unfold valTo; rw [List.getElem?_eq_none h]
theorem valTo_step {V : Int → Int → Int} {l : List Int} {k j : Nat} {p q : Int} (hp : l[k]? = some p) (hq : l[j]? = some q) : valTo V l k (j + 1) = max (valTo V l k j) (V p q) := by
  unfold valTo
  rw [hp]
  dsimp only
  rw [List.take_add_one, hq]
  simp
theorem valTo_row {V : Int → Int → Int} {l : List Int} {k : Nat} {p : Int} (hp : l[k]? = some p) : valTo V l k l.length = valTo V l (k + 1) 0 := by
  unfold valTo
  rw [hp]
  dsimp only
  rw [List.take_length]
  cases h : l[k + 1]? with
  | some p' =>
    dsimp only
    rw [List.take_add_one, hp]
    simp
  | none =>
    dsimp only
    have hl : l.take (k + 1) = l := List.take_of_length_le (by rw [List.getElem?_eq_none_iff] at h; exact h)
    rw [List.take_add_one, hp] at hl
    have e1 : l = l.take k ++ [p] := hl.symm
    have key : ∀ F : Int → Int → Int, l.foldl F 0 = F ((l.take k).foldl F 0) p := fun F => by
      conv => lhs; rw [e1]
      rw [List.foldl_append]
      rfl
    exact (key (fun o p => l.foldl (fun o q => max o (V p q)) o)).symm
theorem valP_zero {V : Int → Int → Int} {l : List Int} (h : l[0]? = none) : valP V l = 0 := by
  have : l = [] := by cases l with | nil => rfl | cons a b => simp at h
  subst this; rfl

end Go.Proofs.Ytihkgdlanfemcaa
