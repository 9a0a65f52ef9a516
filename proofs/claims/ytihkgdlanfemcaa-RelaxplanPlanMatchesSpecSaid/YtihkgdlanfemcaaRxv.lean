/-
  Tasks without deletions: values, least costs, levels; plain.
-/
import Derived.Test.YtihkgdlanfemcaaLex
import Derived.Test.YtihkgdlanfemcaaBf8
import Derived.Test.YtihkgdlanfemcaaLc5
import Derived.Test.YtihkgdlanfemcaaSp1
namespace Go.Proofs.Ytihkgdlanfemcaa
open Go.RowKit
set_option linter.unusedVariables false
set_option linter.unusedSimpArgs false

theorem closed_rx {s : Bool} {ops : List OpV} {cs : List Int} {k : Nat} {U : List Int} : ClosedTo s (ops.map rxO) cs k U ↔ ClosedTo s ops cs k U := by
  constructor
  · intro h i o c hi ho hc p hp
    exact h i (rxO o) c hi (by rw [List.getElem?_map, ho]; rfl) hc p hp
  · intro h i o c hi ho hc p hp
    rw [List.getElem?_map] at ho
    obtain ⟨o', h1, rfl⟩ := Option.map_eq_some_iff.1 ho
    exact h i o' c hi h1 hc p hp
theorem fix_rx {s : Bool} {n : Nat} {st : List Int} {ops : List OpV} {cs U : List Int} : Fix s n st (ops.map rxO) cs U ↔ Fix s n st ops cs U := by
  constructor
  · intro h
    have := h.closed
    rw [List.length_map] at this
    exact ⟨h.shape, closed_rx.1 this⟩
  · intro h
    exact ⟨h.shape, by rw [List.length_map]; exact closed_rx.2 h.closed⟩
theorem values_rx (s : Bool) (n : Nat) (st : List Int) (ops : List OpV) (cs : List Int) : valuesV s n st (ops.map rxO) cs = valuesV s n st ops cs := by
  unfold valuesV
  congr 1
  funext V
  refine propext ⟨fun h => ⟨fix_rx.1 h.fix, fun U hU => h.great U (fix_rx.2 hU)⟩, fun h => ⟨fix_rx.2 h.fix, fun U hU => h.great U (fix_rx.1 hU)⟩⟩
theorem costs_rx (ops : List OpV) : (ops.map rxO).map (·.cost) = ops.map (·.cost) := by
  rw [List.map_map]; rfl
theorem valid_rx {t : TaskV} (hv : Valid t) : Valid (rxT t) := ⟨hv.f0, hv.f1, hv.init, hv.goal, by simp [rxT]; exact hv.nops, fun o ho => by
  obtain ⟨p, hp, rfl⟩ := List.mem_map.1 ho
  obtain ⟨⟨h1, h2, h3, h4⟩, h5⟩ := hv.ops p hp
  exact ⟨⟨h1, h2, SetP.nil _, fun x hx h => by cases h⟩, h5⟩⟩

theorem HCons.run {n : Nat} {ops : List OpV} {goal st l : List Int} {H : List Int → Int} {c : Int} (hH : HCons n ops goal H) (hc : ∀ o ∈ ops, 0 ≤ o.cost) (hst : SetP st (n : Int)) (h : Cst n ops st l c) : ∀ e, 0 ≤ e → H l ≤ e → H st ≤ c + e := by
  induction h with
  | init => intro e _ h; omega
  | @step l c p o h1 hp hq ih =>
    intro e h0 he
    have hl := Cst.set hst h1
    have ho := hc o (List.mem_of_getElem? hp)
    have hle : H l ≤ e + o.cost := by
      by_cases hlt : H (nextV n l o) < 1000000000
      · have := hH.step l p o hl hp ⟨o, by simpa using hp, hq⟩ hlt
        omega
      · have := hH.inf l hl
        omega
    have := ih (e + o.cost) (by omega) hle
    omega
/-- The value for greatest values is at most the cost of every relaxed plan. -/
theorem max_rbest {n : Nat} {t : TaskV} {st : List Int} {d : Int} (hv : Valid t) (hn : t.facts = n) (hst : SetP st (n : Int)) (h : RBest n (t.ops.map rxO) t.goal st d) : combV false (valuesV false n st t.ops (t.ops.map (·.cost))) t.goal ≤ d := by
  have hH := max_hcons (valid_rx hv) (show (rxT t).facts = n from hn)
  have hc : ∀ o ∈ t.ops.map rxO, 0 ≤ o.cost := rx_cost (fun o ho => (hv.ops o ho).2.1)
  have e : combV false (valuesV false n st (rxT t).ops ((rxT t).ops.map (·.cost))) (rxT t).goal = combV false (valuesV false n st t.ops (t.ops.map (·.cost))) t.goal := by
    show combV false (valuesV false n st (t.ops.map rxO) ((t.ops.map rxO).map (·.cost))) t.goal = _
    rw [values_rx, costs_rx]
  rcases h.1 with e1 | ⟨l, h1, h2⟩
  · have := hH.inf st hst
    rw [e] at this
    omega
  · have h3 := hH.goal l h2 (Cst.set hst h1)
    have h4 := hH.run hc hst h1 0 (Int.le_refl _) h3
    rw [e] at h4
    omega
theorem levI_ex (n : Nat) (st : List Int) (ops : List OpV) (p : Int) : ∃ v, LevI n st ops p v := by
  by_cases h : ∃ k, k ≤ n ∧ layP st ops k p
  · have key : ∀ (m k : Nat), k ≤ m → k ≤ n → layP st ops k p → ∃ k, k ≤ n ∧ layP st ops k p ∧ ∀ j, j < k → ¬ layP st ops j p := by
      intro m
      induction m with
      | zero => intro k hm hk h; exact ⟨k, hk, h, fun j hj => by omega⟩
      | succ m ih =>
        intro k hm hk h
        by_cases hl : ∃ j, j < k ∧ layP st ops j p
        · obtain ⟨j, hj, hlj⟩ := hl
          exact ih j (by omega) (by omega) hlj
        · exact ⟨k, hk, h, fun j hj hlj => hl ⟨j, hj, hlj⟩⟩
    obtain ⟨k, hk, hl⟩ := h
    obtain ⟨k, h1, h2, h3⟩ := key k k (Nat.le_refl _) hk hl
    exact ⟨k, .inr ⟨k, rfl, h1, h2, h3⟩⟩
  · exact ⟨-1, .inl ⟨rfl, fun k hk hl => h ⟨k, hk, hl⟩⟩⟩
theorem levV_spec (n : Nat) (st : List Int) (ops : List OpV) : Levs n st ops (levV n st ops) := by
  have h : Levs n st ops ((List.range n).map fun p => Classical.choose (levI_ex n st ops ((p : Nat) : Int))) := by
    refine ⟨by simp, fun p hp => ?_⟩
    have : valAt ((List.range n).map fun p => Classical.choose (levI_ex n st ops ((p : Nat) : Int))) (p : Int) = Classical.choose (levI_ex n st ops ((p : Nat) : Int)) := by
      have hl : p < ((List.range n).map fun p => Classical.choose (levI_ex n st ops ((p : Nat) : Int))).length := by simp; omega
      rw [valAt_getElem hl, List.getElem_map, List.getElem_range]
    rw [this]
    exact Classical.choose_spec (levI_ex n st ops ((p : Nat) : Int))
  rw [← h.eq]
  exact h
/-- What a relaxed plan tells. -/
structure PlanTells (n : Nat) (t : TaskV) (st pl : List Int) : Prop where
  run : Exec n t.ops st pl
  goal : ∀ q ∈ t.goal, q ∈ execS n t.ops st pl
  nodup : pl.Nodup
  rng : ∀ x ∈ pl, 0 ≤ x ∧ x < (t.ops.length : Int)
theorem plan_tells {n : Nat} {t : TaskV} {st : List Int} (hv : Valid t) (hn : t.facts = n) (hst : SetP st (n : Int)) (h : ∀ q ∈ t.goal, 0 ≤ valAt (levV n st t.ops) q) : PlanTells n t st (planTo (levV n st t.ops) t.ops n t.goal) := by
  have hL := levV_spec n st t.ops
  obtain ⟨h1, h2, _⟩ := plan_exec hL hst (ops_in hv hn) t.goal [] (goal_in hv hn) h Exec.nil
  have hVn : ∀ q, valAt (levV n st t.ops) q ≤ (n : Int) := fun q => (levs_rng hL q).2
  obtain ⟨h3, h4⟩ := plan_ok (ops := t.ops) hVn t.goal [] List.nodup_nil (by simp)
  exact ⟨h1, h2, h3, h4⟩
theorem costP_le {ops : List OpV} (hc : ∀ o ∈ ops, 0 ≤ o.cost ∧ o.cost ≤ 100) : ∀ (pl : List Int), (∀ x ∈ pl, 0 ≤ x ∧ x < (ops.length : Int)) → 0 ≤ costP ops pl ∧ costP ops pl ≤ 100 * (pl.length : Int)
  | [], _ => by simp [costP]
  | x :: pl, h => by
    have ih := costP_le hc pl (fun y hy => h y (List.mem_cons_of_mem _ hy))
    have hx := h x (List.mem_cons_self ..)
    obtain ⟨x, rfl⟩ := Int.eq_ofNat_of_zero_le hx.1
    have hxl : x < ops.length := by omega
    have ho : ops[x]? = some ops[x] := List.getElem?_eq_getElem hxl
    have e : opAt ops (x : Int) = ops[x] := opAt_of (by simp)
    have h1 := hc _ (List.mem_of_getElem? ho)
    have h2 : costP ops ((x : Int) :: pl) = (opAt ops (x : Int)).cost + costP ops pl := by simp [costP]
    rw [h2, e, List.length_cons]
    omega
/-- A relaxed plan of the kind is as dear as the least one at least, and there is one if there is any. -/
theorem plan_best {n : Nat} {t : TaskV} {st : List Int} {d : Int} (hv : Valid t) (hn : t.facts = n) (hst : SetP st (n : Int)) (hd : RBest n (t.ops.map rxO) t.goal st d) :
    ((∀ q ∈ t.goal, 0 ≤ valAt (levV n st t.ops) q) ↔ d < 1000000000) ∧ ((∀ q ∈ t.goal, 0 ≤ valAt (levV n st t.ops) q) → d ≤ costP t.ops (planTo (levV n st t.ops) t.ops n t.goal)) := by
  have hle : (∀ q ∈ t.goal, 0 ≤ valAt (levV n st t.ops) q) → d ≤ costP t.ops (planTo (levV n st t.ops) t.ops n t.goal) := fun h => by
    have hp := plan_tells hv hn hst h
    exact hd.2.2 _ _ hp.run.run hp.goal
  refine ⟨⟨fun h => ?_, fun h => ?_⟩, hle⟩
  · have hp := plan_tells hv hn hst h
    have h1 := hle h
    have h2 := costP_le (fun o ho => (hv.ops o ho).2) _ hp.rng
    have h3 := nodup_len hp.nodup hp.rng
    have h4 := hv.nops
    omega
  · rcases hd.1 with e | ⟨l, h1, h2⟩
    · omega
    · intro q hq
      have hg := cst_goal h1 h2 q hq
      obtain ⟨q0, q1⟩ := goal_in hv hn q hq
      obtain ⟨q, rfl⟩ := Int.eq_ofNat_of_zero_le q0
      exact ((levV_spec n st t.ops).reach hst.1 (fun o ho => (ops_in hv hn o ho).2) (by omega)).2 hg

end Go.Proofs.Ytihkgdlanfemcaa
