/-
  What every plan does: landmarks, their achievers and orders, cuts. Plain laws.
-/
import Derived.Test.YtiaokmofoaeifaaMC
import Derived.Test.YtiaokmofoaeifaaMH
import Derived.Test.YtiaokmofoaeifaaMI
namespace Go.Proofs.Ytiaokmofoaeifaa
set_option linter.unusedVariables false
set_option linter.unusedSimpArgs false

/-- A list of operators is a plan. -/
structure PlanOk (n : Nat) (t : TaskV) (plan : List Int) : Prop where
  len : (runV n t.ops t.init plan).length = plan.length + 1
  goal : ∃ r, (runV n t.ops t.init plan)[plan.length]? = some r ∧ ∀ q ∈ t.goal, q ∈ r
section
variable {n : Nat} {t : TaskV} {plan : List Int}
theorem plan_op (hl : (runV n t.ops t.init plan).length = plan.length + 1) {j : Nat} {op : Int} (h : plan[j]? = some op) : ∃ o, t.ops[op.toNat]? = some o := by
  have hj := (List.getElem?_eq_some_iff.1 h).1
  obtain ⟨op', r, h1, h2, ⟨o, ho, hpre⟩, h4⟩ := runV_step (n := n) (ops := t.ops) plan t.init j _ (List.getElem?_eq_getElem (show j + 1 < _ by omega))
  rw [h] at h1
  injection h1 with h1
  subst h1
  exact ⟨o, ho⟩
/-- Up to the state that is the first to hold a fact, no operator adds it. -/
theorem plan_not (hl : (runV n t.ops t.init plan).length = plan.length + 1) {p : Int} (p0 : 0 ≤ p) (p1 : p < (n : Int)) {i : Nat} (hi : i < firstV (runV n t.ops t.init plan) p) {j : Nat} {op : Int} (hj : j < i) (h : plan[j]? = some op) : useNot t.ops p op.toNat = true := by
  obtain ⟨o, ho⟩ := plan_op hl h
  have hjl := (List.getElem?_eq_some_iff.1 h).1
  rw [useNot_of ho]
  have := runV_not (n := n) (ops := t.ops) (st := t.init) p0 p1 (show j + 1 < _ by omega) (by omega) h ho
  simpa using this
theorem plan_land (h : PlanOk n t plan) {p : Int} (hp : p ∈ landV n t) : firstV (runV n t.ops t.init plan) p < (runV n t.ops t.init plan).length := by
  obtain ⟨p0, p1, hL⟩ := landV_mem.1 hp
  refine Classical.byContradiction fun hc => ?_
  have hlen := h.len
  obtain ⟨r, hr, hg⟩ := h.goal
  rcases hL with hL | hL
  · exact firstV_lt (by omega) (runV_head (n := n) (ops := t.ops) plan t.init) hL
  · refine hL fun q hq => ?_
    exact runV_reach _ r hr (fun j op hj ho => plan_not hlen p0 p1 (show plan.length < _ by omega) hj ho) q (hg q hq)
theorem plan_ach (h : (runV n t.ops t.init plan).length = plan.length + 1) {p : Int} (p0 : 0 ≤ p) (p1 : p < (n : Int)) {i : Nat} (hi : firstV (runV n t.ops t.init plan) p = i + 1) (hl : i + 1 < (runV n t.ops t.init plan).length) (h0 : ∀ op ∈ plan, 0 ≤ op) : ∃ op, plan[i]? = some op ∧ op ∈ achV t p := by
  obtain ⟨op, o, r, h1, ho, h2, hpre, hadd⟩ := runV_adds (n := n) (ops := t.ops) (st := t.init) hi hl
  refine ⟨op, h1, ?_⟩
  have hop := h0 op (List.mem_of_getElem? h1)
  unfold achV achTo
  rw [List.mem_map]
  refine ⟨op.toNat, ?_, by omega⟩
  rw [List.mem_filter, List.mem_range]
  refine ⟨(List.getElem?_eq_some_iff.1 ho).1, (@decide_eq_true_iff _ (Classical.propDecidable _)).2 ⟨o, ho, ?_, hadd, fun q hq => ?_⟩⟩
  · exact firstV_lt (show 0 < _ by omega) (runV_head (n := n) (ops := t.ops) plan t.init)
  · exact runV_reach i r h2 (fun j op' hj ho' => plan_not h p0 p1 (show i < _ by omega) hj ho') q (hpre q hq)
theorem plan_ord (h : PlanOk n t plan) {p q : Int} (hpq : (p, q) ∈ ordV n t) : p ∈ landV n t ∧ q ∈ landV n t ∧ firstV (runV n t.ops t.init plan) p ≤ firstV (runV n t.ops t.init plan) q := by
  unfold ordV at hpq
  rw [List.mem_flatMap] at hpq
  obtain ⟨p', hp, h2⟩ := hpq
  unfold ordRow at h2
  by_cases hi : p' ∈ t.init
  · rw [if_pos hi] at h2; cases h2
  · rw [if_neg hi] at h2
    unfold ordPart at h2
    rw [List.mem_map] at h2
    obtain ⟨q', h3, h4⟩ := h2
    rw [List.mem_filter] at h3
    obtain ⟨h5, h6⟩ := h3
    injection h4 with e1 e2
    subst e1; subst e2
    refine ⟨hp, h5, ?_⟩
    obtain ⟨p0, p1, -⟩ := landV_mem.1 hp
    have h6' : OrdP t p' q' := (@decide_eq_true_iff _ (Classical.propDecidable _)).1 h6
    refine Classical.byContradiction fun hc => h6'.2 ?_
    have hlt := plan_land h h5
    obtain ⟨r, hr, hm⟩ := firstV_at hlt
    exact runV_reach _ r hr (fun j op hj ho => plan_not h.len p0 p1 (by omega) hj ho) q' hm
theorem plan_cut (h : PlanOk n t plan) {left C : List Int} {c : Int} (hc : CutP n t.init t.goal t.ops left C c) (h0 : ∀ op ∈ plan, 0 ≤ op) : ∃ x ∈ C, x ∈ plan := by
  refine Classical.byContradiction fun hn => hc.cut fun q hq => ?_
  obtain ⟨r, hr, hg⟩ := h.goal
  refine runV_reach _ r hr (fun j op hj ho => ?_) q (hg q hq)
  unfold useOut
  have hm := List.mem_of_getElem? ho
  have h1 : op ∉ C := fun hC => hn ⟨op, hC, hm⟩
  have h2 := h0 op hm
  have e : ((op.toNat : Nat) : Int) = op := by omega
  rw [e]
  simp [h1]
end

end Go.Proofs.Ytiaokmofoaeifaa
