/-
  The least cost of a relaxed plan, found in two ways: plain.
-/
import Derived.Test.YtihkgdlanfemcaaZRex
import Derived.Test.YtihkgdlanfemcaaZRxv
import Derived.Test.YtihkgdlanfemcaaZBf7
namespace Go.Proofs.Ytihkgdlanfemcaa
open Go.RowKit
set_option linter.unusedVariables false
set_option linter.unusedSimpArgs false

section
variable {n : Nat} {ops : List OpV} {goal st : List Int} {ls : List (List Int)}
theorem RSt.all (h : RSt n ops st ls ls.length 0) {l : List Int} (hl : Rch n ops st l) : l ∈ ls := by
  induction hl with
  | init => exact List.mem_of_getElem? h.head
  | step h1 h2 h3 ih =>
    obtain ⟨o, ho, hq⟩ := h3
    have h4 := h.closed _ _ o ih (by simpa using ho) hq
    rwa [opAt_of ho]
/-- A list without repetitions inside another one is no longer. -/
theorem nodup_in {us bs : List (List Int)} (hn : us.Nodup) (hi : ∀ a ∈ us, a ∈ bs) : us.length ≤ bs.length := by
  have h1 : (us.map fun a => ((bs.idxOf a : Nat) : Int)).Nodup := by
    refine List.pairwise_map.2 (List.Pairwise.imp_of_mem (fun {a b} ha hb hab => ?_) hn)
    intro e
    have e2 : bs.idxOf a = bs.idxOf b := by omega
    have ha2 := List.idxOf_lt_length_of_mem (hi a ha)
    have hb2 := List.idxOf_lt_length_of_mem (hi b hb)
    have h3 : bs[bs.idxOf a]'ha2 = a := List.getElem_idxOf ha2
    have h4 : bs[bs.idxOf b]'hb2 = b := List.getElem_idxOf hb2
    apply hab
    rw [← h3, ← h4]
    congr 1
  have h2 := nodup_len (m := bs.length) h1 (fun x hx => by
    obtain ⟨a, ha, rfl⟩ := List.mem_map.1 hx
    have := List.idxOf_lt_length_of_mem (hi a ha)
    omega)
  simpa using h2
theorem RSt.few (h : RSt n ops st ls ls.length 0) (hl : ls.length ≤ 2000) {us : List (List Int)} (hn : us.Nodup) (ha : us.length = 2001) (hr : ∀ a ∈ us, Rch n ops st a) : False := by
  have := nodup_in hn (fun a h1 => h.all (hr a h1))
  omega
variable {D : List Int}
theorem DOk.path (hR : RSt n ops st ls ls.length 0) (hD : DOk n ops goal ls D) (hc : ∀ o ∈ ops, 0 ≤ o.cost) {l : List Int} {c : Int} (h : Cst n ops st l c) : ∀ (e : Int) (j : Nat) (d : Int), 0 ≤ e → ls[j]? = some l → D[j]? = some d → d ≤ e → ∃ (i : Nat) (x : Int), ls[i]? = some st ∧ D[i]? = some x ∧ x ≤ c + e := by
  induction h with
  | init => exact fun e j d _ hl hd he => ⟨j, d, hl, hd, by omega⟩
  | @step l c p o h1 hp hq ih =>
    intro e j d h0 hj hd he
    obtain ⟨i, hi⟩ := List.getElem?_of_mem (hR.all h1.rch)
    have hil := (List.getElem?_eq_some_iff.1 hi).1
    have hx : i < D.length := by rw [hD.st.len]; exact hil
    have hx2 : D[i]? = some D[i] := List.getElem?_eq_getElem hx
    have ho := hc o (List.mem_of_getElem? hp)
    have hle : D[i] ≤ e + o.cost := by
      by_cases hlt : d < 1000000000
      · have := hD.closed i p j l o hi hp ⟨o, by simpa using hp, hq⟩ hj _ _ hx2 hd hlt
        dsimp only at this
        omega
      · have h2 := hD.st.all _ (List.getElem_mem hx)
        unfold InV at h2
        omega
    obtain ⟨i', x, h5, h6, h7⟩ := ih (e + o.cost) i _ (by omega) hi hx2 hle
    exact ⟨i', x, h5, h6, by omega⟩
/-- What the costs of states say of the first state. -/
theorem DOk.upper (hR : RSt n ops st ls ls.length 0) (hD : DOk n ops goal ls D) (hc : ∀ o ∈ ops, 0 ≤ o.cost) {d d' : Int} (h0 : D[0]? = some d') (hd : RBest n ops goal st d) : d' ≤ d := by
  have h2 := hD.st.all _ (List.mem_of_getElem? h0)
  unfold InV at h2
  rcases hd.1 with e | ⟨l, h3, h4⟩
  · omega
  · obtain ⟨j, hj⟩ := List.getElem?_of_mem (hR.all h3.rch)
    have hz := hD.st.zero j l hj h4
    obtain ⟨i, x, h5, h6, h7⟩ := hD.path hR hc h3 0 j 0 (Int.le_refl _) hj hz (Int.le_refl _)
    have hi : i = 0 := by
      have h8 := hR.head
      obtain ⟨a1, a2⟩ := List.getElem?_eq_some_iff.1 h5
      obtain ⟨b1, b2⟩ := List.getElem?_eq_some_iff.1 h8
      exact (List.getElem_inj hR.nodup).1 (a2.trans b2.symm)
    subst hi
    rw [h0] at h6
    injection h6 with h6
    omega
end
theorem rxO_rxO (ops : List OpV) : (ops.map rxO).map rxO = ops.map rxO := by
  rw [List.map_map]; rfl
/-- The least cost of a plan without deletions is the one of a relaxed plan. -/
theorem best_rx {n : Nat} {t : TaskV} {st : List Int} {d d' : Int} (hv : Valid t) (hn : t.facts = n) (hst : SetP st (n : Int)) (h8 : n ≤ 8) (hd : RBest n (t.ops.map rxO) t.goal st d) (hb : BestOut n (rxT t) st d') : d = d' := by
  have hc : ∀ o ∈ t.ops.map rxO, 0 ≤ o.cost := rx_cost (fun o ho => (hv.ops o ho).2.1)
  rcases hb with ⟨_, ls, h1, h2, h3⟩ | ⟨ls, D, hR, _, hD, h0⟩
  · exfalso
    have h4 := few_states hst h1 h3
    have h5 : 2 ^ n ≤ 2 ^ 8 := Nat.pow_le_pow_right (by decide) h8
    have h6 : (2 : Nat) ^ 8 = 256 := by decide
    omega
  · have h1 : d' ≤ d := DOk.upper hR hD hc h0 hd
    have h2 := hD.st.low _ (rdist_hcons (valid_rx hv) (show (rxT t).facts = n from hn)) 0 st d' hR.head h0
    have h3 : rdist n ((rxT t).ops.map rxO) (rxT t).goal st = rdist n (t.ops.map rxO) t.goal st := by
      show rdist n ((t.ops.map rxO).map rxO) t.goal st = _
      rw [rxO_rxO]
    rw [h3] at h2
    have h4 := hd.uniq (rdist_spec (n := n) hc t.goal st)
    omega
/-- Either both ways find few states, or neither does. -/
theorem rbo_yes {n : Nat} {ops : List OpV} {goal st : List Int} {d c j : Int} {ls : List (List Int)} (h : RBOut n ops goal st d c j) (hR : RSt n ops st ls ls.length 0) (hl : ls.length ≤ 2000) : c = 0 ∧ j = 0 ∧ RBest n ops goal st d := by
  rcases h with ⟨h1, h2, _⟩ | ⟨_, us, h1, h2, h3⟩
  · exact ⟨h1.1, h1.2, h2⟩
  · exact (hR.few hl h1 h2 h3).elim
theorem rbo_no {n : Nat} {ops : List OpV} {goal st : List Int} {d c j : Int} {us : List (List Int)} (h : RBOut n ops goal st d c j) (hn : us.Nodup) (ha : us.length = 2001) (hr : ∀ a ∈ us, Rch n ops st a) : d = 0 ∧ c = 10 ∧ j = -7 := by
  rcases h with ⟨_, _, ls, h1, h2⟩ | ⟨h1, _⟩
  · exact (h1.few h2 hn ha hr).elim
  · exact h1

end Go.Proofs.Ytihkgdlanfemcaa
