/-
  slices.Delete of one operator.
-/
import Derived.Test.YtiaokmofoaeifaaCp4
import Derived.Deep.RegionLaw
import Derived.Lib.SliceRun
import Derived.Lib.SlicesDelete
import Derived.Deep.LoopGhost
import Derived.Maps.AppendAt
namespace Go.Proofs.Ytiaokmofoaeifaa
open Go.RowKit
set_option linter.unusedVariables false
set_option linter.unusedSimpArgs false

open Go.Lib
/-- A list with news laid over it from place o on. -/
def over {α : Type} : List α → Nat → List α → List α
  | xs, _, [] => xs
  | xs, o, v :: r => over (xs.set o v) (o + 1) r
theorem over_len {α : Type} : ∀ (news xs : List α) (o : Nat), (over xs o news).length = xs.length
  | [], xs, o => rfl
  | v :: r, xs, o => by rw [over, over_len r, List.length_set]
theorem over_out {α : Type} : ∀ (news xs : List α) (o k : Nat), (k < o ∨ o + news.length ≤ k) → (over xs o news)[k]? = xs[k]?
  | [], xs, o, k, _ => rfl
  | v :: r, xs, o, k, h => by
    have h' : k < o ∨ o + (r.length + 1) ≤ k := by simpa using h
    rw [over, over_out r _ _ k (by omega), List.getElem?_set_ne (by omega)]
theorem over_in {α : Type} : ∀ (news xs : List α) (o k : Nat), k < news.length → o + k < xs.length → (over xs o news)[o + k]? = news[k]?
  | [], xs, o, k, h, _ => by simp at h
  | v :: r, xs, o, k, h, hl => by
    rw [over]
    cases k with
    | zero => rw [over_out r _ _ _ (Or.inl (by omega)), Nat.add_zero, List.getElem?_set_self (by omega)]; rfl
    | succ k =>
      rw [show o + (k + 1) = o + 1 + k by omega, over_in r _ _ k (by simpa using h) (by rw [List.length_set]; omega)]
      simp
theorem own_span {base n c g : Nat} {e : TypeId} {size : Nat} : ∀ (news : List Value) (o : Nat) (w : World) (xs : List Value), w.ownsRow base e size (.slice (some ⟨g, 0, none⟩) n c) n xs →
    (w.setCells g o news).ownsRow base e size (.slice (some ⟨g, 0, none⟩) n c) n (over xs o news) ∧ w.grownBy (w.setCells g o news) (some g)
  | [], o, w, xs, h => ⟨h, World.grownBy.refl _ _⟩
  | v :: r, o, w, xs, h => by
    have h1 := World.ownsRow.stored h o v
    have h2 := own_span r (o + 1) (w.setCell ⟨g, o, none⟩ v) (xs.set o v) h1.1
    exact ⟨h2.1, World.grownBy.trans h1.2 h2.2⟩
theorem own_shrink {base n m c g : Nat} {e : TypeId} {size : Nat} {w : World} {xs : List Value} (h : w.ownsRow base e size (.slice (some ⟨g, 0, none⟩) n c) n xs) (hm : m ≤ n) :
    w.ownsRow base e size (.slice (some ⟨g, 0, none⟩) m c) m (xs.take (m * size)) := by
  have hmul := Nat.mul_le_mul_right size hm
  refine ⟨by rw [List.length_take, h.1]; omega, ?_⟩
  rcases h.2 with ⟨h2, _⟩ | ⟨g', cap, cur, hv, hb, hg, h3, h4, h5, h6⟩
  · cases h2
  · injection hv with e1 e2 e3
    injection e1 with e1
    injection e1 with e1
    subst e1; subst e3
    refine Or.inr ⟨g, c, cur, rfl, hb, hg, by omega, h4, h5, ?_⟩
    rw [← h6, List.take_take, Nat.min_eq_left hmul]
/-- clear(s) of a slice of one element. -/
theorem run_clear_one (w : World) (t e ty : TypeId) (z : Value) (Z : List Value) (ht : Try.prog.underlying t = some (.slice e)) (hv : ∀ w, (zeroValue e).run Try.prog w = .ok z w) (hz : (Builtin.zeroCells z.cells 1).toList = Z) (h1 : ∀ v ∈ Z, v.oneCell' = true) (b o c : Nat)
    (hc : ∀ j, j < Z.length → (w.cell? ⟨b, o + j, none⟩).isSome = true) (hf : ∀ j, j < Z.length → w.frozen? ⟨b, o + j, none⟩ = false) :
    (Builtin.clear_ #[t] ty #[.slice (some ⟨b, o, none⟩) 1 c]).run Try.prog w = .ok (.tuple #[]) (w.setCells b o Z) := by
  have hst := run_storeCells_cells (P := Try.prog) b o Z 0 w (by simpa using hc) (by simpa using hf) h1
  simp only [Nat.add_zero] at hst
  simp [Builtin.clear_, run_underlying ht, hv, hz, hst]
theorem ops_one {B : Nat} {w : World} {row : Option Nat} {cells : List Value} {ops : List OpV} (hl : cells.length = ops.length * 4) (h2 : ∀ i a, ops[i]? = some a → POp B w row ((cells.drop (i * 4)).take 4) a) : ∀ u ∈ cells, u.oneCell' = true := fun u hu => by
  obtain ⟨k, hk, rfl⟩ := List.getElem_of_mem hu
  have hi : k / 4 < ops.length := by omega
  obtain ⟨A0, c0, A1, c1, A2, c2, e, _⟩ := h2 (k / 4) _ (List.getElem?_eq_getElem hi)
  have hw : ((cells.drop (k / 4 * 4)).take 4)[k % 4]? = some cells[k] := by
    rw [List.getElem?_take_of_lt (by omega), List.getElem?_drop, show k / 4 * 4 + k % 4 = k by omega, List.getElem?_eq_getElem hk]
  rw [e] at hw
  have h4 : k % 4 = 0 ∨ k % 4 = 1 ∨ k % 4 = 2 ∨ k % 4 = 3 := by omega
  rcases h4 with h | h | h | h <;> rw [h] at hw <;> simp at hw <;> rw [← hw] <;> rfl
theorem step_window {cells XS : List Value} {op m : Nat} (hl : cells.length = m * 4) (hop : op < m)
    (hX : ∀ k, k < (m - 1) * 4 → XS[k]? = if k < op * 4 then cells[k]? else cells[k + 4]?) (hXl : XS.length = (m - 1) * 4) (i : Nat) (hi : i < m - 1) :
    (XS.drop (i * 4)).take 4 = (cells.drop ((if i < op then i else i + 1) * 4)).take 4 := by
  apply List.ext_getElem?
  intro j
  by_cases hj : j < 4
  · rw [List.getElem?_take_of_lt hj, List.getElem?_take_of_lt hj, List.getElem?_drop, List.getElem?_drop, hX _ (by omega)]
    by_cases h : i < op
    · rw [if_pos (by omega), if_pos h]
    · rw [if_neg (by omega), if_neg h]
      congr 1
      omega
  · rw [List.getElem?_eq_none (by rw [List.length_take]; omega), List.getElem?_eq_none (by rw [List.length_take]; omega)]
theorem OwnOps.delete {base c g m op : Nat} {w w' : World} {ops : List OpV} {cells XS : List Value} (hm : ops.length = m) (hop : op < m)
    (h1 : w.ownsRow base 61 4 (.slice (some ⟨g, 0, none⟩) m c) m cells) (h2 : ∀ i a, ops[i]? = some a → POp base w (some g) ((cells.drop (i * 4)).take 4) a)
    (hX : ∀ k, k < (m - 1) * 4 → XS[k]? = if k < op * 4 then cells[k]? else cells[k + 4]?) (hO : w'.ownsRow base 61 4 (.slice (some ⟨g, 0, none⟩) (m - 1) c) (m - 1) XS) (hg : w.grownBy w' (some g)) :
    OwnOps base w' (.slice (some ⟨g, 0, none⟩) (m - 1) c) (ops.eraseIdx op) := by
  have hel : (ops.eraseIdx op).length = m - 1 := by rw [List.length_eraseIdx, if_pos (by omega), hm]
  refine ⟨XS, by rw [hel]; exact hO, fun i a ha => ?_⟩
  have hi : i < m - 1 := by
    have := (List.getElem?_eq_some_iff.1 ha).1
    omega
  rw [step_window h1.1 hop hX hO.1 i hi]
  refine ((pop_stable base).grown (h2 _ a ?_) hg).1
  rw [List.getElem?_eraseIdx] at ha
  by_cases h : i < op
  · rw [if_pos h] at ha ⊢; exact ha
  · rw [if_neg h] at ha ⊢; exact ha
set_option maxRecDepth 100000 in
set_option maxHeartbeats 2000000 in
theorem delete_any (w : World) (base c g m op : Nat) (cells : List Value) (h1 : w.ownsRow base 61 4 (.slice (some ⟨g, 0, none⟩) m c) m cells) (hone : ∀ u ∈ cells, u.oneCell' = true) (hop : op < m) :
    Calls Try.prog 60 #[.slice (some ⟨g, 0, none⟩) m c, .int .i64 (op : Int), .int .i64 ((op : Int) + 1)] w fun e w' => ∃ XS, e = .returned (.slice (some ⟨g, 0, none⟩) (m - 1) c) ∧ (∀ k, k < (m - 1) * 4 → XS[k]? = if k < op * 4 then cells[k]? else cells[k + 4]?) ∧ w'.ownsRow base 61 4 (.slice (some ⟨g, 0, none⟩) (m - 1) c) (m - 1) XS ∧ w.drew.grownBy w' (some g) := by
  obtain ⟨i0, hi0, hz⟩ := Option.map_eq_some_iff.1 info_op
  simp only [Prod.mk.injEq] at hz
  have t23 := Try.underlying23
  have vz : ∀ w, (zeroValue 61).run Try.prog w = .ok (.agg #[.slice none 0 0, .slice none 0 0, .slice none 0 0, .int .i64 0]) w := by intro w; exact Try.zeroValue61 w
  have hcl := h1.1
  have hmc : m ≤ c := by
    rcases h1.2 with ⟨h3, _⟩ | ⟨g', cap, cur, hv, hb, hg, h3, _⟩
    · cases h3
    · injection hv with e1 e2 e3; omega
  have hcm : c ≤ 9223372036854775807 := by
    rcases h1.2 with ⟨h3, _⟩ | ⟨g', cap, cur, hv, hb, hg, h3, h4, _⟩
    · cases h3
    · injection hv with e1 e2 e3; simp only [maxLen] at h4; omega
  have hcell : ∀ k, k < m * 4 → w.drew.cell? ⟨g, k, none⟩ = cells[k]? := fun k hk => World.ownsRow.cellAt h1 k (by omega)
  have hfree : ∀ k, w.drew.frozen? ⟨g, k, none⟩ = false := fun k => World.ownsRow.frozenAt h1 k
  have h1d : w.drew.ownsRow base 61 4 (.slice (some ⟨g, 0, none⟩) m c) m cells := World.ownsRow.drew h1
  obtain ⟨news, hnews⟩ : ∃ news, news = cells.drop ((op + 1) * 4) := ⟨_, rfl⟩
  have hlen : news.length = (m - (op + 1)) * 4 := by rw [hnews, List.length_drop, hcl]; omega
  obtain ⟨A, hA, hsrc⟩ : ∃ A : Addr, (if c = op + 1 then some (⟨g, 0, none⟩ : Addr) else some ⟨g, (op + 1) * 4, none⟩) = some A ∧ Hid (∀ t u, news[t]? = some u → w.drew.cell? (A.add t) = some u) := by
    by_cases h : c = op + 1
    · refine ⟨⟨g, 0, none⟩, by simp [h], fun t u hu => ?_⟩
      have h0 : news.length = 0 := by rw [hlen]; omega
      rw [List.length_eq_zero_iff.1 h0] at hu
      simp at hu
    · refine ⟨⟨g, (op + 1) * 4, none⟩, by simp [h], fun t u hu => ?_⟩
      have ht : t < (m - (op + 1)) * 4 := by
        have := (List.getElem?_eq_some_iff.1 hu).1
        rwa [hlen] at this
      rw [hnews, List.getElem?_drop] at hu
      rw [Addr.add_lit, hcell _ (by omega)]
      exact hu
  have s1 := Lib.hid hlen
  have s2 : Hid (∀ u ∈ news, u.oneCell' = true) := fun u hu => hone u (by rw [hnews] at hu; exact List.mem_of_mem_drop hu)
  have s3 : Hid (∀ t, t < news.length → (w.drew.cell? ⟨g, 0 + op * 4 + t, none⟩).isSome = true ∧ w.drew.frozen? ⟨g, 0 + op * 4 + t, none⟩ = false) := by
    intro t ht
    rw [hlen] at ht
    refine ⟨?_, hfree _⟩
    rw [hcell _ (by omega), List.getElem?_eq_getElem (by omega)]; rfl
  obtain ⟨W1, hW1⟩ : ∃ W1, W1 = w.drew.setCells g (0 + op * 4) news := ⟨_, rfl⟩
  have hs1 := own_span news (0 + op * 4) w.drew cells h1d
  rw [← hW1] at hs1
  have hs2 := own_span [.slice none 0 0, .slice none 0 0, .slice none 0 0, .int .i64 0] ((m - 1) * 4) W1 _ hs1.1
  have hcell1 : ∀ k, k < m * 4 → (W1.cell? ⟨g, k, none⟩).isSome = true := fun k hk => by
    rw [World.ownsRow.cellAt hs1.1 k hk, List.getElem?_eq_getElem (by rw [over_len]; omega)]; rfl
  have hfree1 : ∀ k, W1.frozen? ⟨g, k, none⟩ = false := fun k => World.ownsRow.frozenAt hs1.1 k
  have hclr : ∀ ty, (Builtin.clear_ #[23] ty #[.slice (some ⟨g, (m - 1) * 4, none⟩) 1 (c - (m - 1))]).run Try.prog W1 = .ok (.tuple #[]) (W1.setCells g ((m - 1) * 4) [.slice none 0 0, .slice none 0 0, .slice none 0 0, .int .i64 0]) :=
    fun ty => run_clear_one W1 _ _ ty _ [.slice none 0 0, .slice none 0 0, .slice none 0 0, .int .i64 0] t23 vz (by first | kernel_rfl | (simp [Builtin.zeroCells, Value.cells]; done) | (simp [Builtin.zeroCells, Value.cells, List.range_succ]; done)) (by intro v hv; simp at hv; rcases hv with rfl | rfl <;> rfl) g ((m - 1) * 4) _ (fun j hj => hcell1 _ (by simp at hj; omega)) (fun j hj => hfree1 _)
  have hXX : ∀ k, k < (m - 1) * 4 → ((over (over cells (0 + op * 4) news) ((m - 1) * 4) [.slice none 0 0, .slice none 0 0, .slice none 0 0, .int .i64 0]).take ((m - 1) * 4))[k]? = if k < op * 4 then cells[k]? else cells[k + 4]? := fun k hk => by
    rw [List.getElem?_take_of_lt hk, over_out _ _ _ _ (Or.inl hk)]
    by_cases h : k < op * 4
    · rw [if_pos h, over_out _ _ _ _ (Or.inl (by omega))]
    · rw [if_neg h, show k = (0 + op * 4) + (k - op * 4) by omega, over_in _ _ _ _ (by omega) (by omega), hnews, List.getElem?_drop]
      congr 1
      omega
  have hclr2 : ∀ ty, (Builtin.clear_ #[23] ty #[.slice (some ⟨g, (op + (m - (op + 1))) * 4, none⟩) (m - (op + (m - (op + 1)))) (c - (op + (m - (op + 1))))]).run Try.prog W1 = .ok (.tuple #[]) (W1.setCells g ((m - 1) * 4) [.slice none 0 0, .slice none 0 0, .slice none 0 0, .int .i64 0]) := by
    rw [show op + (m - (op + 1)) = m - 1 by omega, show m - (m - 1) = 1 by omega]; exact hclr
  clear hclr
  have hfin := own_shrink (m := m - 1) hs2.1 (by omega)
  have HXX := Lib.hid hXX
  have HFIN := Lib.hid hfin
  have HG := Lib.hid (World.grownBy.trans hs1.2 hs2.2)
  have hW : Hid (W1 = w.drew.setCells g (0 + op * 4) news) := Lib.hid hW1
  have hic : op ≤ c := by omega
  have hjc : op + 1 ≤ c := by omega
  have hjm : op + 1 ≤ m := by omega
  have hb0 : (0 : Int) ≤ (op : Int) + 1 := by omega
  have hb1 : (op : Int) + 1 ≤ (m : Int) := by omega
  have q1 : op + (m - (op + 1)) = m - 1 := by omega
  have q2 : m - (m - 1) = 1 := by omega
  have q3 : ¬ c = m - 1 := by omega
  have Q1 := Lib.hid q1
  have Q2 := Lib.hid q2
  clear hfin hXX hcell1 hfree1 hs1 hs2 hnews hlen hone hcell hfree h1 h1d hW1 q1 q2 hcl
  go_enter Try.func60, Try.ntmps60
  go_wp2_with fail
  go_region_law (refine step_append_room rfl (.tmp 22) (.tmp 25) 23 rfl 61 i0 4 t23 hi0 hz.2.1 g 0 op c (by simp [Act.eval, Act.put]) A (m - (op + 1)) (c - (op + 1)) news (by simp [Act.eval, Act.put, hA]) s1.out hsrc.out s2.out (by omega) s3.out ?_; rw [← hW.out])
  go_wp2
  go_ret
  exact ⟨_, by rw [Q1.out]; rfl, HXX.out, HFIN.out, HG.out⟩


end Go.Proofs.Ytiaokmofoaeifaa
