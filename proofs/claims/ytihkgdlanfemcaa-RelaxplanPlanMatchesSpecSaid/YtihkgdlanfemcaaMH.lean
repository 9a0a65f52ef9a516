/-
  landmark.Achievers: what it returns.
  landmark.Orders: what it returns.
  two(true), landmarkExample: what they return.
-/
import Derived.Test.YtihkgdlanfemcaaMG
import Derived.Test.YtihkgdlanfemcaaMA
import Derived.Test.YtihkgdlanfemcaaMF
namespace Go.Proofs.Ytihkgdlanfemcaa
open Go.RowKit
set_option linter.unusedVariables false
set_option linter.unusedSimpArgs false

theorem OwnLL.drew {base : Nat} {w : World} {v : Value} {rows : List (List Int)} (h : OwnLL base w v rows) : OwnLL base w.drew v rows := h.below (bdrew (Below.refl _ _))
theorem OwnPP.drew {base : Nat} {w : World} {v : Value} {ps : List (Int × Int)} (h : OwnPP base w v ps) : OwnPP base w.drew v ps := h.below (bdrew (Below.refl _ _))
/-- Operator i can make the fact p true for the first time. -/
def AchP (t : TaskV) (p : Int) (i : Nat) : Prop := ∃ o, t.ops[i]? = some o ∧ ¬ p ∈ t.init ∧ p ∈ o.add ∧ ∀ q ∈ o.pre, Reach t.init t.ops (useNot t.ops p) q
noncomputable def achTo (t : TaskV) (p : Int) (k : Nat) : List Int := ((List.range k).filter fun (i : Nat) => @decide (AchP t p i) (Classical.propDecidable _)).map fun (i : Nat) => (i : Int)
noncomputable def achV (t : TaskV) (p : Int) : List Int := achTo t p t.ops.length
theorem achTo_len (t : TaskV) (p : Int) (k : Nat) : (achTo t p k).length ≤ k := by
  unfold achTo
  rw [List.length_map]
  exact Nat.le_trans (List.length_filter_le _ _) (by simp)
theorem achTo_yes {t : TaskV} {p : Int} {k : Nat} (h : AchP t p k) : achTo t p k ++ [(k : Int)] = achTo t p (k + 1) := by
  unfold achTo
  rw [List.range_succ, List.filter_append, List.map_append]
  simp [h]
theorem achTo_no {t : TaskV} {p : Int} {k : Nat} (h : ¬ AchP t p k) : achTo t p (k + 1) = achTo t p k := by
  unfold achTo
  rw [List.range_succ, List.filter_append, List.map_append]
  simp [h]
end Go.Proofs.Ytihkgdlanfemcaa

namespace Go.Proofs.Ytihkgdlanfemcaa
open Go.RowKit
set_option linter.unusedVariables false
set_option linter.unusedSimpArgs false

/-- The landmark q is not reached ahead of p. -/
def OrdP (t : TaskV) (p q : Int) : Prop := ¬ q = p ∧ ¬ Reach t.init t.ops (useNot t.ops p) q
open Classical in
noncomputable def ordPart (t : TaskV) (p : Int) (l : List Int) : List (Int × Int) := (l.filter fun q => decide (OrdP t p q)).map fun q => (p, q)
open Classical in
noncomputable def ordRow (t : TaskV) (l : List Int) (p : Int) : List (Int × Int) := if p ∈ t.init then [] else ordPart t p l
noncomputable def ordTo (t : TaskV) (l : List Int) (k : Nat) : List (Int × Int) := (l.take k).flatMap (ordRow t l)
noncomputable def ordV (n : Nat) (t : TaskV) : List (Int × Int) := (landV n t).flatMap (ordRow t (landV n t))
theorem ordPart_yes {t : TaskV} {p q : Int} {l : List Int} {j : Nat} (hq : l[j]? = some q) (h : OrdP t p q) : ordPart t p (l.take j) ++ [(p, q)] = ordPart t p (l.take (j + 1)) := by
  unfold ordPart
  rw [List.take_add_one, hq, Option.toList, List.filter_append, List.map_append]
  simp [h]
theorem ordPart_no {t : TaskV} {p q : Int} {l : List Int} {j : Nat} (hq : l[j]? = some q) (h : ¬ OrdP t p q) : ordPart t p (l.take (j + 1)) = ordPart t p (l.take j) := by
  unfold ordPart
  rw [List.take_add_one, hq, Option.toList, List.filter_append, List.map_append]
  simp [h]
theorem ordTo_init {t : TaskV} {p : Int} {l : List Int} {k : Nat} (hp : l[k]? = some p) (h : p ∈ t.init) : ordTo t l (k + 1) = ordTo t l k := by
  unfold ordTo
  rw [List.take_add_one, hp, Option.toList, List.flatMap_append]
  simp [ordRow, h]
theorem ordTo_succ {t : TaskV} {p : Int} {l : List Int} {k : Nat} (hp : l[k]? = some p) (h : ¬ p ∈ t.init) : ordTo t l k ++ ordPart t p l = ordTo t l (k + 1) := by
  unfold ordTo
  rw [List.take_add_one, hp, Option.toList, List.flatMap_append]
  simp [ordRow, h]
theorem ordPart_len (t : TaskV) (p : Int) (l : List Int) : (ordPart t p l).length ≤ l.length := by
  unfold ordPart
  rw [List.length_map]
  exact List.length_filter_le _ _
theorem ordTo_len (t : TaskV) (l : List Int) (k : Nat) : (ordTo t l k).length ≤ k * l.length := by
  induction k with
  | zero => simp [ordTo]
  | succ k ih =>
    rcases Nat.lt_or_ge k l.length with h | h
    · have hp := List.getElem?_eq_getElem h
      by_cases hi : l[k] ∈ t.init
      · rw [ordTo_init hp hi, Nat.succ_mul]; omega
      · rw [← ordTo_succ hp hi, List.length_append, Nat.succ_mul]
        have := ordPart_len t l[k] l
        omega
    · have : ordTo t l (k + 1) = ordTo t l k := by unfold ordTo; rw [List.take_of_length_le (by omega), List.take_of_length_le (by omega)]
      rw [this, Nat.succ_mul]; omega
end Go.Proofs.Ytihkgdlanfemcaa

namespace Go.Proofs.Ytihkgdlanfemcaa
open Go.RowKit
set_option linter.unusedVariables false
set_option linter.unusedSimpArgs false

set_option maxRecDepth 100000 in
set_option maxHeartbeats 1000000 in
theorem two_yes (w : World)  :
    Calls Try.prog 67 #[.bool true] w fun e w' => ∃ g h, e = .returned (.agg #[.int .i64 2, .slice none 0 0, .slice (some ⟨g, 0, none⟩) 1 1, .slice (some ⟨h, 0, none⟩) 2 2]) ∧ TaskMem w' none (some ⟨g, 0, none⟩) (some ⟨h, 0, none⟩) chainV ∧ Below w.heap.size w w' := by
  go_enter Try.func67, Try.ntmps67
  go_wp2
  refine bodyPost_ret (v := .agg #[.int .i64 2, .slice none 0 0, .slice (some ⟨w.heap.size + 1 + 1 + 1 + 1 + 1 + 1 + 1, 0, none⟩) 1 1, .slice (some ⟨w.heap.size + 1 + 1 + 1 + 1, 0, none⟩) 2 2]) ?_ rfl ⟨_, _, rfl, ?_, by repeat (first | with_reducible exact Below.refl _ _ | with_reducible apply bdrew | with_reducible apply bdrewN | with_reducible apply balloc | ((with_reducible refine bset ?_ ?_ _); rotate_left; (first | omega | (simp <;> omega))))⟩
  · simp [results, Try.results67, go_sem]
  · refine ⟨Ints.nil _ _, ints_one ?_, ops_two (A0 := none) (c0 := 0) (A1 := some ⟨w.heap.size + 1 + 1, 0, none⟩) (c1 := 1) (A2 := none) (c2 := 0) (B0 := some ⟨w.heap.size + 1 + 1 + 1 + 1 + 1 + 1, 0, none⟩) (d0 := 1) (B1 := some ⟨w.heap.size + 1 + 1 + 1, 0, none⟩) (d1 := 1) (B2 := none) (d2 := 0) ?_ ?_ ?_ ?_ ⟨Ints.nil _ _, ints_one ?_, Ints.nil _ _, by simp [lenOk], by simp [lenOk], by simp [lenOk]⟩ ?_ ?_ ?_ ?_ ⟨ints_one ?_, ints_one ?_, Ints.nil _ _, by simp [lenOk], by simp [lenOk], by simp [lenOk]⟩, by simp [lenOk, chainV], by simp [lenOk, chainV], by simp [lenOk, chainV]⟩
    all_goals simp [go_sem]

theorem eq_pair (a b c d : Int) (w : World) : (Op.equalIn 10000 39 (.agg #[.int .i64 a, .int .i64 b]) (.agg #[.int .i64 c, .int .i64 d])).run Try.prog w = .ok (a == c && b == d) w := by
  have u3 := Try.underlying3
  have a3 := Try.isAgg3
  have z3 := Try.sizeOf3
  rw [show (10000 : Nat) = 9999 + 1 from rfl, Op.equalIn]
  simp only [Sem.run_bind, run_underlying Try.underlying39, Result.andThen_ok]
  simp only [Std.Legacy.Range.forIn_eq_forIn_range', Std.Legacy.Range.size, Nat.sub_zero, Nat.add_sub_cancel, Nat.div_one, List.range'_succ, List.range'_zero, List.forIn_cons, List.forIn_nil]
  go_simp
  by_cases h1 : a = c <;> by_cases h2 : b = d <;> simp [h1, h2]
theorem chain_valid : Valid chainV := by
  refine ⟨by decide, by decide, SetP.nil _, ?_, by decide, ?_⟩
  · exact SetP.of_pairwise (by simp [chainV]) (by simp [chainV])
  · intro o ho
    simp only [chainV, List.mem_cons, List.not_mem_nil, or_false] at ho
    rcases ho with rfl | rfl
    · exact ⟨⟨SetP.nil _, SetP.of_pairwise (by simp [chainV]) (by simp), SetP.nil _, by simp⟩, by decide, by decide⟩
    · exact ⟨⟨SetP.of_pairwise (by simp [chainV]) (by simp), SetP.of_pairwise (by simp [chainV]) (by simp), SetP.nil _, by simp⟩, by decide, by decide⟩
theorem chain_no0 {q : Int} (h : Reach [] chainV.ops (useNot chainV.ops 0) q) : False := by
  induction h with
  | init h => simp at h
  | @step p i o ho hu hq hp ih =>
    match i with
    | 0 => cases ho; simp [useNot, chainV] at hu
    | 1 => cases ho; exact ih 0 (by simp)
    | i + 2 => simp [chainV] at ho
theorem chain_no1 {q : Int} (h : Reach [] chainV.ops (useNot chainV.ops 1) q) : q = 0 := by
  induction h with
  | init h => simp at h
  | @step p i o ho hu hq hp ih =>
    match i with
    | 0 => cases ho; simpa using hp
    | 1 => cases ho; simp [useNot, chainV] at hu
    | i + 2 => simp [chainV] at ho
theorem chain_yes1 : Reach [] chainV.ops (useNot chainV.ops 1) 0 := .step (i := 0) (o := ⟨[], [0], [], 2⟩) rfl (by simp [useNot, chainV]) (by simp) (by simp)
theorem chain_land : landV 2 chainV = [0, 1] := by
  refine SetP.ext landV_set (SetP.of_pairwise (n := 2) (by simp) (by simp)) fun x => ?_
  rw [landV_mem]
  constructor
  · rintro ⟨h0, h1, _⟩
    have : x = 0 ∨ x = 1 := by omega
    simpa using this
  · intro h
    have hx : x = 0 ∨ x = 1 := by simpa using h
    rcases hx with rfl | rfl
    · exact ⟨by decide, by decide, .inr fun h => chain_no0 (h 1 (by simp [chainV]))⟩
    · exact ⟨by decide, by decide, .inr fun h => by have := chain_no1 (h 1 (by simp [chainV])); omega⟩
theorem chain_ach : achV chainV 1 = [1] := by
  have h0 : ¬ AchP chainV 1 0 := fun ⟨o, h1, _, h3, _⟩ => by cases h1; simp at h3
  have h1 : AchP chainV 1 1 := ⟨_, rfl, by simp [chainV], by simp, fun q hq => by simp at hq; subst hq; exact chain_yes1⟩
  show achTo chainV 1 (1 + 1) = [1]
  rw [← achTo_yes h1, show (1 : Nat) = 0 + 1 from rfl, achTo_no h0]
  rfl
theorem chain_ord : ordV 2 chainV = [(0, 1)] := by
  unfold ordV
  rw [chain_land]
  have h01 : OrdP chainV 0 1 := ⟨by decide, fun h => chain_no0 h⟩
  have h00 : ¬ OrdP chainV 0 0 := fun h => h.1 rfl
  have h10 : ¬ OrdP chainV 1 0 := fun h => h.2 chain_yes1
  have h11 : ¬ OrdP chainV 1 1 := fun h => h.1 rfl
  have e : ∀ p : Int, ¬ p ∈ chainV.init := fun p => by simp [chainV]
  simp [ordRow, e, ordPart, h01, h00, h10, h11]
end Go.Proofs.Ytihkgdlanfemcaa
