/-
  slices.Sort, slices.Compact over an own row of integers.
  The library's slices.Sort and slices.Compact, laid over this program.
  strips.Contains: whether a set lies in another one.
  strips.Update: what it returns.
-/
import Derived.Test.YtkepfmglljkjhaaMA
import Derived.Shelf.Sort.Plain
import Derived.Shelf.Slices.CompactI
import Derived.Shelf.Slices.In.SortNone
import Derived.Sort.OwnSortedInts
import Derived.Test.YtkepfmglljkjhaaChecked
import Derived.Test.YtkepfmglljkjhaaMB
import Derived.Test.YtkepfmglljkjhaaMC
import Derived.Test.YtkepfmglljkjhaaMF
namespace Go.Proofs.Ytkepfmglljkjhaa
open Go.RowKit Go.Shelf Go.Sort
set_option linter.unusedVariables false
set_option linter.unusedSimpArgs false

/-! ### What they compute -/
def sortV (l : List Int) : List Int := l.mergeSort fun x y => decide (x ≤ y)
theorem sortV_mem {l : List Int} {x : Int} : x ∈ sortV l ↔ x ∈ l := by unfold sortV; exact List.mem_mergeSort
theorem sortV_len (l : List Int) : (sortV l).length = l.length := by unfold sortV; exact List.length_mergeSort _
theorem sortV_le (l : List Int) : (sortV l).Pairwise (· ≤ ·) := by
  have h := List.pairwise_mergeSort (le := fun x y : Int => decide (x ≤ y)) (fun a b c h1 h2 => by simp at *; omega) (fun a b => by simp; omega) l
  unfold sortV
  exact h.imp (fun h => by simpa using h)
theorem compactTo {l : List Int} (h : l.Pairwise (· ≤ ·)) : ∀ m, m ≤ l.length → (Lib.compactUpTo l.toArray m).Pairwise (· < ·) ∧ (∀ x, x ∈ Lib.compactUpTo l.toArray m ↔ x ∈ l.take m) := by
  intro m
  induction m with
  | zero => intro _; exact ⟨by simp [Lib.compactUpTo], by simp [Lib.compactUpTo]⟩
  | succ m ih =>
    intro hm
    obtain ⟨h1, h2⟩ := ih (by omega)
    have hlt : m < l.length := by omega
    have hg : l.toArray[m]! = l[m] := by rw [getElem!_pos _ m (by simpa using hlt)]; simp
    have ht : l.take (m + 1) = l.take m ++ [l[m]] := by rw [List.take_add_one, List.getElem?_eq_getElem hlt]; rfl
    rw [Lib.compactUpTo_succ, ht]
    by_cases hk : Lib.keeps l.toArray m = true
    · rw [if_pos hk, hg]
      refine ⟨?_, fun x => by rw [List.mem_append, List.mem_append, h2]⟩
      rw [List.pairwise_append]
      refine ⟨h1, by simp, fun a ha b hb => ?_⟩
      rw [List.mem_singleton.1 hb]
      have ha' := (h2 a).1 ha
      obtain ⟨i, hi, rfl⟩ := List.getElem_of_mem ha'
      rw [List.length_take] at hi
      rw [List.getElem_take]
      have hle : ∀ i j (hi : i < l.length) (hj : j < l.length), i < j → l[i] ≤ l[j] := fun i j hi hj hij => List.pairwise_iff_getElem.1 h i j hi hj hij
      unfold Lib.keeps at hk
      simp only [decide_eq_true_eq] at hk
      rcases hk with hk | hk
      · omega
      · rw [hg, getElem!_pos _ (m - 1) (by simp; omega)] at hk
        have hk' : l[m] ≠ l[m - 1] := by simpa using hk
        have h3 := hle (m - 1) m (by omega) hlt (by omega)
        rcases Nat.lt_or_ge i (m - 1) with h5 | h5
        · have h4 := hle i (m - 1) (by omega) (by omega) h5
          omega
        · have h6 : i = m - 1 := by omega
          subst h6; omega
    · rw [if_neg hk, List.append_nil]
      refine ⟨h1, fun x => ?_⟩
      rw [h2, List.mem_append, List.mem_singleton]
      constructor
      · exact .inl
      · rintro (hx | rfl)
        · exact hx
        · unfold Lib.keeps at hk
          simp only [decide_eq_true_eq, not_or, Classical.not_not] at hk
          obtain ⟨hk0, hk⟩ := hk
          rw [hg, getElem!_pos _ (m - 1) (by simp; omega)] at hk
          have hk' : l[m] = l[m - 1] := by simpa using hk
          rw [hk']
          refine List.mem_of_getElem? (i := m - 1) ?_
          rw [List.getElem?_take_of_lt (by omega), List.getElem?_eq_getElem (by omega)]
theorem compact_of {l : List Int} (h : l.Pairwise (· ≤ ·)) : (Lib.compact l).Pairwise (· < ·) ∧ ∀ x, x ∈ Lib.compact l ↔ x ∈ l := by
  obtain ⟨h1, h2⟩ := compactTo h l.length (Nat.le_refl _)
  unfold Lib.compact
  exact ⟨h1, fun x => by rw [h2, List.take_of_length_le (Nat.le_refl _)]⟩
theorem compact_len (l : List Int) : (Lib.compact l).length ≤ l.length := by
  unfold Lib.compact Lib.compactUpTo
  rw [List.length_map]
  exact Nat.le_trans (List.length_filter_le _ _) (by simp)

/-! ### Over an own row -/
theorem own_holds {w : World} {base g n cap : Nat} {xs : List Int} (h : OwnI base w (.slice (some ⟨g, 0, none⟩) n cap) xs) : Holds (Value.int .i64) w g 0 xs.toArray ∧ g < w.heap.size ∧ base ≤ g ∧ n = xs.length ∧ n ≤ cap ∧ cap ≤ maxLen ∧ ∃ cur e, w.heap[g]? = some (.cells cur e (0, 0)) := by
  unfold OwnI at h
  obtain ⟨h1, h2⟩ := h
  rcases h2 with ⟨h2, h4⟩ | ⟨g', cap', cur, hv, hb, hg, hn, hc, hs, ht⟩
  · cases h2
  · injection hv with e1 e2 e3
    injection e1 with e1
    injection e1 with e1
    subst e1; subst e3; subst e2
    have hlt : g < w.heap.size := by
      rcases Nat.lt_or_ge g w.heap.size with hl | hl
      · exact hl
      · rw [Array.getElem?_eq_none hl] at hg; cases hg
    refine ⟨holds_of_blockI hg (by simpa using ht), hlt, hb, by simp, by simpa using hn, hc, cur, _, hg⟩
theorem own_cut {w : World} {base g n cap k : Nat} {xs : List Int} (h : OwnI base w (.slice (some ⟨g, 0, none⟩) n cap) xs) (hk : k ≤ xs.length) : OwnI base w (.slice (some ⟨g, 0, none⟩) k cap) (xs.take k) := by
  unfold OwnI at h ⊢
  obtain ⟨h1, h2⟩ := h
  rcases h2 with ⟨h2, h4⟩ | ⟨g', cap', cur, hv, hb, hg, hn, hc, hs, ht⟩
  · cases h2
  · injection hv with e1 e2 e3
    injection e1 with e1
    injection e1 with e1
    subst e1; subst e3; subst e2
    have hl : (xs.take k).length = k := by rw [List.length_take]; omega
    refine ⟨by rw [List.length_map, Nat.mul_one], .inr ⟨g, cap, cur, by rw [hl], hb, hg, by omega, hc, hs, ?_⟩⟩
    rw [Nat.mul_one] at ht ⊢
    rw [hl, List.map_take, ← ht, List.take_take]
    congr 1
    omega
/-- A row with other numbers laid on it, in a world that has drawn and grown. -/
theorem own_put {w : World} {base g n cap m : Nat} {xs ts : List Int} {os : Array Obj} (h : OwnI base w (.slice (some ⟨g, 0, none⟩) n cap) xs) (hl : ts.length = xs.length) :
    OwnI base (grow (putRow (Value.int .i64) (Sort.ahead w m) g 0 ts.toArray) os) (.slice (some ⟨g, 0, none⟩) n cap) ts ∧ w.grownBy (grow (putRow (Value.int .i64) (Sort.ahead w m) g 0 ts.toArray) os) (some g) := by
  unfold OwnI at h ⊢
  obtain ⟨h1, h2⟩ := h
  rcases h2 with ⟨h2, h4⟩ | ⟨g', cap', cur, hv, hb, hg, hn, hc, hs, ht⟩
  · cases h2
  · injection hv with e1 e2 e3
    injection e1 with e1
    injection e1 with e1
    subst e1; subst e3; subst e2
    have h5 := ownsRow_sortedI (w := w) (base := base) (os := os) (n := m) (cur := cur) hl hb hg hn hc hs
    exact ⟨by rw [hl]; exact h5, grownBy_sortedI _⟩
theorem own_put' {w : World} {base g n cap m : Nat} {xs ts : List Int} (h : OwnI base w (.slice (some ⟨g, 0, none⟩) n cap) xs) (hl : ts.length = xs.length) :
    OwnI base (putRow (Value.int .i64) (Sort.ahead w m) g 0 ts.toArray) (.slice (some ⟨g, 0, none⟩) n cap) ts ∧ w.grownBy (putRow (Value.int .i64) (Sort.ahead w m) g 0 ts.toArray) (some g) := by
  have := own_put (os := #[]) (m := m) h hl
  rwa [grow_empty] at this
section
variable {P : Program} {ρ ρ' : Ren}
theorem sort_own (Ly : Lays.n189 P ρ) {w0 w : World} {base : Nat} {v : Value} {xs : List Int} (h : OwnI base w v xs) (h0 : w0.heap.size ≤ base) (hB : Below w0.heap.size w0 w) (hl : xs.length ≤ 1000000000000) :
    Calls P (ρ.f 189) #[v] w fun e w' => e = .returned (.tuple #[]) ∧ OwnI base w' v (sortV xs) ∧ Below w0.heap.size w0 w' := by
  obtain ⟨A, c, rfl, -⟩ := h.form
  cases A with
  | none =>
    have hx : xs = [] := by
      cases xs with
      | nil => rfl
      | cons x xs =>
        unfold OwnI at h
        rcases h.2 with ⟨h2, h4⟩ | ⟨g', cap', cur, hv, _⟩
        · simp at h4
        · cases hv
    subst hx
    refine (Any.slices_Sort_int_none Ly none c w).mono ?_
    rintro e w' ⟨rfl, rfl⟩
    exact ⟨rfl, by unfold sortV; simpa using h, hB⟩
  | some ad =>
    have hf : ∃ g, ad = ⟨g, 0, none⟩ := by
      unfold OwnI at h
      rcases h.2 with ⟨h2, h4⟩ | ⟨g', cap', cur, hv, _⟩
      · cases h2
      · injection hv with e1 e2 e3
        injection e1 with e1
        exact ⟨g', e1⟩
    obtain ⟨g, rfl⟩ := hf
    obtain ⟨hH, hlt, hb, hn, hnc, hcm, _⟩ := own_holds h
    refine (Any.slices_Sort_int Ly g 0 c xs w hH hlt (by omega)).mono ?_
    rintro e w' ⟨rfl, m, os, rfl⟩
    obtain ⟨h5, h6⟩ := own_put (m := m) (os := os) (ts := sortV xs) h (sortV_len xs)
    exact ⟨rfl, h5, hB.grown h6 (by have := hB.size; omega) (fun k hk => by injection hk with hk; omega)⟩
theorem compact_own (Ly : Lays2.n20 P ρ) {w0 w : World} {base : Nat} {v : Value} {xs : List Int} (h : OwnI base w v xs) (h0 : w0.heap.size ≤ base) (hB : Below w0.heap.size w0 w) (hl : xs.length ≤ 1000000000000) :
    Calls P (ρ.f 20) #[v] w fun e w' => ∃ v', e = .returned v' ∧ OwnI base w' v' (Lib.compact xs) ∧ Below w0.heap.size w0 w' := by
  obtain ⟨A, c, rfl, -⟩ := h.form
  cases A with
  | none =>
    have hx : xs = [] := by
      cases xs with
      | nil => rfl
      | cons x xs =>
        unfold OwnI at h
        rcases h.2 with ⟨h2, h4⟩ | ⟨g', cap', cur, hv, _⟩
        · simp at h4
        · cases hv
    subst hx
    refine (Any.slices_Compact_int_empty Ly none c w).mono ?_
    rintro e w' ⟨rfl, rfl⟩
    exact ⟨_, rfl, by simpa [Lib.compact, Lib.compactUpTo] using h, hB⟩
  | some ad =>
    have hf : ∃ g, ad = ⟨g, 0, none⟩ := by
      unfold OwnI at h
      rcases h.2 with ⟨h2, h4⟩ | ⟨g', cap', cur, hv, _⟩
      · cases h2
      · injection hv with e1 e2 e3
        injection e1 with e1
        exact ⟨g', e1⟩
    obtain ⟨g, rfl⟩ := hf
    obtain ⟨hH, hlt, hb, hn, hnc, hcm, _⟩ := own_holds h
    refine (Any.slices_Compact_int Ly g 0 c xs w hH (by omega) (by omega)).mono ?_
    rintro e w' ⟨rfl, m, rfl⟩
    have hcl := compact_len xs
    obtain ⟨h5, h6⟩ := own_put' (m := m) (ts := Lib.compact xs ++ List.replicate (xs.length - (Lib.compact xs).length) 0) h (by simp; omega)
    refine ⟨_, rfl, ?_, hB.grown h6 (by have := hB.size; omega) (fun k hk => by injection hk with hk; omega)⟩
    have h7 := own_cut (k := (Lib.compact xs).length) h5 (by simp)
    rwa [List.take_left] at h7
end

end Go.Proofs.Ytkepfmglljkjhaa

namespace Go.Proofs.Ytkepfmglljkjhaa
open Go.Shelf
def lays_sort_ren : Go.Shelf.Ren := ⟨fun | 0 => 0 | 1 => 1 | 2 => 2 | 347 => 59 | 348 => 60 | 349 => 61 | 350 => 62 | 351 => 63 | 352 => 64 | 353 => 65 | 354 => 66 | 355 => 67 | 356 => 68 | 357 => 69 | 358 => 70 | 359 => 71 | 360 => 72 | 361 => 73 | 366 => 74 | n => n, fun | 0 => 0 | 1 => 1 | 2 => 2 | 3 => 3 | 4 => 4 | 5 => 5 | 6 => 6 | 7 => 7 | 8 => 8 | 9 => 9 | 10 => 10 | 11 => 11 | 12 => 12 | 13 => 13 | 14 => 14 | 15 => 15 | 16 => 16 | 17 => 17 | 18 => 18 | 19 => 19 | 20 => 20 | 21 => 21 | 28 => 23 | 43 => 63 | 51 => 90 | 80 => 83 | 81 => 89 | 112 => 67 | 127 => 94 | 164 => 99 | 238 => 84 | 239 => 85 | 240 => 86 | 241 => 87 | 242 => 88 | 243 => 91 | 244 => 92 | 245 => 93 | 246 => 95 | 247 => 96 | 248 => 97 | 249 => 98 | n => n, fun n => n⟩
def lays_compact_ren : Go.Shelf.Ren := ⟨fun | 0 => 0 | 1 => 1 | 2 => 2 | 40 => 59 | 41 => 60 | 42 => 61 | 43 => 62 | 44 => 63 | 45 => 64 | 46 => 65 | 47 => 66 | 48 => 67 | 49 => 68 | 50 => 69 | 51 => 70 | 52 => 71 | 53 => 72 | 54 => 73 | 55 => 74 | n => n, fun | 0 => 0 | 1 => 1 | 2 => 2 | 3 => 3 | 4 => 4 | 5 => 5 | 6 => 6 | 7 => 7 | 8 => 8 | 9 => 9 | 10 => 10 | 11 => 11 | 12 => 12 | 13 => 13 | 14 => 14 | 15 => 15 | 16 => 16 | 17 => 17 | 18 => 18 | 19 => 19 | 20 => 20 | 21 => 21 | 22 => 23 | 23 => 38 | 41 => 67 | 46 => 83 | 47 => 84 | 48 => 85 | 49 => 86 | 50 => 87 | 51 => 88 | 52 => 89 | 53 => 90 | 54 => 91 | 55 => 92 | 56 => 93 | 57 => 94 | 58 => 95 | 59 => 96 | 60 => 97 | 61 => 98 | 62 => 99 | n => n, fun n => n⟩
end Go.Proofs.Ytkepfmglljkjhaa

namespace Go.Proofs.Ytkepfmglljkjhaa
open Go.RowKit
set_option linter.unusedVariables false
set_option linter.unusedSimpArgs false

theorem sorted_lt {l : List Int} (h : l.Pairwise (· < ·)) {i j : Nat} {x y : Int} (hi : l[i]? = some x) (hj : l[j]? = some y) (hij : i < j) : x < y := by
  obtain ⟨a1, rfl⟩ := List.getElem?_eq_some_iff.1 hi
  obtain ⟨a2, rfl⟩ := List.getElem?_eq_some_iff.1 hj
  exact List.pairwise_iff_getElem.1 h i j a1 a2 hij
end Go.Proofs.Ytkepfmglljkjhaa

namespace Go.Proofs.Ytkepfmglljkjhaa
open Go.RowKit
set_option linter.unusedVariables false
set_option linter.unusedSimpArgs false

/-- What Update returns. -/
def updV (s add del : List Int) : List Int := Go.Lib.compact (sortV (s.filter (fun x => !decide (x ∈ del)) ++ add))
theorem updV_mem {s add del : List Int} {x : Int} : x ∈ updV s add del ↔ x ∈ add ∨ (x ∈ s ∧ x ∉ del) := by
  unfold updV
  rw [(compact_of (sortV_le _)).2, sortV_mem, List.mem_append, List.mem_filter]
  simp only [Bool.not_eq_true', decide_eq_false_iff_not]
  exact or_comm
theorem updV_lt (s add del : List Int) : (updV s add del).Pairwise (· < ·) := (compact_of (sortV_le _)).1
theorem updV_next {n : Nat} {s : List Int} {o : OpV} (hs : ∀ x ∈ s, 0 ≤ x ∧ x < (n : Int)) (ha : ∀ x ∈ o.add, 0 ≤ x ∧ x < (n : Int)) : updV s o.add o.del = nextV n s o := nextV_eq hs ha (updV_lt _ _ _) (fun x => updV_mem)
theorem filterNot_yes {del l : List Int} {k : Nat} {x : Int} (hx : l[k]? = some x) (h : decide (x ∈ del) = true) : (l.take (k + 1)).filter (fun x => !decide (x ∈ del)) = (l.take k).filter (fun x => !decide (x ∈ del)) := by
  rw [List.take_add_one, hx, List.filter_append]
  simp [of_decide_eq_true h]
theorem filterNot_no {del l : List Int} {k : Nat} {x : Int} (hx : l[k]? = some x) (h : decide (x ∈ del) = false) : (l.take k).filter (fun x => !decide (x ∈ del)) ++ [x] = (l.take (k + 1)).filter (fun x => !decide (x ∈ del)) := by
  rw [List.take_add_one, hx, List.filter_append]
  simp [of_decide_eq_false h]
end Go.Proofs.Ytkepfmglljkjhaa
