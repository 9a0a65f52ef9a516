/-
  slices.Sort, slices.Compact over an own row of integers.
  The library's slices.Sort and slices.Compact, laid over this program.
  strips.Contains: whether a set lies in another one.
  strips.Update: what it returns.
  strips.Can, Next, Steps, PlanFault; R.StepsFault, R.PlanFault: what they return.
  Several own rows side by side; the states that are reached from a state: plain and in memory.
  hitting.validate: the fault of sets and costs.
  The least cost of a relaxed plan, by the states in the order of their bits: plain.
  Several own rows of integers; the costs of states: plain.
  The values of relaxed.Max exist for every state and are a lower bound of costs: plain.
  Tables of values: as functions, in memory, and what lowering a value does.
  pairs: the greatest value of a set, lowering a value: what they return.
  strips.Union, Contains of one element; pairs: use: what they return.
  pairs: find: what it returns.
  pairs.Values, Goal, Exclusive: what they return.
-/
import Derived.Test.YtihkgdlanfemcaaY1
import Derived.Test.YtihkgdlanfemcaaChecked
import Derived.Test.YtihkgdlanfemcaaY2
import Derived.Test.YtihkgdlanfemcaaY8
import Derived.Shelf.Sort.Plain
import Derived.Shelf.Slices.CompactI
import Derived.Shelf.Slices.In.SortNone
import Derived.Sort.OwnSortedInts
import Derived.Test.YtihkgdlanfemcaaY7
import Derived.Test.YtihkgdlanfemcaaY5
import Derived.Test.YtihkgdlanfemcaaY15
namespace Go.Proofs.Ytihkgdlanfemcaa
open Go.RowKit Go.Shelf Go.Sort
set_option linter.unusedVariables false
set_option linter.unusedSimpArgs false

/-! ### What they compute -/
def sortV (l : List Int) : List Int := l.mergeSort fun x y => decide (x ≤ y)
theorem sortV_mem {l : List Int} {x : Int} : x ∈ sortV l ↔ x ∈ l := by unfold sortV; exact List.mem_mergeSort
theorem sortV_len (l : List Int) : (sortV l).length = l.length := by unfold sortV; exact List.length_mergeSort _
theorem sortV_le (l : List Int) : (sortV l).Pairwise (· ≤ ·) := by
  have h := List.pairwise_mergeSort (le := fun x y : Int => decide (x ≤ y)) (fun a b c h1 h2 => by simp at *; omega) (fun a b => by simp; omega) l
  unfold sortV
  exact h.imp (fun h => by simpa using h)
theorem compactTo {l : List Int} (h : l.Pairwise (· ≤ ·)) : ∀ m, m ≤ l.length → (Lib.compactUpTo l.toArray m).Pairwise (· < ·) ∧ (∀ x, x ∈ Lib.compactUpTo l.toArray m ↔ x ∈ l.take m) := by
  intro m
  induction m with
  | zero => intro _; exact ⟨by simp [Lib.compactUpTo], by simp [Lib.compactUpTo]⟩
  | succ m ih =>
    intro hm
    obtain ⟨h1, h2⟩ := ih (by omega)
    have hlt : m < l.length := by omega
    have hg : l.toArray[m]! = l[m] := by rw [getElem!_pos _ m (by simpa using hlt)]; simp
    have ht : l.take (m + 1) = l.take m ++ [l[m]] := by rw [List.take_add_one, List.getElem?_eq_getElem hlt]; rfl
    rw [Lib.compactUpTo_succ, ht]
    by_cases hk : Lib.keeps l.toArray m = true
    · rw [if_pos hk, hg]
      refine ⟨?_, fun x => by rw [List.mem_append, List.mem_append, h2]⟩
      rw [List.pairwise_append]
      refine ⟨h1, by simp, fun a ha b hb => ?_⟩
      rw [List.mem_singleton.1 hb]
      have ha' := (h2 a).1 ha
      obtain ⟨i, hi, rfl⟩ := List.getElem_of_mem ha'
      rw [List.length_take] at hi
      rw [List.getElem_take]
      have hle : ∀ i j (hi : i < l.length) (hj : j < l.length), i < j → l[i] ≤ l[j] := fun i j hi hj hij => List.pairwise_iff_getElem.1 h i j hi hj hij
      unfold Lib.keeps at hk
      simp only [decide_eq_true_eq] at hk
      rcases hk with hk | hk
      · omega
      · rw [hg, getElem!_pos _ (m - 1) (by simp; omega)] at hk
        have hk' : l[m] ≠ l[m - 1] := by simpa using hk
        have h3 := hle (m - 1) m (by omega) hlt (by omega)
        rcases Nat.lt_or_ge i (m - 1) with h5 | h5
        · have h4 := hle i (m - 1) (by omega) (by omega) h5
          omega
        · have h6 : i = m - 1 := by omega
          subst h6; omega
    · rw [if_neg hk, List.append_nil]
      refine ⟨h1, fun x => ?_⟩
      rw [h2, List.mem_append, List.mem_singleton]
      constructor
      · exact .inl
      · rintro (hx | rfl)
        · exact hx
        · unfold Lib.keeps at hk
          simp only [decide_eq_true_eq, not_or, Classical.not_not] at hk
          obtain ⟨hk0, hk⟩ := hk
          rw [hg, getElem!_pos _ (m - 1) (by simp; omega)] at hk
          have hk' : l[m] = l[m - 1] := by simpa using hk
          rw [hk']
          refine List.mem_of_getElem? (i := m - 1) ?_
          rw [List.getElem?_take_of_lt (by omega), List.getElem?_eq_getElem (by omega)]
theorem compact_of {l : List Int} (h : l.Pairwise (· ≤ ·)) : (Lib.compact l).Pairwise (· < ·) ∧ ∀ x, x ∈ Lib.compact l ↔ x ∈ l := by
  obtain ⟨h1, h2⟩ := compactTo h l.length (Nat.le_refl _)
  unfold Lib.compact
  exact ⟨h1, fun x => by rw [h2, List.take_of_length_le (Nat.le_refl _)]⟩
theorem compact_len (l : List Int) : (Lib.compact l).length ≤ l.length := by
  unfold Lib.compact Lib.compactUpTo
  rw [List.length_map]
  exact Nat.le_trans (List.length_filter_le _ _) (by simp)

/-! ### Over an own row -/
theorem own_holds {w : World} {base g n cap : Nat} {xs : List Int} (h : OwnI base w (.slice (some ⟨g, 0, none⟩) n cap) xs) : Holds (Value.int .i64) w g 0 xs.toArray ∧ g < w.heap.size ∧ base ≤ g ∧ n = xs.length ∧ n ≤ cap ∧ cap ≤ maxLen ∧ ∃ cur e, w.heap[g]? = some (.cells cur e (0, 0)) := by
  unfold OwnI at h
  obtain ⟨h1, h2⟩ := h
  rcases h2 with ⟨h2, h4⟩ | ⟨g', cap', cur, hv, hb, hg, hn, hc, hs, ht⟩
  · cases h2
  · injection hv with e1 e2 e3
    injection e1 with e1
    injection e1 with e1
    subst e1; subst e3; subst e2
    have hlt : g < w.heap.size := by
      rcases Nat.lt_or_ge g w.heap.size with hl | hl
      · exact hl
      · rw [Array.getElem?_eq_none hl] at hg; cases hg
    refine ⟨holds_of_blockI hg (by simpa using ht), hlt, hb, by simp, by simpa using hn, hc, cur, _, hg⟩
theorem own_cut {w : World} {base g n cap k : Nat} {xs : List Int} (h : OwnI base w (.slice (some ⟨g, 0, none⟩) n cap) xs) (hk : k ≤ xs.length) : OwnI base w (.slice (some ⟨g, 0, none⟩) k cap) (xs.take k) := by
  unfold OwnI at h ⊢
  obtain ⟨h1, h2⟩ := h
  rcases h2 with ⟨h2, h4⟩ | ⟨g', cap', cur, hv, hb, hg, hn, hc, hs, ht⟩
  · cases h2
  · injection hv with e1 e2 e3
    injection e1 with e1
    injection e1 with e1
    subst e1; subst e3; subst e2
    have hl : (xs.take k).length = k := by rw [List.length_take]; omega
    refine ⟨by rw [List.length_map, Nat.mul_one], .inr ⟨g, cap, cur, by rw [hl], hb, hg, by omega, hc, hs, ?_⟩⟩
    rw [Nat.mul_one] at ht ⊢
    rw [hl, List.map_take, ← ht, List.take_take]
    congr 1
    omega
/-- A row with other numbers laid on it, in a world that has drawn and grown. -/
theorem own_put {w : World} {base g n cap m : Nat} {xs ts : List Int} {os : Array Obj} (h : OwnI base w (.slice (some ⟨g, 0, none⟩) n cap) xs) (hl : ts.length = xs.length) :
    OwnI base (grow (putRow (Value.int .i64) (Sort.ahead w m) g 0 ts.toArray) os) (.slice (some ⟨g, 0, none⟩) n cap) ts ∧ w.grownBy (grow (putRow (Value.int .i64) (Sort.ahead w m) g 0 ts.toArray) os) (some g) := by
  unfold OwnI at h ⊢
  obtain ⟨h1, h2⟩ := h
  rcases h2 with ⟨h2, h4⟩ | ⟨g', cap', cur, hv, hb, hg, hn, hc, hs, ht⟩
  · cases h2
  · injection hv with e1 e2 e3
    injection e1 with e1
    injection e1 with e1
    subst e1; subst e3; subst e2
    have h5 := ownsRow_sortedI (w := w) (base := base) (os := os) (n := m) (cur := cur) hl hb hg hn hc hs
    exact ⟨by rw [hl]; exact h5, grownBy_sortedI _⟩
theorem own_put' {w : World} {base g n cap m : Nat} {xs ts : List Int} (h : OwnI base w (.slice (some ⟨g, 0, none⟩) n cap) xs) (hl : ts.length = xs.length) :
    OwnI base (putRow (Value.int .i64) (Sort.ahead w m) g 0 ts.toArray) (.slice (some ⟨g, 0, none⟩) n cap) ts ∧ w.grownBy (putRow (Value.int .i64) (Sort.ahead w m) g 0 ts.toArray) (some g) := by
  have := own_put (os := #[]) (m := m) h hl
  rwa [grow_empty] at this
section
variable {P : Program} {ρ ρ' : Ren}
theorem sort_own (Ly : Lays.n189 P ρ) {w0 w : World} {base : Nat} {v : Value} {xs : List Int} (h : OwnI base w v xs) (h0 : w0.heap.size ≤ base) (hB : Below w0.heap.size w0 w) (hl : xs.length ≤ 1000000000000) :
    Calls P (ρ.f 189) #[v] w fun e w' => e = .returned (.tuple #[]) ∧ OwnI base w' v (sortV xs) ∧ Below w0.heap.size w0 w' := by
  obtain ⟨A, c, rfl, -⟩ := h.form
  cases A with
  | none =>
    have hx : xs = [] := by
      cases xs with
      | nil => rfl
      | cons x xs =>
        unfold OwnI at h
        rcases h.2 with ⟨h2, h4⟩ | ⟨g', cap', cur, hv, _⟩
        · simp at h4
        · cases hv
    subst hx
    refine (Any.slices_Sort_int_none Ly none c w).mono ?_
    rintro e w' ⟨rfl, rfl⟩
    exact ⟨rfl, by unfold sortV; simpa using h, hB⟩
  | some ad =>
    have hf : ∃ g, ad = ⟨g, 0, none⟩ := by
      unfold OwnI at h
      rcases h.2 with ⟨h2, h4⟩ | ⟨g', cap', cur, hv, _⟩
      · cases h2
      · injection hv with e1 e2 e3
        injection e1 with e1
        exact ⟨g', e1⟩
    obtain ⟨g, rfl⟩ := hf
    obtain ⟨hH, hlt, hb, hn, hnc, hcm, _⟩ := own_holds h
    refine (Any.slices_Sort_int Ly g 0 c xs w hH hlt (by omega)).mono ?_
    rintro e w' ⟨rfl, m, os, rfl⟩
    obtain ⟨h5, h6⟩ := own_put (m := m) (os := os) (ts := sortV xs) h (sortV_len xs)
    exact ⟨rfl, h5, hB.grown h6 (by have := hB.size; omega) (fun k hk => by injection hk with hk; omega)⟩
theorem compact_own (Ly : Lays2.n20 P ρ) {w0 w : World} {base : Nat} {v : Value} {xs : List Int} (h : OwnI base w v xs) (h0 : w0.heap.size ≤ base) (hB : Below w0.heap.size w0 w) (hl : xs.length ≤ 1000000000000) :
    Calls P (ρ.f 20) #[v] w fun e w' => ∃ v', e = .returned v' ∧ OwnI base w' v' (Lib.compact xs) ∧ Below w0.heap.size w0 w' := by
  obtain ⟨A, c, rfl, -⟩ := h.form
  cases A with
  | none =>
    have hx : xs = [] := by
      cases xs with
      | nil => rfl
      | cons x xs =>
        unfold OwnI at h
        rcases h.2 with ⟨h2, h4⟩ | ⟨g', cap', cur, hv, _⟩
        · simp at h4
        · cases hv
    subst hx
    refine (Any.slices_Compact_int_empty Ly none c w).mono ?_
    rintro e w' ⟨rfl, rfl⟩
    exact ⟨_, rfl, by simpa [Lib.compact, Lib.compactUpTo] using h, hB⟩
  | some ad =>
    have hf : ∃ g, ad = ⟨g, 0, none⟩ := by
      unfold OwnI at h
      rcases h.2 with ⟨h2, h4⟩ | ⟨g', cap', cur, hv, _⟩
      · cases h2
      · injection hv with e1 e2 e3
        injection e1 with e1
        exact ⟨g', e1⟩
    obtain ⟨g, rfl⟩ := hf
    obtain ⟨hH, hlt, hb, hn, hnc, hcm, _⟩ := own_holds h
    refine (Any.slices_Compact_int Ly g 0 c xs w hH (by omega) (by omega)).mono ?_
    rintro e w' ⟨rfl, m, rfl⟩
    have hcl := compact_len xs
    obtain ⟨h5, h6⟩ := own_put' (m := m) (ts := Lib.compact xs ++ List.replicate (xs.length - (Lib.compact xs).length) 0) h (by simp; omega)
    refine ⟨_, rfl, ?_, hB.grown h6 (by have := hB.size; omega) (fun k hk => by injection hk with hk; omega)⟩
    have h7 := own_cut (k := (Lib.compact xs).length) h5 (by simp)
    rwa [List.take_left] at h7
end

end Go.Proofs.Ytihkgdlanfemcaa

namespace Go.Proofs.Ytihkgdlanfemcaa
open Go.Shelf
def lays_sort_ren : Go.Shelf.Ren := ⟨fun | 0 => 0 | 1 => 1 | 2 => 2 | 107 => 114 | 108 => 140 | 125 => 105 | 128 => 134 | 129 => 135 | 189 => 93 | 215 => 106 | 216 => 118 | 257 => 117 | 294 => 141 | 295 => 142 | 296 => 143 | 297 => 144 | 298 => 145 | 299 => 146 | 300 => 147 | 301 => 148 | 328 => 160 | 329 => 154 | 330 => 155 | 331 => 161 | 332 => 162 | 343 => 164 | 347 => 165 | 348 => 166 | 349 => 167 | 350 => 168 | 351 => 169 | 352 => 170 | 353 => 171 | 354 => 172 | 355 => 173 | 356 => 174 | 357 => 175 | 358 => 176 | 359 => 177 | 360 => 178 | 361 => 179 | 366 => 180 | n => n, fun | 0 => 0 | 1 => 1 | 2 => 2 | 3 => 3 | 4 => 4 | 5 => 5 | 6 => 6 | 7 => 7 | 8 => 8 | 9 => 9 | 10 => 10 | 11 => 11 | 12 => 12 | 13 => 13 | 14 => 14 | 15 => 15 | 16 => 16 | 17 => 17 | 18 => 18 | 19 => 19 | 20 => 20 | 21 => 21 | 28 => 22 | 29 => 59 | 30 => 155 | 34 => 53 | 35 => 117 | 36 => 77 | 43 => 91 | 46 => 116 | 47 => 124 | 51 => 99 | 52 => 104 | 53 => 150 | 54 => 149 | 80 => 177 | 81 => 183 | 111 => 95 | 112 => 138 | 127 => 187 | 131 => 65 | 134 => 137 | 164 => 192 | 181 => 156 | 182 => 143 | 183 => 144 | 184 => 157 | 185 => 158 | 186 => 159 | 187 => 160 | 218 => 162 | 219 => 163 | 220 => 164 | 221 => 172 | 222 => 166 | 223 => 173 | 228 => 174 | 229 => 75 | 230 => 176 | 238 => 178 | 239 => 179 | 240 => 180 | 241 => 181 | 242 => 182 | 243 => 184 | 244 => 185 | 245 => 186 | 246 => 188 | 247 => 189 | 248 => 190 | 249 => 191 | n => n, fun n => n⟩
set_option maxRecDepth 100000 in
theorem lays_sort : Go.Proofs.Lays.n189 Try.prog lays_sort_ren := {
  mixed := by kernel_rfl,
  f125 := Try.func105.trans (congrArg some (by kernel_rfl)),
  f128 := Try.func134.trans (congrArg some (by kernel_rfl)),
  f129 := Try.func135.trans (congrArg some (by kernel_rfl)),
  f189 := Try.func93.trans (congrArg some (by kernel_rfl)),
  f215 := Try.func106.trans (congrArg some (by kernel_rfl)),
  f216 := Try.func118.trans (congrArg some (by kernel_rfl)),
  f257 := Try.func117.trans (congrArg some (by kernel_rfl)),
  f294 := Try.func141.trans (congrArg some (by kernel_rfl)),
  f295 := Try.func142.trans (congrArg some (by kernel_rfl)),
  f296 := Try.func143.trans (congrArg some (by kernel_rfl)),
  f297 := Try.func144.trans (congrArg some (by kernel_rfl)),
  f298 := Try.func145.trans (congrArg some (by kernel_rfl)),
  f299 := Try.func146.trans (congrArg some (by kernel_rfl)),
  f300 := Try.func147.trans (congrArg some (by kernel_rfl)),
  f301 := Try.func148.trans (congrArg some (by kernel_rfl)),
  f328 := Try.func160.trans (congrArg some (by kernel_rfl)),
  f329 := Try.func154.trans (congrArg some (by kernel_rfl)),
  f330 := Try.func155.trans (congrArg some (by kernel_rfl)),
  f331 := Try.func161.trans (congrArg some (by kernel_rfl)),
  f332 := Try.func162.trans (congrArg some (by kernel_rfl)),
  f343 := Try.func164.trans (congrArg some (by kernel_rfl)),
  t0 := Try.underlying0,
  a0 := Try.isAgg0,
  z0 := Try.sizeOf0,
  v0 := Try.zeroValue0,
  t3 := Try.underlying3,
  a3 := Try.isAgg3,
  z3 := Try.sizeOf3,
  v3 := Try.zeroValue3,
  t4 := Try.underlying4,
  a4 := Try.isAgg4,
  z4 := Try.sizeOf4,
  v4 := Try.zeroValue4,
  t5 := Try.underlying5,
  a5 := Try.isAgg5,
  z5 := Try.sizeOf5,
  v5 := Try.zeroValue5,
  t9 := Try.underlying9,
  a9 := Try.isAgg9,
  z9 := Try.sizeOf9,
  v9 := Try.zeroValue9,
  t28 := Try.underlying22,
  a28 := Try.isAgg22,
  z28 := Try.sizeOf22,
  v28 := Try.zeroValue22,
  t46 := Try.underlying116,
  a46 := Try.isAgg116,
  z46 := Try.sizeOf116,
  v46 := Try.zeroValue116,
  t51 := Try.underlying99,
  a51 := Try.isAgg99,
  z51 := Try.sizeOf99,
  v51 := Try.zeroValue99,
  t53 := Try.underlying150,
  a53 := Try.isAgg150,
  z53 := Try.sizeOf150,
  v53 := Try.zeroValue150,
  t131 := Try.underlying65,
  a131 := Try.isAgg65,
  z131 := Try.sizeOf65,
  v131 := Try.zeroValue65,
  t182 := Try.underlying143,
  a182 := Try.isAgg143,
  z182 := Try.sizeOf143,
  v182 := Try.zeroValue143,
  t183 := Try.underlying144,
  a183 := Try.isAgg144,
  z183 := Try.sizeOf144,
  v183 := Try.zeroValue144,
  t218 := Try.underlying162,
  a218 := Try.isAgg162,
  z218 := Try.sizeOf162,
  v218 := Try.zeroValue162,
  t222 := Try.underlying166,
  a222 := Try.isAgg166,
  z222 := Try.sizeOf166,
  v222 := Try.zeroValue166,
  t228 := Try.underlying174,
  a228 := Try.isAgg174,
  z228 := Try.sizeOf174,
  v228 := Try.zeroValue174,
  t229 := Try.underlying75,
  a229 := Try.isAgg75,
  z229 := Try.sizeOf75,
  v229 := Try.zeroValue75 }
def lays_compact_ren : Go.Shelf.Ren := ⟨fun | 0 => 0 | 1 => 1 | 2 => 2 | 15 => 112 | 20 => 94 | 25 => 95 | 31 => 118 | 32 => 119 | 37 => 106 | 40 => 165 | 41 => 166 | 42 => 167 | 43 => 168 | 44 => 169 | 45 => 170 | 46 => 171 | 47 => 172 | 48 => 173 | 49 => 174 | 50 => 175 | 51 => 176 | 52 => 177 | 53 => 178 | 54 => 179 | 55 => 180 | n => n, fun | 0 => 0 | 1 => 1 | 2 => 2 | 3 => 3 | 4 => 4 | 5 => 5 | 6 => 6 | 7 => 7 | 8 => 8 | 9 => 9 | 10 => 10 | 11 => 11 | 12 => 12 | 13 => 13 | 14 => 14 | 15 => 15 | 16 => 16 | 17 => 17 | 18 => 18 | 19 => 19 | 20 => 20 | 21 => 21 | 22 => 22 | 23 => 89 | 33 => 65 | 34 => 118 | 36 => 53 | 40 => 116 | 41 => 138 | 42 => 95 | 45 => 117 | 46 => 177 | 47 => 178 | 48 => 179 | 49 => 180 | 50 => 181 | 51 => 182 | 52 => 183 | 53 => 99 | 54 => 184 | 55 => 185 | 56 => 186 | 57 => 187 | 58 => 188 | 59 => 189 | 60 => 190 | 61 => 191 | 62 => 192 | n => n, fun n => n⟩
set_option maxRecDepth 100000 in
theorem lays_compact : Go.Proofs.Lays2.n20 Try.prog lays_compact_ren := {
  mixed := by kernel_rfl,
  f20 := Try.func94.trans (congrArg some (by kernel_rfl)),
  t0 := Try.underlying0,
  a0 := Try.isAgg0,
  z0 := Try.sizeOf0,
  v0 := Try.zeroValue0,
  t3 := Try.underlying3,
  a3 := Try.isAgg3,
  z3 := Try.sizeOf3,
  v3 := Try.zeroValue3,
  t4 := Try.underlying4,
  a4 := Try.isAgg4,
  z4 := Try.sizeOf4,
  v4 := Try.zeroValue4,
  t22 := Try.underlying22,
  a22 := Try.isAgg22,
  z22 := Try.sizeOf22,
  v22 := Try.zeroValue22,
  i3 := by kernel_rfl }

end Go.Proofs.Ytihkgdlanfemcaa

namespace Go.Proofs.Ytihkgdlanfemcaa
open Go.RowKit
set_option linter.unusedVariables false
set_option linter.unusedSimpArgs false
end Go.Proofs.Ytihkgdlanfemcaa

namespace Go.Proofs.Ytihkgdlanfemcaa
open Go.RowKit
set_option linter.unusedVariables false
set_option linter.unusedSimpArgs false
end Go.Proofs.Ytihkgdlanfemcaa

namespace Go.Proofs.Ytihkgdlanfemcaa
open Go.RowKit
set_option linter.unusedVariables false
set_option linter.unusedSimpArgs false

theorem OpsRead.below {w w' : World} {A : Option Addr} {ops : List OpV} (h : OpsRead w A ops) (hb : Below w.heap.size w w') : OpsRead w' A ops := fun k o hk => by
  obtain ⟨ad, A0, c0, A1, c1, A2, c2, e, h0, h1, h2, h3, hm, hr⟩ := h k o hk
  exact ⟨ad, A0, c0, A1, c1, A2, c2, e, (hb.cell (World.block_lt_of_cell? w _ h0)).trans h0, (hb.cell (World.block_lt_of_cell? w _ h1)).trans h1, (hb.cell (World.block_lt_of_cell? w _ h2)).trans h2, (hb.cell (World.block_lt_of_cell? w _ h3)).trans h3, hm.below hb, hr⟩
theorem OpsRead.at2 {w w' : World} {A : Option Addr} {ops : List OpV} {k : Nat} (h : OpsRead w A ops) (hb : Below w.heap.size w w') (hk : k < ops.length) : ∃ ad o A0 c0 A1 c1 A2 c2, A = some ad ∧ Hid (ops[k]? = some o) ∧ w'.cell? (ad.add (k * 4)) = some (.slice A0 o.pre.length c0) ∧ w'.cell? ⟨(ad.add (k * 4)).block, (ad.add (k * 4)).off + 1, none⟩ = some (.slice A1 o.add.length c1) ∧
    w'.cell? ⟨(ad.add (k * 4)).block, (ad.add (k * 4)).off + 2, none⟩ = some (.slice A2 o.del.length c2) ∧ w'.cell? ⟨(ad.add (k * 4)).block, (ad.add (k * 4)).off + 3, none⟩ = some (.int .i64 o.cost) ∧ OpMem w A0 A1 A2 o ∧ Hid (A1 = none → c1 = 0) := by
  obtain ⟨ad, A0, c0, A1, c1, A2, c2, e, h0, h1, h2, h3, hm, hr⟩ := h k _ (List.getElem?_eq_getElem hk)
  exact ⟨ad, ops[k], A0, c0, A1, c1, A2, c2, e, Lib.hid (List.getElem?_eq_getElem hk), (hb.cell (World.block_lt_of_cell? w _ h0)).trans h0, (hb.cell (World.block_lt_of_cell? w _ h1)).trans h1, (hb.cell (World.block_lt_of_cell? w _ h2)).trans h2, (hb.cell (World.block_lt_of_cell? w _ h3)).trans h3, hm, Lib.hid (fun e => (hr.2.1.1 e).2)⟩
end Go.Proofs.Ytihkgdlanfemcaa

namespace Go.Proofs.Ytihkgdlanfemcaa
open Go.RowKit
set_option linter.unusedVariables false
set_option linter.unusedSimpArgs false

/-! ### Rows side by side -/
def Sep (u v : Value) : Prop := ∀ k, u.ownBlock = some k → v.ownBlock ≠ some k
theorem Sep.symm {u v : Value} (h : Sep u v) : Sep v u := fun k h1 h2 => h k h2 h1
theorem sep_nil (v : Value) : Sep (.slice none 0 0) v := fun k h => by cases h
theorem Sep.next {u v v' : Value} {K : Nat} (h : Sep u v) (hv : v'.ownBlock = v.ownBlock ∨ v'.ownBlock = some K) (hu : ∀ k, u.ownBlock = some k → k < K) : Sep u v' := fun k h1 h2 => by
  rcases hv with e | e
  · exact h k h1 (by rw [← e]; exact h2)
  · rw [e] at h2; injection h2 with h2; have := hu k h1; omega
theorem own_grown_i {base : Nat} {w w' : World} {v u : Value} {xs : List Int} (h : OwnI base w v xs) (hg : w.grownBy w' u.ownBlock) (hne : Sep u v) : OwnI base w' v xs := by
  obtain ⟨h1, h2⟩ := h
  refine ⟨h1, ?_⟩
  rcases h2 with h2 | ⟨g, cap, cur, hv, hb, hh, r⟩
  · exact Or.inl h2
  · refine Or.inr ⟨g, cap, cur, hv, hb, (hg.block g ?_ (fun e => hne g e.symm (by rw [hv]; rfl))).trans hh, r⟩
    rcases Nat.lt_or_ge g w.heap.size with hl | hl
    · exact hl
    · rw [Array.getElem?_eq_none hl] at hh; cases hh
theorem OwnI.bnd {base : Nat} {w : World} {v : Value} {xs : List Int} (h : OwnI base w v xs) : ∀ k, v.ownBlock = some k → k < w.heap.size := fun k hk => (h.lt k hk).2
/-- append(v, y): what it does to the rows beside it. -/
theorem wpList_push_at {ops : Array Oper} {rest : List Oper} {o : Oper} {a : Act} {w : World} {Q : Exit → Act → World → Prop} (hgd : o.guard = none) (s x : Operand)
    (ho : o.op = .call { callee := .builtin .append, args := #[s, x], argTypes := #[22, 22] })
    (w0 : World) (l : List (Nat × Nat × Value)) (base : Nat) (v : Value) (xs : List Int) (y : Int) (hs : a.eval s = v) (hown : OwnI base w v xs) (ad : Addr) (m : Nat) (hx : a.eval x = .slice (some ad) 1 m) (hc : w.cell? ad = some (.int .i64 y))
    (hlen : xs.length < 1000000000000) (hbase : base ≤ w.heap.size) (h0 : w0.heap.size ≤ base) (hB : Below w0.heap.size w0 w) (hC : Cls w l) (hl : ∀ x ∈ l, x.1 < base)
    (h : ∀ v' w', OwnI base w' v' (xs ++ [y]) → Below w0.heap.size w0 w' → Cls w' l → w.heap.size ≤ w'.heap.size → w.grownBy w' v.ownBlock → (v'.ownBlock = v.ownBlock ∨ v'.ownBlock = some w.heap.size) → wpList Try.prog ops Q rest (a.put o.dst v') w') : wpList Try.prog ops Q (o :: rest) a w := by
  obtain ⟨i0, hi0, hz⟩ := Option.map_eq_some_iff.1 info_int
  simp only [Prod.mk.injEq] at hz
  have hown' : w.ownsRow base 3 1 v xs.length (xs.map (Value.int .i64)) := hown
  refine wpList_append_own_at w hgd s x 22 ho base 3 i0 (.int .i64 0) 1 8 Try.underlying22 hi0 hz.1 hz.2.1 hz.2.2 rfl (by decide) v xs.length (xs.map (Value.int .i64)) hs hown' ad 1 m [.int .i64 y] hx rfl ?_ ?_ ?_ ?_ hbase ?_
  · intro j u hu
    cases j with
    | zero => simp at hu; subst hu; rw [add_zero]; exact hc
    | succ j => simp at hu
  · intro u hu; simp at hu; subst hu; rfl
  · simp only [maxLen]; omega
  · omega
  · intro v' w' h1 h2 _ h4
    refine h v' w' ?_ (own_grown hB (OwnI.mono hown h0) h2 (Nat.le_trans h0 hbase)) (hC.grown hown' h2 hl) h2.size h2 h4
    unfold OwnI
    rw [List.length_append, List.map_append]
    exact h1
/-! ### A row of lists beside a row of integers -/
/-- The element leads to a list that lies apart from block u. -/
def PWl (u : Option Nat) (w : World) (row : Option Nat) (cs : List Value) (r : List Int) : Prop := ∃ A c, cs = [.slice A r.length c] ∧ Ints w A r ∧ (r ≠ [] → ∀ ad, A = some ad → some ad.block ≠ row ∧ some ad.block ≠ u ∧ ad.block < w.heap.size)
theorem ints_emp {w : World} {A : Option Addr} {r : List Int} (h : r = []) : Ints w A r := by subst h; exact Ints.nil _ _
theorem pwl_stable (u : Option Nat) : Stable (PWl u) := by
  constructor
  · rintro w w' row cs r ⟨A, c, e, hI, hn⟩ hb
    exact ⟨A, c, e, hI.below hb, fun h ad he => ⟨(hn h ad he).1, (hn h ad he).2.1, Nat.lt_of_lt_of_le (hn h ad he).2.2 hb.size⟩⟩
  · rintro w w' row cs r ⟨A, c, e, hI, hn⟩ hg
    have hI' : Ints w' A r := by
      by_cases h : r = []
      · exact ints_emp h
      · exact Ints.grown hI hg (fun ad he => (hn h ad he).1)
    refine ⟨⟨A, c, e, hI', fun h ad he => ⟨(hn h ad he).1, (hn h ad he).2.1, Nat.lt_of_lt_of_le (hn h ad he).2.2 hg.size⟩⟩, ⟨A, c, e, hI', fun h ad he => ⟨fun hc => ?_, (hn h ad he).2.1, Nat.lt_of_lt_of_le (hn h ad he).2.2 hg.size⟩⟩⟩
    injection hc with hc
    have := (hn h ad he).2.2
    omega
def OwnW (u : Option Nat) (base : Nat) (w : World) (v : Value) (ls : List (List Int)) : Prop := OwnEs (PWl u) 22 1 base w v ls
theorem OwnW.below {u : Option Nat} {base : Nat} {w w' : World} {v : Value} {ls : List (List Int)} (h : OwnW u base w v ls) (hb : Below w.heap.size w w') : OwnW u base w' v ls := OwnEs.below (pwl_stable u) h hb
/-- The row of integers is appended to. -/
theorem OwnW.other {u u' : Option Nat} {base : Nat} {w w' : World} {v : Value} {ls : List (List Int)} (h : OwnW u base w v ls) (hg : w.grownBy w' u) (hne : ∀ k, u = some k → v.ownBlock ≠ some k) (hu : u' = u ∨ u' = some w.heap.size) : OwnW u' base w' v ls := by
  obtain ⟨cells, ⟨h1, h2⟩, h3⟩ := h
  refine ⟨cells, ⟨h1, ?_⟩, fun i a ha => ?_⟩
  · rcases h2 with h2 | ⟨g, cap, cur, hv, hb, hh, r⟩
    · exact Or.inl h2
    · refine Or.inr ⟨g, cap, cur, hv, hb, (hg.block g ?_ (fun e => hne g e.symm (by rw [hv]; rfl))).trans hh, r⟩
      rcases Nat.lt_or_ge g w.heap.size with hl | hl
      · exact hl
      · rw [Array.getElem?_eq_none hl] at hh; cases hh
  · obtain ⟨A, c, e, hI, hn⟩ := h3 i a ha
    have hI' : Ints w' A a := by
      by_cases h : a = []
      · exact ints_emp h
      · exact Ints.grown hI hg (fun ad he => (hn h ad he).2.1)
    refine ⟨A, c, e, hI', fun h ad he => ⟨(hn h ad he).1, fun hc => ?_, Nat.lt_of_lt_of_le (hn h ad he).2.2 hg.size⟩⟩
    rcases hu with hu | hu
    · rw [hu] at hc; exact (hn h ad he).2.1 hc
    · rw [hu] at hc
      injection hc with hc
      have := (hn h ad he).2.2
      omega
/-- A slice of lists that is only read. -/
def LLR (w : World) (A : Option Addr) (ls : List (List Int)) : Prop := ∀ (i : Nat) (r : List Int), ls[i]? = some r → ∃ ad B c, A = some ad ∧ w.cell? (ad.add i) = some (.slice B r.length c) ∧ Ints w B r
theorem LLR.below {w w' : World} {A : Option Addr} {ls : List (List Int)} (h : LLR w A ls) (hb : Below w.heap.size w w') : LLR w' A ls := fun i r hr => by
  obtain ⟨ad, B, c, e, h1, h2⟩ := h i r hr
  exact ⟨ad, B, c, e, (hb.cell (World.block_lt_of_cell? w _ h1)).trans h1, h2.below hb⟩
theorem LLR.at_ {w : World} {A : Option Addr} {ls : List (List Int)} {k : Nat} (h : LLR w A ls) (hk : k < ls.length) : ∃ ad r B c, A = some ad ∧ Hid (ls[k]? = some r) ∧ w.cell? (ad.add k) = some (.slice B r.length c) ∧ Ints w B r := by
  obtain ⟨ad, B, c, e, h1, h2⟩ := h k _ (List.getElem?_eq_getElem hk)
  exact ⟨ad, _, B, c, e, Lib.hid (List.getElem?_eq_getElem hk), h1, h2⟩
/-! ### The reached states -/
inductive Rch (n : Nat) (ops : List OpV) (s : List Int) : List Int → Prop
  | init : Rch n ops s s
  | step {r : List Int} {op : Nat} : Rch n ops s r → op < ops.length → CanV ops r (op : Int) → Rch n ops s (nextV n r (opAt ops (op : Int)))
structure RSt (n : Nat) (ops : List OpV) (st : List Int) (ls : List (List Int)) (k p : Nat) : Prop where
  head : ls[0]? = some st
  set : ∀ l ∈ ls, SetP l (n : Int)
  rch : ∀ l ∈ ls, Rch n ops st l
  nodup : ls.Nodup
  done : ∀ (j q : Nat) (l : List Int), (j < k ∨ (j = k ∧ q < p)) → q < ops.length → ls[j]? = some l → CanV ops l (q : Int) → nextV n l (opAt ops (q : Int)) ∈ ls
section
variable {n : Nat} {ops : List OpV} {st : List Int} {ls : List (List Int)} {k p : Nat}
theorem RSt.start (h : SetP st (n : Int)) : RSt n ops st [st] 0 0 := ⟨rfl, fun l hl => by rw [List.mem_singleton.1 hl]; exact h, fun l hl => by rw [List.mem_singleton.1 hl]; exact .init, by simp, fun j q l h => by omega⟩
theorem RSt.skip (h : RSt n ops st ls k p) {r : List Int} (hr : ls[k]? = some r) (hc : CanV ops r (p : Int) → nextV n r (opAt ops (p : Int)) ∈ ls) : RSt n ops st ls k (p + 1) :=
  ⟨h.head, h.set, h.rch, h.nodup, fun j q l hjq hq hl hcan => by
    by_cases e : j = k ∧ q = p
    · obtain ⟨rfl, rfl⟩ := e
      rw [hr] at hl
      injection hl with hl
      subst hl
      exact hc hcan
    · exact h.done j q l (by omega) hq hl hcan⟩
theorem RSt.add (h : RSt n ops st ls k p) {r : List Int} (hr : ls[k]? = some r) (hp : p < ops.length) (hc : CanV ops r (p : Int)) (hn : nextV n r (opAt ops (p : Int)) ∉ ls) : RSt n ops st (ls ++ [nextV n r (opAt ops (p : Int))]) k (p + 1) := by
  have hk := (List.getElem?_eq_some_iff.1 hr).1
  refine ⟨?_, fun l hl => ?_, fun l hl => ?_, ?_, fun j q l hjq hq hl hcan => ?_⟩
  · rw [List.getElem?_append_left (by omega)]; exact h.head
  · rcases List.mem_append.1 hl with e | e
    · exact h.set l e
    · rw [List.mem_singleton.1 e]; exact nextV_set n r _
  · rcases List.mem_append.1 hl with e | e
    · exact h.rch l e
    · rw [List.mem_singleton.1 e]; exact .step (h.rch r (List.mem_of_getElem? hr)) hp hc
  · rw [List.nodup_append]
    exact ⟨h.nodup, by simp, fun a ha b hb => by rw [List.mem_singleton.1 hb]; intro e; exact hn (e ▸ ha)⟩
  · rw [List.getElem?_append_left (by omega)] at hl
    by_cases e : j = k ∧ q = p
    · obtain ⟨rfl, rfl⟩ := e
      rw [hr] at hl
      injection hl with hl
      subst hl
      exact List.mem_append_right _ (List.mem_singleton.2 rfl)
    · exact List.mem_append_left _ (h.done j q l (by omega) hq hl hcan)
theorem RSt.row (h : RSt n ops st ls k p) (hp : ops.length ≤ p) : RSt n ops st ls (k + 1) 0 := ⟨h.head, h.set, h.rch, h.nodup, fun j q l hjq hq hl hc => h.done j q l (by omega) hq hl hc⟩
theorem RSt.word (h : RSt n ops st ls k p) {r : List Int} (hr : SetP r (n : Int)) : wordV r ∈ ls.map wordV ↔ r ∈ ls := by
  constructor
  · intro hm
    obtain ⟨l, hl, e⟩ := List.mem_map.1 hm
    rw [← word_inj (h.set l hl) hr e]; exact hl
  · exact fun hm => List.mem_map.2 ⟨r, hm, rfl⟩
end

end Go.Proofs.Ytihkgdlanfemcaa

namespace Go.Proofs.Ytihkgdlanfemcaa
open Go.RowKit
set_option linter.unusedVariables false
set_option linter.unusedSimpArgs false

set_option maxRecDepth 100000 in
set_option maxHeartbeats 4000000 in
theorem hvalidate_any (w : World) (A : Option Addr) (ca : Nat) (sets : List (List Int)) (hL : LLR w A sets) (hsl : ∀ s ∈ sets, s.length ≤ 9223372036854775807) (hl : sets.length ≤ 9223372036854775807) (C : Option Addr) (cc : Nat) (cs : List Int) (hC : Ints w C cs) (hcl : cs.length ≤ 9223372036854775807) :
    Calls Try.prog 91 #[.slice A sets.length ca, .slice C cs.length cc] w fun e w' => e = .returned (.agg #[.int .i64 (hfault sets cs).1, .int .i64 (hfault sets cs).2]) ∧ Below w.heap.size w w' := by
  by_cases h1 : (sets.length : Int) > 16
  · have h1' : decide ((sets.length : Int) > 16) = true := decide_eq_true h1
    rw [hfault_1 (.inl (by omega))]
    go_enter Try.func91, Try.ntmps91
    go_wp2_with fail
    refine bodyPost_ret (v := .agg #[.int .i64 2, .int .i64 (-1)]) ?_ rfl ⟨rfl, by repeat (first | with_reducible exact Below.refl _ _ | with_reducible apply bdrew | with_reducible apply bdrewN | with_reducible apply balloc | ((with_reducible refine bset ?_ ?_ _); rotate_left; (first | omega | (simp <;> omega))))⟩
    simp [results, Try.results91, go_sem]
  · have h1' : decide ((sets.length : Int) > 16) = false := decide_eq_false h1
    by_cases h2 : (cs.length : Int) > 16
    · have h2' : decide ((cs.length : Int) > 16) = true := decide_eq_true h2
      rw [hfault_1 (.inr (by omega))]
      go_enter Try.func91, Try.ntmps91
      go_wp2_with fail
      refine bodyPost_ret (v := .agg #[.int .i64 2, .int .i64 (-1)]) ?_ rfl ⟨rfl, by repeat (first | with_reducible exact Below.refl _ _ | with_reducible apply bdrew | with_reducible apply bdrewN | with_reducible apply balloc | ((with_reducible refine bset ?_ ?_ _); rotate_left; (first | omega | (simp <;> omega))))⟩
      simp [results, Try.results91, go_sem]
    · have h2' : decide ((cs.length : Int) > 16) = false := decide_eq_false h2
      have hs16 : sets.length ≤ 16 := by omega
      have hc16 : cs.length ≤ 16 := by omega
      have HNB := Lib.hid (show ¬ (16 < sets.length ∨ 16 < cs.length) by omega)
      have HSL := Lib.hid hsl
      clear hsl
      go_enter Try.func91, Try.ntmps91
      go_wp2_with fail
      go_loopw [20] (fun x wr => ∃ k : Nat, k ≤ cs.length ∧ x = .int .i64 k ∧ Hid (CostsIn (cs.take k)) ∧ Below w.heap.size w wr ∧ Cls wr [(w.heap.size, 0, .int .i64 0), (w.heap.size, 1, .int .i64 0)]) (fun x _ => cs.length - (intOf x).toNat)
      case atStart => exact ⟨0, Nat.zero_le _, rfl, Lib.hid (by unfold CostsIn; simp), (by repeat (first | with_reducible exact Below.refl _ _ | with_reducible apply bdrew | with_reducible apply bdrewN | with_reducible apply balloc | ((with_reducible refine bset ?_ ?_ _); rotate_left; (first | omega | (simp <;> omega))))), (by simp [Cls, go_sem])⟩
      case round =>
        obtain ⟨k, hk, rfl, hci, hBr, hCr⟩ := hrel
        obtain ⟨w1, rfl⟩ : ∃ wo : World, wo = wr := ⟨_, rfl⟩
        have drs := hBr.size
        have Fr := hCr
        simp only [Cls, and_true] at Fr
        have yrw0 : w.heap.size < w1.heap.size := hCr.blk (b := w.heap.size) (k := 0) (v := .int .i64 0) (by simp)
        have yrwp1 : w.heap.size < w1.heap.size + 1 := (by omega)
        have yrwp2 : w.heap.size < w1.heap.size + 1 + 1 := (by omega)
        by_cases hlt : k < cs.length
        · obtain ⟨ad, x, rfl, hx, hxc⟩ := (hC.below hBr).at_ hlt
          by_cases hx0 : x < 0
          · have hx0' : decide (x < 0) = true := decide_eq_true hx0
            have HF := Lib.hid (hfault_2 HNB.out (fun h => by have := h x (List.mem_of_getElem? hx.out); omega))
            go_wp2_with fail
            refine bodyPost_ret (v := .agg #[.int .i64 3, .int .i64 (-2)]) ?_ rfl ⟨by rw [HF.out], by repeat (first | with_reducible exact hBr | with_reducible apply bdrew | with_reducible apply bdrewN | with_reducible apply balloc | ((with_reducible refine bset ?_ ?_ _); rotate_left; (first | omega | (simp <;> omega))))⟩
            simp [results, Try.results91, go_sem, Fr, yrw0, yrwp1, yrwp2]
          · have hx0' : decide (x < 0) = false := decide_eq_false hx0
            by_cases hx1 : x > 1000000
            · have hx1' : decide (x > 1000000) = true := decide_eq_true hx1
              have HF := Lib.hid (hfault_2 HNB.out (fun h => by have := h x (List.mem_of_getElem? hx.out); omega))
              go_wp2_with fail
              refine bodyPost_ret (v := .agg #[.int .i64 3, .int .i64 (-2)]) ?_ rfl ⟨by rw [HF.out], by repeat (first | with_reducible exact hBr | with_reducible apply bdrew | with_reducible apply bdrewN | with_reducible apply balloc | ((with_reducible refine bset ?_ ?_ _); rotate_left; (first | omega | (simp <;> omega))))⟩
              simp [results, Try.results91, go_sem, Fr, yrw0, yrwp1, yrwp2]
            · have hx1' : decide (x > 1000000) = false := decide_eq_false hx1
              have HCN := Lib.hid (show CostsIn (cs.take (k + 1)) from fun c hc => by
                rw [List.take_add_one, hx.out] at hc
                rcases List.mem_append.1 hc with h | h
                · exact hci.out c h
                · have : c = x := by simpa using h
                  omega)
              go_wp2_with fail
              go_roundw
              case rel => exact ⟨k + 1, by omega, by go_num, HCN, (by repeat (first | with_reducible exact hBr | with_reducible apply bdrew | with_reducible apply bdrewN | with_reducible apply balloc | ((with_reducible refine bset ?_ ?_ _); rotate_left; (first | omega | (simp <;> omega))))), (by simp [Cls, go_sem, Fr, yrw0, yrwp1, yrwp2])⟩
              case measure => simp [intOf]; omega
        · have HCI := Lib.hid (show CostsIn cs from fun c hc => hci.out c (by rw [List.take_of_length_le (by omega)]; exact hc))
          have HF3 := Lib.hid (hfault_3 HNB.out HCI.out)
          clear hci
          go_wp2_with fail
          go_loopw [34] (fun x wr => ∃ k : Nat, k ≤ sets.length ∧ x = .int .i64 k ∧ Hid (∀ s ∈ sets.take k, hitc (cs.length : Int) s = 0) ∧ Below w.heap.size w wr ∧ Cls wr [(w.heap.size, 0, .int .i64 0), (w.heap.size, 1, .int .i64 0)]) (fun x _ => sets.length - (intOf x).toNat)
          case atStart => exact ⟨0, Nat.zero_le _, rfl, Lib.hid (by simp), (by repeat (first | with_reducible exact hBr | with_reducible apply bdrew | with_reducible apply bdrewN | with_reducible apply balloc | ((with_reducible refine bset ?_ ?_ _); rotate_left; (first | omega | (simp <;> omega))))), (Cls.below (w := w1) (by repeat (first | with_reducible exact Below.refl _ _ | with_reducible apply bdrew | with_reducible apply bdrewN | with_reducible apply balloc | ((with_reducible refine bset ?_ ?_ _); rotate_left; (first | omega | (simp <;> omega))))) hCr)⟩
          case round =>
            obtain ⟨j, hj, rfl, hgo, hBq, hCq⟩ := hrel
            obtain ⟨w2, rfl⟩ : ∃ wo : World, wo = wr := ⟨_, rfl⟩
            have dqs := hBq.size
            have Fq := hCq
            simp only [Cls, and_true] at Fq
            have yqw0 : w.heap.size < w2.heap.size := hCq.blk (b := w.heap.size) (k := 0) (v := .int .i64 0) (by simp)
            have yqwp1 : w.heap.size < w2.heap.size + 1 := (by omega)
            have yqwp2 : w.heap.size < w2.heap.size + 1 + 1 := (by omega)
            by_cases hlj : j < sets.length
            · obtain ⟨ad, s, B1, c1, rfl, hs, hsc, hI⟩ := (hL.below hBq).at_ hlj
              have hsle := HSL.out s (List.mem_of_getElem? hs.out)
              have HAT := Lib.hid (setsFault_at (m := (cs.length : Int)) sets 0 j s hgo.out hs.out)
              rw [Nat.zero_add] at HAT
              by_cases h0 : s.length = 0
              · have HF := Lib.hid (show hfault sets cs = (9, (j : Int)) by rw [HF3.out, HAT.out (by rw [hitc_empty h0]; omega), hitc_empty h0])
                have h0' : ((s.length : Int) == 0) = true := by simp [h0]
                go_wp2_with fail
                refine bodyPost_ret (v := .agg #[.int .i64 9, .int .i64 (j : Int)]) ?_ rfl ⟨by rw [HF.out], by repeat (first | with_reducible exact hBq | with_reducible apply bdrew | with_reducible apply bdrewN | with_reducible apply balloc | ((with_reducible refine bset ?_ ?_ _); rotate_left; (first | omega | (simp <;> omega))))⟩
                simp [results, Try.results91, go_sem, Fq, yqw0, yqwp1, yqwp2]
              · have h0' : ((s.length : Int) == 0) = false := beq_eq_false_iff_ne.2 (by omega)
                by_cases hset : SetP s (cs.length : Int)
                · have HSE := Lib.hid hset
                  have HGN := Lib.hid (show ∀ x ∈ sets.take (j + 1), hitc (cs.length : Int) x = 0 from fun x hx => by
                    rw [List.take_add_one, hs.out] at hx
                    rcases List.mem_append.1 hx with h | h
                    · exact hgo.out x h
                    · have : x = s := by simpa using h
                      rw [this]; exact hitc_good h0 HSE.out)
                  clear hset
                  go_wp2_with fail
                  refine (isset_yes _ _ _ _ _ hI hsle HSE.out).mono ?_
                  rintro e w' ⟨rfl, rfl⟩
                  go_wp2_with fail
                  go_roundw
                  case rel => exact ⟨j + 1, by omega, by go_num, HGN, (by repeat (first | with_reducible exact hBq | with_reducible apply bdrew | with_reducible apply bdrewN | with_reducible apply balloc | ((with_reducible refine bset ?_ ?_ _); rotate_left; (first | omega | (simp <;> omega))))), (by simp [Cls, go_sem, Fq, yqw0, yqwp1, yqwp2])⟩
                  case measure => simp [intOf]; omega
                · have HSE := Lib.hid hset
                  have HF := Lib.hid (show hfault sets cs = (5, (j : Int)) by rw [HF3.out, HAT.out (by rw [hitc_bad h0 hset]; omega), hitc_bad h0 hset])
                  clear hset
                  go_wp2_with fail
                  refine (isset_no _ _ _ _ _ hI hsle HSE.out).mono ?_
                  rintro e w' ⟨rfl, rfl⟩
                  go_wp2_with fail
                  refine bodyPost_ret (v := .agg #[.int .i64 5, .int .i64 (j : Int)]) ?_ rfl ⟨by rw [HF.out], by repeat (first | with_reducible exact hBq | with_reducible apply bdrew | with_reducible apply bdrewN | with_reducible apply balloc | ((with_reducible refine bset ?_ ?_ _); rotate_left; (first | omega | (simp <;> omega))))⟩
                  simp [results, Try.results91, go_sem, Fq, yqw0, yqwp1, yqwp2]
            · have HF := Lib.hid (show hfault sets cs = (0, 0) by rw [HF3.out, setsFault_good sets 0 (fun s hs => hgo.out s (by rw [List.take_of_length_le (by omega)]; exact hs))])
              go_wp2_with fail
              refine bodyPost_ret (v := .agg #[.int .i64 0, .int .i64 0]) ?_ rfl ⟨by rw [HF.out], by repeat (first | with_reducible exact hBq | with_reducible apply bdrew | with_reducible apply bdrewN | with_reducible apply balloc | ((with_reducible refine bset ?_ ?_ _); rotate_left; (first | omega | (simp <;> omega))))⟩
              simp [results, Try.results91, go_sem, Fq, yqw0, yqwp1, yqwp2]


end Go.Proofs.Ytihkgdlanfemcaa

namespace Go.Proofs.Ytihkgdlanfemcaa
open Go.RowKit
set_option linter.unusedVariables false
set_option linter.unusedSimpArgs false

/-- A state is reached for a cost. -/
inductive Cst (n : Nat) (ops : List OpV) (st : List Int) : List Int → Int → Prop
  | init : Cst n ops st st 0
  | step {l : List Int} {c : Int} {p : Nat} {o : OpV} : Cst n ops st l c → ops[p]? = some o → (∀ q ∈ o.pre, q ∈ l) → Cst n ops st (nextV n l o) (c + o.cost)
/-- What relaxplan.Best returns (ops: without deletions). -/
def RBest (n : Nat) (ops : List OpV) (goal st : List Int) (d : Int) : Prop :=
  (d = 1000000000 ∨ ∃ l, Cst n ops st l d ∧ ∀ q ∈ goal, q ∈ l) ∧ d ≤ 1000000000 ∧ ∀ l c, Cst n ops st l c → (∀ q ∈ goal, q ∈ l) → d ≤ c
theorem Cst.rch {n : Nat} {ops : List OpV} {st l : List Int} {c : Int} (h : Cst n ops st l c) : Rch n ops st l := by
  induction h with
  | init => exact .init
  | @step l c p o _ hp hc ih =>
    have := Rch.step (op := p) ih (List.getElem?_eq_some_iff.1 hp).1 ⟨o, by simpa using hp, hc⟩
    rwa [opAt_of (o := o) (by simpa using hp)] at this
theorem Cst.nn {n : Nat} {ops : List OpV} {st l : List Int} {c : Int} (hc : ∀ o ∈ ops, 0 ≤ o.cost) (h : Cst n ops st l c) : 0 ≤ c := by
  induction h with
  | init => exact Int.le_refl _
  | step _ hp _ ih => have := hc _ (List.mem_of_getElem? hp); omega
theorem RBest.nn {n : Nat} {ops : List OpV} {goal st : List Int} {d : Int} (hc : ∀ o ∈ ops, 0 ≤ o.cost) (h : RBest n ops goal st d) : 0 ≤ d := by
  rcases h.1 with e | ⟨l, hl, _⟩
  · omega
  · exact hl.nn hc

/-! ### The order of the states -/
/-- A step leads to a later state, or to the same one. -/
def Ordered (n : Nat) (ops : List OpV) (ls : List (List Int)) : Prop := ∀ (i j : Nat) (l : List Int) (p : Nat) (o : OpV), ls[i]? = some l → ops[p]? = some o → (∀ q ∈ o.pre, q ∈ l) → ls[j]? = some (nextV n l o) → i ≤ j
/-- The table of costs, and the least one of a goal state so far. -/
structure DPI (n : Nat) (ops : List OpV) (goal st : List Int) (ls : List (List Int)) (k p g : Nat) (f : List Int → Int) (b : Int) : Prop where
  real : ∀ l ∈ ls, f l = 1000000000 ∨ Cst n ops st l (f l)
  rng : ∀ l ∈ ls, 0 ≤ f l ∧ f l ≤ 1000000000
  start : f st = 0
  done : ∀ (j q : Nat) (l : List Int) (o : OpV), (j < k ∨ (j = k ∧ q < p)) → ops[q]? = some o → ls[j]? = some l → (∀ x ∈ o.pre, x ∈ l) → f (nextV n l o) ≤ f l + o.cost
  low : ∀ (j : Nat) (l : List Int), j < g → ls[j]? = some l → (∀ q ∈ goal, q ∈ l) → b ≤ f l
  breal : b = 1000000000 ∨ ∃ l, Cst n ops st l b ∧ ∀ q ∈ goal, q ∈ l
  brng : 0 ≤ b ∧ b ≤ 1000000000
section
variable {n : Nat} {ops : List OpV} {goal st : List Int} {ls : List (List Int)} {k p g : Nat} {f : List Int → Int} {b : Int}
theorem DPI.init (hf : ∀ l ∈ ls, f l = if l = st then 0 else 1000000000) (hst : f st = 0) : DPI n ops goal st ls 0 0 0 f 1000000000 := by
  refine ⟨fun l hl => ?_, fun l hl => ?_, hst, fun j q l o h => by omega, fun j l h => by omega, .inl rfl, by omega⟩
  · by_cases e : l = st
    · rw [e, hst]; exact .inr .init
    · rw [hf l hl, if_neg e]; exact .inl rfl
  · rw [hf l hl]; split <;> omega
theorem DPI.skip (h : DPI n ops goal st ls k p g f b) {l : List Int} {o : OpV} (hl : ls[k]? = some l) (ho : ops[p]? = some o) (hc : ¬ ∀ x ∈ o.pre, x ∈ l) : DPI n ops goal st ls k (p + 1) g f b :=
  ⟨h.real, h.rng, h.start, fun j q l' o' hjq ho' hl' hc' => by
    by_cases e : j = k ∧ q = p
    · obtain ⟨rfl, rfl⟩ := e
      rw [hl] at hl'; injection hl' with hl'; subst hl'
      rw [ho] at ho'; injection ho' with ho'; subst ho'
      exact absurd hc' hc
    · exact h.done j q l' o' (by omega) ho' hl' hc', h.low, h.breal, h.brng⟩
theorem DPI.row (h : DPI n ops goal st ls k p (k + 1) f b) (hp : ops.length ≤ p) : DPI n ops goal st ls (k + 1) 0 (k + 1) f b :=
  ⟨h.real, h.rng, h.start, fun j q l o hjq ho hl hc => h.done j q l o (by have := (List.getElem?_eq_some_iff.1 ho).1; omega) ho hl hc, h.low, h.breal, h.brng⟩
theorem DPI.use (h : DPI n ops goal st ls k p (k + 1) f b) (hOrd : Ordered n ops ls) (hnd : ls.Nodup) (hcost : ∀ o ∈ ops, 0 ≤ o.cost) {l : List Int} {o : OpV} (hl : ls[k]? = some l) (ho : ops[p]? = some o) (hc : ∀ x ∈ o.pre, x ∈ l) (hcl : ∀ (l : List Int) (p : Nat) (o : OpV), l ∈ ls → ops[p]? = some o → (∀ q ∈ o.pre, q ∈ l) → nextV n l o ∈ ls) {f' : List Int → Int}
    (hf1 : f' (nextV n l o) = min (f (nextV n l o)) (f l + o.cost)) (hf2 : ∀ r ∈ ls, r ≠ nextV n l o → f' r = f r) (hst : st ∈ ls) : DPI n ops goal st ls k (p + 1) (k + 1) f' b := by
  have hm := List.mem_of_getElem? hl
  have hin := hcl l p o hm ho hc
  have hco := hcost o (List.mem_of_getElem? ho)
  have hrl := h.rng l hm
  have hrn := h.rng _ hin
  have hle : ∀ r ∈ ls, f' r ≤ f r := fun r hr => by
    by_cases e : r = nextV n l o
    · rw [e, hf1]; omega
    · rw [hf2 r hr e]; exact Int.le_refl _
  obtain ⟨jn, hjn⟩ := List.getElem?_of_mem hin
  have hkj := hOrd k jn l p o hl ho hc hjn
  -- nothing that was passed already becomes less
  have hsame : ∀ (j : Nat) (r : List Int), j ≤ k → ls[j]? = some r → f' r = f r := fun j r hj hr => by
    by_cases e : r = nextV n l o
    · have hjj : j = jn := by
        have h1 := (List.getElem?_inj (i := j) (j := jn) (List.getElem?_eq_some_iff.1 hr).1 hnd).1 (by rw [hr, hjn, e])
        exact h1
      have hjk : j = k := by omega
      subst hjk
      rw [hl] at hr
      injection hr with hr
      subst hr
      rw [← e] at hf1
      rw [hf1]
      omega
    · exact hf2 r (List.mem_of_getElem? hr) e
  refine ⟨fun r hr => ?_, fun r hr => ?_, ?_, fun j q l' o' hjq ho' hl' hc' => ?_, fun j l' hj hl' hg' => ?_, h.breal, h.brng⟩
  · by_cases e : r = nextV n l o
    · subst e
      rw [hf1]
      rcases Int.le_total (f (nextV n l o)) (f l + o.cost) with e2 | e2
      · rw [Int.min_eq_left e2]; exact h.real _ hin
      · rw [Int.min_eq_right e2]
        rcases h.real l hm with e3 | e3
        · exact .inl (by omega)
        · exact .inr (.step e3 ho hc)
    · rw [hf2 r hr e]; exact h.real r hr
  · by_cases e : r = nextV n l o
    · subst e; rw [hf1]; omega
    · rw [hf2 r hr e]; exact h.rng r hr
  · by_cases e : st = nextV n l o
    · rw [e, hf1, ← e, h.start]; omega
    · rw [hf2 st hst e]; exact h.start
  · by_cases e : j = k ∧ q = p
    · obtain ⟨rfl, rfl⟩ := e
      rw [hl] at hl'; injection hl' with hl'; subst hl'
      rw [ho] at ho'; injection ho' with ho'; subst ho'
      rw [hsame j l (Nat.le_refl _) hl, hf1]
      omega
    · rw [hsame j l' (by omega) hl']
      have h1 := h.done j q l' o' (by omega) ho' hl' hc'
      by_cases e2 : nextV n l' o' = nextV n l o
      · rw [e2, hf1]; rw [e2] at h1; omega
      · have := hle _ (hcl l' q o' (List.mem_of_getElem? hl') ho' hc'); omega
  · rw [hsame j l' (by omega) hl']; exact h.low j l' hj hl' hg'
theorem DPI.best (h : DPI n ops goal st ls ls.length 0 ls.length f b) (hst : st ∈ ls) (hcl : ∀ (l : List Int) (p : Nat) (o : OpV), l ∈ ls → ops[p]? = some o → (∀ q ∈ o.pre, q ∈ l) → nextV n l o ∈ ls) : RBest n ops goal st b := by
  have key : ∀ l c, Cst n ops st l c → l ∈ ls ∧ f l ≤ c := fun l c hc => by
    induction hc with
    | init => exact ⟨hst, by rw [h.start]; exact Int.le_refl _⟩
    | @step l c p o _ ho hpre ih =>
      obtain ⟨j, hj⟩ := List.getElem?_of_mem ih.1
      have h1 := h.done j p l o (.inl (List.getElem?_eq_some_iff.1 hj).1) ho hj hpre
      exact ⟨hcl l p o ih.1 ho hpre, by omega⟩
  refine ⟨h.breal, h.brng.2, fun l c hc hg => ?_⟩
  obtain ⟨hl, hle⟩ := key l c hc
  obtain ⟨j, hj⟩ := List.getElem?_of_mem hl
  have := h.low j l (List.getElem?_eq_some_iff.1 hj).1 hj hg
  omega
end
theorem RSt.closed {n : Nat} {ops : List OpV} {st : List Int} {ls : List (List Int)} (h : RSt n ops st ls ls.length 0) : ∀ (l : List Int) (p : Nat) (o : OpV), l ∈ ls → ops[p]? = some o → (∀ q ∈ o.pre, q ∈ l) → nextV n l o ∈ ls := fun l p o hl ho hc => by
  obtain ⟨j, hj⟩ := List.getElem?_of_mem hl
  have := h.done j p l (.inl (List.getElem?_eq_some_iff.1 hj).1) (List.getElem?_eq_some_iff.1 ho).1 hj ⟨o, by simpa using ho, hc⟩
  rwa [opAt_of (o := o) (by simpa using ho)] at this
end Go.Proofs.Ytihkgdlanfemcaa

namespace Go.Proofs.Ytihkgdlanfemcaa
open Go.RowKit
set_option linter.unusedVariables false
set_option linter.unusedSimpArgs false

/-! ### Own rows of integers -/
structure OwnL (base : Nat) (w : World) (vs : List Value) (xss : List (List Int)) : Prop where
  len : vs.length = xss.length
  own : ∀ (i : Nat) (v : Value) (xs : List Int), vs[i]? = some v → xss[i]? = some xs → OwnI base w v xs
  sep : ∀ (i j : Nat) (u v : Value), i ≠ j → vs[i]? = some u → vs[j]? = some v → Sep u v
section
variable {base : Nat} {w w' : World} {vs : List Value} {xss : List (List Int)}
theorem OwnL.nil (base : Nat) (w : World) : OwnL base w [] [] := ⟨rfl, fun i v xs h => by simp at h, fun i j u v _ h => by simp at h⟩
theorem OwnL.below (h : OwnL base w vs xss) (hb : Below w.heap.size w w') : OwnL base w' vs xss := ⟨h.len, fun i v xs h1 h2 => (h.own i v xs h1 h2).below hb, h.sep⟩
theorem OwnL.more (h : OwnL base w vs xss) : OwnL base w (vs ++ [.slice none 0 0]) (xss ++ [[]]) := by
  have key : ∀ (i : Nat) (v : Value), (vs ++ [Value.slice none 0 0])[i]? = some v → (i < vs.length ∧ vs[i]? = some v) ∨ (i = vs.length ∧ v = .slice none 0 0) := fun i v hv => by
    rcases Nat.lt_or_ge i vs.length with hl | hl
    · rw [List.getElem?_append_left hl] at hv; exact .inl ⟨hl, hv⟩
    · rw [List.getElem?_append_right hl] at hv
      have h0 : i - vs.length = 0 := by
        have := (List.getElem?_eq_some_iff.1 hv).1
        simp at this; omega
      rw [h0] at hv
      simp at hv
      exact .inr ⟨by omega, hv.symm⟩
  refine ⟨by simp [h.len], fun i v xs h1 h2 => ?_, fun i j u v hij h1 h2 => ?_⟩
  · rcases key i v h1 with ⟨hl, h1⟩ | ⟨rfl, rfl⟩
    · rw [List.getElem?_append_left (by rw [← h.len]; exact hl)] at h2
      exact h.own i v xs h1 h2
    · rw [h.len, List.getElem?_append_right (Nat.le_refl _)] at h2
      simp at h2
      subst h2
      exact OwnI.nil _ _
  · rcases key i u h1 with ⟨_, h1⟩ | ⟨rfl, rfl⟩
    · rcases key j v h2 with ⟨_, h2⟩ | ⟨rfl, rfl⟩
      · exact h.sep i j u v hij h1 h2
      · exact (sep_nil u).symm
    · exact sep_nil v
theorem OwnL.push (h : OwnL base w vs xss) (i : Nat) {v : Value} {xs ys : List Int} (hv : vs[i]? = some v) (hx : xss[i]? = some xs) {v' : Value} (o : OwnI base w' v' ys) (hg : w.grownBy w' v.ownBlock) (hat : v'.ownBlock = v.ownBlock ∨ v'.ownBlock = some w.heap.size) : OwnL base w' (vs.set i v') (xss.set i ys) := by
  have hil := (List.getElem?_eq_some_iff.1 hv).1
  have hb : ∀ (j : Nat) (u : Value), vs[j]? = some u → ∀ k, u.ownBlock = some k → k < w.heap.size := fun j u hu k hk => by
    have hj := (List.getElem?_eq_some_iff.1 hu).1
    exact (h.own j u _ hu (List.getElem?_eq_getElem (by rw [← h.len]; exact hj))).bnd k hk
  refine ⟨by simp [h.len], fun j u zs h1 h2 => ?_, fun j k u z hjk h1 h2 => ?_⟩
  · by_cases e : i = j
    · subst e
      rw [List.getElem?_set_self hil] at h1
      rw [List.getElem?_set_self (by rw [← h.len]; exact hil)] at h2
      injection h1 with h1; injection h2 with h2
      subst h1; subst h2
      exact o
    · rw [List.getElem?_set_ne e] at h1 h2
      exact own_grown_i (h.own j u zs h1 h2) hg (h.sep i j v u e hv h1)
  · by_cases e : i = j
    · subst e
      rw [List.getElem?_set_self hil] at h1
      rw [List.getElem?_set_ne hjk] at h2
      injection h1 with h1
      subst h1
      exact (Sep.next (h.sep k i z v (Ne.symm hjk) h2 hv) hat (hb k z h2)).symm
    · rw [List.getElem?_set_ne e] at h1
      by_cases e2 : i = k
      · subst e2
        rw [List.getElem?_set_self hil] at h2
        injection h2 with h2
        subst h2
        exact Sep.next (h.sep j i u v hjk h1 hv) hat (hb j u h1)
      · rw [List.getElem?_set_ne e2] at h2
        exact h.sep j k u z hjk h1 h2
end
/-! ### Costs of states -/
/-- What no plan can be cheaper than. -/
structure HCons (n : Nat) (ops : List OpV) (goal : List Int) (H : List Int → Int) : Prop where
  goal : ∀ l, (∀ q ∈ goal, q ∈ l) → SetP l (n : Int) → H l ≤ 0
  inf : ∀ l, SetP l (n : Int) → H l ≤ 1000000000
  step : ∀ (l : List Int) (p : Nat) (o : OpV), SetP l (n : Int) → ops[p]? = some o → CanV ops l (p : Int) → H (nextV n l o) < 1000000000 → H l ≤ H (nextV n l o) + o.cost
/-- The number of an operator's arc: from, to, cost. -/
def IsArc (n : Nat) (ops : List OpV) (ls : List (List Int)) (a : Nat × Nat × Int) : Prop := ∃ (l : List Int) (p : Nat) (o : OpV), ls[a.1]? = some l ∧ ops[p]? = some o ∧ CanV ops l (p : Int) ∧ ls[a.2.1]? = some (nextV n l o) ∧ a.2.2 = o.cost
structure DSt (n : Nat) (ops : List OpV) (goal : List Int) (ls : List (List Int)) (D : List Int) : Prop where
  len : D.length = ls.length
  all : AllV D
  zero : ∀ (i : Nat) (l : List Int), ls[i]? = some l → (∀ q ∈ goal, q ∈ l) → D[i]? = some 0
  low : ∀ H, HCons n ops goal H → ∀ (i : Nat) (l : List Int) (d : Int), ls[i]? = some l → D[i]? = some d → H l ≤ d
section
variable {n : Nat} {ops : List OpV} {goal : List Int} {ls : List (List Int)} {D : List Int}
theorem DSt.set_ (h : DSt n ops goal ls D) (hset : ∀ l ∈ ls, SetP l (n : Int)) (hops : ∀ o ∈ ops, 0 ≤ o.cost) {a : Nat × Nat × Int} (ha : IsArc n ops ls a) {x y : Int} (hx : D[a.1]? = some x) (hy : D[a.2.1]? = some y) (hy2 : y < 1000000000) (hlt : y + a.2.2 < x) : DSt n ops goal ls (D.set a.1 (y + a.2.2)) := by
  obtain ⟨l, p, o, h1, h2, h3, h4, h5⟩ := ha
  have hil := (List.getElem?_eq_some_iff.1 hx).1
  have hyV := h.all y (List.mem_of_getElem? hy)
  have hxV := h.all x (List.mem_of_getElem? hx)
  have hc := hops o (List.mem_of_getElem? h2)
  unfold InV at hyV hxV
  refine ⟨by rw [List.length_set]; exact h.len, allV_set h.all _ (by unfold InV; omega), fun i l' hl' hg => ?_, fun H hH i l' d hl' hd => ?_⟩
  · rw [List.getElem?_set_ne (fun e => by
      subst e
      have := h.zero a.1 l' hl' hg
      rw [hx] at this
      injection this with this
      omega)]
    exact h.zero i l' hl' hg
  · by_cases e : a.1 = i
    · subst e
      rw [List.getElem?_set_self hil] at hd
      injection hd with hd
      rw [h1] at hl'
      injection hl' with hl'
      subst hl'
      have k1 := h.low H hH a.2.1 _ y h4 hy
      have k2 := hH.step l p o (hset l (List.mem_of_getElem? h1)) h2 h3 (by omega)
      omega
    · rw [List.getElem?_set_ne e] at hd
      exact h.low H hH i l' d hl' hd
/-- Which arcs are in the list. -/
structure ArcsTo (n : Nat) (ops : List OpV) (ls : List (List Int)) (A : List (Nat × Nat × Int)) (i p k : Nat) : Prop where
  sound : ∀ a ∈ A, IsArc n ops ls a
  all : ∀ (i' p' k' : Nat) (l : List Int) (o : OpV), (i' < i ∨ i' = i ∧ (p' < p ∨ p' = p ∧ k' < k)) → ls[i']? = some l → ops[p']? = some o → CanV ops l (p' : Int) → ls[k']? = some (nextV n l o) → (i', k', o.cost) ∈ A
  len : A.length ≤ 80000 * i + 2000 * p + k
theorem ArcsTo.start : ArcsTo n ops ls [] 0 0 0 := ⟨fun a h => (List.not_mem_nil h).elim, fun i' p' k' l o h => by omega, by simp⟩
variable {A : List (Nat × Nat × Int)} {i p k : Nat}
theorem ArcsTo.add (h : ArcsTo n ops ls A i p k) {l : List Int} {o : OpV} (hl : ls[i]? = some l) (ho : ops[p]? = some o) (hc : CanV ops l (p : Int)) (hk : ls[k]? = some (nextV n l o)) : ArcsTo n ops ls (A ++ [(i, k, o.cost)]) i p (k + 1) := by
  refine ⟨fun a ha => ?_, fun i' p' k' l' o' hlt hl' ho' hc' hk' => ?_, by rw [List.length_append]; have := h.len; simp; omega⟩
  · rcases List.mem_append.1 ha with e | e
    · exact h.sound a e
    · rw [List.mem_singleton.1 e]; exact ⟨l, p, o, hl, ho, hc, hk, rfl⟩
  · by_cases e : i' = i ∧ p' = p ∧ k' = k
    · obtain ⟨rfl, rfl, rfl⟩ := e
      rw [ho] at ho'
      injection ho' with ho'
      subst ho'
      exact List.mem_append_right _ (List.mem_singleton.2 rfl)
    · exact List.mem_append_left _ (h.all i' p' k' l' o' (by omega) hl' ho' hc' hk')
theorem ArcsTo.skip (h : ArcsTo n ops ls A i p k) {l : List Int} {o : OpV} (hl : ls[i]? = some l) (ho : ops[p]? = some o) (hk : ls[k]? ≠ some (nextV n l o)) : ArcsTo n ops ls A i p (k + 1) :=
  ⟨h.sound, fun i' p' k' l' o' hlt hl' ho' hc' hk' => by
    by_cases e : i' = i ∧ p' = p ∧ k' = k
    · obtain ⟨rfl, rfl, rfl⟩ := e
      rw [ho] at ho'
      injection ho' with ho'
      subst ho'
      rw [hl] at hl'
      injection hl' with hl'
      subst hl'
      exact absurd hk' hk
    · exact h.all i' p' k' l' o' (by omega) hl' ho' hc' hk', by have := h.len; omega⟩
theorem ArcsTo.none (h : ArcsTo n ops ls A i p 0) {l : List Int} (hl : ls[i]? = some l) (hc : ¬ CanV ops l (p : Int)) : ArcsTo n ops ls A i (p + 1) 0 :=
  ⟨h.sound, fun i' p' k' l' o' hlt hl' ho' hc' hk' => by
    by_cases e : i' = i ∧ p' = p
    · obtain ⟨rfl, rfl⟩ := e
      rw [hl] at hl'
      injection hl' with hl'
      subst hl'
      exact absurd hc' hc
    · exact h.all i' p' k' l' o' (by omega) hl' ho' hc' hk', by have := h.len; omega⟩
theorem ArcsTo.row (h : ArcsTo n ops ls A i p 0) (hp : ops.length ≤ p) (hp2 : p ≤ 40) : ArcsTo n ops ls A (i + 1) 0 0 :=
  ⟨h.sound, fun i' p' k' l' o' hlt hl' ho' hc' hk' => h.all i' p' k' l' o' (by have := (List.getElem?_eq_some_iff.1 ho').1; omega) hl' ho' hc' hk', by have := h.len; omega⟩
end

end Go.Proofs.Ytihkgdlanfemcaa

namespace Go.Proofs.Ytihkgdlanfemcaa
open Go.RowKit
set_option linter.unusedVariables false
set_option linter.unusedSimpArgs false

theorem best_down {s : Bool} {n : Nat} {st : List Int} {ops : List OpV} {cs : List Int} (hadd : ∀ o ∈ ops, ∀ p ∈ o.add, 0 ≤ p ∧ p < (n : Int)) (hcs : AllV cs) : ∀ (m : Nat) (V : List Int), sumV V ≤ m → Above s n st ops cs V → ∃ V', Best s n st ops cs V' := by
  intro m
  induction m with
  | zero =>
    intro V hm hV
    refine ⟨V, best_of hV fun i o c hi ho hc p hp => ?_⟩
    refine Classical.byContradiction fun hlt => ?_
    have hpr := hadd o (List.mem_of_getElem? ho) p hp
    have hin := opV_in (s := s) hV.shape.all o (hcs c (List.mem_of_getElem? hc))
    obtain ⟨y, hy⟩ : ∃ y, V[p.toNat]? = some y := ⟨_, List.getElem?_eq_getElem (by rw [hV.shape.len]; omega)⟩
    rw [valAt_of hy] at hlt
    have := sum_set hy hin.1 (by omega : opV s V o c < y)
    omega
  | succ m ih =>
    intro V hm hV
    by_cases hcl : ClosedTo s ops cs ops.length V
    · exact ⟨V, best_of hV hcl⟩
    · obtain ⟨i, o, c, ho, hc, p, hp, hlt⟩ : ∃ i o c, ops[i]? = some o ∧ cs[i]? = some c ∧ ∃ p ∈ o.add, ¬ valAt V p ≤ opV s V o c := by
        refine Classical.byContradiction fun hn => hcl fun i o c hi ho hc p hp => Classical.byContradiction fun h => hn ⟨i, o, c, ho, hc, p, hp, h⟩
      have hcv := hcs c (List.mem_of_getElem? hc)
      have hpr := hadd o (List.mem_of_getElem? ho) p hp
      have hin := opV_in (s := s) hV.shape.all o hcv
      obtain ⟨y, hy⟩ : ∃ y, V[p.toNat]? = some y := ⟨_, List.getElem?_eq_getElem (by rw [hV.shape.len]; omega)⟩
      rw [valAt_of hy] at hlt
      have h1 := sum_set hy hin.1 (by omega : opV s V o c < y)
      exact ih _ (by omega) (above_set hV (bound_of hV ho hc hcv) hp hin hy (by omega))
theorem best_ex {s : Bool} {n : Nat} {st : List Int} {ops : List OpV} {cs : List Int} (hst : ∀ p ∈ st, 0 ≤ p ∧ p < (n : Int)) (hadd : ∀ o ∈ ops, ∀ p ∈ o.add, 0 ≤ p ∧ p < (n : Int)) (hcs : AllV cs) : Best s n st ops cs (valuesV s n st ops cs) := by
  obtain ⟨V, hV⟩ := best_down hadd hcs _ _ (Nat.le_refl _) (initV_above (s := s) (ops := ops) (cs := cs) hst)
  exact values_best hV
end Go.Proofs.Ytihkgdlanfemcaa

namespace Go.Proofs.Ytihkgdlanfemcaa
open Go.RowKit
set_option linter.unusedVariables false
set_option linter.unusedSimpArgs false

def rowV (n : Nat) (f : Int → Int) : List Int := (List.range n).map fun (q : Nat) => f (q : Int)
theorem rowV_len (n : Nat) (f : Int → Int) : (rowV n f).length = n := by simp [rowV]
theorem rowV_get {n q : Nat} {f : Int → Int} (h : q < n) : (rowV n f)[q]? = some (f (q : Int)) := by simp [rowV, h]
theorem rowV_ext {n : Nat} {f g : Int → Int} (h : ∀ q : Nat, q < n → f (q : Int) = g (q : Int)) : rowV n f = rowV n g := by
  unfold rowV
  refine List.map_congr_left fun q hq => h q (List.mem_range.1 hq)
/-- A value and its mirror image are replaced. -/
def updT (V : Int → Int → Int) (p q x : Int) : Int → Int → Int := fun p' q' => if (p' = p ∧ q' = q) ∨ (p' = q ∧ q' = p) then x else V p' q'
/-- .. if that is less. -/
def setT (V : Int → Int → Int) (p q x : Int) : Int → Int → Int := if x < V p q then updT V p q x else V
theorem setT_no {V : Int → Int → Int} {p q x : Int} (h : ¬ x < V p q) : setT V p q x = V := if_neg h
theorem setT_yes {V : Int → Int → Int} {p q x : Int} (h : x < V p q) : setT V p q x = updT V p q x := if_pos h

/-! ### In memory -/
/-- Block g holds a table: n rows of n values, each in a block of its own. -/
structure Tbl (w : World) (g : Nat) (bs : List Nat) (n : Nat) (V : Int → Int → Int) : Prop where
  arr : Arr w g 22 (bs.map fun b => Value.slice (some ⟨b, 0, none⟩) n n)
  len : bs.length = n
  rows : ∀ (p b : Nat), bs[p]? = some b → IArr w b (rowV n (V (p : Int)))
  diff : ∀ b ∈ bs, b ≠ g
  nodup : bs.Nodup
section
variable {w w' : World} {g n : Nat} {bs : List Nat} {V : Int → Int → Int}
theorem Tbl.lt (h : Tbl w g bs n V) : g < w.heap.size ∧ ∀ b ∈ bs, b < w.heap.size := ⟨h.arr.lt, fun b hb => by
  obtain ⟨i, hi, rfl⟩ := List.getElem_of_mem hb
  exact Arr.lt (h.rows i _ (List.getElem?_eq_getElem hi))⟩
theorem Tbl.same (h : Tbl w g bs n V) (hg : w'.heap[g]? = w.heap[g]?) (hb : ∀ b ∈ bs, w'.heap[b]? = w.heap[b]?) : Tbl w' g bs n V :=
  ⟨hg.trans h.arr, h.len, fun p b hp => (hb b (List.mem_of_getElem? hp)).trans (h.rows p b hp), h.diff, h.nodup⟩
theorem Tbl.below (h : Tbl w g bs n V) (hb : Below w.heap.size w w') : Tbl w' g bs n V := h.same (hb.block g h.lt.1) (fun b hm => hb.block b (h.lt.2 b hm))
theorem Tbl.at_ (h : Tbl w g bs n V) {p q : Int} (hp : 0 ≤ p ∧ p < (n : Int)) (hq : 0 ≤ q ∧ q < (n : Int)) :
    ∃ b, Hid (bs[p.toNat]? = some b) ∧ w.cell? ⟨g, p.toNat, none⟩ = some (.slice (some ⟨b, 0, none⟩) n n) ∧ w.cell? ⟨b, q.toNat, none⟩ = some (.int .i64 (V p q)) ∧ w.frozen? ⟨b, q.toNat, none⟩ = false := by
  have hpl : p.toNat < bs.length := by rw [h.len]; omega
  refine ⟨bs[p.toNat], Lib.hid (List.getElem?_eq_getElem hpl), ?_, ?_, Arr.free (h.rows _ _ (List.getElem?_eq_getElem hpl)) _⟩
  · rw [h.arr.cell]; simp [hpl]
  · have hr := h.rows _ _ (List.getElem?_eq_getElem hpl)
    have e : ((p.toNat : Nat) : Int) = p := by omega
    rw [e] at hr
    rw [Arr.cell hr, List.getElem?_map, rowV_get (by omega)]
    have e2 : ((q.toNat : Nat) : Int) = q := by omega
    rw [e2]; rfl
end
/-- Only the rows were written. -/
structure Wr (bs : List Nat) (w w' : World) : Prop where
  os : w'.os = w.os
  tape : w'.tape = w.tape
  output : w'.output = w.output
  size : w.heap.size ≤ w'.heap.size
  block : ∀ k, k < w.heap.size → k ∉ bs → w'.heap[k]? = w.heap[k]?
section
variable {bs : List Nat} {a w w' : World}
theorem Wr.refl (bs : List Nat) (w : World) : Wr bs w w := ⟨rfl, rfl, rfl, Nat.le_refl _, fun _ _ _ => rfl⟩
theorem Wr.of (h : Below w.heap.size w w') : Wr bs w w' := ⟨h.os, h.tape, h.output, h.size, fun k hk _ => h.block k hk⟩
theorem Wr.trans (h : Wr bs a w) (k : Wr bs w w') : Wr bs a w' := ⟨k.os.trans h.os, k.tape.trans h.tape, k.output.trans h.output, Nat.le_trans h.size k.size, fun i hi hn => (k.block i (Nat.lt_of_lt_of_le hi h.size) hn).trans (h.block i hi hn)⟩
theorem Wr.below {B : Nat} (h : Wr bs w w') (hB : B ≤ w.heap.size) (hb : ∀ b ∈ bs, B ≤ b) : Below B w w' := ⟨h.os, h.tape, h.output, h.size, fun k hk => h.block k (by omega) (fun hm => by have := hb k hm; omega)⟩
theorem Wr.set_ (h : Wr bs a w) {p : Addr} (hp : p.block ∈ bs) (u : Value) : Wr bs a (w.setCell p u) :=
  h.trans ⟨rfl, rfl, rfl, by simp [World.setCell], fun k hk hn => Below.heap_setCell _ _ _ _ (fun e => hn (by rw [e]; exact hp))⟩
theorem Cls.wr {l : List (Nat × Nat × Value)} {K : Nat} (hW : Wr bs w w') (hK : ∀ b ∈ bs, b < K) (hC : Cls w l) (hl : ∀ x ∈ l, K ≤ x.1) : Cls w' l := by
  induction l with
  | nil => trivial
  | cons x r ih =>
    obtain ⟨b, k, v⟩ := x
    obtain ⟨⟨h1, h2⟩, h3⟩ := hC
    have hlt := World.block_lt_of_cell? w ⟨b, k, none⟩ h1
    have hne : w'.heap[b]? = w.heap[b]? := hW.block b hlt (fun e => by
      have h4 := hK b e
      have h5 : K ≤ b := hl (b, k, v) (by simp)
      omega)
    exact ⟨⟨(World.cell?_of_block (w := w) hne).trans h1, (World.frozen?_of_block (w := w) hne).trans h2⟩, ih h3 (fun x hx => hl x (by simp [hx]))⟩
end

/-! ### The greatest value of a set's pairs, pair by pair -/
def Cov (V : Int → Int → Int) (l : List Int) (k j : Nat) (o : Int) : Prop :=
  0 ≤ o ∧ (∀ (a b : Nat) (p q : Int), (a < k ∧ b ≤ a ∨ a = k ∧ b < j) → l[a]? = some p → l[b]? = some q → V p q ≤ o) ∧
    ∀ z, 0 ≤ z → (∀ (a b : Nat) (p q : Int), (a < k ∧ b ≤ a ∨ a = k ∧ b < j) → l[a]? = some p → l[b]? = some q → V p q ≤ z) → o ≤ z
theorem Cov.start (V : Int → Int → Int) (l : List Int) : Cov V l 0 0 0 := ⟨Int.le_refl _, fun a b p q h => by omega, fun z hz _ => hz⟩
theorem Cov.step {V : Int → Int → Int} {l : List Int} {k j : Nat} {o p q m : Int} (h : Cov V l k j o) (hp : l[k]? = some p) (hq : l[j]? = some q) (hm : m = if o < V p q then V p q else o) : Cov V l k (j + 1) m := by
  obtain ⟨h0, h1, h2⟩ := h
  have hm1 : o ≤ m ∧ V p q ≤ m ∧ (m = o ∨ m = V p q) := by
    rw [hm]; split <;> omega
  refine ⟨by omega, fun a b p' q' hab ha hb => ?_, fun z hz hall => ?_⟩
  · by_cases e : a = k ∧ b = j
    · obtain ⟨rfl, rfl⟩ := e
      rw [hp] at ha; rw [hq] at hb
      injection ha with ha; injection hb with hb
      subst ha; subst hb
      omega
    · have := h1 a b p' q' (by omega) ha hb
      omega
  · have h3 := h2 z hz (fun a b p' q' hab ha hb => hall a b p' q' (by omega) ha hb)
    have h4 := hall k j p q (by omega) hp hq
    omega
theorem Cov.row {V : Int → Int → Int} {l : List Int} {k : Nat} {o : Int} (h : Cov V l k (k + 1) o) : Cov V l (k + 1) 0 o :=
  ⟨h.1, fun a b p q hab => h.2.1 a b p q (by omega), fun z hz hall => h.2.2 z hz fun a b p q hab => hall a b p q (by omega)⟩
/-! ### Lowering values -/
def sumN (l : List Nat) (f : Nat → Nat) : Nat := (l.map f).sum
theorem sumN_le {f g : Nat → Nat} : ∀ {l : List Nat}, (∀ x ∈ l, f x ≤ g x) → sumN l f ≤ sumN l g
  | [], _ => Nat.le_refl _
  | x :: l, h => by
    have h1 := sumN_le (l := l) (f := f) (g := g) (fun y hy => h y (List.mem_cons_of_mem _ hy))
    have h2 := h x (List.mem_cons_self ..)
    simp only [sumN, List.map_cons, List.sum_cons] at *
    omega
theorem sumN_lt {f g : Nat → Nat} : ∀ {l : List Nat}, (∀ x ∈ l, f x ≤ g x) → (∃ x ∈ l, f x < g x) → sumN l f < sumN l g
  | [], _, h => by obtain ⟨x, hx, _⟩ := h; cases hx
  | x :: l, h, hx => by
    obtain ⟨y, hy, hlt⟩ := hx
    have h2 := h x (List.mem_cons_self ..)
    have h3 := sumN_le (l := l) (f := f) (g := g) (fun y hy => h y (List.mem_cons_of_mem _ hy))
    rcases List.mem_cons.1 hy with e | e
    · subst e
      simp only [sumN, List.map_cons, List.sum_cons] at *
      omega
    · have h1 := sumN_lt (l := l) (f := f) (g := g) (fun y hy => h y (List.mem_cons_of_mem _ hy)) ⟨y, e, hlt⟩
      simp only [sumN, List.map_cons, List.sum_cons] at *
      omega
def sumT (n : Nat) (V : Int → Int → Int) : Nat := sumN (List.range n) fun p => sumN (List.range n) fun q => (V (p : Int) (q : Int)).toNat
theorem sumT_lt {n : Nat} {U V : Int → Int → Int} (h : ∀ p q, Rng n p → Rng n q → U p q ≤ V p q) {p q : Int} (hp : Rng n p) (hq : Rng n q) (h0 : 0 ≤ U p q) (hlt : U p q < V p q) : sumT n U < sumT n V := by
  unfold Rng at *
  have hr : ∀ x ∈ List.range n, (0 : Int) ≤ (x : Int) ∧ (x : Int) < (n : Int) := fun x hx => by have := List.mem_range.1 hx; omega
  refine sumN_lt (fun a ha => sumN_le fun b hb => ?_) ⟨p.toNat, List.mem_range.2 (by omega), sumN_lt (fun b hb => ?_) ⟨q.toNat, List.mem_range.2 (by omega), ?_⟩⟩
  · have := h a b (hr a ha) (hr b hb); omega
  · have e : ((p.toNat : Nat) : Int) = p := by omega
    rw [e]
    have := h p b hp (hr b hb); omega
  · have e : ((p.toNat : Nat) : Int) = p := by omega
    have e2 : ((q.toNat : Nat) : Int) = q := by omega
    rw [e, e2]; omega
/-- The values are at least those that no operator can lower. -/
structure PAb (n : Nat) (st : List Int) (ops : List OpV) (V : Int → Int → Int) : Prop where
  all : ∀ p q, Rng n p → Rng n q → InV (V p q)
  zero : ∀ p ∈ st, ∀ q ∈ st, V p q = 0
  sym : ∀ p q, Rng n p → Rng n q → V p q = V q p
  great : ∀ U, PFix n st ops U → ∀ p q, Rng n p → Rng n q → U p q ≤ V p q
section
variable {n : Nat} {st : List Int} {ops : List OpV} {V : Int → Int → Int}
theorem pfix_symm {U : Int → Int → Int} (h : PFix n st ops U) : PFix n st ops (fun p q => U q p) := by
  refine ⟨fun p q hp hq => h.all q p hq hp, fun p hp q hq => h.zero q hq p hp, fun o ho p q l hp hq ha => ?_⟩
  have h1 := h.closed o ho q p l hq hp ha.symm
  have h2 : valP (fun p q => U q p) l = valP U l := Int.le_antisymm (valP_le valP_nn fun p hp q hq => valP_ge hq hp) (valP_le valP_nn fun p hp q hq => valP_ge (V := fun p q => U q p) hq hp)
  show U q p ≤ _
  rw [h2]; exact h1
theorem PAb.set_ (h : PAb n st ops V) {p q x : Int} (hp : Rng n p) (hq : Rng n q) (hx : InV x) (hb : ∀ U, PFix n st ops U → U p q ≤ x) : PAb n st ops (setT V p q x) := by
  by_cases hlt : x < V p q
  · rw [setT_yes hlt]
    refine ⟨fun a b ha hb => ?_, fun a ha b hbb => ?_, fun a b ha hb => ?_, fun U hU a b ha hb2 => ?_⟩
    · unfold updT; split
      · exact hx
      · exact h.all a b ha hb
    · unfold updT
      rw [if_neg]
      · exact h.zero a ha b hbb
      · have hx0 : 0 ≤ x := hx.1
        rintro (⟨rfl, rfl⟩ | ⟨rfl, rfl⟩)
        · have := h.zero a ha b hbb; omega
        · have := h.zero b hbb a ha; omega
    · unfold updT
      by_cases e : (a = p ∧ b = q) ∨ (a = q ∧ b = p)
      · rw [if_pos e, if_pos (by rcases e with e | e; exact .inr ⟨e.2, e.1⟩; exact .inl ⟨e.2, e.1⟩)]
      · rw [if_neg e, if_neg (by rintro (k | k); exact e (.inr ⟨k.2, k.1⟩); exact e (.inl ⟨k.2, k.1⟩))]
        exact h.sym a b ha hb
    · unfold updT
      split
      · rename_i e
        rcases e with ⟨rfl, rfl⟩ | ⟨rfl, rfl⟩
        · exact hb U hU
        · exact hb _ (pfix_symm hU)
      · exact h.great U hU a b ha hb2
  · rw [setT_no hlt]; exact h
theorem PAb.set_lt (h : PAb n st ops V) {p q x : Int} (hp : Rng n p) (hq : Rng n q) (hx : InV x) (hlt : x < V p q) : sumT n (setT V p q x) < sumT n V := by
  rw [setT_yes hlt]
  have hs := h.sym p q hp hq
  refine sumT_lt (p := p) (q := q) (fun a b ha hb => ?_) hp hq ?_ ?_
  · unfold updT; split
    · rename_i e
      rcases e with ⟨rfl, rfl⟩ | ⟨rfl, rfl⟩ <;> omega
    · exact Int.le_refl _
  · unfold updT; rw [if_pos (.inl ⟨rfl, rfl⟩)]; exact hx.1
  · unfold updT; rw [if_pos (.inl ⟨rfl, rfl⟩)]; exact hlt
/-- While an operator is applied: V0 the values at its start, b whether some value was changed, P what is known if none was. -/
structure Use (n : Nat) (st : List Int) (ops : List OpV) (V0 V : Int → Int → Int) (b : Bool) (P : Prop) : Prop where
  ab : PAb n st ops V
  down : b = true → sumT n V < sumT n V0
  keep : b = false → V = V0 ∧ P
theorem Use.set_ {V0 : Int → Int → Int} {b : Bool} {P P' : Prop} (h : Use n st ops V0 V b P) {p q x : Int} (hp : Rng n p) (hq : Rng n q) (hx : InV x) (hb : ∀ U, PFix n st ops U → U p q ≤ x) (hP : V = V0 → P → V0 p q ≤ x → P') :
    Use n st ops V0 (setT V p q x) (decide (x < V p q) || b) P' := by
  refine ⟨h.ab.set_ hp hq hx hb, fun hc => ?_, fun hc => ?_⟩
  · by_cases hlt : x < V p q
    · have h1 := h.ab.set_lt hp hq hx hlt
      cases b with
      | true => have := h.down rfl; omega
      | false => rw [(h.keep rfl).1] at h1 ⊢; exact h1
    · rw [setT_no hlt]
      refine h.down ?_
      simpa [hlt] using hc
  · simp only [Bool.or_eq_false_iff, decide_eq_false_iff_not] at hc
    obtain ⟨h1, h2⟩ := h.keep hc.2
    rw [setT_no hc.1]
    exact ⟨h1, hP h1 h2 (by rw [← h1]; omega)⟩
theorem Use.imp {V0 : Int → Int → Int} {b : Bool} {P P' : Prop} (h : Use n st ops V0 V b P) (hP : V = V0 → P → P') : Use n st ops V0 V b P' := ⟨h.ab, h.down, fun hb => ⟨(h.keep hb).1, hP (h.keep hb).1 (h.keep hb).2⟩⟩
end

end Go.Proofs.Ytihkgdlanfemcaa

namespace Go.Proofs.Ytihkgdlanfemcaa
open Go.RowKit
set_option linter.unusedVariables false
set_option linter.unusedSimpArgs false
theorem Wr.drew {bs : List Nat} {a w : World} (h : Wr bs a w) : Wr bs a w.drew := ⟨h.os, h.tape, h.output, h.size, h.block⟩
theorem Tbl.drew {w : World} {g n : Nat} {bs : List Nat} {V : Int → Int → Int} (h : Tbl w g bs n V) : Tbl w.drew g bs n V := ⟨h.arr, h.len, h.rows, h.diff, h.nodup⟩
end Go.Proofs.Ytihkgdlanfemcaa

namespace Go.Proofs.Ytihkgdlanfemcaa
open Go.RowKit
set_option linter.unusedVariables false
set_option linter.unusedSimpArgs false
section
variable {n : Nat} {st : List Int} {ops : List OpV} {V U : Int → Int → Int} {o : OpV} {p q : Int}
end
end Go.Proofs.Ytihkgdlanfemcaa

namespace Go.Proofs.Ytihkgdlanfemcaa
open Go.RowKit
set_option linter.unusedVariables false
set_option linter.unusedSimpArgs false

/-- .. of which only the first k rows are made. -/
structure TblTo (w : World) (g : Nat) (bs : List Nat) (n k : Nat) (V : Int → Int → Int) : Prop where
  arr : Arr w g 22 ((bs.map fun b => Value.slice (some ⟨b, 0, none⟩) n n) ++ List.replicate (n - k) (Value.slice none 0 0))
  len : bs.length = k
  rows : ∀ (p b : Nat), bs[p]? = some b → IArr w b (rowV n (V (p : Int)))
  diff : ∀ b ∈ bs, b ≠ g
  nodup : bs.Nodup
section
variable {w w' : World} {g n k : Nat} {bs : List Nat} {V : Int → Int → Int}
theorem TblTo.lt (h : TblTo w g bs n k V) : g < w.heap.size ∧ ∀ b ∈ bs, b < w.heap.size := ⟨h.arr.lt, fun b hb => by
  obtain ⟨i, hi, rfl⟩ := List.getElem_of_mem hb
  exact Arr.lt (h.rows i _ (List.getElem?_eq_getElem hi))⟩
theorem TblTo.below (h : TblTo w g bs n k V) (hb : Below w.heap.size w w') : TblTo w' g bs n k V :=
  ⟨(hb.block g h.lt.1).trans h.arr, h.len, fun p b hp => (hb.block b (h.lt.2 b (List.mem_of_getElem? hp))).trans (h.rows p b hp), h.diff, h.nodup⟩
theorem TblTo.at_ (h : TblTo w g bs n k V) {p q : Nat} (hp : p < k) (hq : q < n) :
    ∃ b, Hid (bs[p]? = some b) ∧ b < w.heap.size ∧ w.cell? ⟨g, p, none⟩ = some (.slice (some ⟨b, 0, none⟩) n n) ∧ w.cell? ⟨b, q, none⟩ = some (.int .i64 (V p q)) ∧ w.frozen? ⟨b, q, none⟩ = false := by
  have hpl : p < bs.length := by rw [h.len]; omega
  refine ⟨bs[p], Lib.hid (List.getElem?_eq_getElem hpl), h.lt.2 _ (List.getElem_mem hpl), ?_, ?_, Arr.free (h.rows _ _ (List.getElem?_eq_getElem hpl)) _⟩
  · rw [h.arr.cell, List.getElem?_append_left (by simpa using hpl)]; simp [hpl]
  · have hr := h.rows _ _ (List.getElem?_eq_getElem hpl)
    rw [Arr.cell hr, List.getElem?_map, rowV_get hq]; rfl
theorem TblTo.next (h : TblTo w g bs n k V) (hk : k < n) : w.cell? ⟨g, k, none⟩ = some (.slice none 0 0) ∧ w.frozen? ⟨g, k, none⟩ = false := by
  refine ⟨?_, Arr.free h.arr _⟩
  rw [h.arr.cell, List.getElem?_append_right (by simp [h.len]), List.length_map, h.len, Nat.sub_self, List.getElem?_replicate, if_pos (by omega)]
theorem TblTo.congr {U : Int → Int → Int} (h : TblTo w g bs n k V) (he : ∀ p q : Nat, p < k → q < n → V p q = U p q) : TblTo w g bs n k U :=
  ⟨h.arr, h.len, fun p b hp => by
    have := (List.getElem?_eq_some_iff.1 hp).1
    have h1 := h.rows p b hp
    rw [rowV_ext (fun q hq => he p q (by rw [← h.len]; exact this) hq)] at h1
    exact h1, h.diff, h.nodup⟩
theorem TblTo.add (h : TblTo w g bs n k V) (hk : k < n) (hz : ∀ q : Nat, q < n → V k q = 0) : TblTo ((w.setCell ⟨g, k, none⟩ (.slice (some ⟨w.heap.size, 0, none⟩) n n)).alloc (.cells (Array.replicate n (.int .i64 0)) 3)) g (bs ++ [w.heap.size]) n (k + 1) V := by
  have hg := h.lt.1
  have hbl := h.lt.2
  refine ⟨?_, by simp [h.len], fun p b hp => ?_, fun b hb => ?_, ?_⟩
  · have h1 := (h.arr.set_ k (.slice (some ⟨w.heap.size, 0, none⟩) n n)).alloc (.cells (Array.replicate n (.int .i64 0)) 3)
    have e : ((bs.map fun b => Value.slice (some ⟨b, 0, none⟩) n n) ++ List.replicate (n - k) (Value.slice none 0 0)).set k (.slice (some ⟨w.heap.size, 0, none⟩) n n) = ((bs ++ [w.heap.size]).map fun b => Value.slice (some ⟨b, 0, none⟩) n n) ++ List.replicate (n - (k + 1)) (Value.slice none 0 0) := by
      have hl : (bs.map fun b => Value.slice (some ⟨b, 0, none⟩) n n).length = k := by simp [h.len]
      rw [List.set_append_right _ _ (by omega), hl, Nat.sub_self]
      have e2 : n - k = (n - (k + 1)) + 1 := by omega
      rw [e2, List.replicate_succ]
      simp
    rw [e] at h1
    exact h1
  · rcases Nat.lt_or_ge p bs.length with hl | hl
    · rw [List.getElem?_append_left hl] at hp
      have h1 := (h.rows p b hp).far (p := ⟨g, k, none⟩) (fun e => h.diff b (List.mem_of_getElem? hp) e.symm) (.slice (some ⟨w.heap.size, 0, none⟩) n n)
      exact h1.below ((Below.refl _ _).alloc (Nat.le_refl _) _)
    · rw [List.getElem?_append_right hl] at hp
      have hp0 : p = bs.length := by
        have := (List.getElem?_eq_some_iff.1 hp).1
        simp at this; omega
      subst hp0
      simp at hp
      subst hp
      have h1 := IArr.made (w.setCell ⟨g, k, none⟩ (.slice (some ⟨w.heap.size, 0, none⟩) n n)) n w.heap.size (by simp)
      have e : rowV n (V ((bs.length : Nat) : Int)) = List.replicate n 0 := by
        apply List.ext_getElem?
        intro i
        by_cases hi : i < n
        · rw [rowV_get hi, h.len, hz i hi]; simp [hi]
        · rw [List.getElem?_eq_none (by rw [rowV_len]; omega), List.getElem?_eq_none (by simp; omega)]
      rw [e]
      exact h1
  · rcases List.mem_append.1 hb with h1 | h1
    · exact h.diff b h1
    · rw [List.mem_singleton.1 h1]; omega
  · rw [List.nodup_append]
    refine ⟨h.nodup, by simp, fun a ha b hb => ?_⟩
    rw [List.mem_singleton.1 hb]
    have := hbl a ha
    omega
theorem TblTo.full (h : TblTo w g bs n n V) : Tbl w g bs n V := ⟨by have := h.arr; simpa using this, h.len, h.rows, h.diff, h.nodup⟩
theorem TblTo.start (w : World) (n k : Nat) (V : Int → Int → Int) (hk : k = w.heap.size) : TblTo (w.alloc (.cells (Array.replicate n (Value.slice none 0 0)) 22)) k [] n 0 V := by
  subst hk
  refine ⟨?_, rfl, fun p b h => by simp at h, fun b h => (List.not_mem_nil h).elim, List.nodup_nil⟩
  have h := Arr.new w 22 (List.replicate n (Value.slice none 0 0))
  rw [List.toArray_replicate] at h
  simpa using h
end
end Go.Proofs.Ytihkgdlanfemcaa

namespace Go.Proofs.Ytihkgdlanfemcaa
open Go.RowKit
set_option linter.unusedVariables false
set_option linter.unusedSimpArgs false

/-- A table in blocks from B on. -/
def TabAt (B : Nat) (w : World) (g n : Nat) (V : Int → Int → Int) : Prop := ∃ bs, B ≤ g ∧ (∀ b ∈ bs, B ≤ b) ∧ Tbl w g bs n V
section
variable {B : Nat} {w w' : World} {g n : Nat} {V : Int → Int → Int}
theorem TabAt.below (h : TabAt B w g n V) (hb : Below w.heap.size w w') : TabAt B w' g n V := by
  obtain ⟨bs, h1, h2, h3⟩ := h
  exact ⟨bs, h1, h2, h3.below hb⟩
theorem TabAt.mono {B' : Nat} (h : TabAt B w g n V) (hb : B' ≤ B) : TabAt B' w g n V := by
  obtain ⟨bs, h1, h2, h3⟩ := h
  exact ⟨bs, by omega, fun b hm => by have := h2 b hm; omega, h3⟩
theorem TabAt.far (h : TabAt B w g n V) {p : Addr} (hp : p.block < B) (u : Value) : TabAt B (w.setCell p u) g n V := by
  obtain ⟨bs, h1, h2, h3⟩ := h
  exact ⟨bs, h1, h2, h3.same (Below.heap_setCell _ _ _ _ (by omega)) (fun b hm => Below.heap_setCell _ _ _ _ (by have := h2 b hm; omega))⟩
theorem TabAt.drew (h : TabAt B w g n V) : TabAt B w.drew g n V := by
  obtain ⟨bs, h1, h2, h3⟩ := h
  exact ⟨bs, h1, h2, h3.drew⟩
theorem TabAt.at_ (h : TabAt B w g n V) {p q : Int} (hp : 0 ≤ p ∧ p < (n : Int)) (hq : 0 ≤ q ∧ q < (n : Int)) :
    ∃ b, w.cell? ⟨g, p.toNat, none⟩ = some (.slice (some ⟨b, 0, none⟩) n n) ∧ w.cell? ⟨b, q.toNat, none⟩ = some (.int .i64 (V p q)) := by
  obtain ⟨bs, h1, h2, h3⟩ := h
  obtain ⟨b, _, h4, h5, _⟩ := h3.at_ hp hq
  exact ⟨b, h4, h5⟩
theorem TabAt.row (h : TabAt B w g n V) {p : Nat} (hp : p < n) :
    ∃ b, w.cell? ⟨g, p, none⟩ = some (.slice (some ⟨b, 0, none⟩) n n) ∧ Ints w (some ⟨b, 0, none⟩) (rowV n (V (p : Int))) := by
  obtain ⟨bs, h1, h2, h3⟩ := h
  have hl : p < bs.length := by rw [h3.len]; exact hp
  refine ⟨bs[p], ?_, (h3.rows p _ (List.getElem?_eq_getElem hl)).ints⟩
  rw [h3.arr.cell]; simp [hl]
end
end Go.Proofs.Ytihkgdlanfemcaa
