/-
  slices.Sort, slices.Compact over an own row of integers.
  The library's slices.Sort and slices.Compact, laid over this program.
  strips.Contains: whether a set lies in another one.
  strips.Update: what it returns.
  strips.Can, Next, Steps, PlanFault; R.StepsFault, R.PlanFault: what they return.
  R.Applies, After: what they return.
  Several own rows side by side; the states that are reached from a state: plain and in memory.
  hitting.validate: the fault of sets and costs.
  The least cost of a relaxed plan, by the states in the order of their bits: plain.
  R.ReachedFrom: what it returns.
-/
import Derived.Test.YtihkgdlanfemcaaZ1
import Derived.Test.YtihkgdlanfemcaaChecked
import Derived.Test.YtihkgdlanfemcaaZ2
import Derived.Test.YtihkgdlanfemcaaZ8
import Derived.Shelf.Sort.Plain
import Derived.Shelf.Slices.CompactI
import Derived.Shelf.Slices.In.SortNone
import Derived.Sort.OwnSortedInts
import Derived.Test.YtihkgdlanfemcaaZ7
import Derived.Test.YtihkgdlanfemcaaZ5
namespace Go.Proofs.Ytihkgdlanfemcaa
open Go.RowKit Go.Shelf Go.Sort
set_option linter.unusedVariables false
set_option linter.unusedSimpArgs false

/-! ### What they compute -/
def sortV (l : List Int) : List Int := l.mergeSort fun x y => decide (x ≤ y)
theorem sortV_mem {l : List Int} {x : Int} : x ∈ sortV l ↔ x ∈ l := by unfold sortV; exact List.mem_mergeSort
theorem sortV_len (l : List Int) : (sortV l).length = l.length := by unfold sortV; exact List.length_mergeSort _
theorem sortV_le (l : List Int) : (sortV l).Pairwise (· ≤ ·) := by
  have h := List.pairwise_mergeSort (le := fun x y : Int => decide (x ≤ y)) (fun a b c h1 h2 => by simp at *; omega) (fun a b => by simp; omega) l
  unfold sortV
  exact h.imp (fun h => by simpa using h)
theorem compactTo {l : List Int} (h : l.Pairwise (· ≤ ·)) : ∀ m, m ≤ l.length → (Lib.compactUpTo l.toArray m).Pairwise (· < ·) ∧ (∀ x, x ∈ Lib.compactUpTo l.toArray m ↔ x ∈ l.take m) := by
  intro m
  induction m with
  | zero => intro _; exact ⟨by simp [Lib.compactUpTo], by simp [Lib.compactUpTo]⟩
  | succ m ih =>
    intro hm
    obtain ⟨h1, h2⟩ := ih (by omega)
    have hlt : m < l.length := by omega
    have hg : l.toArray[m]! = l[m] := by rw [getElem!_pos _ m (by simpa using hlt)]; simp
    have ht : l.take (m + 1) = l.take m ++ [l[m]] := by rw [List.take_add_one, List.getElem?_eq_getElem hlt]; rfl
    rw [Lib.compactUpTo_succ, ht]
    by_cases hk : Lib.keeps l.toArray m = true
    · rw [if_pos hk, hg]
      refine ⟨?_, fun x => by rw [List.mem_append, List.mem_append, h2]⟩
      rw [List.pairwise_append]
      refine ⟨h1, by simp, fun a ha b hb => ?_⟩
      rw [List.mem_singleton.1 hb]
      have ha' := (h2 a).1 ha
      obtain ⟨i, hi, rfl⟩ := List.getElem_of_mem ha'
      rw [List.length_take] at hi
      rw [List.getElem_take]
      have hle : ∀ i j (hi : i < l.length) (hj : j < l.length), i < j → l[i] ≤ l[j] := fun i j hi hj hij => List.pairwise_iff_getElem.1 h i j hi hj hij
      unfold Lib.keeps at hk
      simp only [decide_eq_true_eq] at hk
      rcases hk with hk | hk
      · omega
      · rw [hg, getElem!_pos _ (m - 1) (by simp; omega)] at hk
        have hk' : l[m] ≠ l[m - 1] := by simpa using hk
        have h3 := hle (m - 1) m (by omega) hlt (by omega)
        rcases Nat.lt_or_ge i (m - 1) with h5 | h5
        · have h4 := hle i (m - 1) (by omega) (by omega) h5
          omega
        · have h6 : i = m - 1 := by omega
          subst h6; omega
    · rw [if_neg hk, List.append_nil]
      refine ⟨h1, fun x => ?_⟩
      rw [h2, List.mem_append, List.mem_singleton]
      constructor
      · exact .inl
      · rintro (hx | rfl)
        · exact hx
        · unfold Lib.keeps at hk
          simp only [decide_eq_true_eq, not_or, Classical.not_not] at hk
          obtain ⟨hk0, hk⟩ := hk
          rw [hg, getElem!_pos _ (m - 1) (by simp; omega)] at hk
          have hk' : l[m] = l[m - 1] := by simpa using hk
          rw [hk']
          refine List.mem_of_getElem? (i := m - 1) ?_
          rw [List.getElem?_take_of_lt (by omega), List.getElem?_eq_getElem (by omega)]
theorem compact_of {l : List Int} (h : l.Pairwise (· ≤ ·)) : (Lib.compact l).Pairwise (· < ·) ∧ ∀ x, x ∈ Lib.compact l ↔ x ∈ l := by
  obtain ⟨h1, h2⟩ := compactTo h l.length (Nat.le_refl _)
  unfold Lib.compact
  exact ⟨h1, fun x => by rw [h2, List.take_of_length_le (Nat.le_refl _)]⟩
theorem compact_len (l : List Int) : (Lib.compact l).length ≤ l.length := by
  unfold Lib.compact Lib.compactUpTo
  rw [List.length_map]
  exact Nat.le_trans (List.length_filter_le _ _) (by simp)

/-! ### Over an own row -/
theorem own_holds {w : World} {base g n cap : Nat} {xs : List Int} (h : OwnI base w (.slice (some ⟨g, 0, none⟩) n cap) xs) : Holds (Value.int .i64) w g 0 xs.toArray ∧ g < w.heap.size ∧ base ≤ g ∧ n = xs.length ∧ n ≤ cap ∧ cap ≤ maxLen ∧ ∃ cur e, w.heap[g]? = some (.cells cur e (0, 0)) := by
  unfold OwnI at h
  obtain ⟨h1, h2⟩ := h
  rcases h2 with ⟨h2, h4⟩ | ⟨g', cap', cur, hv, hb, hg, hn, hc, hs, ht⟩
  · cases h2
  · injection hv with e1 e2 e3
    injection e1 with e1
    injection e1 with e1
    subst e1; subst e3; subst e2
    have hlt : g < w.heap.size := by
      rcases Nat.lt_or_ge g w.heap.size with hl | hl
      · exact hl
      · rw [Array.getElem?_eq_none hl] at hg; cases hg
    refine ⟨holds_of_blockI hg (by simpa using ht), hlt, hb, by simp, by simpa using hn, hc, cur, _, hg⟩
theorem own_cut {w : World} {base g n cap k : Nat} {xs : List Int} (h : OwnI base w (.slice (some ⟨g, 0, none⟩) n cap) xs) (hk : k ≤ xs.length) : OwnI base w (.slice (some ⟨g, 0, none⟩) k cap) (xs.take k) := by
  unfold OwnI at h ⊢
  obtain ⟨h1, h2⟩ := h
  rcases h2 with ⟨h2, h4⟩ | ⟨g', cap', cur, hv, hb, hg, hn, hc, hs, ht⟩
  · cases h2
  · injection hv with e1 e2 e3
    injection e1 with e1
    injection e1 with e1
    subst e1; subst e3; subst e2
    have hl : (xs.take k).length = k := by rw [List.length_take]; omega
    refine ⟨by rw [List.length_map, Nat.mul_one], .inr ⟨g, cap, cur, by rw [hl], hb, hg, by omega, hc, hs, ?_⟩⟩
    rw [Nat.mul_one] at ht ⊢
    rw [hl, List.map_take, ← ht, List.take_take]
    congr 1
    omega
/-- A row with other numbers laid on it, in a world that has drawn and grown. -/
theorem own_put {w : World} {base g n cap m : Nat} {xs ts : List Int} {os : Array Obj} (h : OwnI base w (.slice (some ⟨g, 0, none⟩) n cap) xs) (hl : ts.length = xs.length) :
    OwnI base (grow (putRow (Value.int .i64) (Sort.ahead w m) g 0 ts.toArray) os) (.slice (some ⟨g, 0, none⟩) n cap) ts ∧ w.grownBy (grow (putRow (Value.int .i64) (Sort.ahead w m) g 0 ts.toArray) os) (some g) := by
  unfold OwnI at h ⊢
  obtain ⟨h1, h2⟩ := h
  rcases h2 with ⟨h2, h4⟩ | ⟨g', cap', cur, hv, hb, hg, hn, hc, hs, ht⟩
  · cases h2
  · injection hv with e1 e2 e3
    injection e1 with e1
    injection e1 with e1
    subst e1; subst e3; subst e2
    have h5 := ownsRow_sortedI (w := w) (base := base) (os := os) (n := m) (cur := cur) hl hb hg hn hc hs
    exact ⟨by rw [hl]; exact h5, grownBy_sortedI _⟩
theorem own_put' {w : World} {base g n cap m : Nat} {xs ts : List Int} (h : OwnI base w (.slice (some ⟨g, 0, none⟩) n cap) xs) (hl : ts.length = xs.length) :
    OwnI base (putRow (Value.int .i64) (Sort.ahead w m) g 0 ts.toArray) (.slice (some ⟨g, 0, none⟩) n cap) ts ∧ w.grownBy (putRow (Value.int .i64) (Sort.ahead w m) g 0 ts.toArray) (some g) := by
  have := own_put (os := #[]) (m := m) h hl
  rwa [grow_empty] at this
section
variable {P : Program} {ρ ρ' : Ren}
theorem sort_own (Ly : Lays.n189 P ρ) {w0 w : World} {base : Nat} {v : Value} {xs : List Int} (h : OwnI base w v xs) (h0 : w0.heap.size ≤ base) (hB : Below w0.heap.size w0 w) (hl : xs.length ≤ 1000000000000) :
    Calls P (ρ.f 189) #[v] w fun e w' => e = .returned (.tuple #[]) ∧ OwnI base w' v (sortV xs) ∧ Below w0.heap.size w0 w' := by
  obtain ⟨A, c, rfl, -⟩ := h.form
  cases A with
  | none =>
    have hx : xs = [] := by
      cases xs with
      | nil => rfl
      | cons x xs =>
        unfold OwnI at h
        rcases h.2 with ⟨h2, h4⟩ | ⟨g', cap', cur, hv, _⟩
        · simp at h4
        · cases hv
    subst hx
    refine (Any.slices_Sort_int_none Ly none c w).mono ?_
    rintro e w' ⟨rfl, rfl⟩
    exact ⟨rfl, by unfold sortV; simpa using h, hB⟩
  | some ad =>
    have hf : ∃ g, ad = ⟨g, 0, none⟩ := by
      unfold OwnI at h
      rcases h.2 with ⟨h2, h4⟩ | ⟨g', cap', cur, hv, _⟩
      · cases h2
      · injection hv with e1 e2 e3
        injection e1 with e1
        exact ⟨g', e1⟩
    obtain ⟨g, rfl⟩ := hf
    obtain ⟨hH, hlt, hb, hn, hnc, hcm, _⟩ := own_holds h
    refine (Any.slices_Sort_int Ly g 0 c xs w hH hlt (by omega)).mono ?_
    rintro e w' ⟨rfl, m, os, rfl⟩
    obtain ⟨h5, h6⟩ := own_put (m := m) (os := os) (ts := sortV xs) h (sortV_len xs)
    exact ⟨rfl, h5, hB.grown h6 (by have := hB.size; omega) (fun k hk => by injection hk with hk; omega)⟩
theorem compact_own (Ly : Lays2.n20 P ρ) {w0 w : World} {base : Nat} {v : Value} {xs : List Int} (h : OwnI base w v xs) (h0 : w0.heap.size ≤ base) (hB : Below w0.heap.size w0 w) (hl : xs.length ≤ 1000000000000) :
    Calls P (ρ.f 20) #[v] w fun e w' => ∃ v', e = .returned v' ∧ OwnI base w' v' (Lib.compact xs) ∧ Below w0.heap.size w0 w' := by
  obtain ⟨A, c, rfl, -⟩ := h.form
  cases A with
  | none =>
    have hx : xs = [] := by
      cases xs with
      | nil => rfl
      | cons x xs =>
        unfold OwnI at h
        rcases h.2 with ⟨h2, h4⟩ | ⟨g', cap', cur, hv, _⟩
        · simp at h4
        · cases hv
    subst hx
    refine (Any.slices_Compact_int_empty Ly none c w).mono ?_
    rintro e w' ⟨rfl, rfl⟩
    exact ⟨_, rfl, by simpa [Lib.compact, Lib.compactUpTo] using h, hB⟩
  | some ad =>
    have hf : ∃ g, ad = ⟨g, 0, none⟩ := by
      unfold OwnI at h
      rcases h.2 with ⟨h2, h4⟩ | ⟨g', cap', cur, hv, _⟩
      · cases h2
      · injection hv with e1 e2 e3
        injection e1 with e1
        exact ⟨g', e1⟩
    obtain ⟨g, rfl⟩ := hf
    obtain ⟨hH, hlt, hb, hn, hnc, hcm, _⟩ := own_holds h
    refine (Any.slices_Compact_int Ly g 0 c xs w hH (by omega) (by omega)).mono ?_
    rintro e w' ⟨rfl, m, rfl⟩
    have hcl := compact_len xs
    obtain ⟨h5, h6⟩ := own_put' (m := m) (ts := Lib.compact xs ++ List.replicate (xs.length - (Lib.compact xs).length) 0) h (by simp; omega)
    refine ⟨_, rfl, ?_, hB.grown h6 (by have := hB.size; omega) (fun k hk => by injection hk with hk; omega)⟩
    have h7 := own_cut (k := (Lib.compact xs).length) h5 (by simp)
    rwa [List.take_left] at h7
end

end Go.Proofs.Ytihkgdlanfemcaa

namespace Go.Proofs.Ytihkgdlanfemcaa
open Go.Shelf
def lays_sort_ren : Go.Shelf.Ren := ⟨fun | 0 => 0 | 1 => 1 | 2 => 2 | 107 => 114 | 108 => 140 | 125 => 105 | 128 => 134 | 129 => 135 | 189 => 93 | 215 => 106 | 216 => 118 | 257 => 117 | 294 => 141 | 295 => 142 | 296 => 143 | 297 => 144 | 298 => 145 | 299 => 146 | 300 => 147 | 301 => 148 | 328 => 160 | 329 => 154 | 330 => 155 | 331 => 161 | 332 => 162 | 343 => 164 | 347 => 165 | 348 => 166 | 349 => 167 | 350 => 168 | 351 => 169 | 352 => 170 | 353 => 171 | 354 => 172 | 355 => 173 | 356 => 174 | 357 => 175 | 358 => 176 | 359 => 177 | 360 => 178 | 361 => 179 | 366 => 180 | n => n, fun | 0 => 0 | 1 => 1 | 2 => 2 | 3 => 3 | 4 => 4 | 5 => 5 | 6 => 6 | 7 => 7 | 8 => 8 | 9 => 9 | 10 => 10 | 11 => 11 | 12 => 12 | 13 => 13 | 14 => 14 | 15 => 15 | 16 => 16 | 17 => 17 | 18 => 18 | 19 => 19 | 20 => 20 | 21 => 21 | 28 => 22 | 29 => 59 | 30 => 155 | 34 => 53 | 35 => 117 | 36 => 77 | 43 => 91 | 46 => 116 | 47 => 124 | 51 => 99 | 52 => 104 | 53 => 150 | 54 => 149 | 80 => 177 | 81 => 183 | 111 => 95 | 112 => 138 | 127 => 187 | 131 => 65 | 134 => 137 | 164 => 192 | 181 => 156 | 182 => 143 | 183 => 144 | 184 => 157 | 185 => 158 | 186 => 159 | 187 => 160 | 218 => 162 | 219 => 163 | 220 => 164 | 221 => 172 | 222 => 166 | 223 => 173 | 228 => 174 | 229 => 75 | 230 => 176 | 238 => 178 | 239 => 179 | 240 => 180 | 241 => 181 | 242 => 182 | 243 => 184 | 244 => 185 | 245 => 186 | 246 => 188 | 247 => 189 | 248 => 190 | 249 => 191 | n => n, fun n => n⟩
set_option maxRecDepth 100000 in
theorem lays_sort : Go.Proofs.Lays.n189 Try.prog lays_sort_ren := {
  mixed := by kernel_rfl,
  f125 := Try.func105.trans (congrArg some (by kernel_rfl)),
  f128 := Try.func134.trans (congrArg some (by kernel_rfl)),
  f129 := Try.func135.trans (congrArg some (by kernel_rfl)),
  f189 := Try.func93.trans (congrArg some (by kernel_rfl)),
  f215 := Try.func106.trans (congrArg some (by kernel_rfl)),
  f216 := Try.func118.trans (congrArg some (by kernel_rfl)),
  f257 := Try.func117.trans (congrArg some (by kernel_rfl)),
  f294 := Try.func141.trans (congrArg some (by kernel_rfl)),
  f295 := Try.func142.trans (congrArg some (by kernel_rfl)),
  f296 := Try.func143.trans (congrArg some (by kernel_rfl)),
  f297 := Try.func144.trans (congrArg some (by kernel_rfl)),
  f298 := Try.func145.trans (congrArg some (by kernel_rfl)),
  f299 := Try.func146.trans (congrArg some (by kernel_rfl)),
  f300 := Try.func147.trans (congrArg some (by kernel_rfl)),
  f301 := Try.func148.trans (congrArg some (by kernel_rfl)),
  f328 := Try.func160.trans (congrArg some (by kernel_rfl)),
  f329 := Try.func154.trans (congrArg some (by kernel_rfl)),
  f330 := Try.func155.trans (congrArg some (by kernel_rfl)),
  f331 := Try.func161.trans (congrArg some (by kernel_rfl)),
  f332 := Try.func162.trans (congrArg some (by kernel_rfl)),
  f343 := Try.func164.trans (congrArg some (by kernel_rfl)),
  t0 := Try.underlying0,
  a0 := Try.isAgg0,
  z0 := Try.sizeOf0,
  v0 := Try.zeroValue0,
  t3 := Try.underlying3,
  a3 := Try.isAgg3,
  z3 := Try.sizeOf3,
  v3 := Try.zeroValue3,
  t4 := Try.underlying4,
  a4 := Try.isAgg4,
  z4 := Try.sizeOf4,
  v4 := Try.zeroValue4,
  t5 := Try.underlying5,
  a5 := Try.isAgg5,
  z5 := Try.sizeOf5,
  v5 := Try.zeroValue5,
  t9 := Try.underlying9,
  a9 := Try.isAgg9,
  z9 := Try.sizeOf9,
  v9 := Try.zeroValue9,
  t28 := Try.underlying22,
  a28 := Try.isAgg22,
  z28 := Try.sizeOf22,
  v28 := Try.zeroValue22,
  t46 := Try.underlying116,
  a46 := Try.isAgg116,
  z46 := Try.sizeOf116,
  v46 := Try.zeroValue116,
  t51 := Try.underlying99,
  a51 := Try.isAgg99,
  z51 := Try.sizeOf99,
  v51 := Try.zeroValue99,
  t53 := Try.underlying150,
  a53 := Try.isAgg150,
  z53 := Try.sizeOf150,
  v53 := Try.zeroValue150,
  t131 := Try.underlying65,
  a131 := Try.isAgg65,
  z131 := Try.sizeOf65,
  v131 := Try.zeroValue65,
  t182 := Try.underlying143,
  a182 := Try.isAgg143,
  z182 := Try.sizeOf143,
  v182 := Try.zeroValue143,
  t183 := Try.underlying144,
  a183 := Try.isAgg144,
  z183 := Try.sizeOf144,
  v183 := Try.zeroValue144,
  t218 := Try.underlying162,
  a218 := Try.isAgg162,
  z218 := Try.sizeOf162,
  v218 := Try.zeroValue162,
  t222 := Try.underlying166,
  a222 := Try.isAgg166,
  z222 := Try.sizeOf166,
  v222 := Try.zeroValue166,
  t228 := Try.underlying174,
  a228 := Try.isAgg174,
  z228 := Try.sizeOf174,
  v228 := Try.zeroValue174,
  t229 := Try.underlying75,
  a229 := Try.isAgg75,
  z229 := Try.sizeOf75,
  v229 := Try.zeroValue75 }
def lays_compact_ren : Go.Shelf.Ren := ⟨fun | 0 => 0 | 1 => 1 | 2 => 2 | 15 => 112 | 20 => 94 | 25 => 95 | 31 => 118 | 32 => 119 | 37 => 106 | 40 => 165 | 41 => 166 | 42 => 167 | 43 => 168 | 44 => 169 | 45 => 170 | 46 => 171 | 47 => 172 | 48 => 173 | 49 => 174 | 50 => 175 | 51 => 176 | 52 => 177 | 53 => 178 | 54 => 179 | 55 => 180 | n => n, fun | 0 => 0 | 1 => 1 | 2 => 2 | 3 => 3 | 4 => 4 | 5 => 5 | 6 => 6 | 7 => 7 | 8 => 8 | 9 => 9 | 10 => 10 | 11 => 11 | 12 => 12 | 13 => 13 | 14 => 14 | 15 => 15 | 16 => 16 | 17 => 17 | 18 => 18 | 19 => 19 | 20 => 20 | 21 => 21 | 22 => 22 | 23 => 89 | 33 => 65 | 34 => 118 | 36 => 53 | 40 => 116 | 41 => 138 | 42 => 95 | 45 => 117 | 46 => 177 | 47 => 178 | 48 => 179 | 49 => 180 | 50 => 181 | 51 => 182 | 52 => 183 | 53 => 99 | 54 => 184 | 55 => 185 | 56 => 186 | 57 => 187 | 58 => 188 | 59 => 189 | 60 => 190 | 61 => 191 | 62 => 192 | n => n, fun n => n⟩
set_option maxRecDepth 100000 in
theorem lays_compact : Go.Proofs.Lays2.n20 Try.prog lays_compact_ren := {
  mixed := by kernel_rfl,
  f20 := Try.func94.trans (congrArg some (by kernel_rfl)),
  t0 := Try.underlying0,
  a0 := Try.isAgg0,
  z0 := Try.sizeOf0,
  v0 := Try.zeroValue0,
  t3 := Try.underlying3,
  a3 := Try.isAgg3,
  z3 := Try.sizeOf3,
  v3 := Try.zeroValue3,
  t4 := Try.underlying4,
  a4 := Try.isAgg4,
  z4 := Try.sizeOf4,
  v4 := Try.zeroValue4,
  t22 := Try.underlying22,
  a22 := Try.isAgg22,
  z22 := Try.sizeOf22,
  v22 := Try.zeroValue22,
  i3 := by kernel_rfl }

end Go.Proofs.Ytihkgdlanfemcaa

namespace Go.Proofs.Ytihkgdlanfemcaa
open Go.RowKit
set_option linter.unusedVariables false
set_option linter.unusedSimpArgs false
end Go.Proofs.Ytihkgdlanfemcaa

namespace Go.Proofs.Ytihkgdlanfemcaa
open Go.RowKit
set_option linter.unusedVariables false
set_option linter.unusedSimpArgs false
end Go.Proofs.Ytihkgdlanfemcaa

namespace Go.Proofs.Ytihkgdlanfemcaa
open Go.RowKit
set_option linter.unusedVariables false
set_option linter.unusedSimpArgs false

theorem OpsRead.below {w w' : World} {A : Option Addr} {ops : List OpV} (h : OpsRead w A ops) (hb : Below w.heap.size w w') : OpsRead w' A ops := fun k o hk => by
  obtain ⟨ad, A0, c0, A1, c1, A2, c2, e, h0, h1, h2, h3, hm, hr⟩ := h k o hk
  exact ⟨ad, A0, c0, A1, c1, A2, c2, e, (hb.cell (World.block_lt_of_cell? w _ h0)).trans h0, (hb.cell (World.block_lt_of_cell? w _ h1)).trans h1, (hb.cell (World.block_lt_of_cell? w _ h2)).trans h2, (hb.cell (World.block_lt_of_cell? w _ h3)).trans h3, hm.below hb, hr⟩
theorem OpsRead.at2 {w w' : World} {A : Option Addr} {ops : List OpV} {k : Nat} (h : OpsRead w A ops) (hb : Below w.heap.size w w') (hk : k < ops.length) : ∃ ad o A0 c0 A1 c1 A2 c2, A = some ad ∧ Hid (ops[k]? = some o) ∧ w'.cell? (ad.add (k * 4)) = some (.slice A0 o.pre.length c0) ∧ w'.cell? ⟨(ad.add (k * 4)).block, (ad.add (k * 4)).off + 1, none⟩ = some (.slice A1 o.add.length c1) ∧
    w'.cell? ⟨(ad.add (k * 4)).block, (ad.add (k * 4)).off + 2, none⟩ = some (.slice A2 o.del.length c2) ∧ w'.cell? ⟨(ad.add (k * 4)).block, (ad.add (k * 4)).off + 3, none⟩ = some (.int .i64 o.cost) ∧ OpMem w A0 A1 A2 o ∧ Hid (A1 = none → c1 = 0) := by
  obtain ⟨ad, A0, c0, A1, c1, A2, c2, e, h0, h1, h2, h3, hm, hr⟩ := h k _ (List.getElem?_eq_getElem hk)
  exact ⟨ad, ops[k], A0, c0, A1, c1, A2, c2, e, Lib.hid (List.getElem?_eq_getElem hk), (hb.cell (World.block_lt_of_cell? w _ h0)).trans h0, (hb.cell (World.block_lt_of_cell? w _ h1)).trans h1, (hb.cell (World.block_lt_of_cell? w _ h2)).trans h2, (hb.cell (World.block_lt_of_cell? w _ h3)).trans h3, hm, Lib.hid (fun e => (hr.2.1.1 e).2)⟩
end Go.Proofs.Ytihkgdlanfemcaa

namespace Go.Proofs.Ytihkgdlanfemcaa
open Go.RowKit
set_option linter.unusedVariables false
set_option linter.unusedSimpArgs false

theorem subset_w' (A B : Option Addr) (c d : Nat) (xs ys : List Int) (w : World) (v : Bool) (hI : Ints w A xs) (hJ : Ints w B ys) (hl : xs.length ≤ 9223372036854775807) (hm : ys.length ≤ 9223372036854775807) (hv : (∀ x ∈ xs, x ∈ ys) ↔ v = true) :
    Calls Try.prog 73 #[.slice A xs.length c, .slice B ys.length d] w fun e w' => e = .returned (.bool v) ∧ w = w' :=
  (subset_any A B c d xs ys w hI hJ hl hm).mono fun e w' h => ⟨by
    rw [h.1]
    cases v with
    | true => rw [decide_eq_true (hv.2 rfl)]
    | false => rw [decide_eq_false (fun h => by have := hv.1 h; cases this)], h.2⟩
set_option maxRecDepth 100000 in
set_option maxHeartbeats 1000000 in
theorem applies_any (w : World) (t : TaskV) (Ai Ag Ao : Option Addr) (ci cg co : Nat) (hT : TaskMem w Ai Ag Ao t) (S : Option Addr) (cs : Nat) (st : List Int) (hS : Ints w S st) (hlS : st.length ≤ 9223372036854775807) (h40 : t.ops.length ≤ 1000000) (k : Nat) (hlt : k < t.ops.length) (v : Bool) (hval : CanV t.ops st (k : Int) ↔ v = true) :
    Calls Try.prog 80 #[.agg #[.int .i64 t.facts, .slice Ai t.init.length ci, .slice Ag t.goal.length cg, .slice Ao t.ops.length co], .slice S st.length cs, .int .i64 (k : Int)] w fun e w' => e = .returned (.bool v) ∧ Below w.heap.size w w' := by
  obtain ⟨ad, o, A0, c0, A1, c1, A2, c2, rfl, ho, hc0, hc1, hc2, hc3, hm⟩ := hT.ops.at2 (w' := (w.alloc (.cells #[.int .i64 t.facts, .slice Ai t.init.length ci, .slice Ag t.goal.length cg, .slice Ao t.ops.length co] 25))) (by repeat (first | with_reducible exact Below.refl _ _ | with_reducible apply bdrew | with_reducible apply bdrewN | with_reducible apply balloc | ((with_reducible refine bset ?_ ?_ _); rotate_left; (first | omega | (simp <;> omega))))) hlt
  have hlp := hm.lpre.le
  have hk0 : (0 : Int) ≤ (k : Int) := by omega
  have hk1 : (k : Int) < (t.ops.length : Int) := by omega
  have HC : Hid ((∀ q ∈ o.pre, q ∈ st) ↔ v = true) := Lib.hid (by
    rw [← hval]
    constructor
    · exact fun h => ⟨o, by simpa using ho.out, h⟩
    · rintro ⟨o', h1, h2⟩
      have h3 := ho.out
      simp only [Int.toNat_natCast] at h1
      rw [h1] at h3
      injection h3 with h3
      rw [← h3]; exact h2)
  clear hval
  go_enter Try.func80, Try.ntmps80
  go_wp2_with fail
  refine (subset_w' _ _ _ _ _ _ _ v (hm.pre.below (by repeat (first | with_reducible exact Below.refl _ _ | with_reducible apply bdrew | with_reducible apply bdrewN | with_reducible apply balloc | ((with_reducible refine bset ?_ ?_ _); rotate_left; (first | omega | (simp <;> omega)))))) (hS.below (by repeat (first | with_reducible exact Below.refl _ _ | with_reducible apply bdrew | with_reducible apply bdrewN | with_reducible apply balloc | ((with_reducible refine bset ?_ ?_ _); rotate_left; (first | omega | (simp <;> omega)))))) hlp hlS HC.out).mono ?_
  rintro e w9 ⟨rfl, rfl⟩
  go_wp2
  refine bodyPost_ret (v := .bool v) ?_ rfl ⟨rfl, by repeat (first | with_reducible exact Below.refl _ _ | with_reducible apply bdrew | with_reducible apply bdrewN | with_reducible apply balloc | ((with_reducible refine bset ?_ ?_ _); rotate_left; (first | omega | (simp <;> omega))))⟩
  simp [results, Try.results80, go_sem]

/-- The state after an operator, up to a fact. -/
def nextTo (s : List Int) (o : OpV) (k : Nat) : List Int := ((List.range k).map fun (p : Nat) => (p : Int)).filter fun p => decide (p ∈ o.add ∨ (p ∈ s ∧ p ∉ o.del))
theorem nextTo_len (s : List Int) (o : OpV) (k : Nat) : (nextTo s o k).length ≤ k := by
  unfold nextTo
  exact Nat.le_trans (List.length_filter_le _ _) (by simp)
theorem nextTo_yes {s : List Int} {o : OpV} {k : Nat} (h : (k : Int) ∈ o.add ∨ ((k : Int) ∈ s ∧ (k : Int) ∉ o.del)) : nextTo s o k ++ [(k : Int)] = nextTo s o (k + 1) := by
  unfold nextTo
  rw [List.range_succ, List.map_append, List.filter_append]
  congr 1
  simp only [List.map_cons, List.map_nil, List.filter_cons, List.filter_nil]
  rw [if_pos (decide_eq_true h)]
theorem nextTo_no {s : List Int} {o : OpV} {k : Nat} (h : ¬ ((k : Int) ∈ o.add ∨ ((k : Int) ∈ s ∧ (k : Int) ∉ o.del))) : nextTo s o (k + 1) = nextTo s o k := by
  unfold nextTo
  rw [List.range_succ, List.map_append, List.filter_append]
  simp only [List.map_cons, List.map_nil, List.filter_cons, List.filter_nil]
  rw [if_neg (by simpa using h), List.append_nil]
set_option maxRecDepth 100000 in
set_option maxHeartbeats 1000000 in
theorem after_any (w : World) (t : TaskV) (Ai Ag Ao : Option Addr) (ci cg co : Nat) (hT : TaskMem w Ai Ag Ao t) (S : Option Addr) (cs : Nat) (st : List Int) (hS : Ints w S st) (hlS : st.length ≤ 9223372036854775807) (h40 : t.ops.length ≤ 1000000) (n : Nat) (hn : t.facts = n) (hn24 : n ≤ 1000) (k : Nat) (hlt : k < t.ops.length) :
    Calls Try.prog 81 #[.agg #[.int .i64 t.facts, .slice Ai t.init.length ci, .slice Ag t.goal.length cg, .slice Ao t.ops.length co], .slice S st.length cs, .int .i64 (k : Int)] w fun e w' => ∃ v, e = .returned v ∧ OwnI w.heap.size w' v (nextV n st (opAt t.ops (k : Int))) ∧ Below w.heap.size w w' := by
  obtain ⟨ad, o, A0, c0, A1, c1, A2, c2, rfl, ho, hc0, hc1, hc2, hc3, hm⟩ := hT.ops.at2 (Below.refl w.heap.size w) hlt
  have hla := hm.ladd.le
  have hld := hm.ldel.le
  have hk0 : (0 : Int) ≤ (k : Int) := by omega
  have hk1 : (k : Int) < (t.ops.length : Int) := by omega
  have HE := Lib.hid (show nextTo st o n = nextV n st (opAt t.ops (k : Int)) by rw [opAt_of (o := o) (by simpa using ho.out)]; rfl)
  have hl1 := World.block_lt_of_cell? w _ hc1
  rw [hn]
  clear hn
  go_enter Try.func81, Try.ntmps81
  go_wp2_with fail
  go_loopw [7, 8] (fun v i wr => ∃ p : Nat, p ≤ n ∧ i = .int .i64 p ∧ OwnI (w.heap.size + 1) wr v (nextTo st o p) ∧ Below w.heap.size w wr ∧ Cls wr [(w.heap.size, 0, .int .i64 (n : Int)), (w.heap.size, 1, .slice Ai t.init.length ci), (w.heap.size, 2, .slice Ag t.goal.length cg), (w.heap.size, 3, .slice (some ad) t.ops.length co)]) (fun _ i _ => n - (intOf i).toNat)
  case atStart => exact ⟨0, Nat.zero_le _, rfl, OwnI.nil _ _, (by repeat (first | with_reducible exact Below.refl _ _ | with_reducible apply bdrew | with_reducible apply bdrewN | with_reducible apply balloc | ((with_reducible refine bset ?_ ?_ _); rotate_left; (first | omega | (simp <;> omega))))), (by simp [Cls, go_sem])⟩
  case round =>
    obtain ⟨p, hp, rfl, hown, hBr, hCr⟩ := hrel
    obtain ⟨w1, rfl⟩ : ∃ wo : World, wo = wr := ⟨_, rfl⟩
    have drs := hBr.size
    have Fr := hCr
    simp only [Cls, and_true] at Fr
    have yrw0 : w.heap.size < w1.heap.size := hCr.blk (b := w.heap.size) (k := 0) (v := .int .i64 (n : Int)) (by simp)
    have yrwp1 : w.heap.size < w1.heap.size + 1 := (by omega)
    have yrwp2 : w.heap.size < w1.heap.size + 1 + 1 := (by omega)
    have hx1 := (hBr.cell (World.block_lt_of_cell? w _ hc1)).trans hc1
    have hx2 := (hBr.cell (World.block_lt_of_cell? w _ hc2)).trans hc2
    have hlen : (nextTo st o p).length < 1000000000000 := by have := nextTo_len st o p; omega
    by_cases hlt2 : p < n
    · by_cases ha : (p : Int) ∈ o.add
      · have HA := Lib.hid ha
        have HY := Lib.hid (nextTo_yes (s := st) (o := o) (k := p) (.inl ha))
        clear ha
        go_wp2_with fail
        refine (has_yes _ _ _ _ _ (hm.add.below (by repeat (first | with_reducible exact hBr | with_reducible apply bdrew | with_reducible apply bdrewN | with_reducible apply balloc | ((with_reducible refine bset ?_ ?_ _); rotate_left; (first | omega | (simp <;> omega)))))) hla HA.out).mono ?_
        rintro e w9 ⟨rfl, hW⟩
        rw [← hW]
        clear hW w9
        go_wp2_with (at_builtin; go_must (refine wpList_push rfl (.tmp 39) (.tmp 41) rfl w [(w.heap.size, 0, .int .i64 (n : Int)), (w.heap.size, 1, .slice Ai t.init.length ci), (w.heap.size, 2, .slice Ag t.goal.length cg), (w.heap.size, 3, .slice (some ad) t.ops.length co)] ((w.heap.size + 1)) u7 _ ((p : Int)) rfl (OwnI.below hown ?p1) ⟨w1.heap.size, 0, none⟩ 1 rfl ?p2 hlen ?p3 ?p4 ?p5 ?p6 ?p7 ?_; (case p1 => repeat (first | with_reducible exact Below.refl _ _ | with_reducible apply bdrew | with_reducible apply bdrewN | with_reducible apply balloc | ((with_reducible refine bset ?_ ?_ _); rotate_left; (first | omega | (simp <;> omega))))); (case p2 => simp [Cls, go_sem, Fr, yrw0, yrwp1, yrwp2]); (case p3 => (first | omega | (simp <;> omega))); (case p4 => (first | omega | (simp <;> omega))); (case p5 => repeat (first | with_reducible exact hBr | with_reducible apply bdrew | with_reducible apply bdrewN | with_reducible apply balloc | ((with_reducible refine bset ?_ ?_ _); rotate_left; (first | omega | (simp <;> omega))))); (case p6 => simp [Cls, go_sem, Fr, yrw0, yrwp1, yrwp2]); (case p7 => (simp <;> omega)); intro v2 w2 o2 D2 C2 sz2; have d2s := D2.size; have F2 := C2; simp only [Cls, and_true] at F2; have y2w0 : w.heap.size < w2.heap.size := C2.blk (b := w.heap.size) (k := 0) (v := .int .i64 (n : Int)) (by simp); have y2wp1 : w.heap.size < w2.heap.size + 1 := (by omega); have y2wp2 : w.heap.size < w2.heap.size + 1 + 1 := (by omega)))
        go_roundw
        case rel => exact ⟨p + 1, by omega, by go_num, by rw [← HY.out]; exact o2, D2, C2⟩
        case measure => simp [intOf]; omega
      · have HA := Lib.hid ha
        by_cases hs : (p : Int) ∈ st
        · have HS := Lib.hid hs
          by_cases hd : (p : Int) ∈ o.del
          · have HD := Lib.hid hd
            have HY := Lib.hid (nextTo_no (s := st) (o := o) (k := p) (fun h => by rcases h with h | h; exact ha h; exact h.2 hd))
            clear ha hs hd
            go_wp2_with fail
            refine (has_no _ _ _ _ _ (hm.add.below (by repeat (first | with_reducible exact hBr | with_reducible apply bdrew | with_reducible apply bdrewN | with_reducible apply balloc | ((with_reducible refine bset ?_ ?_ _); rotate_left; (first | omega | (simp <;> omega)))))) hla HA.out).mono ?_
            rintro e w9 ⟨rfl, hW⟩
            rw [← hW]
            clear hW w9
            go_wp2_with fail
            refine (has_yes _ _ _ _ _ (hS.below (by repeat (first | with_reducible exact hBr | with_reducible apply bdrew | with_reducible apply bdrewN | with_reducible apply balloc | ((with_reducible refine bset ?_ ?_ _); rotate_left; (first | omega | (simp <;> omega)))))) hlS HS.out).mono ?_
            rintro e w9 ⟨rfl, hW⟩
            rw [← hW]
            clear hW w9
            go_wp2_with fail
            refine (has_yes _ _ _ _ _ (hm.del.below (by repeat (first | with_reducible exact hBr | with_reducible apply bdrew | with_reducible apply bdrewN | with_reducible apply balloc | ((with_reducible refine bset ?_ ?_ _); rotate_left; (first | omega | (simp <;> omega)))))) hld HD.out).mono ?_
            rintro e w9 ⟨rfl, hW⟩
            rw [← hW]
            clear hW w9
            go_wp2
            go_roundw
            case rel => exact ⟨p + 1, by omega, by go_num, by rw [HY.out]; exact hown, (by repeat (first | with_reducible exact hBr | with_reducible apply bdrew | with_reducible apply bdrewN | with_reducible apply balloc | ((with_reducible refine bset ?_ ?_ _); rotate_left; (first | omega | (simp <;> omega))))), (by simp [Cls, go_sem, Fr, yrw0, yrwp1, yrwp2])⟩
            case measure => simp [intOf]; omega
          · have HD := Lib.hid hd
            have HY := Lib.hid (nextTo_yes (s := st) (o := o) (k := p) (.inr ⟨hs, hd⟩))
            clear ha hs hd
            go_wp2_with fail
            refine (has_no _ _ _ _ _ (hm.add.below (by repeat (first | with_reducible exact hBr | with_reducible apply bdrew | with_reducible apply bdrewN | with_reducible apply balloc | ((with_reducible refine bset ?_ ?_ _); rotate_left; (first | omega | (simp <;> omega)))))) hla HA.out).mono ?_
            rintro e w9 ⟨rfl, hW⟩
            rw [← hW]
            clear hW w9
            go_wp2_with fail
            refine (has_yes _ _ _ _ _ (hS.below (by repeat (first | with_reducible exact hBr | with_reducible apply bdrew | with_reducible apply bdrewN | with_reducible apply balloc | ((with_reducible refine bset ?_ ?_ _); rotate_left; (first | omega | (simp <;> omega)))))) hlS HS.out).mono ?_
            rintro e w9 ⟨rfl, hW⟩
            rw [← hW]
            clear hW w9
            go_wp2_with fail
            refine (has_no _ _ _ _ _ (hm.del.below (by repeat (first | with_reducible exact hBr | with_reducible apply bdrew | with_reducible apply bdrewN | with_reducible apply balloc | ((with_reducible refine bset ?_ ?_ _); rotate_left; (first | omega | (simp <;> omega)))))) hld HD.out).mono ?_
            rintro e w9 ⟨rfl, hW⟩
            rw [← hW]
            clear hW w9
            go_wp2_with (at_builtin; go_must (refine wpList_push rfl (.tmp 39) (.tmp 41) rfl w [(w.heap.size, 0, .int .i64 (n : Int)), (w.heap.size, 1, .slice Ai t.init.length ci), (w.heap.size, 2, .slice Ag t.goal.length cg), (w.heap.size, 3, .slice (some ad) t.ops.length co)] ((w.heap.size + 1)) u7 _ ((p : Int)) rfl (OwnI.below hown ?p1) ⟨w1.heap.size, 0, none⟩ 1 rfl ?p2 hlen ?p3 ?p4 ?p5 ?p6 ?p7 ?_; (case p1 => repeat (first | with_reducible exact Below.refl _ _ | with_reducible apply bdrew | with_reducible apply bdrewN | with_reducible apply balloc | ((with_reducible refine bset ?_ ?_ _); rotate_left; (first | omega | (simp <;> omega))))); (case p2 => simp [Cls, go_sem, Fr, yrw0, yrwp1, yrwp2]); (case p3 => (first | omega | (simp <;> omega))); (case p4 => (first | omega | (simp <;> omega))); (case p5 => repeat (first | with_reducible exact hBr | with_reducible apply bdrew | with_reducible apply bdrewN | with_reducible apply balloc | ((with_reducible refine bset ?_ ?_ _); rotate_left; (first | omega | (simp <;> omega))))); (case p6 => simp [Cls, go_sem, Fr, yrw0, yrwp1, yrwp2]); (case p7 => (simp <;> omega)); intro v2 w2 o2 D2 C2 sz2; have d2s := D2.size; have F2 := C2; simp only [Cls, and_true] at F2; have y2w0 : w.heap.size < w2.heap.size := C2.blk (b := w.heap.size) (k := 0) (v := .int .i64 (n : Int)) (by simp); have y2wp1 : w.heap.size < w2.heap.size + 1 := (by omega); have y2wp2 : w.heap.size < w2.heap.size + 1 + 1 := (by omega)))
            go_roundw
            case rel => exact ⟨p + 1, by omega, by go_num, by rw [← HY.out]; exact o2, D2, C2⟩
            case measure => simp [intOf]; omega
        · have HS := Lib.hid hs
          have HY := Lib.hid (nextTo_no (s := st) (o := o) (k := p) (fun h => by rcases h with h | h; exact ha h; exact hs h.1))
          clear ha hs
          go_wp2_with fail
          refine (has_no _ _ _ _ _ (hm.add.below (by repeat (first | with_reducible exact hBr | with_reducible apply bdrew | with_reducible apply bdrewN | with_reducible apply balloc | ((with_reducible refine bset ?_ ?_ _); rotate_left; (first | omega | (simp <;> omega)))))) hla HA.out).mono ?_
          rintro e w9 ⟨rfl, hW⟩
          rw [← hW]
          clear hW w9
          go_wp2_with fail
          refine (has_no _ _ _ _ _ (hS.below (by repeat (first | with_reducible exact hBr | with_reducible apply bdrew | with_reducible apply bdrewN | with_reducible apply balloc | ((with_reducible refine bset ?_ ?_ _); rotate_left; (first | omega | (simp <;> omega)))))) hlS HS.out).mono ?_
          rintro e w9 ⟨rfl, hW⟩
          rw [← hW]
          clear hW w9
          go_wp2
          go_roundw
          case rel => exact ⟨p + 1, by omega, by go_num, by rw [HY.out]; exact hown, (by repeat (first | with_reducible exact hBr | with_reducible apply bdrew | with_reducible apply bdrewN | with_reducible apply balloc | ((with_reducible refine bset ?_ ?_ _); rotate_left; (first | omega | (simp <;> omega))))), (by simp [Cls, go_sem, Fr, yrw0, yrwp1, yrwp2])⟩
          case measure => simp [intOf]; omega
    · obtain rfl : p = n := by omega
      rw [HE.out] at hown
      go_wp2
      refine bodyPost_ret (v := u7) ?_ rfl ⟨_, rfl, OwnI.mono hown (by omega), by repeat (first | with_reducible exact hBr | with_reducible apply bdrew | with_reducible apply bdrewN | with_reducible apply balloc | ((with_reducible refine bset ?_ ?_ _); rotate_left; (first | omega | (simp <;> omega))))⟩
      simp [results, Try.results81, go_sem]


end Go.Proofs.Ytihkgdlanfemcaa

namespace Go.Proofs.Ytihkgdlanfemcaa
open Go.RowKit
set_option linter.unusedVariables false
set_option linter.unusedSimpArgs false

/-! ### Rows side by side -/
def Sep (u v : Value) : Prop := ∀ k, u.ownBlock = some k → v.ownBlock ≠ some k
theorem Sep.symm {u v : Value} (h : Sep u v) : Sep v u := fun k h1 h2 => h k h2 h1
theorem sep_nil (v : Value) : Sep (.slice none 0 0) v := fun k h => by cases h
theorem Sep.next {u v v' : Value} {K : Nat} (h : Sep u v) (hv : v'.ownBlock = v.ownBlock ∨ v'.ownBlock = some K) (hu : ∀ k, u.ownBlock = some k → k < K) : Sep u v' := fun k h1 h2 => by
  rcases hv with e | e
  · exact h k h1 (by rw [← e]; exact h2)
  · rw [e] at h2; injection h2 with h2; have := hu k h1; omega
theorem own_grown_i {base : Nat} {w w' : World} {v u : Value} {xs : List Int} (h : OwnI base w v xs) (hg : w.grownBy w' u.ownBlock) (hne : Sep u v) : OwnI base w' v xs := by
  obtain ⟨h1, h2⟩ := h
  refine ⟨h1, ?_⟩
  rcases h2 with h2 | ⟨g, cap, cur, hv, hb, hh, r⟩
  · exact Or.inl h2
  · refine Or.inr ⟨g, cap, cur, hv, hb, (hg.block g ?_ (fun e => hne g e.symm (by rw [hv]; rfl))).trans hh, r⟩
    rcases Nat.lt_or_ge g w.heap.size with hl | hl
    · exact hl
    · rw [Array.getElem?_eq_none hl] at hh; cases hh
theorem OwnI.bnd {base : Nat} {w : World} {v : Value} {xs : List Int} (h : OwnI base w v xs) : ∀ k, v.ownBlock = some k → k < w.heap.size := fun k hk => (h.lt k hk).2
/-- append(v, y): what it does to the rows beside it. -/
theorem wpList_push_at {ops : Array Oper} {rest : List Oper} {o : Oper} {a : Act} {w : World} {Q : Exit → Act → World → Prop} (hgd : o.guard = none) (s x : Operand)
    (ho : o.op = .call { callee := .builtin .append, args := #[s, x], argTypes := #[22, 22] })
    (w0 : World) (l : List (Nat × Nat × Value)) (base : Nat) (v : Value) (xs : List Int) (y : Int) (hs : a.eval s = v) (hown : OwnI base w v xs) (ad : Addr) (m : Nat) (hx : a.eval x = .slice (some ad) 1 m) (hc : w.cell? ad = some (.int .i64 y))
    (hlen : xs.length < 1000000000000) (hbase : base ≤ w.heap.size) (h0 : w0.heap.size ≤ base) (hB : Below w0.heap.size w0 w) (hC : Cls w l) (hl : ∀ x ∈ l, x.1 < base)
    (h : ∀ v' w', OwnI base w' v' (xs ++ [y]) → Below w0.heap.size w0 w' → Cls w' l → w.heap.size ≤ w'.heap.size → w.grownBy w' v.ownBlock → (v'.ownBlock = v.ownBlock ∨ v'.ownBlock = some w.heap.size) → wpList Try.prog ops Q rest (a.put o.dst v') w') : wpList Try.prog ops Q (o :: rest) a w := by
  obtain ⟨i0, hi0, hz⟩ := Option.map_eq_some_iff.1 info_int
  simp only [Prod.mk.injEq] at hz
  have hown' : w.ownsRow base 3 1 v xs.length (xs.map (Value.int .i64)) := hown
  refine wpList_append_own_at w hgd s x 22 ho base 3 i0 (.int .i64 0) 1 8 Try.underlying22 hi0 hz.1 hz.2.1 hz.2.2 rfl (by decide) v xs.length (xs.map (Value.int .i64)) hs hown' ad 1 m [.int .i64 y] hx rfl ?_ ?_ ?_ ?_ hbase ?_
  · intro j u hu
    cases j with
    | zero => simp at hu; subst hu; rw [add_zero]; exact hc
    | succ j => simp at hu
  · intro u hu; simp at hu; subst hu; rfl
  · simp only [maxLen]; omega
  · omega
  · intro v' w' h1 h2 _ h4
    refine h v' w' ?_ (own_grown hB (OwnI.mono hown h0) h2 (Nat.le_trans h0 hbase)) (hC.grown hown' h2 hl) h2.size h2 h4
    unfold OwnI
    rw [List.length_append, List.map_append]
    exact h1
theorem own_one_int (w : World) (B : Nat) (y : Int) (k : Nat) (hk : k = w.heap.size) (hB : B ≤ k) : OwnI B (w.alloc (.cells #[.int .i64 y] 3)) (.slice (some ⟨k, 0, none⟩) 1 1) [y] := by
  subst hk
  exact ⟨by simp, .inr ⟨w.heap.size, 1, #[.int .i64 y], rfl, hB, Arr.new w _ [.int .i64 y], by simp, by decide, by simp, by simp⟩⟩
/-! ### A row of lists beside a row of integers -/
/-- The element leads to a list that lies apart from block u. -/
def PWl (u : Option Nat) (w : World) (row : Option Nat) (cs : List Value) (r : List Int) : Prop := ∃ A c, cs = [.slice A r.length c] ∧ Ints w A r ∧ (r ≠ [] → ∀ ad, A = some ad → some ad.block ≠ row ∧ some ad.block ≠ u ∧ ad.block < w.heap.size)
theorem ints_emp {w : World} {A : Option Addr} {r : List Int} (h : r = []) : Ints w A r := by subst h; exact Ints.nil _ _
theorem pwl_stable (u : Option Nat) : Stable (PWl u) := by
  constructor
  · rintro w w' row cs r ⟨A, c, e, hI, hn⟩ hb
    exact ⟨A, c, e, hI.below hb, fun h ad he => ⟨(hn h ad he).1, (hn h ad he).2.1, Nat.lt_of_lt_of_le (hn h ad he).2.2 hb.size⟩⟩
  · rintro w w' row cs r ⟨A, c, e, hI, hn⟩ hg
    have hI' : Ints w' A r := by
      by_cases h : r = []
      · exact ints_emp h
      · exact Ints.grown hI hg (fun ad he => (hn h ad he).1)
    refine ⟨⟨A, c, e, hI', fun h ad he => ⟨(hn h ad he).1, (hn h ad he).2.1, Nat.lt_of_lt_of_le (hn h ad he).2.2 hg.size⟩⟩, ⟨A, c, e, hI', fun h ad he => ⟨fun hc => ?_, (hn h ad he).2.1, Nat.lt_of_lt_of_le (hn h ad he).2.2 hg.size⟩⟩⟩
    injection hc with hc
    have := (hn h ad he).2.2
    omega
theorem pwl_of {u row : Option Nat} {w : World} {A : Option Addr} {c : Nat} {r : List Int} (hI : Ints w A r) (h : r ≠ [] → ∀ ad, A = some ad → some ad.block ≠ row ∧ some ad.block ≠ u ∧ ad.block < w.heap.size) : PWl u w row [.slice A r.length c] r := ⟨A, c, rfl, hI, h⟩
def OwnW (u : Option Nat) (base : Nat) (w : World) (v : Value) (ls : List (List Int)) : Prop := OwnEs (PWl u) 22 1 base w v ls
theorem OwnW.below {u : Option Nat} {base : Nat} {w w' : World} {v : Value} {ls : List (List Int)} (h : OwnW u base w v ls) (hb : Below w.heap.size w w') : OwnW u base w' v ls := OwnEs.below (pwl_stable u) h hb
/-- The row of integers is appended to. -/
theorem OwnW.other {u u' : Option Nat} {base : Nat} {w w' : World} {v : Value} {ls : List (List Int)} (h : OwnW u base w v ls) (hg : w.grownBy w' u) (hne : ∀ k, u = some k → v.ownBlock ≠ some k) (hu : u' = u ∨ u' = some w.heap.size) : OwnW u' base w' v ls := by
  obtain ⟨cells, ⟨h1, h2⟩, h3⟩ := h
  refine ⟨cells, ⟨h1, ?_⟩, fun i a ha => ?_⟩
  · rcases h2 with h2 | ⟨g, cap, cur, hv, hb, hh, r⟩
    · exact Or.inl h2
    · refine Or.inr ⟨g, cap, cur, hv, hb, (hg.block g ?_ (fun e => hne g e.symm (by rw [hv]; rfl))).trans hh, r⟩
      rcases Nat.lt_or_ge g w.heap.size with hl | hl
      · exact hl
      · rw [Array.getElem?_eq_none hl] at hh; cases hh
  · obtain ⟨A, c, e, hI, hn⟩ := h3 i a ha
    have hI' : Ints w' A a := by
      by_cases h : a = []
      · exact ints_emp h
      · exact Ints.grown hI hg (fun ad he => (hn h ad he).2.1)
    refine ⟨A, c, e, hI', fun h ad he => ⟨(hn h ad he).1, fun hc => ?_, Nat.lt_of_lt_of_le (hn h ad he).2.2 hg.size⟩⟩
    rcases hu with hu | hu
    · rw [hu] at hc; exact (hn h ad he).2.1 hc
    · rw [hu] at hc
      injection hc with hc
      have := (hn h ad he).2.2
      omega
/-- A slice of lists that is only read. -/
def LLR (w : World) (A : Option Addr) (ls : List (List Int)) : Prop := ∀ (i : Nat) (r : List Int), ls[i]? = some r → ∃ ad B c, A = some ad ∧ w.cell? (ad.add i) = some (.slice B r.length c) ∧ Ints w B r
theorem LLR.below {w w' : World} {A : Option Addr} {ls : List (List Int)} (h : LLR w A ls) (hb : Below w.heap.size w w') : LLR w' A ls := fun i r hr => by
  obtain ⟨ad, B, c, e, h1, h2⟩ := h i r hr
  exact ⟨ad, B, c, e, (hb.cell (World.block_lt_of_cell? w _ h1)).trans h1, h2.below hb⟩
theorem LLR.at_ {w : World} {A : Option Addr} {ls : List (List Int)} {k : Nat} (h : LLR w A ls) (hk : k < ls.length) : ∃ ad r B c, A = some ad ∧ Hid (ls[k]? = some r) ∧ w.cell? (ad.add k) = some (.slice B r.length c) ∧ Ints w B r := by
  obtain ⟨ad, B, c, e, h1, h2⟩ := h k _ (List.getElem?_eq_getElem hk)
  exact ⟨ad, _, B, c, e, Lib.hid (List.getElem?_eq_getElem hk), h1, h2⟩
theorem OwnW.llr {u : Option Nat} {base n c : Nat} {w : World} {A : Option Addr} {ls : List (List Int)} (h : OwnW u base w (.slice A n c) ls) : LLR w A ls := fun i r hr => by
  obtain ⟨g, cs, a, rfl, _, _, ha, _, hc, B, c', rfl, hI, _⟩ := OwnEs.at_ h (i := i) (List.getElem?_eq_some_iff.1 hr).1
  have : a = r := by have := ha.out; rw [hr] at this; injection this with this; exact this.symm
  subst this
  refine ⟨⟨g, 0, none⟩, B, c', rfl, ?_, hI⟩
  have h1 := hc 0 _ rfl
  rw [Nat.mul_one, Nat.add_zero] at h1
  have e : (⟨g, 0, none⟩ : Addr).add i = ⟨g, i, none⟩ := by
    unfold Addr.add
    split
    · rename_i hj; rw [hj]
    · simp
  rw [e]; exact h1
/-! ### The reached states -/
inductive Rch (n : Nat) (ops : List OpV) (s : List Int) : List Int → Prop
  | init : Rch n ops s s
  | step {r : List Int} {op : Nat} : Rch n ops s r → op < ops.length → CanV ops r (op : Int) → Rch n ops s (nextV n r (opAt ops (op : Int)))
structure RSt (n : Nat) (ops : List OpV) (st : List Int) (ls : List (List Int)) (k p : Nat) : Prop where
  head : ls[0]? = some st
  set : ∀ l ∈ ls, SetP l (n : Int)
  rch : ∀ l ∈ ls, Rch n ops st l
  nodup : ls.Nodup
  done : ∀ (j q : Nat) (l : List Int), (j < k ∨ (j = k ∧ q < p)) → q < ops.length → ls[j]? = some l → CanV ops l (q : Int) → nextV n l (opAt ops (q : Int)) ∈ ls
section
variable {n : Nat} {ops : List OpV} {st : List Int} {ls : List (List Int)} {k p : Nat}
theorem RSt.start (h : SetP st (n : Int)) : RSt n ops st [st] 0 0 := ⟨rfl, fun l hl => by rw [List.mem_singleton.1 hl]; exact h, fun l hl => by rw [List.mem_singleton.1 hl]; exact .init, by simp, fun j q l h => by omega⟩
theorem RSt.skip (h : RSt n ops st ls k p) {r : List Int} (hr : ls[k]? = some r) (hc : CanV ops r (p : Int) → nextV n r (opAt ops (p : Int)) ∈ ls) : RSt n ops st ls k (p + 1) :=
  ⟨h.head, h.set, h.rch, h.nodup, fun j q l hjq hq hl hcan => by
    by_cases e : j = k ∧ q = p
    · obtain ⟨rfl, rfl⟩ := e
      rw [hr] at hl
      injection hl with hl
      subst hl
      exact hc hcan
    · exact h.done j q l (by omega) hq hl hcan⟩
theorem RSt.add (h : RSt n ops st ls k p) {r : List Int} (hr : ls[k]? = some r) (hp : p < ops.length) (hc : CanV ops r (p : Int)) (hn : nextV n r (opAt ops (p : Int)) ∉ ls) : RSt n ops st (ls ++ [nextV n r (opAt ops (p : Int))]) k (p + 1) := by
  have hk := (List.getElem?_eq_some_iff.1 hr).1
  refine ⟨?_, fun l hl => ?_, fun l hl => ?_, ?_, fun j q l hjq hq hl hcan => ?_⟩
  · rw [List.getElem?_append_left (by omega)]; exact h.head
  · rcases List.mem_append.1 hl with e | e
    · exact h.set l e
    · rw [List.mem_singleton.1 e]; exact nextV_set n r _
  · rcases List.mem_append.1 hl with e | e
    · exact h.rch l e
    · rw [List.mem_singleton.1 e]; exact .step (h.rch r (List.mem_of_getElem? hr)) hp hc
  · rw [List.nodup_append]
    exact ⟨h.nodup, by simp, fun a ha b hb => by rw [List.mem_singleton.1 hb]; intro e; exact hn (e ▸ ha)⟩
  · rw [List.getElem?_append_left (by omega)] at hl
    by_cases e : j = k ∧ q = p
    · obtain ⟨rfl, rfl⟩ := e
      rw [hr] at hl
      injection hl with hl
      subst hl
      exact List.mem_append_right _ (List.mem_singleton.2 rfl)
    · exact List.mem_append_left _ (h.done j q l (by omega) hq hl hcan)
theorem RSt.row (h : RSt n ops st ls k p) (hp : ops.length ≤ p) : RSt n ops st ls (k + 1) 0 := ⟨h.head, h.set, h.rch, h.nodup, fun j q l hjq hq hl hc => h.done j q l (by omega) hq hl hc⟩
theorem RSt.word (h : RSt n ops st ls k p) {r : List Int} (hr : SetP r (n : Int)) : wordV r ∈ ls.map wordV ↔ r ∈ ls := by
  constructor
  · intro hm
    obtain ⟨l, hl, e⟩ := List.mem_map.1 hm
    rw [← word_inj (h.set l hl) hr e]; exact hl
  · exact fun hm => List.mem_map.2 ⟨r, hm, rfl⟩
end

end Go.Proofs.Ytihkgdlanfemcaa

namespace Go.Proofs.Ytihkgdlanfemcaa
open Go.RowKit
set_option linter.unusedVariables false
set_option linter.unusedSimpArgs false

set_option maxRecDepth 100000 in
set_option maxHeartbeats 4000000 in
theorem hvalidate_any (w : World) (A : Option Addr) (ca : Nat) (sets : List (List Int)) (hL : LLR w A sets) (hsl : ∀ s ∈ sets, s.length ≤ 9223372036854775807) (hl : sets.length ≤ 9223372036854775807) (C : Option Addr) (cc : Nat) (cs : List Int) (hC : Ints w C cs) (hcl : cs.length ≤ 9223372036854775807) :
    Calls Try.prog 91 #[.slice A sets.length ca, .slice C cs.length cc] w fun e w' => e = .returned (.agg #[.int .i64 (hfault sets cs).1, .int .i64 (hfault sets cs).2]) ∧ Below w.heap.size w w' := by
  by_cases h1 : (sets.length : Int) > 16
  · have h1' : decide ((sets.length : Int) > 16) = true := decide_eq_true h1
    rw [hfault_1 (.inl (by omega))]
    go_enter Try.func91, Try.ntmps91
    go_wp2_with fail
    refine bodyPost_ret (v := .agg #[.int .i64 2, .int .i64 (-1)]) ?_ rfl ⟨rfl, by repeat (first | with_reducible exact Below.refl _ _ | with_reducible apply bdrew | with_reducible apply bdrewN | with_reducible apply balloc | ((with_reducible refine bset ?_ ?_ _); rotate_left; (first | omega | (simp <;> omega))))⟩
    simp [results, Try.results91, go_sem]
  · have h1' : decide ((sets.length : Int) > 16) = false := decide_eq_false h1
    by_cases h2 : (cs.length : Int) > 16
    · have h2' : decide ((cs.length : Int) > 16) = true := decide_eq_true h2
      rw [hfault_1 (.inr (by omega))]
      go_enter Try.func91, Try.ntmps91
      go_wp2_with fail
      refine bodyPost_ret (v := .agg #[.int .i64 2, .int .i64 (-1)]) ?_ rfl ⟨rfl, by repeat (first | with_reducible exact Below.refl _ _ | with_reducible apply bdrew | with_reducible apply bdrewN | with_reducible apply balloc | ((with_reducible refine bset ?_ ?_ _); rotate_left; (first | omega | (simp <;> omega))))⟩
      simp [results, Try.results91, go_sem]
    · have h2' : decide ((cs.length : Int) > 16) = false := decide_eq_false h2
      have hs16 : sets.length ≤ 16 := by omega
      have hc16 : cs.length ≤ 16 := by omega
      have HNB := Lib.hid (show ¬ (16 < sets.length ∨ 16 < cs.length) by omega)
      have HSL := Lib.hid hsl
      clear hsl
      go_enter Try.func91, Try.ntmps91
      go_wp2_with fail
      go_loopw [20] (fun x wr => ∃ k : Nat, k ≤ cs.length ∧ x = .int .i64 k ∧ Hid (CostsIn (cs.take k)) ∧ Below w.heap.size w wr ∧ Cls wr [(w.heap.size, 0, .int .i64 0), (w.heap.size, 1, .int .i64 0)]) (fun x _ => cs.length - (intOf x).toNat)
      case atStart => exact ⟨0, Nat.zero_le _, rfl, Lib.hid (by unfold CostsIn; simp), (by repeat (first | with_reducible exact Below.refl _ _ | with_reducible apply bdrew | with_reducible apply bdrewN | with_reducible apply balloc | ((with_reducible refine bset ?_ ?_ _); rotate_left; (first | omega | (simp <;> omega))))), (by simp [Cls, go_sem])⟩
      case round =>
        obtain ⟨k, hk, rfl, hci, hBr, hCr⟩ := hrel
        obtain ⟨w1, rfl⟩ : ∃ wo : World, wo = wr := ⟨_, rfl⟩
        have drs := hBr.size
        have Fr := hCr
        simp only [Cls, and_true] at Fr
        have yrw0 : w.heap.size < w1.heap.size := hCr.blk (b := w.heap.size) (k := 0) (v := .int .i64 0) (by simp)
        have yrwp1 : w.heap.size < w1.heap.size + 1 := (by omega)
        have yrwp2 : w.heap.size < w1.heap.size + 1 + 1 := (by omega)
        by_cases hlt : k < cs.length
        · obtain ⟨ad, x, rfl, hx, hxc⟩ := (hC.below hBr).at_ hlt
          by_cases hx0 : x < 0
          · have hx0' : decide (x < 0) = true := decide_eq_true hx0
            have HF := Lib.hid (hfault_2 HNB.out (fun h => by have := h x (List.mem_of_getElem? hx.out); omega))
            go_wp2_with fail
            refine bodyPost_ret (v := .agg #[.int .i64 3, .int .i64 (-2)]) ?_ rfl ⟨by rw [HF.out], by repeat (first | with_reducible exact hBr | with_reducible apply bdrew | with_reducible apply bdrewN | with_reducible apply balloc | ((with_reducible refine bset ?_ ?_ _); rotate_left; (first | omega | (simp <;> omega))))⟩
            simp [results, Try.results91, go_sem, Fr, yrw0, yrwp1, yrwp2]
          · have hx0' : decide (x < 0) = false := decide_eq_false hx0
            by_cases hx1 : x > 1000000
            · have hx1' : decide (x > 1000000) = true := decide_eq_true hx1
              have HF := Lib.hid (hfault_2 HNB.out (fun h => by have := h x (List.mem_of_getElem? hx.out); omega))
              go_wp2_with fail
              refine bodyPost_ret (v := .agg #[.int .i64 3, .int .i64 (-2)]) ?_ rfl ⟨by rw [HF.out], by repeat (first | with_reducible exact hBr | with_reducible apply bdrew | with_reducible apply bdrewN | with_reducible apply balloc | ((with_reducible refine bset ?_ ?_ _); rotate_left; (first | omega | (simp <;> omega))))⟩
              simp [results, Try.results91, go_sem, Fr, yrw0, yrwp1, yrwp2]
            · have hx1' : decide (x > 1000000) = false := decide_eq_false hx1
              have HCN := Lib.hid (show CostsIn (cs.take (k + 1)) from fun c hc => by
                rw [List.take_add_one, hx.out] at hc
                rcases List.mem_append.1 hc with h | h
                · exact hci.out c h
                · have : c = x := by simpa using h
                  omega)
              go_wp2_with fail
              go_roundw
              case rel => exact ⟨k + 1, by omega, by go_num, HCN, (by repeat (first | with_reducible exact hBr | with_reducible apply bdrew | with_reducible apply bdrewN | with_reducible apply balloc | ((with_reducible refine bset ?_ ?_ _); rotate_left; (first | omega | (simp <;> omega))))), (by simp [Cls, go_sem, Fr, yrw0, yrwp1, yrwp2])⟩
              case measure => simp [intOf]; omega
        · have HCI := Lib.hid (show CostsIn cs from fun c hc => hci.out c (by rw [List.take_of_length_le (by omega)]; exact hc))
          have HF3 := Lib.hid (hfault_3 HNB.out HCI.out)
          clear hci
          go_wp2_with fail
          go_loopw [34] (fun x wr => ∃ k : Nat, k ≤ sets.length ∧ x = .int .i64 k ∧ Hid (∀ s ∈ sets.take k, hitc (cs.length : Int) s = 0) ∧ Below w.heap.size w wr ∧ Cls wr [(w.heap.size, 0, .int .i64 0), (w.heap.size, 1, .int .i64 0)]) (fun x _ => sets.length - (intOf x).toNat)
          case atStart => exact ⟨0, Nat.zero_le _, rfl, Lib.hid (by simp), (by repeat (first | with_reducible exact hBr | with_reducible apply bdrew | with_reducible apply bdrewN | with_reducible apply balloc | ((with_reducible refine bset ?_ ?_ _); rotate_left; (first | omega | (simp <;> omega))))), (Cls.below (w := w1) (by repeat (first | with_reducible exact Below.refl _ _ | with_reducible apply bdrew | with_reducible apply bdrewN | with_reducible apply balloc | ((with_reducible refine bset ?_ ?_ _); rotate_left; (first | omega | (simp <;> omega))))) hCr)⟩
          case round =>
            obtain ⟨j, hj, rfl, hgo, hBq, hCq⟩ := hrel
            obtain ⟨w2, rfl⟩ : ∃ wo : World, wo = wr := ⟨_, rfl⟩
            have dqs := hBq.size
            have Fq := hCq
            simp only [Cls, and_true] at Fq
            have yqw0 : w.heap.size < w2.heap.size := hCq.blk (b := w.heap.size) (k := 0) (v := .int .i64 0) (by simp)
            have yqwp1 : w.heap.size < w2.heap.size + 1 := (by omega)
            have yqwp2 : w.heap.size < w2.heap.size + 1 + 1 := (by omega)
            by_cases hlj : j < sets.length
            · obtain ⟨ad, s, B1, c1, rfl, hs, hsc, hI⟩ := (hL.below hBq).at_ hlj
              have hsle := HSL.out s (List.mem_of_getElem? hs.out)
              have HAT := Lib.hid (setsFault_at (m := (cs.length : Int)) sets 0 j s hgo.out hs.out)
              rw [Nat.zero_add] at HAT
              by_cases h0 : s.length = 0
              · have HF := Lib.hid (show hfault sets cs = (9, (j : Int)) by rw [HF3.out, HAT.out (by rw [hitc_empty h0]; omega), hitc_empty h0])
                have h0' : ((s.length : Int) == 0) = true := by simp [h0]
                go_wp2_with fail
                refine bodyPost_ret (v := .agg #[.int .i64 9, .int .i64 (j : Int)]) ?_ rfl ⟨by rw [HF.out], by repeat (first | with_reducible exact hBq | with_reducible apply bdrew | with_reducible apply bdrewN | with_reducible apply balloc | ((with_reducible refine bset ?_ ?_ _); rotate_left; (first | omega | (simp <;> omega))))⟩
                simp [results, Try.results91, go_sem, Fq, yqw0, yqwp1, yqwp2]
              · have h0' : ((s.length : Int) == 0) = false := beq_eq_false_iff_ne.2 (by omega)
                by_cases hset : SetP s (cs.length : Int)
                · have HSE := Lib.hid hset
                  have HGN := Lib.hid (show ∀ x ∈ sets.take (j + 1), hitc (cs.length : Int) x = 0 from fun x hx => by
                    rw [List.take_add_one, hs.out] at hx
                    rcases List.mem_append.1 hx with h | h
                    · exact hgo.out x h
                    · have : x = s := by simpa using h
                      rw [this]; exact hitc_good h0 HSE.out)
                  clear hset
                  go_wp2_with fail
                  refine (isset_yes _ _ _ _ _ hI hsle HSE.out).mono ?_
                  rintro e w' ⟨rfl, rfl⟩
                  go_wp2_with fail
                  go_roundw
                  case rel => exact ⟨j + 1, by omega, by go_num, HGN, (by repeat (first | with_reducible exact hBq | with_reducible apply bdrew | with_reducible apply bdrewN | with_reducible apply balloc | ((with_reducible refine bset ?_ ?_ _); rotate_left; (first | omega | (simp <;> omega))))), (by simp [Cls, go_sem, Fq, yqw0, yqwp1, yqwp2])⟩
                  case measure => simp [intOf]; omega
                · have HSE := Lib.hid hset
                  have HF := Lib.hid (show hfault sets cs = (5, (j : Int)) by rw [HF3.out, HAT.out (by rw [hitc_bad h0 hset]; omega), hitc_bad h0 hset])
                  clear hset
                  go_wp2_with fail
                  refine (isset_no _ _ _ _ _ hI hsle HSE.out).mono ?_
                  rintro e w' ⟨rfl, rfl⟩
                  go_wp2_with fail
                  refine bodyPost_ret (v := .agg #[.int .i64 5, .int .i64 (j : Int)]) ?_ rfl ⟨by rw [HF.out], by repeat (first | with_reducible exact hBq | with_reducible apply bdrew | with_reducible apply bdrewN | with_reducible apply balloc | ((with_reducible refine bset ?_ ?_ _); rotate_left; (first | omega | (simp <;> omega))))⟩
                  simp [results, Try.results91, go_sem, Fq, yqw0, yqwp1, yqwp2]
            · have HF := Lib.hid (show hfault sets cs = (0, 0) by rw [HF3.out, setsFault_good sets 0 (fun s hs => hgo.out s (by rw [List.take_of_length_le (by omega)]; exact hs))])
              go_wp2_with fail
              refine bodyPost_ret (v := .agg #[.int .i64 0, .int .i64 0]) ?_ rfl ⟨by rw [HF.out], by repeat (first | with_reducible exact hBq | with_reducible apply bdrew | with_reducible apply bdrewN | with_reducible apply balloc | ((with_reducible refine bset ?_ ?_ _); rotate_left; (first | omega | (simp <;> omega))))⟩
              simp [results, Try.results91, go_sem, Fq, yqw0, yqwp1, yqwp2]


end Go.Proofs.Ytihkgdlanfemcaa

namespace Go.Proofs.Ytihkgdlanfemcaa
open Go.RowKit
set_option linter.unusedVariables false
set_option linter.unusedSimpArgs false

/-- A state is reached for a cost. -/
inductive Cst (n : Nat) (ops : List OpV) (st : List Int) : List Int → Int → Prop
  | init : Cst n ops st st 0
  | step {l : List Int} {c : Int} {p : Nat} {o : OpV} : Cst n ops st l c → ops[p]? = some o → (∀ q ∈ o.pre, q ∈ l) → Cst n ops st (nextV n l o) (c + o.cost)
/-- What relaxplan.Best returns (ops: without deletions). -/
def RBest (n : Nat) (ops : List OpV) (goal st : List Int) (d : Int) : Prop :=
  (d = 1000000000 ∨ ∃ l, Cst n ops st l d ∧ ∀ q ∈ goal, q ∈ l) ∧ d ≤ 1000000000 ∧ ∀ l c, Cst n ops st l c → (∀ q ∈ goal, q ∈ l) → d ≤ c
theorem Cst.rch {n : Nat} {ops : List OpV} {st l : List Int} {c : Int} (h : Cst n ops st l c) : Rch n ops st l := by
  induction h with
  | init => exact .init
  | @step l c p o _ hp hc ih =>
    have := Rch.step (op := p) ih (List.getElem?_eq_some_iff.1 hp).1 ⟨o, by simpa using hp, hc⟩
    rwa [opAt_of (o := o) (by simpa using hp)] at this
theorem Cst.nn {n : Nat} {ops : List OpV} {st l : List Int} {c : Int} (hc : ∀ o ∈ ops, 0 ≤ o.cost) (h : Cst n ops st l c) : 0 ≤ c := by
  induction h with
  | init => exact Int.le_refl _
  | step _ hp _ ih => have := hc _ (List.mem_of_getElem? hp); omega
theorem RBest.nn {n : Nat} {ops : List OpV} {goal st : List Int} {d : Int} (hc : ∀ o ∈ ops, 0 ≤ o.cost) (h : RBest n ops goal st d) : 0 ≤ d := by
  rcases h.1 with e | ⟨l, hl, _⟩
  · omega
  · exact hl.nn hc

/-! ### The order of the states -/
/-- A step leads to a later state, or to the same one. -/
def Ordered (n : Nat) (ops : List OpV) (ls : List (List Int)) : Prop := ∀ (i j : Nat) (l : List Int) (p : Nat) (o : OpV), ls[i]? = some l → ops[p]? = some o → (∀ q ∈ o.pre, q ∈ l) → ls[j]? = some (nextV n l o) → i ≤ j
/-- The table of costs, and the least one of a goal state so far. -/
structure DPI (n : Nat) (ops : List OpV) (goal st : List Int) (ls : List (List Int)) (k p g : Nat) (f : List Int → Int) (b : Int) : Prop where
  real : ∀ l ∈ ls, f l = 1000000000 ∨ Cst n ops st l (f l)
  rng : ∀ l ∈ ls, 0 ≤ f l ∧ f l ≤ 1000000000
  start : f st = 0
  done : ∀ (j q : Nat) (l : List Int) (o : OpV), (j < k ∨ (j = k ∧ q < p)) → ops[q]? = some o → ls[j]? = some l → (∀ x ∈ o.pre, x ∈ l) → f (nextV n l o) ≤ f l + o.cost
  low : ∀ (j : Nat) (l : List Int), j < g → ls[j]? = some l → (∀ q ∈ goal, q ∈ l) → b ≤ f l
  breal : b = 1000000000 ∨ ∃ l, Cst n ops st l b ∧ ∀ q ∈ goal, q ∈ l
  brng : 0 ≤ b ∧ b ≤ 1000000000
section
variable {n : Nat} {ops : List OpV} {goal st : List Int} {ls : List (List Int)} {k p g : Nat} {f : List Int → Int} {b : Int}
theorem DPI.init (hf : ∀ l ∈ ls, f l = if l = st then 0 else 1000000000) (hst : f st = 0) : DPI n ops goal st ls 0 0 0 f 1000000000 := by
  refine ⟨fun l hl => ?_, fun l hl => ?_, hst, fun j q l o h => by omega, fun j l h => by omega, .inl rfl, by omega⟩
  · by_cases e : l = st
    · rw [e, hst]; exact .inr .init
    · rw [hf l hl, if_neg e]; exact .inl rfl
  · rw [hf l hl]; split <;> omega
theorem DPI.goal_yes (h : DPI n ops goal st ls k 0 k f b) {l : List Int} (hl : ls[k]? = some l) (hg : ∀ q ∈ goal, q ∈ l) : DPI n ops goal st ls k 0 (k + 1) f (min b (f l)) := by
  have hm := List.mem_of_getElem? hl
  refine ⟨h.real, h.rng, h.start, h.done, fun j l' hj hl' hg' => ?_, ?_, ?_⟩
  · by_cases e : j = k
    · rw [e, hl] at hl'; injection hl' with hl'; subst hl'; exact Int.min_le_right _ _
    · have := h.low j l' (by omega) hl' hg'
      omega
  · rcases Int.le_total b (f l) with e | e
    · rw [Int.min_eq_left e]; exact h.breal
    · rw [Int.min_eq_right e]
      rcases h.real l hm with e2 | e2
      · exact .inl e2
      · exact .inr ⟨l, e2, hg⟩
  · have := h.rng l hm; have := h.brng; omega
theorem DPI.goal_no (h : DPI n ops goal st ls k 0 k f b) {l : List Int} (hl : ls[k]? = some l) (hg : ¬ ∀ q ∈ goal, q ∈ l) : DPI n ops goal st ls k 0 (k + 1) f b :=
  ⟨h.real, h.rng, h.start, h.done, fun j l' hj hl' hg' => by
    by_cases e : j = k
    · rw [e, hl] at hl'; injection hl' with hl'; subst hl'; exact absurd hg' hg
    · exact h.low j l' (by omega) hl' hg', h.breal, h.brng⟩
theorem DPI.skip (h : DPI n ops goal st ls k p g f b) {l : List Int} {o : OpV} (hl : ls[k]? = some l) (ho : ops[p]? = some o) (hc : ¬ ∀ x ∈ o.pre, x ∈ l) : DPI n ops goal st ls k (p + 1) g f b :=
  ⟨h.real, h.rng, h.start, fun j q l' o' hjq ho' hl' hc' => by
    by_cases e : j = k ∧ q = p
    · obtain ⟨rfl, rfl⟩ := e
      rw [hl] at hl'; injection hl' with hl'; subst hl'
      rw [ho] at ho'; injection ho' with ho'; subst ho'
      exact absurd hc' hc
    · exact h.done j q l' o' (by omega) ho' hl' hc', h.low, h.breal, h.brng⟩
theorem DPI.row (h : DPI n ops goal st ls k p (k + 1) f b) (hp : ops.length ≤ p) : DPI n ops goal st ls (k + 1) 0 (k + 1) f b :=
  ⟨h.real, h.rng, h.start, fun j q l o hjq ho hl hc => h.done j q l o (by have := (List.getElem?_eq_some_iff.1 ho).1; omega) ho hl hc, h.low, h.breal, h.brng⟩
theorem DPI.use (h : DPI n ops goal st ls k p (k + 1) f b) (hOrd : Ordered n ops ls) (hnd : ls.Nodup) (hcost : ∀ o ∈ ops, 0 ≤ o.cost) {l : List Int} {o : OpV} (hl : ls[k]? = some l) (ho : ops[p]? = some o) (hc : ∀ x ∈ o.pre, x ∈ l) (hcl : ∀ (l : List Int) (p : Nat) (o : OpV), l ∈ ls → ops[p]? = some o → (∀ q ∈ o.pre, q ∈ l) → nextV n l o ∈ ls) {f' : List Int → Int}
    (hf1 : f' (nextV n l o) = min (f (nextV n l o)) (f l + o.cost)) (hf2 : ∀ r ∈ ls, r ≠ nextV n l o → f' r = f r) (hst : st ∈ ls) : DPI n ops goal st ls k (p + 1) (k + 1) f' b := by
  have hm := List.mem_of_getElem? hl
  have hin := hcl l p o hm ho hc
  have hco := hcost o (List.mem_of_getElem? ho)
  have hrl := h.rng l hm
  have hrn := h.rng _ hin
  have hle : ∀ r ∈ ls, f' r ≤ f r := fun r hr => by
    by_cases e : r = nextV n l o
    · rw [e, hf1]; omega
    · rw [hf2 r hr e]; exact Int.le_refl _
  obtain ⟨jn, hjn⟩ := List.getElem?_of_mem hin
  have hkj := hOrd k jn l p o hl ho hc hjn
  -- nothing that was passed already becomes less
  have hsame : ∀ (j : Nat) (r : List Int), j ≤ k → ls[j]? = some r → f' r = f r := fun j r hj hr => by
    by_cases e : r = nextV n l o
    · have hjj : j = jn := by
        have h1 := (List.getElem?_inj (i := j) (j := jn) (List.getElem?_eq_some_iff.1 hr).1 hnd).1 (by rw [hr, hjn, e])
        exact h1
      have hjk : j = k := by omega
      subst hjk
      rw [hl] at hr
      injection hr with hr
      subst hr
      rw [← e] at hf1
      rw [hf1]
      omega
    · exact hf2 r (List.mem_of_getElem? hr) e
  refine ⟨fun r hr => ?_, fun r hr => ?_, ?_, fun j q l' o' hjq ho' hl' hc' => ?_, fun j l' hj hl' hg' => ?_, h.breal, h.brng⟩
  · by_cases e : r = nextV n l o
    · subst e
      rw [hf1]
      rcases Int.le_total (f (nextV n l o)) (f l + o.cost) with e2 | e2
      · rw [Int.min_eq_left e2]; exact h.real _ hin
      · rw [Int.min_eq_right e2]
        rcases h.real l hm with e3 | e3
        · exact .inl (by omega)
        · exact .inr (.step e3 ho hc)
    · rw [hf2 r hr e]; exact h.real r hr
  · by_cases e : r = nextV n l o
    · subst e; rw [hf1]; omega
    · rw [hf2 r hr e]; exact h.rng r hr
  · by_cases e : st = nextV n l o
    · rw [e, hf1, ← e, h.start]; omega
    · rw [hf2 st hst e]; exact h.start
  · by_cases e : j = k ∧ q = p
    · obtain ⟨rfl, rfl⟩ := e
      rw [hl] at hl'; injection hl' with hl'; subst hl'
      rw [ho] at ho'; injection ho' with ho'; subst ho'
      rw [hsame j l (Nat.le_refl _) hl, hf1]
      omega
    · rw [hsame j l' (by omega) hl']
      have h1 := h.done j q l' o' (by omega) ho' hl' hc'
      by_cases e2 : nextV n l' o' = nextV n l o
      · rw [e2, hf1]; rw [e2] at h1; omega
      · have := hle _ (hcl l' q o' (List.mem_of_getElem? hl') ho' hc'); omega
  · rw [hsame j l' (by omega) hl']; exact h.low j l' hj hl' hg'
theorem DPI.best (h : DPI n ops goal st ls ls.length 0 ls.length f b) (hst : st ∈ ls) (hcl : ∀ (l : List Int) (p : Nat) (o : OpV), l ∈ ls → ops[p]? = some o → (∀ q ∈ o.pre, q ∈ l) → nextV n l o ∈ ls) : RBest n ops goal st b := by
  have key : ∀ l c, Cst n ops st l c → l ∈ ls ∧ f l ≤ c := fun l c hc => by
    induction hc with
    | init => exact ⟨hst, by rw [h.start]; exact Int.le_refl _⟩
    | @step l c p o _ ho hpre ih =>
      obtain ⟨j, hj⟩ := List.getElem?_of_mem ih.1
      have h1 := h.done j p l o (.inl (List.getElem?_eq_some_iff.1 hj).1) ho hj hpre
      exact ⟨hcl l p o ih.1 ho hpre, by omega⟩
  refine ⟨h.breal, h.brng.2, fun l c hc hg => ?_⟩
  obtain ⟨hl, hle⟩ := key l c hc
  obtain ⟨j, hj⟩ := List.getElem?_of_mem hl
  have := h.low j l (List.getElem?_eq_some_iff.1 hj).1 hj hg
  omega
end
theorem RSt.closed {n : Nat} {ops : List OpV} {st : List Int} {ls : List (List Int)} (h : RSt n ops st ls ls.length 0) : ∀ (l : List Int) (p : Nat) (o : OpV), l ∈ ls → ops[p]? = some o → (∀ q ∈ o.pre, q ∈ l) → nextV n l o ∈ ls := fun l p o hl ho hc => by
  obtain ⟨j, hj⟩ := List.getElem?_of_mem hl
  have := h.done j p l (.inl (List.getElem?_eq_some_iff.1 hj).1) (List.getElem?_eq_some_iff.1 ho).1 hj ⟨o, by simpa using ho, hc⟩
  rwa [opAt_of (o := o) (by simpa using ho)] at this
/-- States that are sorted by their number of bits. -/
theorem ordered_of {n : Nat} {ops : List OpV} {ls : List (List Int)} (hn : n ≤ 24) (hset : ∀ l ∈ ls, SetP l (n : Int)) (hnd : ls.Nodup) (hs : ∀ (i j : Nat) (a b : List Int), i < j → ls[i]? = some a → ls[j]? = some b → ones32 (wordV a) ≤ ones32 (wordV b)) : Ordered n (ops.map rxO) ls := fun i j l p o hl ho hc hj => by
  rcases Nat.lt_or_ge j i with h | h
  · exfalso
    have h1 := hs j i _ _ h hj hl
    rw [List.getElem?_map] at ho
    obtain ⟨o', ho', rfl⟩ := Option.map_eq_some_iff.1 ho
    have hls := hset l (List.mem_of_getElem? hl)
    have hns := hset _ (List.mem_of_getElem? hj)
    have hsub : ∀ x ∈ l, x ∈ nextV n l (rxO o') := fun x hx => nextV_mem.2 ⟨hls.1 x hx, .inr ⟨hx, by simp [rxO]⟩⟩
    by_cases e : l = nextV n l (rxO o')
    · rw [← e] at hj
      have := (List.getElem?_inj (i := j) (j := i) (List.getElem?_eq_some_iff.1 hj).1 hnd).1 (by rw [hj, hl])
      omega
    · have := word_ones hls hns hn hsub e
      omega
  · exact h

end Go.Proofs.Ytihkgdlanfemcaa

namespace Go.Proofs.Ytihkgdlanfemcaa
open Go.RowKit
set_option linter.unusedVariables false
set_option linter.unusedSimpArgs false

theorem plist_neq {B : Nat} {w : World} {row : Option Nat} {A : Option Addr} {n c : Nat} {r : List Int} (h : PList B w row [.slice A n c] r) {ad : Addr} (hA : A = some ad) : some ad.block ≠ row := by
  obtain ⟨A', c', e, _, _, _, _, h7⟩ := h
  injection e with e
  injection e with e2 e3 e4
  subst e2
  exact (h7 ad hA).1
theorem has_m (A : Option Addr) (c m : Nat) (xs : List Int) (n : Int) (w : World) (v : Bool) (hI : Ints w A xs) (hm : xs.length = m) (hl : xs.length ≤ 9223372036854775807) (hv : decide (n ∈ xs) = v) :
    Calls Try.prog 40 #[.slice A m c, .int .i64 n] w fun e w' => e = .returned (.bool v) ∧ w = w' := by
  subst hm
  exact (has_any A c xs n w hI hl).mono fun e w' h => ⟨by rw [h.1, hv], h.2⟩
theorem OwnI.blk_of {base : Nat} {w : World} {v : Value} {xs : List Int} (h : OwnI base w v xs) : ∀ k, v.ownBlock = some k → base ≤ k := fun k hk => (h.lt k hk).1
set_option maxRecDepth 100000 in
set_option maxHeartbeats 2000000 in
theorem reached_any (w : World) (t : TaskV) (Ai Ag Ao : Option Addr) (ci cg co : Nat) (hT : TaskMem w Ai Ag Ao t) (S : Option Addr) (cs : Nat) (st : List Int) (hS : Ints w S st) (n : Nat) (hn : t.facts = n) (hv : Valid t) (hst : SetP st (n : Int)) :
    Calls Try.prog 35 #[.agg #[.int .i64 t.facts, .slice Ai t.init.length ci, .slice Ag t.goal.length cg, .slice Ao t.ops.length co], .slice S st.length cs] w fun e w' => (∃ A c ls, e = .returned (.tuple #[.slice A ls.length c, .bool true]) ∧ RSt n t.ops st ls ls.length 0 ∧ ls.length ≤ 2000 ∧ LLR w' A ls ∧ Below w.heap.size w w') ∨ (e = .returned (.tuple #[.slice none 0 0, .bool false]) ∧ (∃ ls : List (List Int), ls.Nodup ∧ ls.length = 2001 ∧ ∀ l ∈ ls, Rch n t.ops st l) ∧ Below w.heap.size w w') := by
  have HV := Lib.hid hv
  have HN := Lib.hid hn
  have hn24 : n ≤ 24 := by have := hv.f1; omega
  have h40 : t.ops.length ≤ 40 := hv.nops
  have h40b : t.ops.length ≤ 1000000 := by omega
  have HST := Lib.hid hst
  have hlS : st.length ≤ 24 := by have := SetP.length hst (by omega); omega
  clear hv hn hst
  go_enter Try.func35, Try.ntmps35
  go_wp2_with fail
  refine (word_any _ _ st _ (hS.below (by repeat (first | with_reducible exact Below.refl _ _ | with_reducible apply bdrew | with_reducible apply bdrewN | with_reducible apply balloc | ((with_reducible refine bset ?_ ?_ _); rotate_left; (first | omega | (simp <;> omega)))))) n HST.out hn24).mono ?_
  rintro e w9 ⟨rfl, rfl⟩
  have H0 : Hid (OwnW (some (w.heap.size + 1 + 1)) (w.heap.size + 1) (((w.alloc (.cells #[.int .i64 t.facts, .slice Ai t.init.length ci, .slice Ag t.goal.length cg, .slice Ao t.ops.length co] 25)).alloc (.cells #[.slice S st.length cs] 22)).alloc (.cells #[.int .i64 (wordV st)] 3)) (.slice (some ⟨w.heap.size + 1, 0, none⟩) 1 1) [st]) := Lib.hid (by
    refine OwnEs.below (pwl_stable _) (w := (w.alloc (.cells #[.int .i64 t.facts, .slice Ai t.init.length ci, .slice Ag t.goal.length cg, .slice Ao t.ops.length co] 25)).alloc (.cells #[.slice S st.length cs] 22)) ?_ ((Below.refl _ _).alloc (Nat.le_refl _) _)
    refine ⟨[.slice S st.length cs], ⟨by simp, .inr ⟨w.heap.size + 1, 1, #[.slice S st.length cs], rfl, Nat.le_refl _, ?_, by simp, by decide, by simp, by simp⟩⟩, fun i a ha => ?_⟩
    · have h := Arr.new (w.alloc (.cells #[.int .i64 t.facts, .slice Ai t.init.length ci, .slice Ag t.goal.length cg, .slice Ao t.ops.length co] 25)) 22 [.slice S st.length cs]
      simpa [Arr] using h
    · cases i with
      | succ i => simp at ha
      | zero =>
        simp at ha
        subst ha
        refine pwl_of (hS.below (by repeat (first | with_reducible exact Below.refl _ _ | with_reducible apply bdrew | with_reducible apply bdrewN | with_reducible apply balloc | ((with_reducible refine bset ?_ ?_ _); rotate_left; (first | omega | (simp <;> omega)))))) (fun hne ad he => ?_)
        have hb : ad.block < w.heap.size := by
          obtain ⟨ad', x, e2, _, hc⟩ := hS.at_ (k := 0) (List.length_pos_iff.2 hne)
          rw [he] at e2
          injection e2 with e2
          have h1 := World.block_lt_of_cell? w _ hc
          rw [add_block] at h1
          rw [e2]; exact h1
        refine ⟨fun e => ?_, fun e => ?_, by simp; omega⟩
        · have e2 : ad.block = w.heap.size + 1 := by simpa [Value.ownBlock] using e
          omega
        · injection e with e
          omega)
  have HW0 := Lib.hid (own_one_int ((w.alloc (.cells #[.int .i64 t.facts, .slice Ai t.init.length ci, .slice Ag t.goal.length cg, .slice Ao t.ops.length co] 25)).alloc (.cells #[.slice S st.length cs] 22)) (w.heap.size + 1) (wordV st) (w.heap.size + 1 + 1) (by simp) (by omega))
  have HR0 := Lib.hid (RSt.start (ops := t.ops) HST.out)
  go_wp2_with fail
  go_loopw [6, 7, 8] (fun a b i wr => ∃ (ls : List (List Int)) (k : Nat), k ≤ ls.length ∧ ls.length ≤ 2000 ∧ i = .int .i64 k ∧ OwnW (b).ownBlock (w.heap.size + 1) wr a ls ∧ OwnI (w.heap.size + 1) wr b (ls.map wordV) ∧ Hid (Sep b a) ∧ Hid (RSt n t.ops st ls k 0) ∧ Below w.heap.size w wr ∧ Cls wr [(w.heap.size, 0, .int .i64 t.facts), (w.heap.size, 1, .slice Ai t.init.length ci), (w.heap.size, 2, .slice Ag t.goal.length cg), (w.heap.size, 3, .slice Ao t.ops.length co)]) (fun _ _ i _ => 2001 - (intOf i).toNat)
  case atStart => exact ⟨[st], 0, by simp, by simp, rfl, H0.out.below (by repeat (first | with_reducible exact Below.refl _ _ | with_reducible apply bdrew | with_reducible apply bdrewN | with_reducible apply balloc | ((with_reducible refine bset ?_ ?_ _); rotate_left; (first | omega | (simp <;> omega))))), HW0.out.below (by repeat (first | with_reducible exact Below.refl _ _ | with_reducible apply bdrew | with_reducible apply bdrewN | with_reducible apply balloc | ((with_reducible refine bset ?_ ?_ _); rotate_left; (first | omega | (simp <;> omega))))), Lib.hid (fun k h1 h2 => by simp [Value.ownBlock] at h1 h2; omega), HR0, (by repeat (first | with_reducible exact Below.refl _ _ | with_reducible apply bdrew | with_reducible apply bdrewN | with_reducible apply balloc | ((with_reducible refine bset ?_ ?_ _); rotate_left; (first | omega | (simp <;> omega))))), (by simp [Cls, go_sem])⟩
  case round =>
    obtain ⟨ls, k, hk, hl2, rfl, hO, hW, hSep, hR, hBr, hCr⟩ := hrel
    obtain ⟨w1, rfl⟩ : ∃ wo : World, wo = wr := ⟨_, rfl⟩
    have drs := hBr.size
    have Fr := hCr
    simp only [Cls, and_true] at Fr
    have yrw0 : w.heap.size < w1.heap.size := hCr.blk (b := w.heap.size) (k := 0) (v := .int .i64 t.facts) (by simp)
    have yrwp1 : w.heap.size < w1.heap.size + 1 := (by omega)
    have yrwp2 : w.heap.size < w1.heap.size + 1 + 1 := (by omega)
    by_cases hlt : k < ls.length
    · obtain ⟨A1, c1, rfl⟩ := OwnEs.form hO
      go_wp2_with fail
      go_loopw [6, 7, 9] (fun a b i wr => ∃ (ls : List (List Int)) (p : Nat), k < ls.length ∧ p ≤ t.ops.length ∧ ls.length ≤ 2000 ∧ i = .int .i64 p ∧ OwnW (b).ownBlock (w.heap.size + 1) wr a ls ∧ OwnI (w.heap.size + 1) wr b (ls.map wordV) ∧ Hid (Sep b a) ∧ Hid (RSt n t.ops st ls k p) ∧ Below w.heap.size w wr ∧ Cls wr [(w.heap.size, 0, .int .i64 t.facts), (w.heap.size, 1, .slice Ai t.init.length ci), (w.heap.size, 2, .slice Ag t.goal.length cg), (w.heap.size, 3, .slice Ao t.ops.length co)]) (fun _ _ i _ => t.ops.length - (intOf i).toNat)
      case atStart => exact ⟨ls, 0, hlt, Nat.zero_le _, hl2, rfl, hO.below (by repeat (first | with_reducible exact Below.refl _ _ | with_reducible apply bdrew | with_reducible apply bdrewN | with_reducible apply balloc | ((with_reducible refine bset ?_ ?_ _); rotate_left; (first | omega | (simp <;> omega))))), hW.below (by repeat (first | with_reducible exact Below.refl _ _ | with_reducible apply bdrew | with_reducible apply bdrewN | with_reducible apply balloc | ((with_reducible refine bset ?_ ?_ _); rotate_left; (first | omega | (simp <;> omega))))), hSep, hR, (by repeat (first | with_reducible exact hBr | with_reducible apply bdrew | with_reducible apply bdrewN | with_reducible apply balloc | ((with_reducible refine bset ?_ ?_ _); rotate_left; (first | omega | (simp <;> omega))))), (Cls.below (w := w1) (by repeat (first | with_reducible exact Below.refl _ _ | with_reducible apply bdrew | with_reducible apply bdrewN | with_reducible apply balloc | ((with_reducible refine bset ?_ ?_ _); rotate_left; (first | omega | (simp <;> omega))))) hCr)⟩
      case round =>
        clear hO hW hSep hR hk hl2 hlt
        obtain ⟨ls, p, hkl, hp, hl2, rfl, hO, hW, hSep, hR, hBs, hCs⟩ := hrel
        obtain ⟨w2, rfl⟩ : ∃ wo : World, wo = wr := ⟨_, rfl⟩
        have dss := hBs.size
        have Fs := hCs
        simp only [Cls, and_true] at Fs
        have ysw0 : w.heap.size < w2.heap.size := hCs.blk (b := w.heap.size) (k := 0) (v := .int .i64 t.facts) (by simp)
        have yswp1 : w.heap.size < w2.heap.size + 1 := (by omega)
        have yswp2 : w.heap.size < w2.heap.size + 1 + 1 := (by omega)
        obtain ⟨A2, c2, rfl⟩ := OwnEs.form hO
        by_cases hlp : p < t.ops.length
        · obtain ⟨ad, r, Br, cr, rfl, hr, hrc, hrI⟩ := hO.llr.at_ hkl
          have HRS := Lib.hid (hR.out.set r (List.mem_of_getElem? hr.out))
          have hrl : r.length ≤ 9223372036854775807 := by have := SetP.length HRS.out (by omega); omega
          have hab : ad.block < w2.heap.size := by have := World.block_lt_of_cell? w2 _ hrc; rw [add_block] at this; exact this
          by_cases hcan : CanV t.ops r (p : Int)
          · have HC := Lib.hid hcan
            clear hcan
            obtain ⟨nx, hnx⟩ : ∃ x, Hid (nextV n r (opAt t.ops (p : Int)) = x) := ⟨_, Lib.hid rfl⟩
            have HNS := Lib.hid (show SetP nx (n : Int) by rw [← hnx.out]; exact nextV_set n r _)
            have hnl : nx.length ≤ 24 := by have := SetP.length HNS.out (by omega); omega
            go_wp2_with fail
            refine region_still_tail 6 (by kernel_rfl) (by kernel_rfl) ?_
            simp only [List.take_succ_cons, List.take_zero, List.drop_succ_cons, List.drop_zero]
            repeat still_step
            refine wpStill_nil ?_
            go_wp2_with fail
            refine (applies_any _ t Ai Ag Ao ci cg co (hT.below (by repeat (first | with_reducible exact hBs | with_reducible apply bdrew | with_reducible apply bdrewN | with_reducible apply balloc | ((with_reducible refine bset ?_ ?_ _); rotate_left; (first | omega | (simp <;> omega)))))) _ _ _ (hrI.below (by repeat (first | with_reducible exact Below.refl _ _ | with_reducible apply bdrew | with_reducible apply bdrewN | with_reducible apply balloc | ((with_reducible refine bset ?_ ?_ _); rotate_left; (first | omega | (simp <;> omega)))))) hrl h40b p hlp true ⟨fun _ => rfl, fun _ => HC.out⟩).mono ?_
            rintro e w3 ⟨rfl, hB3⟩
            have E3 := dstep w2 hB3 (by repeat (first | with_reducible exact Below.refl _ _ | with_reducible apply bdrew | with_reducible apply bdrewN | with_reducible apply balloc | ((with_reducible refine bset ?_ ?_ _); rotate_left; (first | omega | (simp <;> omega)))))
            have D3 := hBs.trans (E3.mono hBs.size)
            have C3 := Cls.below (w := w2) E3 hCs
            have hrc3 := (E3.cell (World.block_lt_of_cell? w2 _ hrc)).trans hrc
            have hrI3 := hrI.below E3
            have d3s := E3.size
            have hab3 : ad.block < w3.heap.size := by omega
            have hO3 := hO.below E3
            have hW3 := hW.below E3
            clear hrc hrI hO hW hCs hBs
            have F3 := C3
            simp only [Cls, and_true] at F3
            have y3w0 : w.heap.size < w3.heap.size := C3.blk (b := w.heap.size) (k := 0) (v := .int .i64 t.facts) (by simp)
            have y3wp1 : w.heap.size < w3.heap.size + 1 := (by omega)
            have y3wp2 : w.heap.size < w3.heap.size + 1 + 1 := (by omega)
            go_wp2_with fail
            refine region_still_tail 6 (by kernel_rfl) (by kernel_rfl) ?_
            simp only [List.take_succ_cons, List.take_zero, List.drop_succ_cons, List.drop_zero]
            repeat still_step
            refine wpStill_nil ?_
            go_wp2_with fail
            refine (after_any _ t Ai Ag Ao ci cg co (hT.below (by repeat (first | with_reducible exact D3 | with_reducible apply bdrew | with_reducible apply bdrewN | with_reducible apply balloc | ((with_reducible refine bset ?_ ?_ _); rotate_left; (first | omega | (simp <;> omega)))))) _ _ _ (hrI3.below (by repeat (first | with_reducible exact Below.refl _ _ | with_reducible apply bdrew | with_reducible apply bdrewN | with_reducible apply balloc | ((with_reducible refine bset ?_ ?_ _); rotate_left; (first | omega | (simp <;> omega)))))) hrl h40b n HN.out (by omega) p hlp).mono ?_
            rintro e w4 ⟨v4, rfl, ho4, hB4⟩
            have E4 := dstep w3 hB4 (by repeat (first | with_reducible exact Below.refl _ _ | with_reducible apply bdrew | with_reducible apply bdrewN | with_reducible apply balloc | ((with_reducible refine bset ?_ ?_ _); rotate_left; (first | omega | (simp <;> omega)))))
            have D4 := D3.trans (E4.mono D3.size)
            have C4 := Cls.below (w := w3) E4 C3
            have hO4 := hO3.below E4
            have hW4 := hW3.below E4
            rw [hnx.out] at ho4
            have HPL := Lib.hid (plist_of (B := 0) (row := (Value.slice (some ad) ls.length c2).ownBlock) ho4 (Nat.zero_le _) (fun k hk => by have h1 := (OwnEs.lt hO3 k hk).2; simp; omega))
            have HAW := Lib.hid (fun k (hk : u7.ownBlock = some k) => show k < w3.heap.size from hW3.bnd k hk)
            have HB4' := Lib.hid (OwnI.blk_of (OwnI.mono (base' := w3.heap.size) ho4 (by simp)))
            have HB4U := Lib.hid (OwnI.bnd ho4)
            obtain ⟨A4, c4, rfl, hn4, hI4⟩ := ho4.form
            have HB4L := Lib.hid (fun (ad' : Addr) (he : A4 = some ad') => show ad'.block < w4.heap.size from HB4U.out ad'.block (by rw [he]; rfl))
            have hs4 := E4.size
            clear hn4 hO3 hW3 hrc3 hrI3
            have F4 := C4
            simp only [Cls, and_true] at F4
            have y4w0 : w.heap.size < w4.heap.size := C4.blk (b := w.heap.size) (k := 0) (v := .int .i64 t.facts) (by simp)
            have y4wp1 : w.heap.size < w4.heap.size + 1 := (by omega)
            have y4wp2 : w.heap.size < w4.heap.size + 1 + 1 := (by omega)
            obtain ⟨A7, c7, he7, hn7, hI7⟩ := hW4.form
            rw [he7] at hW4 hSep HAW hO4 ⊢
            rw [List.length_map] at hW4 hSep HAW hO4 ⊢
            have HWI := Lib.hid hI7
            have HWM := Lib.hid (show (ls.map wordV).length = ls.length from List.length_map _)
            have HWL := Lib.hid (show (ls.map wordV).length ≤ 9223372036854775807 by rw [List.length_map]; omega)
            clear hn7 hI7 he7
            by_cases hin : nx ∈ ls
            · have HIN := Lib.hid (decide_eq_true ((hR.out.word HNS.out).2 hin))
              have HR2 := Lib.hid (hR.out.skip hr.out (fun _ => by rw [hnx.out]; exact hin))
              clear hin
              go_wp2_with fail
              refine (word_any _ _ nx _ (hI4.below (by repeat (first | with_reducible exact Below.refl _ _ | with_reducible apply bdrew | with_reducible apply bdrewN | with_reducible apply balloc | ((with_reducible refine bset ?_ ?_ _); rotate_left; (first | omega | (simp <;> omega)))))) n HNS.out hn24).mono ?_
              rintro e w9 ⟨rfl, hW9⟩
              rw [← hW9]
              clear hW9 w9
              go_wp2_with fail
              refine (has_m _ _ _ _ _ _ true (HWI.out.below (by repeat (first | with_reducible exact Below.refl _ _ | with_reducible apply bdrew | with_reducible apply bdrewN | with_reducible apply balloc | ((with_reducible refine bset ?_ ?_ _); rotate_left; (first | omega | (simp <;> omega)))))) HWM.out HWL.out HIN.out).mono ?_
              rintro e w9 ⟨rfl, hW9⟩
              rw [← hW9]
              clear hW9 w9
              go_wp2
              go_roundw
              case rel => exact ⟨ls, p + 1, hkl, by omega, hl2, by go_num, hO4.below (by repeat (first | with_reducible exact Below.refl _ _ | with_reducible apply bdrew | with_reducible apply bdrewN | with_reducible apply balloc | ((with_reducible refine bset ?_ ?_ _); rotate_left; (first | omega | (simp <;> omega))))), hW4.below (by repeat (first | with_reducible exact Below.refl _ _ | with_reducible apply bdrew | with_reducible apply bdrewN | with_reducible apply balloc | ((with_reducible refine bset ?_ ?_ _); rotate_left; (first | omega | (simp <;> omega))))), hSep, HR2, (by repeat (first | with_reducible exact D4 | with_reducible apply bdrew | with_reducible apply bdrewN | with_reducible apply balloc | ((with_reducible refine bset ?_ ?_ _); rotate_left; (first | omega | (simp <;> omega))))), (Cls.below (w := w4) (by repeat (first | with_reducible exact Below.refl _ _ | with_reducible apply bdrew | with_reducible apply bdrewN | with_reducible apply balloc | ((with_reducible refine bset ?_ ?_ _); rotate_left; (first | omega | (simp <;> omega))))) C4)⟩
              case measure => simp [intOf]; omega
            · have HIN := Lib.hid (decide_eq_false (fun h => hin ((hR.out.word HNS.out).1 h)))
              have HR2 := Lib.hid (hR.out.add hr.out hlp HC.out (by rw [hnx.out]; exact hin))
              rw [hnx.out] at HR2
              clear hin
              go_wp2_with fail
              refine (word_any _ _ nx _ (hI4.below (by repeat (first | with_reducible exact Below.refl _ _ | with_reducible apply bdrew | with_reducible apply bdrewN | with_reducible apply balloc | ((with_reducible refine bset ?_ ?_ _); rotate_left; (first | omega | (simp <;> omega)))))) n HNS.out hn24).mono ?_
              rintro e w9 ⟨rfl, hW9⟩
              rw [← hW9]
              clear hW9 w9
              go_wp2_with fail
              refine (has_m _ _ _ _ _ _ false (HWI.out.below (by repeat (first | with_reducible exact Below.refl _ _ | with_reducible apply bdrew | with_reducible apply bdrewN | with_reducible apply balloc | ((with_reducible refine bset ?_ ?_ _); rotate_left; (first | omega | (simp <;> omega)))))) HWM.out HWL.out HIN.out).mono ?_
              rintro e w9 ⟨rfl, hW9⟩
              rw [← hW9]
              clear hW9 w9
              by_cases hfull : ls.length = 2000
              · have hfe : ((ls.length : Int) == 2000) = true := by simp; omega
                have HFU := Lib.hid hfull
                clear hfull
                go_wp2
                refine bodyPost_ret (v := .tuple #[.slice none 0 0, .bool false]) ?_ rfl (.inr ⟨rfl, ⟨ls ++ [nx], HR2.out.nodup, by rw [List.length_append, HFU.out]; rfl, HR2.out.rch⟩, by repeat (first | with_reducible exact D4 | with_reducible apply bdrew | with_reducible apply bdrewN | with_reducible apply balloc | ((with_reducible refine bset ?_ ?_ _); rotate_left; (first | omega | (simp <;> omega))))⟩)
                simp [results, Try.results35, go_sem]
              · have hfe : ((ls.length : Int) == 2000) = false := by simp; omega
                have hl3 : ls.length + 1 ≤ 2000 := by omega
                have hlen : ls.length < 1000000000000 := by omega
                have HY : Hid (PWl (Value.slice A7 ls.length c7).ownBlock w4 (Value.slice (some ad) ls.length c2).ownBlock [.slice A4 nx.length c4] nx) := Lib.hid (pwl_of hI4 (fun _ ad' he => ⟨plist_neq HPL.out he, fun hc => by
                  have h1 := HB4'.out ad'.block (by rw [he]; rfl)
                  have h2 := HAW.out ad'.block hc.symm
                  omega, (HB4L.out ad' he)⟩))
                have HPN := Lib.hid (fun (ad' : Addr) (he : A4 = some ad') => plist_neq HPL.out he)
                have HWB := Lib.hid (fun k (hk : (Value.slice A7 ls.length c7).ownBlock = some k) => show k < w4.heap.size from hW4.bnd k hk)
                have HOB := Lib.hid (fun k (hk : (Value.slice (some ad) ls.length c2).ownBlock = some k) => show k < w4.heap.size from (OwnEs.lt hO4 k hk).2)
                have HMA := Lib.hid (show (ls ++ [nx]).map wordV = ls.map wordV ++ [wordV nx] by simp)
                have HLA := Lib.hid (show (ls ++ [nx]).length = ls.length + 1 by simp)
                clear hfull HIN HPL HAW HB4'
                go_wp2_with (at_builtin; go_must (refine wpList_el (pwl_stable _) 27 24 (.slice none 0 0) Try.underlying27 info_list rfl (by decide) (by decide) rfl (.tmp 51) (.tmp 53) rfl w [(w.heap.size, 0, .int .i64 t.facts), (w.heap.size, 1, .slice Ai t.init.length ci), (w.heap.size, 2, .slice Ag t.goal.length cg), (w.heap.size, 3, .slice Ao t.ops.length co)] rfl (OwnW.below hO4 ?p1) ⟨w4.heap.size, 0, none⟩ 1 rfl [.slice A4 nx.length c4] nx rfl (cells_one ?p2) ?p8 ((pwl_stable _).below HY.out ?p9) hlen ?p3 ?p4 ?p5 ?p6 ?p7 ?_; (case p1 => repeat (first | with_reducible exact Below.refl _ _ | with_reducible apply bdrew | with_reducible apply bdrewN | with_reducible apply balloc | ((with_reducible refine bset ?_ ?_ _); rotate_left; (first | omega | (simp <;> omega))))); (case p2 => simp [go_sem]); (case p3 => (first | omega | (simp <;> omega))); (case p4 => (first | omega | (simp <;> omega))); (case p5 => repeat (first | with_reducible exact D4 | with_reducible apply bdrew | with_reducible apply bdrewN | with_reducible apply balloc | ((with_reducible refine bset ?_ ?_ _); rotate_left; (first | omega | (simp <;> omega))))); (case p6 => simp [Cls, go_sem, F4, y4w0, y4wp1, y4wp2]); (case p7 => (simp <;> omega)); (case p8 => intro u hu; simp at hu; subst hu; rfl); (case p9 => repeat (first | with_reducible exact Below.refl _ _ | with_reducible apply bdrew | with_reducible apply bdrewN | with_reducible apply balloc | ((with_reducible refine bset ?_ ?_ _); rotate_left; (first | omega | (simp <;> omega))))); intro v6 w6 o6 D6 C6 sz6 G6 at6; have d6s := D6.size; have HI6 := Lib.hid (Ints.grown (hI4.below (balloc (Below.refl _ _) : Below w4.heap.size w4 (w4.alloc (.cells #[.slice A4 nx.length c4] 22)))) G6 HPN.out); have HW6 := Lib.hid (own_grown_i (OwnI.below hW4 (balloc (Below.refl _ _) : Below w4.heap.size w4 (w4.alloc (.cells #[.slice A4 nx.length c4] 22)))) G6 hSep.out.symm); have HS6 := Lib.hid (Sep.next hSep.out at6 (fun k hk => by have := HWB.out k hk; simp; omega)); have HO6 := Lib.hid (fun k (hk : v6.ownBlock = some k) => show k < w6.heap.size from (OwnEs.lt o6 k hk).2); clear G6 at6))
                have d6t := D6.size
                have hlw : (ls.map wordV).length < 1000000000000 := by rw [List.length_map]; omega
                go_wp2_with fail
                refine (word_any _ _ nx _ (HI6.out.below (by repeat (first | with_reducible exact Below.refl _ _ | with_reducible apply bdrew | with_reducible apply bdrewN | with_reducible apply balloc | ((with_reducible refine bset ?_ ?_ _); rotate_left; (first | omega | (simp <;> omega)))))) n HNS.out hn24).mono ?_
                rintro e w9 ⟨rfl, hW9⟩
                rw [← hW9]
                clear hW9 w9
                go_wp2_with (at_builtin; go_must (refine wpList_push_at rfl (.tmp 55) (.tmp 58) rfl w [(w.heap.size, 0, .int .i64 t.facts), (w.heap.size, 1, .slice Ai t.init.length ci), (w.heap.size, 2, .slice Ag t.goal.length cg), (w.heap.size, 3, .slice Ao t.ops.length co)] (w.heap.size + 1) (.slice A7 ls.length c7) (ls.map wordV) (wordV nx) rfl (OwnI.below HW6.out ?p1) ⟨w6.heap.size, 0, none⟩ 1 rfl ?p2 hlw ?p3 ?p4 ?p5 ?p6 ?p7 ?_; (case p1 => repeat (first | with_reducible exact Below.refl _ _ | with_reducible apply bdrew | with_reducible apply bdrewN | with_reducible apply balloc | ((with_reducible refine bset ?_ ?_ _); rotate_left; (first | omega | (simp <;> omega))))); (case p2 => simp [go_sem]); (case p3 => (first | omega | (simp <;> omega))); (case p4 => (first | omega | (simp <;> omega))); (case p5 => repeat (first | with_reducible exact D6 | with_reducible apply bdrew | with_reducible apply bdrewN | with_reducible apply balloc | ((with_reducible refine bset ?_ ?_ _); rotate_left; (first | omega | (simp <;> omega))))); (case p6 => exact Cls.below (w := w6) (by repeat (first | with_reducible exact Below.refl _ _ | with_reducible apply bdrew | with_reducible apply bdrewN | with_reducible apply balloc | ((with_reducible refine bset ?_ ?_ _); rotate_left; (first | omega | (simp <;> omega))))) C6); (case p7 => (simp <;> omega)); intro v8 w8 o8 D8 C8 sz8 G8 at8; have HO8 := Lib.hid (OwnW.other (OwnW.below o6 (balloc (Below.refl _ _) : Below w6.heap.size w6 (w6.alloc (.cells #[.int .i64 (wordV nx)] 3)))) G8 HS6.out at8); have HS8 := Lib.hid ((Sep.next HS6.out.symm at8 (fun k hk => by have := HO6.out k hk; simp; omega)).symm); clear G8 at8))
                rw [← HMA.out] at o8
                go_roundw
                case rel => exact ⟨ls ++ [nx], p + 1, by rw [HLA.out]; omega, by omega, by rw [HLA.out]; exact hl3, by go_num, HO8.out, o8, HS8, HR2, D8, C8⟩
                case measure => simp [intOf]; omega
          · have HC := Lib.hid hcan
            clear hcan
            go_wp2_with fail
            refine region_still_tail 6 (by kernel_rfl) (by kernel_rfl) ?_
            simp only [List.take_succ_cons, List.take_zero, List.drop_succ_cons, List.drop_zero]
            repeat still_step
            refine wpStill_nil ?_
            go_wp2_with fail
            refine (applies_any _ t Ai Ag Ao ci cg co (hT.below (by repeat (first | with_reducible exact hBs | with_reducible apply bdrew | with_reducible apply bdrewN | with_reducible apply balloc | ((with_reducible refine bset ?_ ?_ _); rotate_left; (first | omega | (simp <;> omega)))))) _ _ _ (hrI.below (by repeat (first | with_reducible exact Below.refl _ _ | with_reducible apply bdrew | with_reducible apply bdrewN | with_reducible apply balloc | ((with_reducible refine bset ?_ ?_ _); rotate_left; (first | omega | (simp <;> omega)))))) hrl h40b p hlp false ⟨fun h => absurd h HC.out, fun h => by cases h⟩).mono ?_
            rintro e w3 ⟨rfl, hB3⟩
            have E3 := dstep w2 hB3 (by repeat (first | with_reducible exact Below.refl _ _ | with_reducible apply bdrew | with_reducible apply bdrewN | with_reducible apply balloc | ((with_reducible refine bset ?_ ?_ _); rotate_left; (first | omega | (simp <;> omega)))))
            go_wp2
            go_roundw
            case rel => exact ⟨ls, p + 1, hkl, by omega, hl2, by go_num, hO.below (by repeat (first | with_reducible exact E3 | with_reducible apply bdrew | with_reducible apply bdrewN | with_reducible apply balloc | ((with_reducible refine bset ?_ ?_ _); rotate_left; (first | omega | (simp <;> omega))))), hW.below (by repeat (first | with_reducible exact E3 | with_reducible apply bdrew | with_reducible apply bdrewN | with_reducible apply balloc | ((with_reducible refine bset ?_ ?_ _); rotate_left; (first | omega | (simp <;> omega))))), hSep, Lib.hid (hR.out.skip hr.out (fun h => absurd h HC.out)), (by repeat (first | with_reducible exact (hBs.trans (E3.mono hBs.size)) | with_reducible apply bdrew | with_reducible apply bdrewN | with_reducible apply balloc | ((with_reducible refine bset ?_ ?_ _); rotate_left; (first | omega | (simp <;> omega))))), (Cls.below (w := w2) (by repeat (first | with_reducible exact E3 | with_reducible apply bdrew | with_reducible apply bdrewN | with_reducible apply balloc | ((with_reducible refine bset ?_ ?_ _); rotate_left; (first | omega | (simp <;> omega))))) hCs)⟩
            case measure => simp [intOf]; omega
        · have HR2 := Lib.hid (hR.out.row (by omega))
          go_wp2
          go_roundw
          case rel => exact ⟨ls, k + 1, by omega, hl2, by go_num, hO, hW, hSep, HR2, hBs, hCs⟩
          case measure => simp [intOf]; omega
    · have HE := Lib.hid (show k = ls.length by omega)
      have HR2 := Lib.hid (show RSt n t.ops st ls ls.length 0 by have h := hR.out; rw [HE.out] at h; exact h)
      obtain ⟨A1, c1, rfl⟩ := OwnEs.form hO
      have hLL := hO.llr
      go_wp2
      refine bodyPost_ret (v := .tuple #[.slice A1 ls.length c1, .bool true]) ?_ rfl (.inl ⟨A1, c1, ls, rfl, HR2.out, hl2, hLL, by repeat (first | with_reducible exact hBr | with_reducible apply bdrew | with_reducible apply bdrewN | with_reducible apply balloc | ((with_reducible refine bset ?_ ?_ _); rotate_left; (first | omega | (simp <;> omega))))⟩)
      simp [results, Try.results35, go_sem]


end Go.Proofs.Ytihkgdlanfemcaa
