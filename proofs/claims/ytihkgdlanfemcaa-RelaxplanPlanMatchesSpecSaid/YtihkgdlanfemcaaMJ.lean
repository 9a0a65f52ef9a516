/-
  slices.Sort, slices.Compact over an own row of integers.
  The library's slices.Sort and slices.Compact, laid over this program.
  strips.Contains: whether a set lies in another one.
  strips.Update: what it returns.
-/
import Derived.Test.YtihkgdlanfemcaaMA
import Derived.Shelf.Sort.Plain
import Derived.Shelf.Slices.CompactI
import Derived.Shelf.Slices.In.SortNone
import Derived.Sort.OwnSortedInts
import Derived.Test.YtihkgdlanfemcaaChecked
import Derived.Test.YtihkgdlanfemcaaMB
import Derived.Test.YtihkgdlanfemcaaMC
import Derived.Test.YtihkgdlanfemcaaMF
namespace Go.Proofs.Ytihkgdlanfemcaa
open Go.RowKit Go.Shelf Go.Sort
set_option linter.unusedVariables false
set_option linter.unusedSimpArgs false

/-! ### What they compute -/
def sortV (l : List Int) : List Int := l.mergeSort fun x y => decide (x ≤ y)
theorem sortV_mem {l : List Int} {x : Int} : x ∈ sortV l ↔ x ∈ l := by unfold sortV; exact List.mem_mergeSort
theorem sortV_len (l : List Int) : (sortV l).length = l.length := by unfold sortV; exact List.length_mergeSort _
theorem sortV_le (l : List Int) : (sortV l).Pairwise (· ≤ ·) := by
  have h := List.pairwise_mergeSort (le := fun x y : Int => decide (x ≤ y)) (fun a b c h1 h2 => by simp at *; omega) (fun a b => by simp; omega) l
  unfold sortV
  exact h.imp (fun h => by simpa using h)
theorem compactTo {l : List Int} (h : l.Pairwise (· ≤ ·)) : ∀ m, m ≤ l.length → (Lib.compactUpTo l.toArray m).Pairwise (· < ·) ∧ (∀ x, x ∈ Lib.compactUpTo l.toArray m ↔ x ∈ l.take m) := by
  intro m
  induction m with
  | zero => intro _; exact ⟨by simp [Lib.compactUpTo], by simp [Lib.compactUpTo]⟩
  | succ m ih =>
    intro hm
    obtain ⟨h1, h2⟩ := ih (by omega)
    have hlt : m < l.length := by omega
    have hg : l.toArray[m]! = l[m] := by rw [getElem!_pos _ m (by simpa using hlt)]; simp
    have ht : l.take (m + 1) = l.take m ++ [l[m]] := by rw [List.take_add_one, List.getElem?_eq_getElem hlt]; rfl
    rw [Lib.compactUpTo_succ, ht]
    by_cases hk : Lib.keeps l.toArray m = true
    · rw [if_pos hk, hg]
      refine ⟨?_, fun x => by rw [List.mem_append, List.mem_append, h2]⟩
      rw [List.pairwise_append]
      refine ⟨h1, by simp, fun a ha b hb => ?_⟩
      rw [List.mem_singleton.1 hb]
      have ha' := (h2 a).1 ha
      obtain ⟨i, hi, rfl⟩ := List.getElem_of_mem ha'
      rw [List.length_take] at hi
      rw [List.getElem_take]
      have hle : ∀ i j (hi : i < l.length) (hj : j < l.length), i < j → l[i] ≤ l[j] := fun i j hi hj hij => List.pairwise_iff_getElem.1 h i j hi hj hij
      unfold Lib.keeps at hk
      simp only [decide_eq_true_eq] at hk
      rcases hk with hk | hk
      · omega
      · rw [hg, getElem!_pos _ (m - 1) (by simp; omega)] at hk
        have hk' : l[m] ≠ l[m - 1] := by simpa using hk
        have h3 := hle (m - 1) m (by omega) hlt (by omega)
        rcases Nat.lt_or_ge i (m - 1) with h5 | h5
        · have h4 := hle i (m - 1) (by omega) (by omega) h5
          omega
        · have h6 : i = m - 1 := by omega
          subst h6; omega
    · rw [if_neg hk, List.append_nil]
      refine ⟨h1, fun x => ?_⟩
      rw [h2, List.mem_append, List.mem_singleton]
      constructor
      · exact .inl
      · rintro (hx | rfl)
        · exact hx
        · unfold Lib.keeps at hk
          simp only [decide_eq_true_eq, not_or, Classical.not_not] at hk
          obtain ⟨hk0, hk⟩ := hk
          rw [hg, getElem!_pos _ (m - 1) (by simp; omega)] at hk
          have hk' : l[m] = l[m - 1] := by simpa using hk
          rw [hk']
          refine List.mem_of_getElem? (i := m - 1) ?_
          rw [List.getElem?_take_of_lt (by omega), List.getElem?_eq_getElem (by omega)]
theorem compact_of {l : List Int} (h : l.Pairwise (· ≤ ·)) : (Lib.compact l).Pairwise (· < ·) ∧ ∀ x, x ∈ Lib.compact l ↔ x ∈ l := by
  obtain ⟨h1, h2⟩ := compactTo h l.length (Nat.le_refl _)
  unfold Lib.compact
  exact ⟨h1, fun x => by rw [h2, List.take_of_length_le (Nat.le_refl _)]⟩
theorem compact_len (l : List Int) : (Lib.compact l).length ≤ l.length := by
  unfold Lib.compact Lib.compactUpTo
  rw [List.length_map]
  exact Nat.le_trans (List.length_filter_le _ _) (by simp)

/-! ### Over an own row -/
theorem own_holds {w : World} {base g n cap : Nat} {xs : List Int} (h : OwnI base w (.slice (some ⟨g, 0, none⟩) n cap) xs) : Holds (Value.int .i64) w g 0 xs.toArray ∧ g < w.heap.size ∧ base ≤ g ∧ n = xs.length ∧ n ≤ cap ∧ cap ≤ maxLen ∧ ∃ cur e, w.heap[g]? = some (.cells cur e (0, 0)) := by
  unfold OwnI at h
  obtain ⟨h1, h2⟩ := h
  rcases h2 with ⟨h2, h4⟩ | ⟨g', cap', cur, hv, hb, hg, hn, hc, hs, ht⟩
  · cases h2
  · injection hv with e1 e2 e3
    injection e1 with e1
    injection e1 with e1
    subst e1; subst e3; subst e2
    have hlt : g < w.heap.size := by
      rcases Nat.lt_or_ge g w.heap.size with hl | hl
      · exact hl
      · rw [Array.getElem?_eq_none hl] at hg; cases hg
    refine ⟨holds_of_blockI hg (by simpa using ht), hlt, hb, by simp, by simpa using hn, hc, cur, _, hg⟩
theorem own_cut {w : World} {base g n cap k : Nat} {xs : List Int} (h : OwnI base w (.slice (some ⟨g, 0, none⟩) n cap) xs) (hk : k ≤ xs.length) : OwnI base w (.slice (some ⟨g, 0, none⟩) k cap) (xs.take k) := by
  unfold OwnI at h ⊢
  obtain ⟨h1, h2⟩ := h
  rcases h2 with ⟨h2, h4⟩ | ⟨g', cap', cur, hv, hb, hg, hn, hc, hs, ht⟩
  · cases h2
  · injection hv with e1 e2 e3
    injection e1 with e1
    injection e1 with e1
    subst e1; subst e3; subst e2
    have hl : (xs.take k).length = k := by rw [List.length_take]; omega
    refine ⟨by rw [List.length_map, Nat.mul_one], .inr ⟨g, cap, cur, by rw [hl], hb, hg, by omega, hc, hs, ?_⟩⟩
    rw [Nat.mul_one] at ht ⊢
    rw [hl, List.map_take, ← ht, List.take_take]
    congr 1
    omega
/-- A row with other numbers laid on it, in a world that has drawn and grown. -/
theorem own_put {w : World} {base g n cap m : Nat} {xs ts : List Int} {os : Array Obj} (h : OwnI base w (.slice (some ⟨g, 0, none⟩) n cap) xs) (hl : ts.length = xs.length) :
    OwnI base (grow (putRow (Value.int .i64) (Sort.ahead w m) g 0 ts.toArray) os) (.slice (some ⟨g, 0, none⟩) n cap) ts ∧ w.grownBy (grow (putRow (Value.int .i64) (Sort.ahead w m) g 0 ts.toArray) os) (some g) := by
  unfold OwnI at h ⊢
  obtain ⟨h1, h2⟩ := h
  rcases h2 with ⟨h2, h4⟩ | ⟨g', cap', cur, hv, hb, hg, hn, hc, hs, ht⟩
  · cases h2
  · injection hv with e1 e2 e3
    injection e1 with e1
    injection e1 with e1
    subst e1; subst e3; subst e2
    have h5 := ownsRow_sortedI (w := w) (base := base) (os := os) (n := m) (cur := cur) hl hb hg hn hc hs
    exact ⟨by rw [hl]; exact h5, grownBy_sortedI _⟩
theorem own_put' {w : World} {base g n cap m : Nat} {xs ts : List Int} (h : OwnI base w (.slice (some ⟨g, 0, none⟩) n cap) xs) (hl : ts.length = xs.length) :
    OwnI base (putRow (Value.int .i64) (Sort.ahead w m) g 0 ts.toArray) (.slice (some ⟨g, 0, none⟩) n cap) ts ∧ w.grownBy (putRow (Value.int .i64) (Sort.ahead w m) g 0 ts.toArray) (some g) := by
  have := own_put (os := #[]) (m := m) h hl
  rwa [grow_empty] at this
section
variable {P : Program} {ρ ρ' : Ren}
theorem sort_own (Ly : Lays.n189 P ρ) {w0 w : World} {base : Nat} {v : Value} {xs : List Int} (h : OwnI base w v xs) (h0 : w0.heap.size ≤ base) (hB : Below w0.heap.size w0 w) (hl : xs.length ≤ 1000000000000) :
    Calls P (ρ.f 189) #[v] w fun e w' => e = .returned (.tuple #[]) ∧ OwnI base w' v (sortV xs) ∧ Below w0.heap.size w0 w' := by
  obtain ⟨A, c, rfl, -⟩ := h.form
  cases A with
  | none =>
    have hx : xs = [] := by
      cases xs with
      | nil => rfl
      | cons x xs =>
        unfold OwnI at h
        rcases h.2 with ⟨h2, h4⟩ | ⟨g', cap', cur, hv, _⟩
        · simp at h4
        · cases hv
    subst hx
    refine (Any.slices_Sort_int_none Ly none c w).mono ?_
    rintro e w' ⟨rfl, rfl⟩
    exact ⟨rfl, by unfold sortV; simpa using h, hB⟩
  | some ad =>
    have hf : ∃ g, ad = ⟨g, 0, none⟩ := by
      unfold OwnI at h
      rcases h.2 with ⟨h2, h4⟩ | ⟨g', cap', cur, hv, _⟩
      · cases h2
      · injection hv with e1 e2 e3
        injection e1 with e1
        exact ⟨g', e1⟩
    obtain ⟨g, rfl⟩ := hf
    obtain ⟨hH, hlt, hb, hn, hnc, hcm, _⟩ := own_holds h
    refine (Any.slices_Sort_int Ly g 0 c xs w hH hlt (by omega)).mono ?_
    rintro e w' ⟨rfl, m, os, rfl⟩
    obtain ⟨h5, h6⟩ := own_put (m := m) (os := os) (ts := sortV xs) h (sortV_len xs)
    exact ⟨rfl, h5, hB.grown h6 (by have := hB.size; omega) (fun k hk => by injection hk with hk; omega)⟩
theorem compact_own (Ly : Lays2.n20 P ρ) {w0 w : World} {base : Nat} {v : Value} {xs : List Int} (h : OwnI base w v xs) (h0 : w0.heap.size ≤ base) (hB : Below w0.heap.size w0 w) (hl : xs.length ≤ 1000000000000) :
    Calls P (ρ.f 20) #[v] w fun e w' => ∃ v', e = .returned v' ∧ OwnI base w' v' (Lib.compact xs) ∧ Below w0.heap.size w0 w' := by
  obtain ⟨A, c, rfl, -⟩ := h.form
  cases A with
  | none =>
    have hx : xs = [] := by
      cases xs with
      | nil => rfl
      | cons x xs =>
        unfold OwnI at h
        rcases h.2 with ⟨h2, h4⟩ | ⟨g', cap', cur, hv, _⟩
        · simp at h4
        · cases hv
    subst hx
    refine (Any.slices_Compact_int_empty Ly none c w).mono ?_
    rintro e w' ⟨rfl, rfl⟩
    exact ⟨_, rfl, by simpa [Lib.compact, Lib.compactUpTo] using h, hB⟩
  | some ad =>
    have hf : ∃ g, ad = ⟨g, 0, none⟩ := by
      unfold OwnI at h
      rcases h.2 with ⟨h2, h4⟩ | ⟨g', cap', cur, hv, _⟩
      · cases h2
      · injection hv with e1 e2 e3
        injection e1 with e1
        exact ⟨g', e1⟩
    obtain ⟨g, rfl⟩ := hf
    obtain ⟨hH, hlt, hb, hn, hnc, hcm, _⟩ := own_holds h
    refine (Any.slices_Compact_int Ly g 0 c xs w hH (by omega) (by omega)).mono ?_
    rintro e w' ⟨rfl, m, rfl⟩
    have hcl := compact_len xs
    obtain ⟨h5, h6⟩ := own_put' (m := m) (ts := Lib.compact xs ++ List.replicate (xs.length - (Lib.compact xs).length) 0) h (by simp; omega)
    refine ⟨_, rfl, ?_, hB.grown h6 (by have := hB.size; omega) (fun k hk => by injection hk with hk; omega)⟩
    have h7 := own_cut (k := (Lib.compact xs).length) h5 (by simp)
    rwa [List.take_left] at h7
end

end Go.Proofs.Ytihkgdlanfemcaa

namespace Go.Proofs.Ytihkgdlanfemcaa
open Go.Shelf
def lays_sort_ren : Go.Shelf.Ren := ⟨fun | 0 => 0 | 1 => 1 | 2 => 2 | 107 => 114 | 108 => 140 | 125 => 105 | 128 => 134 | 129 => 135 | 189 => 93 | 215 => 106 | 216 => 118 | 257 => 117 | 294 => 141 | 295 => 142 | 296 => 143 | 297 => 144 | 298 => 145 | 299 => 146 | 300 => 147 | 301 => 148 | 328 => 160 | 329 => 154 | 330 => 155 | 331 => 161 | 332 => 162 | 343 => 164 | 347 => 165 | 348 => 166 | 349 => 167 | 350 => 168 | 351 => 169 | 352 => 170 | 353 => 171 | 354 => 172 | 355 => 173 | 356 => 174 | 357 => 175 | 358 => 176 | 359 => 177 | 360 => 178 | 361 => 179 | 366 => 180 | n => n, fun | 0 => 0 | 1 => 1 | 2 => 2 | 3 => 3 | 4 => 4 | 5 => 5 | 6 => 6 | 7 => 7 | 8 => 8 | 9 => 9 | 10 => 10 | 11 => 11 | 12 => 12 | 13 => 13 | 14 => 14 | 15 => 15 | 16 => 16 | 17 => 17 | 18 => 18 | 19 => 19 | 20 => 20 | 21 => 21 | 28 => 22 | 29 => 59 | 30 => 155 | 34 => 53 | 35 => 117 | 36 => 77 | 43 => 91 | 46 => 116 | 47 => 124 | 51 => 99 | 52 => 104 | 53 => 150 | 54 => 149 | 80 => 177 | 81 => 183 | 111 => 95 | 112 => 138 | 127 => 187 | 131 => 65 | 134 => 137 | 164 => 192 | 181 => 156 | 182 => 143 | 183 => 144 | 184 => 157 | 185 => 158 | 186 => 159 | 187 => 160 | 218 => 162 | 219 => 163 | 220 => 164 | 221 => 172 | 222 => 166 | 223 => 173 | 228 => 174 | 229 => 75 | 230 => 176 | 238 => 178 | 239 => 179 | 240 => 180 | 241 => 181 | 242 => 182 | 243 => 184 | 244 => 185 | 245 => 186 | 246 => 188 | 247 => 189 | 248 => 190 | 249 => 191 | n => n, fun n => n⟩
set_option maxRecDepth 100000 in
theorem lays_sort : Go.Proofs.Lays.n189 Try.prog lays_sort_ren := {
  mixed := by kernel_rfl,
  f125 := Try.func105.trans (congrArg some (by kernel_rfl)),
  f128 := Try.func134.trans (congrArg some (by kernel_rfl)),
  f129 := Try.func135.trans (congrArg some (by kernel_rfl)),
  f189 := Try.func93.trans (congrArg some (by kernel_rfl)),
  f215 := Try.func106.trans (congrArg some (by kernel_rfl)),
  f216 := Try.func118.trans (congrArg some (by kernel_rfl)),
  f257 := Try.func117.trans (congrArg some (by kernel_rfl)),
  f294 := Try.func141.trans (congrArg some (by kernel_rfl)),
  f295 := Try.func142.trans (congrArg some (by kernel_rfl)),
  f296 := Try.func143.trans (congrArg some (by kernel_rfl)),
  f297 := Try.func144.trans (congrArg some (by kernel_rfl)),
  f298 := Try.func145.trans (congrArg some (by kernel_rfl)),
  f299 := Try.func146.trans (congrArg some (by kernel_rfl)),
  f300 := Try.func147.trans (congrArg some (by kernel_rfl)),
  f301 := Try.func148.trans (congrArg some (by kernel_rfl)),
  f328 := Try.func160.trans (congrArg some (by kernel_rfl)),
  f329 := Try.func154.trans (congrArg some (by kernel_rfl)),
  f330 := Try.func155.trans (congrArg some (by kernel_rfl)),
  f331 := Try.func161.trans (congrArg some (by kernel_rfl)),
  f332 := Try.func162.trans (congrArg some (by kernel_rfl)),
  f343 := Try.func164.trans (congrArg some (by kernel_rfl)),
  t0 := Try.underlying0,
  a0 := Try.isAgg0,
  z0 := Try.sizeOf0,
  v0 := Try.zeroValue0,
  t3 := Try.underlying3,
  a3 := Try.isAgg3,
  z3 := Try.sizeOf3,
  v3 := Try.zeroValue3,
  t4 := Try.underlying4,
  a4 := Try.isAgg4,
  z4 := Try.sizeOf4,
  v4 := Try.zeroValue4,
  t5 := Try.underlying5,
  a5 := Try.isAgg5,
  z5 := Try.sizeOf5,
  v5 := Try.zeroValue5,
  t9 := Try.underlying9,
  a9 := Try.isAgg9,
  z9 := Try.sizeOf9,
  v9 := Try.zeroValue9,
  t28 := Try.underlying22,
  a28 := Try.isAgg22,
  z28 := Try.sizeOf22,
  v28 := Try.zeroValue22,
  t46 := Try.underlying116,
  a46 := Try.isAgg116,
  z46 := Try.sizeOf116,
  v46 := Try.zeroValue116,
  t51 := Try.underlying99,
  a51 := Try.isAgg99,
  z51 := Try.sizeOf99,
  v51 := Try.zeroValue99,
  t53 := Try.underlying150,
  a53 := Try.isAgg150,
  z53 := Try.sizeOf150,
  v53 := Try.zeroValue150,
  t131 := Try.underlying65,
  a131 := Try.isAgg65,
  z131 := Try.sizeOf65,
  v131 := Try.zeroValue65,
  t182 := Try.underlying143,
  a182 := Try.isAgg143,
  z182 := Try.sizeOf143,
  v182 := Try.zeroValue143,
  t183 := Try.underlying144,
  a183 := Try.isAgg144,
  z183 := Try.sizeOf144,
  v183 := Try.zeroValue144,
  t218 := Try.underlying162,
  a218 := Try.isAgg162,
  z218 := Try.sizeOf162,
  v218 := Try.zeroValue162,
  t222 := Try.underlying166,
  a222 := Try.isAgg166,
  z222 := Try.sizeOf166,
  v222 := Try.zeroValue166,
  t228 := Try.underlying174,
  a228 := Try.isAgg174,
  z228 := Try.sizeOf174,
  v228 := Try.zeroValue174,
  t229 := Try.underlying75,
  a229 := Try.isAgg75,
  z229 := Try.sizeOf75,
  v229 := Try.zeroValue75 }
def lays_compact_ren : Go.Shelf.Ren := ⟨fun | 0 => 0 | 1 => 1 | 2 => 2 | 15 => 112 | 20 => 94 | 25 => 95 | 31 => 118 | 32 => 119 | 37 => 106 | 40 => 165 | 41 => 166 | 42 => 167 | 43 => 168 | 44 => 169 | 45 => 170 | 46 => 171 | 47 => 172 | 48 => 173 | 49 => 174 | 50 => 175 | 51 => 176 | 52 => 177 | 53 => 178 | 54 => 179 | 55 => 180 | n => n, fun | 0 => 0 | 1 => 1 | 2 => 2 | 3 => 3 | 4 => 4 | 5 => 5 | 6 => 6 | 7 => 7 | 8 => 8 | 9 => 9 | 10 => 10 | 11 => 11 | 12 => 12 | 13 => 13 | 14 => 14 | 15 => 15 | 16 => 16 | 17 => 17 | 18 => 18 | 19 => 19 | 20 => 20 | 21 => 21 | 22 => 22 | 23 => 89 | 33 => 65 | 34 => 118 | 36 => 53 | 40 => 116 | 41 => 138 | 42 => 95 | 45 => 117 | 46 => 177 | 47 => 178 | 48 => 179 | 49 => 180 | 50 => 181 | 51 => 182 | 52 => 183 | 53 => 99 | 54 => 184 | 55 => 185 | 56 => 186 | 57 => 187 | 58 => 188 | 59 => 189 | 60 => 190 | 61 => 191 | 62 => 192 | n => n, fun n => n⟩
set_option maxRecDepth 100000 in
theorem lays_compact : Go.Proofs.Lays2.n20 Try.prog lays_compact_ren := {
  mixed := by kernel_rfl,
  f20 := Try.func94.trans (congrArg some (by kernel_rfl)),
  t0 := Try.underlying0,
  a0 := Try.isAgg0,
  z0 := Try.sizeOf0,
  v0 := Try.zeroValue0,
  t3 := Try.underlying3,
  a3 := Try.isAgg3,
  z3 := Try.sizeOf3,
  v3 := Try.zeroValue3,
  t4 := Try.underlying4,
  a4 := Try.isAgg4,
  z4 := Try.sizeOf4,
  v4 := Try.zeroValue4,
  t22 := Try.underlying22,
  a22 := Try.isAgg22,
  z22 := Try.sizeOf22,
  v22 := Try.zeroValue22,
  i3 := by kernel_rfl }

end Go.Proofs.Ytihkgdlanfemcaa

namespace Go.Proofs.Ytihkgdlanfemcaa
open Go.RowKit
set_option linter.unusedVariables false
set_option linter.unusedSimpArgs false

theorem sorted_lt {l : List Int} (h : l.Pairwise (· < ·)) {i j : Nat} {x y : Int} (hi : l[i]? = some x) (hj : l[j]? = some y) (hij : i < j) : x < y := by
  obtain ⟨a1, rfl⟩ := List.getElem?_eq_some_iff.1 hi
  obtain ⟨a2, rfl⟩ := List.getElem?_eq_some_iff.1 hj
  exact List.pairwise_iff_getElem.1 h i j a1 a2 hij
set_option maxRecDepth 100000 in
set_option maxHeartbeats 1000000 in
theorem scontains_any (A B : Option Addr) (c d : Nat) (s part : List Int) (w : World) (hI : Ints w A s) (hJ : Ints w B part) (hl : s.length ≤ 9223372036854775807) (hm : part.length ≤ 9223372036854775807) (hs : s.Pairwise (· < ·)) (hp : part.Pairwise (· < ·)) :
    Calls Try.prog 99 #[.slice A s.length c, .slice B part.length d] w fun e w' => e = .returned (.bool (decide (∀ q ∈ part, q ∈ s))) ∧ w = w' := by
  have HS := Lib.hid hs
  have HP := Lib.hid hp
  clear hs hp
  go_enter Try.func99, Try.ntmps99
  go_wp2
  go_loop [5, 10] (fun a b => ∃ j k : Nat, j ≤ s.length ∧ k ≤ part.length ∧ a = .int .i64 j ∧ b = .int .i64 k ∧ Hid (∀ q ∈ part.take k, q ∈ s) ∧ Hid (∀ i : Nat, ∀ y z : Int, i < j → s[i]? = some y → ∀ k' : Nat, k ≤ k' → part[k']? = some z → y < z)) (fun a b => part.length - (intOf b).toNat)
  case atStart => exact ⟨0, 0, by omega, by omega, rfl, rfl, Lib.hid (by simp), Lib.hid (fun i y z h => absurd h (by omega))⟩
  case round =>
    obtain ⟨j, k, hj, hk, rfl, rfl, H1, H2⟩ := hrel
    by_cases hlt : k < part.length
    · obtain ⟨bd, x, rfl, hx, hc⟩ := hJ.at_ hlt
      have HIN := Lib.hid (List.mem_of_getElem? hx.out)
      go_wp2
      go_loop [5] (fun a => ∃ i : Nat, i ≤ s.length ∧ a = .int .i64 i ∧ Hid (∀ i' : Nat, ∀ y : Int, i' < i → s[i']? = some y → y < x)) (fun a => s.length - (intOf a).toNat)
      case atStart => exact ⟨j, hj, rfl, Lib.hid (fun i' y h hy => H2.out i' y x h hy k (Nat.le_refl _) hx.out)⟩
      case round =>
        obtain ⟨i, hi, rfl, H3⟩ := hrel
        by_cases hil : i < s.length
        · obtain ⟨ad, y, rfl, hy, hcy⟩ := hI.at_ hil
          by_cases hyx : y < x
          · go_wp2
            go_round
            case rel => exact ⟨i + 1, by omega, by go_num, Lib.hid (fun i' z h hz => by
              by_cases e : i' = i
              · subst e; rw [hy.out] at hz; injection hz with hz; omega
              · exact H3.out i' z (by omega) hz)⟩
            case measure => simp [intOf]; omega
          · by_cases he : y = x
            · subst he
              have HY := Lib.hid (List.mem_of_getElem? hy.out)
              have HT : Hid (∀ q ∈ part.take (k + 1), q ∈ s) := Lib.hid (fun q hq => by
                rw [List.take_add_one, hx.out] at hq
                rcases List.mem_append.1 hq with h | h
                · exact H1.out q h
                · have h' : q = y := by simpa using h
                  rw [h']; exact HY.out)
              have HN : Hid (∀ i' : Nat, ∀ u z : Int, i' < i → s[i']? = some u → ∀ k' : Nat, k + 1 ≤ k' → part[k']? = some z → u < z) := Lib.hid (fun i' u z h hu k' hk' hz => by
                have h1 := H3.out i' u h hu
                have h2 := sorted_lt HP.out hx.out hz (by omega)
                omega)
              go_wp2
              go_round
              case rel => exact ⟨i, k + 1, by omega, by omega, rfl, by go_num, HT, HN⟩
              case measure => simp [intOf]; omega
            · have HN : Hid (¬ ∀ q ∈ part, q ∈ s) := Lib.hid (fun h => by
                obtain ⟨m, hm⟩ := List.mem_iff_getElem?.1 (h x HIN.out)
                rcases Nat.lt_or_ge m i with h1 | h1
                · have := H3.out m x h1 hm; omega
                · rcases Nat.lt_or_ge i m with h2 | h2
                  · have := sorted_lt HS.out hy.out hm h2; omega
                  · have e : m = i := by omega
                    subst e
                    rw [hy.out] at hm
                    injection hm with hm
                    exact he hm)
              have hne : (y != x) = true := by simpa using he
              go_wp2
              go_ret
              exact ⟨ret_bool (decide_eq_false HN.out).symm, rfl⟩
        · have HN : Hid (¬ ∀ q ∈ part, q ∈ s) := Lib.hid (fun h => by
            obtain ⟨m, hm⟩ := List.mem_iff_getElem?.1 (h x HIN.out)
            have := H3.out m x (by have := (List.getElem?_eq_some_iff.1 hm).1; omega) hm
            omega)
          obtain rfl : i = s.length := by omega
          go_wp2
          go_ret
          exact ⟨ret_bool (decide_eq_false HN.out).symm, rfl⟩
    · have HT : Hid (∀ q ∈ part, q ∈ s) := Lib.hid (by
        have := H1.out
        rwa [List.take_of_length_le (by omega)] at this)
      go_wp2
      go_ret
      exact ⟨ret_bool (decide_eq_true HT.out).symm, rfl⟩

end Go.Proofs.Ytihkgdlanfemcaa

namespace Go.Proofs.Ytihkgdlanfemcaa
open Go.RowKit
set_option linter.unusedVariables false
set_option linter.unusedSimpArgs false

/-- What Update returns. -/
def updV (s add del : List Int) : List Int := Go.Lib.compact (sortV (s.filter (fun x => !decide (x ∈ del)) ++ add))
theorem updV_mem {s add del : List Int} {x : Int} : x ∈ updV s add del ↔ x ∈ add ∨ (x ∈ s ∧ x ∉ del) := by
  unfold updV
  rw [(compact_of (sortV_le _)).2, sortV_mem, List.mem_append, List.mem_filter]
  simp only [Bool.not_eq_true', decide_eq_false_iff_not]
  exact or_comm
theorem updV_lt (s add del : List Int) : (updV s add del).Pairwise (· < ·) := (compact_of (sortV_le _)).1
theorem updV_next {n : Nat} {s : List Int} {o : OpV} (hs : ∀ x ∈ s, 0 ≤ x ∧ x < (n : Int)) (ha : ∀ x ∈ o.add, 0 ≤ x ∧ x < (n : Int)) : updV s o.add o.del = nextV n s o := nextV_eq hs ha (updV_lt _ _ _) (fun x => updV_mem)
theorem filterNot_yes {del l : List Int} {k : Nat} {x : Int} (hx : l[k]? = some x) (h : decide (x ∈ del) = true) : (l.take (k + 1)).filter (fun x => !decide (x ∈ del)) = (l.take k).filter (fun x => !decide (x ∈ del)) := by
  rw [List.take_add_one, hx, List.filter_append]
  simp [of_decide_eq_true h]
theorem filterNot_no {del l : List Int} {k : Nat} {x : Int} (hx : l[k]? = some x) (h : decide (x ∈ del) = false) : (l.take k).filter (fun x => !decide (x ∈ del)) ++ [x] = (l.take (k + 1)).filter (fun x => !decide (x ∈ del)) := by
  rw [List.take_add_one, hx, List.filter_append]
  simp [of_decide_eq_false h]
theorem bin_v (B : Option Addr) (d : Nat) (ys : List Int) (x : Int) (w : World) (v : Bool) (hv : decide (x ∈ ys) = v) (hJ : Ints w B ys) (hl : ys.length ≤ 1000000000000) (hs : ys.Pairwise (· < ·)) :
    Calls Try.prog 95 #[.slice B ys.length d, .int .i64 x] w fun e w' => ∃ k : Nat, e = .returned (.tuple #[.int .i64 k, .bool v]) ∧ Below w.heap.size w w' :=
  (bin_any B d ys x w hJ hl hs).mono fun e w' h => by
    obtain ⟨k, h1, _, _, _, h2⟩ := h
    exact ⟨k, by rw [← hv]; exact h1, h2⟩
set_option maxRecDepth 100000 in
set_option maxHeartbeats 1000000 in
theorem update_any (w : World) (S A1 A2 : Option Addr) (c c1 c2 : Nat) (s add del : List Int) (hS : Ints w S s) (hA : Ints w A1 add) (hD : Ints w A2 del) (hls : s.length ≤ 100000000000) (hla : add.length ≤ 100000000000) (hld : del.length ≤ 100000000000) (hsd : del.Pairwise (· < ·)) (hnil : A1 = none → c1 = 0) :
    Calls Try.prog 151 #[.slice S s.length c, .slice A1 add.length c1, .slice A2 del.length c2] w fun e w' => ∃ v, e = .returned v ∧ OwnI w.heap.size w' v (updV s add del) ∧ Below w.heap.size w w' := by
  have HS := Lib.hid hsd
  clear hsd
  go_enter Try.func151, Try.ntmps151
  go_wp2_with fail
  go_loopw [7, 14] (fun v i wr => ∃ k : Nat, k ≤ s.length ∧ i = .int .i64 k ∧ OwnI (w.heap.size) wr v ((s.take k).filter (fun x => !decide (x ∈ del))) ∧ Below w.heap.size w wr) (fun _ i _ => s.length - (intOf i).toNat)
  case atStart => exact ⟨0, Nat.zero_le _, rfl, OwnI.nil _ _, Below.refl _ _⟩
  case round =>
    obtain ⟨k, hk, rfl, hown, hBr⟩ := hrel
    obtain ⟨w2, rfl⟩ : ∃ wo : World, wo = wr := ⟨_, rfl⟩
    have dRs := hBr.size
    have hlf : ((s.take k).filter (fun x => !decide (x ∈ del))).length ≤ s.length := by
      have h1 := List.length_filter_le (fun x => !decide (x ∈ del)) (s.take k)
      rw [List.length_take] at h1; omega
    have HLF := Lib.hid hlf
    clear hlf
    have hlen : ((s.take k).filter (fun x => !decide (x ∈ del))).length < 1000000000000 := by have := HLF.out; omega
    by_cases hlt : k < s.length
    · obtain ⟨ad, x, rfl, hx, hcx⟩ := (hS.below hBr).at_ hlt
      cases hd : decide (x ∈ del) with
      | true =>
        have HD := Lib.hid hd
        have HF := Lib.hid (filterNot_yes hx.out hd)
        clear hd
        go_wp2_with fail
        refine (bin_v _ _ _ _ _ true HD.out (hD.below (by repeat (first | with_reducible exact hBr | with_reducible apply bdrew | with_reducible apply bdrewN | with_reducible apply balloc | ((with_reducible refine bset ?_ ?_ _); rotate_left; (first | omega | (simp <;> omega)))))) (by omega) HS.out).mono ?_
        rintro e w1 ⟨kf, rfl, hB1⟩
        have D1 := dstep w hB1 (by repeat (first | with_reducible exact hBr | with_reducible apply bdrew | with_reducible apply bdrewN | with_reducible apply balloc | ((with_reducible refine bset ?_ ?_ _); rotate_left; (first | omega | (simp <;> omega)))))
        have d1s := D1.size
        have Ew2_1 := dstep w2 hB1 (by repeat (first | with_reducible exact Below.refl _ _ | with_reducible apply bdrew | with_reducible apply bdrewN | with_reducible apply balloc | ((with_reducible refine bset ?_ ?_ _); rotate_left; (first | omega | (simp <;> omega)))))
        go_wp2
        go_roundw
        case rel => exact ⟨k + 1, by omega, by go_num, by rw [HF.out]; exact hown.below (by repeat (first | with_reducible exact Ew2_1 | with_reducible apply bdrew | with_reducible apply bdrewN | with_reducible apply balloc | ((with_reducible refine bset ?_ ?_ _); rotate_left; (first | omega | (simp <;> omega))))), by repeat (first | with_reducible exact D1 | with_reducible apply bdrew | with_reducible apply bdrewN | with_reducible apply balloc | ((with_reducible refine bset ?_ ?_ _); rotate_left; (first | omega | (simp <;> omega))))⟩
        case measure => simp [intOf]; omega
      | false =>
        have HD := Lib.hid hd
        have HF := Lib.hid (filterNot_no hx.out hd)
        clear hd
        go_wp2_with fail
        refine (bin_v _ _ _ _ _ false HD.out (hD.below (by repeat (first | with_reducible exact hBr | with_reducible apply bdrew | with_reducible apply bdrewN | with_reducible apply balloc | ((with_reducible refine bset ?_ ?_ _); rotate_left; (first | omega | (simp <;> omega)))))) (by omega) HS.out).mono ?_
        rintro e w1 ⟨kf, rfl, hB1⟩
        have D1 := dstep w hB1 (by repeat (first | with_reducible exact hBr | with_reducible apply bdrew | with_reducible apply bdrewN | with_reducible apply balloc | ((with_reducible refine bset ?_ ?_ _); rotate_left; (first | omega | (simp <;> omega)))))
        have d1s := D1.size
        have Ew2_1 := dstep w2 hB1 (by repeat (first | with_reducible exact Below.refl _ _ | with_reducible apply bdrew | with_reducible apply bdrewN | with_reducible apply balloc | ((with_reducible refine bset ?_ ?_ _); rotate_left; (first | omega | (simp <;> omega)))))
        have hown1 := hown.below (by repeat (first | with_reducible exact Ew2_1 | with_reducible apply bdrew | with_reducible apply bdrewN | with_reducible apply balloc | ((with_reducible refine bset ?_ ?_ _); rotate_left; (first | omega | (simp <;> omega)))))
        go_wp2_with (at_builtin; go_must (refine wpList_push rfl (.tmp 26) (.tmp 28) rfl w [] (w.heap.size) u7 _ (x) rfl (OwnI.below hown1 ?p1) ⟨w1.heap.size, 0, none⟩ 1 rfl ?p2 hlen ?p3 ?p4 ?p5 ?p6 ?p7 ?_; (case p1 => repeat (first | with_reducible exact Below.refl _ _ | with_reducible apply bdrew | with_reducible apply bdrewN | with_reducible apply balloc | ((with_reducible refine bset ?_ ?_ _); rotate_left; (first | omega | (simp <;> omega))))); (case p2 => simp [Cls, go_sem]); (case p3 => (first | omega | (simp <;> omega))); (case p4 => (first | omega | (simp <;> omega))); (case p5 => repeat (first | with_reducible exact D1 | with_reducible apply bdrew | with_reducible apply bdrewN | with_reducible apply balloc | ((with_reducible refine bset ?_ ?_ _); rotate_left; (first | omega | (simp <;> omega))))); (case p6 => simp [Cls, go_sem]); (case p7 => (simp <;> omega)); intro v2 w2 o2 D2 C2 sz2; have d2s := D2.size))
        go_roundw
        case rel => exact ⟨k + 1, by omega, by go_num, by rw [← HF.out]; exact o2, by repeat (first | with_reducible exact D2 | with_reducible apply bdrew | with_reducible apply bdrewN | with_reducible apply balloc | ((with_reducible refine bset ?_ ?_ _); rotate_left; (first | omega | (simp <;> omega))))⟩
        case measure => simp [intOf]; omega
    · obtain rfl : k = s.length := by omega
      have HTK := Lib.hid (List.take_length (l := s))
      have hlen2 : ((s.take s.length).filter (fun x => !decide (x ∈ del))).length + add.length ≤ 1000000000000 := by have := HLF.out; omega
      go_wp2_with (at_builtin; go_must (refine wpList_cat rfl (.tmp 31) (.tmp 32) rfl w [] (w.heap.size) u7 _ rfl (hown.below ?p0) A1 c1 _ add rfl rfl hnil ?p1 hlen2 ?p3 ?p4 ?p5 trivial ?p6 ?_; (case p0 => repeat (first | with_reducible exact Below.refl _ _ | with_reducible apply bdrew | with_reducible apply bdrewN | with_reducible apply balloc | ((with_reducible refine bset ?_ ?_ _); rotate_left; (first | omega | (simp <;> omega))))); (case p1 => exact hA.below (by repeat (first | with_reducible exact hBr | with_reducible apply bdrew | with_reducible apply bdrewN | with_reducible apply balloc | ((with_reducible refine bset ?_ ?_ _); rotate_left; (first | omega | (simp <;> omega)))))); (case p3 => (first | omega | (simp <;> omega))); (case p4 => (first | omega | (simp <;> omega))); (case p5 => repeat (first | with_reducible exact hBr | with_reducible apply bdrew | with_reducible apply bdrewN | with_reducible apply balloc | ((with_reducible refine bset ?_ ?_ _); rotate_left; (first | omega | (simp <;> omega))))); (case p6 => simp); intro v4 w4 o4 D4 C4 sz4; have d4s := D4.size))
      have hl4 : ((s.take s.length).filter (fun x => !decide (x ∈ del)) ++ add).length ≤ 1000000000000 := by rw [List.length_append]; exact hlen2
      go_wp2_with fail
      refine (sort_own lays_sort (w0 := w) (base := w.heap.size) (o4.below (by repeat (first | with_reducible exact Below.refl _ _ | with_reducible apply bdrew | with_reducible apply bdrewN | with_reducible apply balloc | ((with_reducible refine bset ?_ ?_ _); rotate_left; (first | omega | (simp <;> omega)))))) (Nat.le_refl _) (by repeat (first | with_reducible exact D4 | with_reducible apply bdrew | with_reducible apply bdrewN | with_reducible apply balloc | ((with_reducible refine bset ?_ ?_ _); rotate_left; (first | omega | (simp <;> omega))))) hl4).mono ?_
      rintro e w5 ⟨rfl, o5, D5⟩
      have d5s := D5.size
      go_wp2_with fail
      refine (compact_own lays_compact (w0 := w) (base := w.heap.size) (o5.below (by repeat (first | with_reducible exact Below.refl _ _ | with_reducible apply bdrew | with_reducible apply bdrewN | with_reducible apply balloc | ((with_reducible refine bset ?_ ?_ _); rotate_left; (first | omega | (simp <;> omega)))))) (Nat.le_refl _) (by repeat (first | with_reducible exact D5 | with_reducible apply bdrew | with_reducible apply bdrewN | with_reducible apply balloc | ((with_reducible refine bset ?_ ?_ _); rotate_left; (first | omega | (simp <;> omega))))) (by rw [sortV_len]; exact hl4)).mono ?_
      rintro e w6 ⟨v6, rfl, o6, D6⟩
      go_wp2
      go_ret
      exact ⟨_, rfl, by unfold updV; rw [HTK.out] at o6; exact o6, D6⟩


end Go.Proofs.Ytihkgdlanfemcaa
