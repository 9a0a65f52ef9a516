/-
  pairsExample: what it returns.
-/
import Derived.Test.YtihkgdlanfemcaaMQ
import Derived.Test.YtihkgdlanfemcaaMH
namespace Go.Proofs.Ytihkgdlanfemcaa
open Go.RowKit
set_option linter.unusedVariables false
set_option linter.unusedSimpArgs false

/-- The task of the example. -/
def exV : TaskV := ⟨2, [0], [0, 1], [⟨[0], [1], [0], 4⟩]⟩
theorem ex_valid : Valid exV := by
  refine ⟨by decide, by decide, SetP.of_pairwise (by simp [exV]) (by simp [exV]), SetP.of_pairwise (by simp [exV]) (by simp [exV]), by decide, ?_⟩
  intro o ho
  simp only [exV, List.mem_cons, List.not_mem_nil, or_false] at ho
  subst ho
  exact ⟨⟨SetP.of_pairwise (by simp [exV]) (by simp), SetP.of_pairwise (by simp [exV]) (by simp), SetP.of_pairwise (by simp [exV]) (by simp), by simp⟩, by decide, by decide⟩
theorem nilok_some {a : Addr} {xs : List Int} {c : Nat} (h : xs.length ≤ c) (h2 : c ≤ 1000) : NilOk (some a) xs c := ⟨fun h => (by cases h), h, by omega⟩
theorem ex_mem {w : World} {k : Nat} (h : Cls w [(k, 0, .int .i64 0), (k + 1, 0, .int .i64 0), (k + 1, 1, .int .i64 1), (k + 1 + 1, 0, .int .i64 0), (k + 1 + 1 + 1, 0, .int .i64 1), (k + 1 + 1 + 1 + 1, 0, .int .i64 0), (k + 1 + 1 + 1 + 1 + 1, 0, .slice (some ⟨k + 1 + 1, 0, none⟩) 1 1), (k + 1 + 1 + 1 + 1 + 1, 1, .slice (some ⟨k + 1 + 1 + 1, 0, none⟩) 1 1), (k + 1 + 1 + 1 + 1 + 1, 2, .slice (some ⟨k + 1 + 1 + 1 + 1, 0, none⟩) 1 1), (k + 1 + 1 + 1 + 1 + 1, 3, .int .i64 4)]) :
    TaskMem w (some ⟨k, 0, none⟩) (some ⟨k + 1, 0, none⟩) (some ⟨k + 1 + 1 + 1 + 1 + 1, 0, none⟩) exV ∧ OpsRead w (some ⟨k + 1 + 1 + 1 + 1 + 1, 0, none⟩) exV.ops := by
  simp only [Cls, and_true] at h
  obtain ⟨⟨h0, -⟩, ⟨h1, -⟩, ⟨h2, -⟩, ⟨h3, -⟩, ⟨h4, -⟩, ⟨h5, -⟩, ⟨h6, -⟩, ⟨h7, -⟩, ⟨h8, -⟩, ⟨h9, -⟩⟩ := h
  have hO : OpsRead w (some ⟨k + 1 + 1 + 1 + 1 + 1, 0, none⟩) exV.ops := fun j o hj => by
    cases j with
    | succ j => simp [exV] at hj
    | zero =>
      simp [exV] at hj
      subst hj
      exact ⟨_, _, 1, _, 1, _, 1, rfl, h6, h7, h8, h9, ⟨ints_one h3, ints_one h4, ints_one h5, by simp [lenOk], by simp [lenOk], by simp [lenOk]⟩, nilok_some (by simp) (by omega), nilok_some (by simp) (by omega), nilok_some (by simp) (by omega), by show In64 4; unfold In64; omega⟩
  exact ⟨⟨ints_one h0, ints_two h1 h2, hO.at_, by simp [exV, lenOk], by simp [exV, lenOk], by simp [exV, lenOk]⟩, hO⟩
def exT (p q : Int) : Int := if p = 0 ∧ q = 0 then 0 else if p = 1 ∧ q = 1 then 4 else 1000000000
theorem exT_fix : PFix 2 [0] exV.ops exT := by
  refine ⟨fun p q _ _ => by unfold exT InV; (repeat split) <;> omega, fun p hp q hq => by simp at hp hq; subst hp; subst hq; rfl, fun o ho p q l hp hq ha => ?_⟩
  simp only [exV, List.mem_cons, List.not_mem_nil, or_false] at ho
  subst ho
  unfold Rng at hp hq
  have hv : valP exT [0] = 0 := by decide
  cases ha with
  | both h1 h2 =>
    simp at h1 h2
    subst h1; subst h2
    show exT 1 1 ≤ plusV (valP exT [0]) 4
    rw [hv]; decide
  | left h1 h2 h3 h4 => simp at h2 h3; omega
  | right h1 h2 h3 h4 => simp at h2 h3; omega
theorem ex_vals {V : Int → Int → Int} (h : PBest 2 [0] exV.ops V) : V 1 1 = 4 ∧ V 1 0 = 1000000000 ∧ V 0 1 = 1000000000 ∧ V 0 0 = 0 := by
  have r0 : Rng 2 0 := ⟨by decide, by decide⟩
  have r1 : Rng 2 1 := ⟨by decide, by decide⟩
  have z := h.fix.zero 0 (by simp) 0 (by simp)
  have c := h.fix.closed ⟨[0], [1], [0], 4⟩ (by simp [exV]) 1 1 [0] r1 r1 (.both (by simp) (by simp))
  have v0 : valP V [0] = 0 := by
    show max 0 (V 0 0) = 0
    rw [z]; rfl
  have e4 : plusV 0 4 = 4 := by decide
  have c2 : V 1 1 ≤ 4 := by
    have : V 1 1 ≤ plusV (valP V [0]) 4 := c
    rwa [v0, e4] at this
  have g1 := h.great _ exT_fix 1 1 r1 r1
  have g2 := h.great _ exT_fix 1 0 r1 r0
  have g3 := h.great _ exT_fix 0 1 r0 r1
  have a2 := (h.fix.all 1 0 r1 r0).2
  have a3 := (h.fix.all 0 1 r0 r1).2
  have e1 : exT 1 1 = 4 := by decide
  have e2 : exT 1 0 = 1000000000 := by decide
  have e3 : exT 0 1 = 1000000000 := by decide
  exact ⟨by omega, by omega, by omega, z⟩
theorem ex_goal {V : Int → Int → Int} (h : PBest 2 [0] exV.ops V) : valP V [0, 1] = 1000000000 := by
  obtain ⟨h1, h2, h3, h4⟩ := ex_vals h
  have a : V 0 1 ≤ valP V [0, 1] := valP_ge (by simp) (by simp)
  have b : valP V [0, 1] ≤ 1000000000 := valP_le (by omega) fun p hp q hq => by
    simp at hp hq
    rcases hp with rfl | rfl <;> rcases hq with rfl | rfl <;> omega
  omega
theorem ex_excl {V : Int → Int → Int} (h : PBest 2 [0] exV.ops V) : exTo 2 V 2 = [(0, 1)] := by
  obtain ⟨h1, h2, h3, h4⟩ := ex_vals h
  have e1 : List.range 2 = [0, 1] := rfl
  unfold exTo exPart
  rw [e1]
  simp [h3]
theorem pvalues_ex (w : World) (k : Nat) (hT : TaskMem w (some ⟨k, 0, none⟩) (some ⟨k + 1, 0, none⟩) (some ⟨k + 1 + 1 + 1 + 1 + 1, 0, none⟩) exV ∧ OpsRead w (some ⟨k + 1 + 1 + 1 + 1 + 1, 0, none⟩) exV.ops) (j : Nat) (hS : w.cell? ⟨j, 0, none⟩ = some (.int .i64 0)) :
    Calls Try.prog 18 #[.agg #[.int .i64 2, .slice (some ⟨k, 0, none⟩) 1 1, .slice (some ⟨k + 1, 0, none⟩) 2 2, .slice (some ⟨k + 1 + 1 + 1 + 1 + 1, 0, none⟩) 1 1], .slice (some ⟨j, 0, none⟩) 1 1] w fun e w' => ∃ g b, e = .returned (.tuple #[.slice (some ⟨g, 0, none⟩) 2 2, .agg #[.int .i64 0, .int .i64 0]]) ∧ (w'.cell? ⟨g, 1, none⟩ = some (.slice (some ⟨b, 0, none⟩) 2 2) ∧ w'.frozen? ⟨g, 1, none⟩ = false) ∧ (w'.cell? ⟨b, 1, none⟩ = some (.int .i64 4) ∧ w'.frozen? ⟨b, 1, none⟩ = false) ∧ (w'.cell? ⟨b, 0, none⟩ = some (.int .i64 1000000000) ∧ w'.frozen? ⟨b, 0, none⟩ = false) ∧ Below w.heap.size w w' := by
  refine (pvalues_2 w exV (some ⟨k, 0, none⟩) (some ⟨k + 1, 0, none⟩) (some ⟨k + 1 + 1 + 1 + 1 + 1, 0, none⟩) 1 2 1 hT.1 hT.2 (some ⟨j, 0, none⟩) 1 [0] (ints_one hS) (by simp [lenOk]) 2 rfl ex_valid (SetP.of_pairwise (by simp [exV]) (by simp))).mono ?_
  rintro e w' ⟨g, V, rfl, ⟨bs, _, _, hTb⟩, hb, hB⟩
  obtain ⟨h1, h2, h3, h4⟩ := ex_vals hb
  obtain ⟨b, e1, c1, c2, f2⟩ := hTb.at_ (p := 1) (q := 1) (by decide) (by decide)
  obtain ⟨b', e2, c3, c4, f4⟩ := hTb.at_ (p := 1) (q := 0) (by decide) (by decide)
  obtain rfl : b = b' := by have := e1.out; rw [e2.out] at this; injection this with this; exact this.symm
  rw [h1] at c2
  rw [h2] at c4
  exact ⟨g, b, rfl, ⟨c1, Arr.free hTb.arr 1⟩, ⟨c2, f2⟩, ⟨c4, f4⟩, hB⟩
theorem pgoal_ex (w : World) (k : Nat) (hT : TaskMem w (some ⟨k, 0, none⟩) (some ⟨k + 1, 0, none⟩) (some ⟨k + 1 + 1 + 1 + 1 + 1, 0, none⟩) exV ∧ OpsRead w (some ⟨k + 1 + 1 + 1 + 1 + 1, 0, none⟩) exV.ops) (j : Nat) (hS : w.cell? ⟨j, 0, none⟩ = some (.int .i64 0)) :
    Calls Try.prog 19 #[.agg #[.int .i64 2, .slice (some ⟨k, 0, none⟩) 1 1, .slice (some ⟨k + 1, 0, none⟩) 2 2, .slice (some ⟨k + 1 + 1 + 1 + 1 + 1, 0, none⟩) 1 1], .slice (some ⟨j, 0, none⟩) 1 1] w fun e w' => e = .returned (.tuple #[.int .i64 1000000000, .agg #[.int .i64 0, .int .i64 0]]) ∧ Below w.heap.size w w' := by
  refine (pgoal_2 w exV (some ⟨k, 0, none⟩) (some ⟨k + 1, 0, none⟩) (some ⟨k + 1 + 1 + 1 + 1 + 1, 0, none⟩) 1 2 1 hT.1 hT.2 (nilok_some (by simp [exV]) (by omega)) (some ⟨j, 0, none⟩) 1 [0] (ints_one hS) (by simp [lenOk]) 2 rfl ex_valid (SetP.of_pairwise (by simp [exV]) (by simp))).mono ?_
  rintro e w' ⟨V, rfl, hb, hB⟩
  exact ⟨by rw [show exV.goal = [0, 1] from rfl, ex_goal hb], hB⟩
theorem pexcl_ex (w : World) (k : Nat) (hT : TaskMem w (some ⟨k, 0, none⟩) (some ⟨k + 1, 0, none⟩) (some ⟨k + 1 + 1 + 1 + 1 + 1, 0, none⟩) exV ∧ OpsRead w (some ⟨k + 1 + 1 + 1 + 1 + 1, 0, none⟩) exV.ops) :
    Calls Try.prog 20 #[.agg #[.int .i64 2, .slice (some ⟨k, 0, none⟩) 1 1, .slice (some ⟨k + 1, 0, none⟩) 2 2, .slice (some ⟨k + 1 + 1 + 1 + 1 + 1, 0, none⟩) 1 1]] w fun e w' => ∃ k c, e = .returned (.tuple #[.slice (some ⟨k, 0, none⟩) 1 c, .agg #[.int .i64 0, .int .i64 0]]) ∧ (w'.cell? ⟨k, 0, none⟩ = some (.int .i64 0) ∧ w'.frozen? ⟨k, 0, none⟩ = false) ∧ (w'.cell? ⟨k, 1, none⟩ = some (.int .i64 1) ∧ w'.frozen? ⟨k, 1, none⟩ = false) ∧ Below w.heap.size w w' := by
  refine (pexcl_2 w exV (some ⟨k, 0, none⟩) (some ⟨k + 1, 0, none⟩) (some ⟨k + 1 + 1 + 1 + 1 + 1, 0, none⟩) 1 2 1 hT.1 hT.2 2 rfl ex_valid).mono ?_
  rintro e w' ⟨v, V, rfl, ⟨B, _, ho⟩, hb, hB⟩
  rw [ex_excl hb] at ho
  obtain ⟨A, c, rfl⟩ := OwnEs.form ho
  have h0 := ho
  obtain ⟨k, cs, r, rfl, _, _, hr, hl, hc, hp⟩ := OwnEs.at_ ho (i := 0) (by simp)
  have hr' : r = (0, 1) := by have := hr.out; simp at this; exact this.symm
  subst hr'
  subst hp
  exact ⟨k, c, rfl, ⟨hc 0 _ rfl, OwnEs.free (A := none) h0 0⟩, ⟨hc 1 _ rfl, OwnEs.free (A := none) h0 1⟩, hB⟩
set_option maxRecDepth 100000 in
set_option maxHeartbeats 4000000 in
theorem pexample_any (w : World)  :
    Calls Try.prog 17 #[] w fun e w' => e = .returned (.bool true) ∧ Below w.heap.size w w' := by
  have heq := eq_pair 0 1 0 1
  go_enter Try.func17, Try.ntmps17
  go_wp2_with fail
  refine (pvalues_ex _ w.heap.size (ex_mem (by simp [Cls, go_sem])) _ (by simp [go_sem])).mono ?_
  rintro e w1 ⟨g1, b1, rfl, hc1, hc2, hc3, hB1⟩
  have D1 := dstep w hB1 (by repeat (first | with_reducible exact Below.refl _ _ | with_reducible apply bdrew | with_reducible apply bdrewN | with_reducible apply balloc | ((with_reducible refine bset ?_ ?_ _); rotate_left; (first | omega | (simp <;> omega)))))
  have d1s := D1.size
  have C1 := Cls.below (l := [(w.heap.size, 0, .int .i64 0), (w.heap.size + 1, 0, .int .i64 0), (w.heap.size + 1, 1, .int .i64 1), (w.heap.size + 1 + 1, 0, .int .i64 0), (w.heap.size + 1 + 1 + 1, 0, .int .i64 1), (w.heap.size + 1 + 1 + 1 + 1, 0, .int .i64 0), (w.heap.size + 1 + 1 + 1 + 1 + 1, 0, .slice (some ⟨w.heap.size + 1 + 1, 0, none⟩) 1 1), (w.heap.size + 1 + 1 + 1 + 1 + 1, 1, .slice (some ⟨w.heap.size + 1 + 1 + 1, 0, none⟩) 1 1), (w.heap.size + 1 + 1 + 1 + 1 + 1, 2, .slice (some ⟨w.heap.size + 1 + 1 + 1 + 1, 0, none⟩) 1 1), (w.heap.size + 1 + 1 + 1 + 1 + 1, 3, .int .i64 4), (w.heap.size + 1 + 1 + 1 + 1 + 1 + 1, 0, .int .i64 2), (w.heap.size + 1 + 1 + 1 + 1 + 1 + 1, 1, .slice (some ⟨w.heap.size, 0, none⟩) 1 1), (w.heap.size + 1 + 1 + 1 + 1 + 1 + 1, 2, .slice (some ⟨w.heap.size + 1, 0, none⟩) 2 2), (w.heap.size + 1 + 1 + 1 + 1 + 1 + 1, 3, .slice (some ⟨w.heap.size + 1 + 1 + 1 + 1 + 1, 0, none⟩) 1 1)]) hB1 (by simp [Cls, go_sem])
  have F1 := C1
  simp only [Cls, and_true] at F1
  have y1w6 : w.heap.size + 1 + 1 + 1 + 1 + 1 + 1 < w1.heap.size := C1.blk (b := w.heap.size + 1 + 1 + 1 + 1 + 1 + 1) (k := 0) (v := .int .i64 2) (by simp)
  have y1w5 : w.heap.size + 1 + 1 + 1 + 1 + 1 < w1.heap.size := (by omega)
  have y1w4 : w.heap.size + 1 + 1 + 1 + 1 < w1.heap.size := (by omega)
  have y1w3 : w.heap.size + 1 + 1 + 1 < w1.heap.size := (by omega)
  have y1w2 : w.heap.size + 1 + 1 < w1.heap.size := (by omega)
  have y1w1 : w.heap.size + 1 < w1.heap.size := (by omega)
  have y1w0 : w.heap.size < w1.heap.size := (by omega)
  have y1wp1 : w.heap.size < w1.heap.size + 1 := (by omega)
  have y1wp2 : w.heap.size < w1.heap.size + 1 + 1 := (by omega)
  have hg1 : g1 < w1.heap.size := World.block_lt_of_cell? w1 _ hc1.1
  have hb1 : b1 < w1.heap.size := World.block_lt_of_cell? w1 _ hc2.1
  go_wp2_with fail
  refine (pgoal_ex _ w.heap.size (ex_mem (by simp [Cls, go_sem, F1, hc1, hc2, hc3, y1w6, y1w5, y1w4, y1w3, y1w2, y1w1, y1w0, y1wp1, y1wp2, hg1, hb1])) _ (by simp [go_sem])).mono ?_
  rintro e w2 ⟨rfl, hB2⟩
  have D2 := dstep w hB2 (by repeat (first | with_reducible exact D1 | with_reducible apply bdrew | with_reducible apply bdrewN | with_reducible apply balloc | ((with_reducible refine bset ?_ ?_ _); rotate_left; (first | omega | (simp <;> omega)))))
  have d2s := D2.size
  have C2 := Cls.below (l := [(w.heap.size, 0, .int .i64 0), (w.heap.size + 1, 0, .int .i64 0), (w.heap.size + 1, 1, .int .i64 1), (w.heap.size + 1 + 1, 0, .int .i64 0), (w.heap.size + 1 + 1 + 1, 0, .int .i64 1), (w.heap.size + 1 + 1 + 1 + 1, 0, .int .i64 0), (w.heap.size + 1 + 1 + 1 + 1 + 1, 0, .slice (some ⟨w.heap.size + 1 + 1, 0, none⟩) 1 1), (w.heap.size + 1 + 1 + 1 + 1 + 1, 1, .slice (some ⟨w.heap.size + 1 + 1 + 1, 0, none⟩) 1 1), (w.heap.size + 1 + 1 + 1 + 1 + 1, 2, .slice (some ⟨w.heap.size + 1 + 1 + 1 + 1, 0, none⟩) 1 1), (w.heap.size + 1 + 1 + 1 + 1 + 1, 3, .int .i64 4), (w.heap.size + 1 + 1 + 1 + 1 + 1 + 1, 0, .int .i64 2), (w.heap.size + 1 + 1 + 1 + 1 + 1 + 1, 1, .slice (some ⟨w.heap.size, 0, none⟩) 1 1), (w.heap.size + 1 + 1 + 1 + 1 + 1 + 1, 2, .slice (some ⟨w.heap.size + 1, 0, none⟩) 2 2), (w.heap.size + 1 + 1 + 1 + 1 + 1 + 1, 3, .slice (some ⟨w.heap.size + 1 + 1 + 1 + 1 + 1, 0, none⟩) 1 1), (w1.heap.size, 0, .int .i64 0), (w1.heap.size, 1, .int .i64 0), (g1, 1, .slice (some ⟨b1, 0, none⟩) 2 2), (b1, 1, .int .i64 4), (b1, 0, .int .i64 1000000000)]) hB2 (by simp [Cls, go_sem, F1, hc1, hc2, hc3, y1w6, y1w5, y1w4, y1w3, y1w2, y1w1, y1w0, y1wp1, y1wp2, hg1, hb1])
  have F2 := C2
  simp only [Cls, and_true] at F2
  have y2b10 : b1 < w2.heap.size := C2.blk (b := b1) (k := 1) (v := .int .i64 4) (by simp)
  have y2b1p1 : b1 < w2.heap.size + 1 := (by omega)
  have y2b1p2 : b1 < w2.heap.size + 1 + 1 := (by omega)
  have y2g10 : g1 < w2.heap.size := C2.blk (b := g1) (k := 1) (v := .slice (some ⟨b1, 0, none⟩) 2 2) (by simp)
  have y2g1p1 : g1 < w2.heap.size + 1 := (by omega)
  have y2g1p2 : g1 < w2.heap.size + 1 + 1 := (by omega)
  have y2w6 : w.heap.size + 1 + 1 + 1 + 1 + 1 + 1 < w2.heap.size := C2.blk (b := w.heap.size + 1 + 1 + 1 + 1 + 1 + 1) (k := 0) (v := .int .i64 2) (by simp)
  have y2w5 : w.heap.size + 1 + 1 + 1 + 1 + 1 < w2.heap.size := (by omega)
  have y2w4 : w.heap.size + 1 + 1 + 1 + 1 < w2.heap.size := (by omega)
  have y2w3 : w.heap.size + 1 + 1 + 1 < w2.heap.size := (by omega)
  have y2w2 : w.heap.size + 1 + 1 < w2.heap.size := (by omega)
  have y2w1 : w.heap.size + 1 < w2.heap.size := (by omega)
  have y2w0 : w.heap.size < w2.heap.size := (by omega)
  have y2wp1 : w.heap.size < w2.heap.size + 1 := (by omega)
  have y2wp2 : w.heap.size < w2.heap.size + 1 + 1 := (by omega)
  have y2w10 : w1.heap.size < w2.heap.size := C2.blk (b := w1.heap.size) (k := 0) (v := .int .i64 0) (by simp)
  have y2w1p1 : w1.heap.size < w2.heap.size + 1 := (by omega)
  have y2w1p2 : w1.heap.size < w2.heap.size + 1 + 1 := (by omega)
  go_wp2_with fail
  refine (pexcl_ex _ w.heap.size (ex_mem (by simp [Cls, go_sem, F2, y2b10, y2b1p1, y2b1p2, y2g10, y2g1p1, y2g1p2, y2w6, y2w5, y2w4, y2w3, y2w2, y2w1, y2w0, y2wp1, y2wp2, y2w10, y2w1p1, y2w1p2]))).mono ?_
  rintro e w3 ⟨k3, c3, rfl, hc4, hc5, hB3⟩
  have D3 := dstep w hB3 (by repeat (first | with_reducible exact D2 | with_reducible apply bdrew | with_reducible apply bdrewN | with_reducible apply balloc | ((with_reducible refine bset ?_ ?_ _); rotate_left; (first | omega | (simp <;> omega)))))
  have d3s := D3.size
  have C3 := Cls.below (l := [(w.heap.size, 0, .int .i64 0), (w.heap.size + 1, 0, .int .i64 0), (w.heap.size + 1, 1, .int .i64 1), (w.heap.size + 1 + 1, 0, .int .i64 0), (w.heap.size + 1 + 1 + 1, 0, .int .i64 1), (w.heap.size + 1 + 1 + 1 + 1, 0, .int .i64 0), (w.heap.size + 1 + 1 + 1 + 1 + 1, 0, .slice (some ⟨w.heap.size + 1 + 1, 0, none⟩) 1 1), (w.heap.size + 1 + 1 + 1 + 1 + 1, 1, .slice (some ⟨w.heap.size + 1 + 1 + 1, 0, none⟩) 1 1), (w.heap.size + 1 + 1 + 1 + 1 + 1, 2, .slice (some ⟨w.heap.size + 1 + 1 + 1 + 1, 0, none⟩) 1 1), (w.heap.size + 1 + 1 + 1 + 1 + 1, 3, .int .i64 4), (w.heap.size + 1 + 1 + 1 + 1 + 1 + 1, 0, .int .i64 2), (w.heap.size + 1 + 1 + 1 + 1 + 1 + 1, 1, .slice (some ⟨w.heap.size, 0, none⟩) 1 1), (w.heap.size + 1 + 1 + 1 + 1 + 1 + 1, 2, .slice (some ⟨w.heap.size + 1, 0, none⟩) 2 2), (w.heap.size + 1 + 1 + 1 + 1 + 1 + 1, 3, .slice (some ⟨w.heap.size + 1 + 1 + 1 + 1 + 1, 0, none⟩) 1 1), (w1.heap.size, 0, .int .i64 0), (w1.heap.size, 1, .int .i64 0), (g1, 1, .slice (some ⟨b1, 0, none⟩) 2 2), (b1, 1, .int .i64 4), (b1, 0, .int .i64 1000000000), (w2.heap.size, 0, .int .i64 0), (w2.heap.size, 1, .int .i64 0)]) hB3 (by simp [Cls, go_sem, F2, y2b10, y2b1p1, y2b1p2, y2g10, y2g1p1, y2g1p2, y2w6, y2w5, y2w4, y2w3, y2w2, y2w1, y2w0, y2wp1, y2wp2, y2w10, y2w1p1, y2w1p2])
  have F3 := C3
  simp only [Cls, and_true] at F3
  have y3b10 : b1 < w3.heap.size := C3.blk (b := b1) (k := 1) (v := .int .i64 4) (by simp)
  have y3b1p1 : b1 < w3.heap.size + 1 := (by omega)
  have y3b1p2 : b1 < w3.heap.size + 1 + 1 := (by omega)
  have y3g10 : g1 < w3.heap.size := C3.blk (b := g1) (k := 1) (v := .slice (some ⟨b1, 0, none⟩) 2 2) (by simp)
  have y3g1p1 : g1 < w3.heap.size + 1 := (by omega)
  have y3g1p2 : g1 < w3.heap.size + 1 + 1 := (by omega)
  have y3w6 : w.heap.size + 1 + 1 + 1 + 1 + 1 + 1 < w3.heap.size := C3.blk (b := w.heap.size + 1 + 1 + 1 + 1 + 1 + 1) (k := 0) (v := .int .i64 2) (by simp)
  have y3w5 : w.heap.size + 1 + 1 + 1 + 1 + 1 < w3.heap.size := (by omega)
  have y3w4 : w.heap.size + 1 + 1 + 1 + 1 < w3.heap.size := (by omega)
  have y3w3 : w.heap.size + 1 + 1 + 1 < w3.heap.size := (by omega)
  have y3w2 : w.heap.size + 1 + 1 < w3.heap.size := (by omega)
  have y3w1 : w.heap.size + 1 < w3.heap.size := (by omega)
  have y3w0 : w.heap.size < w3.heap.size := (by omega)
  have y3wp1 : w.heap.size < w3.heap.size + 1 := (by omega)
  have y3wp2 : w.heap.size < w3.heap.size + 1 + 1 := (by omega)
  have y3w10 : w1.heap.size < w3.heap.size := C3.blk (b := w1.heap.size) (k := 0) (v := .int .i64 0) (by simp)
  have y3w1p1 : w1.heap.size < w3.heap.size + 1 := (by omega)
  have y3w1p2 : w1.heap.size < w3.heap.size + 1 + 1 := (by omega)
  have y3w20 : w2.heap.size < w3.heap.size := C3.blk (b := w2.heap.size) (k := 0) (v := .int .i64 0) (by simp)
  have y3w2p1 : w2.heap.size < w3.heap.size + 1 := (by omega)
  have y3w2p2 : w2.heap.size < w3.heap.size + 1 + 1 := (by omega)
  have hk3 : k3 < w3.heap.size := World.block_lt_of_cell? w3 _ hc4.1
  obtain ⟨hc4, -⟩ := hc4
  obtain ⟨hc5, -⟩ := hc5
  go_wp2
  go_ret
  exact ⟨rfl, by repeat (first | with_reducible exact D3 | with_reducible apply bdrew | with_reducible apply bdrewN | with_reducible apply balloc | ((with_reducible refine bset ?_ ?_ _); rotate_left; (first | omega | (simp <;> omega))))⟩


end Go.Proofs.Ytihkgdlanfemcaa
