/-
  A state that satisfies the goal has no cuts, and one for which the goal cannot be reached has an infinite sum.
-/
import Derived.Test.YthnhhohnjiigcaaLc6
import Derived.Test.YthnhhohnjiigcaaLm8
import Derived.Test.YthnhhohnjiigcaaBlaw
import Derived.Test.YthnhhohnjiigcaaOpen
namespace Go.Proofs.Ythnhhohnjiigcaa
open Go.RowKit
set_option linter.unusedVariables false
set_option linter.unusedSimpArgs false

theorem subset_v (A B : Option Addr) (c d : Nat) (xs ys : List Int) (w : World) (v : Bool) (hI : Ints w A xs) (hJ : Ints w B ys) (hl : xs.length ≤ 9223372036854775807) (hm : ys.length ≤ 9223372036854775807) (hv : (∀ x ∈ xs, x ∈ ys) ↔ v = true) :
    Calls Try.prog 25 #[.slice A xs.length c, .slice B ys.length d] w fun e w' => e = .returned (.bool v) ∧ w = w' := by
  have h := subset_any A B c d xs ys w hI hJ hl hm
  rw [show decide (∀ x ∈ xs, x ∈ ys) = v by rw [Bool.eq_iff_iff, decide_eq_true_iff]; exact hv] at h
  exact h
theorem no_cuts {n : Nat} {st goal : List Int} {ops : List OpV} {c0 : List Int} {xs : List (List Int × Int)} (h : CutsOk n st goal ops c0 xs) (hs : ∀ q ∈ goal, q ∈ st) : xs = [] := by
  match xs, h with
  | [], _ => rfl
  | x :: xs, h =>
    obtain ⟨V, hA, _, _⟩ := (h 0 x rfl).ex
    have h1 := comb_nonneg (V := V) (xs := goal)
    have h2 := comb_le (V := V) (xs := goal) (z := 0) (Int.le_refl _) (fun q hq => by rw [hA.best.fix.shape.zero q (hs q hq)]; exact Int.le_refl _)
    exact absurd (by omega) hA.pos
theorem total_le {n : Nat} {st goal : List Int} {ops : List OpV} {c0 : List Int} {xs : List (List Int × Int)} (h : CutsOk n st goal ops c0 xs) (hl : c0.length = ops.length) (hv : ∀ c ∈ c0, 0 ≤ c ∧ c ≤ 100) (h40 : ops.length ≤ 40) : 0 ≤ totalOf xs ∧ totalOf xs ≤ 4000 ∧ xs.length ≤ 4000 := by
  have h1 := h.total hl xs.length (Nat.le_refl _)
  have h2 := sumV_le hv
  rw [List.take_length] at h1
  omega
theorem costs_bd {t : TaskV} (hv : Valid t) : ∀ c ∈ t.ops.map (·.cost), 0 ≤ c ∧ c ≤ 100 := fun c hc => by
  obtain ⟨o, ho, rfl⟩ := List.mem_map.1 hc
  exact (hv.ops o ho).2
set_option maxRecDepth 100000 in
set_option maxHeartbeats 1000000 in
theorem walk_lgs_1 (w : World) (t : TaskV) (Ai Ag Ao : Option Addr) (ci cg co : Nat) (hR : TaskRead w Ai Ag Ao ci cg co t) (S : Option Addr) (cs : Nat) (st : List Int) (hS : Ints w S st) (hSn : NilOk S st cs) (h : ¬ (sfault t st).1 = 0) :
    Calls Try.prog 14 #[.agg #[.int .i64 t.facts, .slice Ai t.init.length ci, .slice Ag t.goal.length cg, .slice Ao t.ops.length co], .slice S st.length cs] w fun e w' => e = .returned (.bool true) ∧ Below w.heap.size w w' := by
  have N := bb_no h
  have N' := bn_yes h
  have hT := hR.mem
  have hls : lenOk st.length := Nat.le_trans hSn.2.1 hSn.2.2
  go_enter Try.func14, Try.ntmps14
  go_wp2_with fail
  refine (mexample_any _).mono ?_
  rintro e w1 ⟨rfl, hB1⟩
  have D1 := dstep w hB1 (by repeat (first | with_reducible exact Below.refl _ _ | with_reducible apply bdrew | with_reducible apply bdrewN | with_reducible apply balloc | ((with_reducible refine bset ?_ ?_ _); rotate_left; (first | omega | (simp <;> omega)))))
  have d1s := D1.size
  have C1 := Cls.below (l := [(w.heap.size, 0, .int .i64 t.facts), (w.heap.size, 1, .slice Ai t.init.length ci), (w.heap.size, 2, .slice Ag t.goal.length cg), (w.heap.size, 3, .slice Ao t.ops.length co)]) hB1 (by simp [Cls, go_sem])
  have F1 := C1
  simp only [Cls, and_true] at F1
  have y1w0 : w.heap.size < w1.heap.size := C1.blk (b := w.heap.size) (k := 0) (v := .int .i64 t.facts) (by simp)
  have y1wp1 : w.heap.size < w1.heap.size + 1 := (by omega)
  have y1wp2 : w.heap.size < w1.heap.size + 1 + 1 := (by omega)
  go_wp2_with fail
  refine (cuts_1 _ t Ai Ag Ao ci cg co (hT.below (by repeat (first | with_reducible exact D1 | with_reducible apply bdrew | with_reducible apply bdrewN | with_reducible apply balloc | ((with_reducible refine bset ?_ ?_ _); rotate_left; (first | omega | (simp <;> omega)))))) S cs st (hS.below (by repeat (first | with_reducible exact D1 | with_reducible apply bdrew | with_reducible apply bdrewN | with_reducible apply balloc | ((with_reducible refine bset ?_ ?_ _); rotate_left; (first | omega | (simp <;> omega)))))) hls h).mono ?_
  rintro e w2 ⟨rfl, hB2⟩
  have D2 := dstep w hB2 (by repeat (first | with_reducible exact D1 | with_reducible apply bdrew | with_reducible apply bdrewN | with_reducible apply balloc | ((with_reducible refine bset ?_ ?_ _); rotate_left; (first | omega | (simp <;> omega)))))
  have d2s := D2.size
  have C2 := Cls.below (l := [(w.heap.size, 0, .int .i64 t.facts), (w.heap.size, 1, .slice Ai t.init.length ci), (w.heap.size, 2, .slice Ag t.goal.length cg), (w.heap.size, 3, .slice Ao t.ops.length co)]) hB2 (by simp [Cls, go_sem, F1, y1w0, y1wp1, y1wp2])
  have F2 := C2
  simp only [Cls, and_true] at F2
  have y2w0 : w.heap.size < w2.heap.size := C2.blk (b := w.heap.size) (k := 0) (v := .int .i64 t.facts) (by simp)
  have y2wp1 : w.heap.size < w2.heap.size + 1 := (by omega)
  have y2wp2 : w.heap.size < w2.heap.size + 1 + 1 := (by omega)
  go_wp2_with fail
  refine (reachable_1 _ t Ai Ag Ao ci cg co (hT.below (by repeat (first | with_reducible exact D2 | with_reducible apply bdrew | with_reducible apply bdrewN | with_reducible apply balloc | ((with_reducible refine bset ?_ ?_ _); rotate_left; (first | omega | (simp <;> omega)))))) S cs st (hS.below (by repeat (first | with_reducible exact D2 | with_reducible apply bdrew | with_reducible apply bdrewN | with_reducible apply balloc | ((with_reducible refine bset ?_ ?_ _); rotate_left; (first | omega | (simp <;> omega)))))) hls h).mono ?_
  rintro e w3 ⟨rfl, hB3⟩
  have D3 := dstep w hB3 (by repeat (first | with_reducible exact D2 | with_reducible apply bdrew | with_reducible apply bdrewN | with_reducible apply balloc | ((with_reducible refine bset ?_ ?_ _); rotate_left; (first | omega | (simp <;> omega)))))
  have d3s := D3.size
  have C3 := Cls.below (l := [(w.heap.size, 0, .int .i64 t.facts), (w.heap.size, 1, .slice Ai t.init.length ci), (w.heap.size, 2, .slice Ag t.goal.length cg), (w.heap.size, 3, .slice Ao t.ops.length co), (w2.heap.size, 0, .int .i64 (sfault t st).1), (w2.heap.size, 1, .int .i64 (sfault t st).2)]) hB3 (by simp [Cls, go_sem, F2, y2w0, y2wp1, y2wp2])
  have F3 := C3
  simp only [Cls, and_true] at F3
  have y3w0 : w.heap.size < w3.heap.size := C3.blk (b := w.heap.size) (k := 0) (v := .int .i64 t.facts) (by simp)
  have y3wp1 : w.heap.size < w3.heap.size + 1 := (by omega)
  have y3wp2 : w.heap.size < w3.heap.size + 1 + 1 := (by omega)
  have y3w20 : w2.heap.size < w3.heap.size := C3.blk (b := w2.heap.size) (k := 0) (v := .int .i64 (sfault t st).1) (by simp)
  have y3w2p1 : w2.heap.size < w3.heap.size + 1 := (by omega)
  have y3w2p2 : w2.heap.size < w3.heap.size + 1 + 1 := (by omega)
  go_wp2
  go_ret
  exact ⟨by simp, by repeat (first | with_reducible exact D3 | with_reducible apply bdrew | with_reducible apply bdrewN | with_reducible apply balloc | ((with_reducible refine bset ?_ ?_ _); rotate_left; (first | omega | (simp <;> omega))))⟩

set_option maxRecDepth 100000 in
set_option maxHeartbeats 1000000 in
theorem walk_lgs_in (w : World) (t : TaskV) (Ai Ag Ao : Option Addr) (ci cg co : Nat) (hR : TaskRead w Ai Ag Ao ci cg co t) (S : Option Addr) (cs : Nat) (st : List Int) (hS : Ints w S st) (hSn : NilOk S st cs) (n : Nat) (hn : t.facts = n) (hv : Valid t) (h2 : SetP st t.facts) (hre : GoalR t st) (hsub : ∀ q ∈ t.goal, q ∈ st) :
    Calls Try.prog 14 #[.agg #[.int .i64 t.facts, .slice Ai t.init.length ci, .slice Ag t.goal.length cg, .slice Ao t.ops.length co], .slice S st.length cs] w fun e w' => e = .returned (.bool true) ∧ Below w.heap.size w w' := by
  have hT := hR.mem
  have hls : lenOk st.length := Nat.le_trans hSn.2.1 hSn.2.2
  have hn24 : n ≤ 24 := by have := hv.f1; omega
  have hlg := hT.lgoal.le
  have HRI := Lib.hid (goal_in hv hn)
  have HL0 := Lib.hid (show (t.ops.map (·.cost)).length = t.ops.length by simp)
  have HC0 := Lib.hid (costs_bd hv)
  have h40 := hv.nops
  have HN := Lib.hid hn
  have HV := Lib.hid hv
  have H2 := Lib.hid h2
  have HRE := Lib.hid hre
  have HSU := Lib.hid hsub
  clear hv h2 hn hre hsub
  go_enter Try.func14, Try.ntmps14
  go_wp2_with fail
  refine (mexample_any _).mono ?_
  rintro e w1 ⟨rfl, hB1⟩
  have D1 := dstep w hB1 (by repeat (first | with_reducible exact Below.refl _ _ | with_reducible apply bdrew | with_reducible apply bdrewN | with_reducible apply balloc | ((with_reducible refine bset ?_ ?_ _); rotate_left; (first | omega | (simp <;> omega)))))
  have d1s := D1.size
  have C1 := Cls.below (l := [(w.heap.size, 0, .int .i64 t.facts), (w.heap.size, 1, .slice Ai t.init.length ci), (w.heap.size, 2, .slice Ag t.goal.length cg), (w.heap.size, 3, .slice Ao t.ops.length co)]) hB1 (by simp [Cls, go_sem])
  have F1 := C1
  simp only [Cls, and_true] at F1
  have y1w0 : w.heap.size < w1.heap.size := C1.blk (b := w.heap.size) (k := 0) (v := .int .i64 t.facts) (by simp)
  have y1wp1 : w.heap.size < w1.heap.size + 1 := (by omega)
  have y1wp2 : w.heap.size < w1.heap.size + 1 + 1 := (by omega)
  go_wp2_with fail
  refine (cuts_yes _ t Ai Ag Ao ci cg co (hT.below (by repeat (first | with_reducible exact D1 | with_reducible apply bdrew | with_reducible apply bdrewN | with_reducible apply balloc | ((with_reducible refine bset ?_ ?_ _); rotate_left; (first | omega | (simp <;> omega)))))) S cs st (hS.below (by repeat (first | with_reducible exact D1 | with_reducible apply bdrew | with_reducible apply bdrewN | with_reducible apply balloc | ((with_reducible refine bset ?_ ?_ _); rotate_left; (first | omega | (simp <;> omega)))))) hls n HN.out HV.out H2.out HRE.out).mono ?_
  rintro e w2 ⟨v2, xs, bs, rfl, hbs, hcs, hok, hbest, hz, hB2⟩
  have D2 := dstep w hB2 (by repeat (first | with_reducible exact D1 | with_reducible apply bdrew | with_reducible apply bdrewN | with_reducible apply balloc | ((with_reducible refine bset ?_ ?_ _); rotate_left; (first | omega | (simp <;> omega)))))
  have d2s := D2.size
  have C2 := Cls.below (l := [(w.heap.size, 0, .int .i64 t.facts), (w.heap.size, 1, .slice Ai t.init.length ci), (w.heap.size, 2, .slice Ag t.goal.length cg), (w.heap.size, 3, .slice Ao t.ops.length co)]) hB2 (by simp [Cls, go_sem, F1, y1w0, y1wp1, y1wp2])
  have F2 := C2
  simp only [Cls, and_true] at F2
  have y2w0 : w.heap.size < w2.heap.size := C2.blk (b := w.heap.size) (k := 0) (v := .int .i64 t.facts) (by simp)
  have y2wp1 : w.heap.size < w2.heap.size + 1 := (by omega)
  have y2wp2 : w.heap.size < w2.heap.size + 1 + 1 := (by omega)
  obtain ⟨hb0, hb1, hb2⟩ := total_le hok HL0.out HC0.out h40
  obtain ⟨A2, c2, rfl⟩ := OwnEs.form hcs
  have Hok := Lib.hid hok
  clear hok hbest hz hcs hbs
  obtain rfl := no_cuts Hok.out HSU.out
  have HT0 : totalOf [] = 0 := rfl
  rw [HT0]
  go_wp2_with fail
  refine (reachable_2 _ t Ai Ag Ao ci cg co (hT.below (by repeat (first | with_reducible exact D2 | with_reducible apply bdrew | with_reducible apply bdrewN | with_reducible apply balloc | ((with_reducible refine bset ?_ ?_ _); rotate_left; (first | omega | (simp <;> omega)))))) S cs st (hS.below (by repeat (first | with_reducible exact D2 | with_reducible apply bdrew | with_reducible apply bdrewN | with_reducible apply balloc | ((with_reducible refine bset ?_ ?_ _); rotate_left; (first | omega | (simp <;> omega)))))) hls n HN.out HV.out H2.out).mono ?_
  rintro e w3 ⟨v3, rfl, ho3, hB3⟩
  have D3 := dstep w hB3 (by repeat (first | with_reducible exact D2 | with_reducible apply bdrew | with_reducible apply bdrewN | with_reducible apply balloc | ((with_reducible refine bset ?_ ?_ _); rotate_left; (first | omega | (simp <;> omega)))))
  have d3s := D3.size
  have C3 := Cls.below (l := [(w.heap.size, 0, .int .i64 t.facts), (w.heap.size, 1, .slice Ai t.init.length ci), (w.heap.size, 2, .slice Ag t.goal.length cg), (w.heap.size, 3, .slice Ao t.ops.length co), (w2.heap.size, 0, .int .i64 0), (w2.heap.size, 1, .int .i64 0)]) hB3 (by simp [Cls, go_sem, F2, y2w0, y2wp1, y2wp2])
  have F3 := C3
  simp only [Cls, and_true] at F3
  have y3w0 : w.heap.size < w3.heap.size := C3.blk (b := w.heap.size) (k := 0) (v := .int .i64 t.facts) (by simp)
  have y3wp1 : w.heap.size < w3.heap.size + 1 := (by omega)
  have y3wp2 : w.heap.size < w3.heap.size + 1 + 1 := (by omega)
  have y3w20 : w2.heap.size < w3.heap.size := C3.blk (b := w2.heap.size) (k := 0) (v := .int .i64 0) (by simp)
  have y3w2p1 : w2.heap.size < w3.heap.size + 1 := (by omega)
  have y3w2p2 : w2.heap.size < w3.heap.size + 1 + 1 := (by omega)
  obtain ⟨A3, c3, rfl, -, hI3⟩ := ho3.form
  have hwl : (withinV n st t.ops fun _ => true).length ≤ 9223372036854775807 := Nat.le_trans withinV_len (by omega)
  go_wp2_with fail
  refine (subset_v _ _ _ _ _ _ _ true (hT.goal.below (by repeat (first | with_reducible exact D3 | with_reducible apply bdrew | with_reducible apply bdrewN | with_reducible apply balloc | ((with_reducible refine bset ?_ ?_ _); rotate_left; (first | omega | (simp <;> omega)))))) (hS.below (by repeat (first | with_reducible exact D3 | with_reducible apply bdrew | with_reducible apply bdrewN | with_reducible apply balloc | ((with_reducible refine bset ?_ ?_ _); rotate_left; (first | omega | (simp <;> omega)))))) hlg hls.le (by simp; exact HSU.out)).mono ?_
  rintro e w' ⟨rfl, rfl⟩
  go_wp2_with fail
  refine (subset_v _ _ _ _ _ _ _ true (hT.goal.below (by repeat (first | with_reducible exact D3 | with_reducible apply bdrew | with_reducible apply bdrewN | with_reducible apply balloc | ((with_reducible refine bset ?_ ?_ _); rotate_left; (first | omega | (simp <;> omega)))))) (hI3.below (by repeat (first | with_reducible exact Below.refl _ _ | with_reducible apply bdrew | with_reducible apply bdrewN | with_reducible apply balloc | ((with_reducible refine bset ?_ ?_ _); rotate_left; (first | omega | (simp <;> omega)))))) hlg hwl ((sub_within HRI.out).trans (by simp; exact HRE.out))).mono ?_
  rintro e w' ⟨rfl, rfl⟩
  go_wp2
  go_ret
  exact ⟨by simp, by repeat (first | with_reducible exact D3 | with_reducible apply bdrew | with_reducible apply bdrewN | with_reducible apply balloc | ((with_reducible refine bset ?_ ?_ _); rotate_left; (first | omega | (simp <;> omega))))⟩

set_option maxRecDepth 100000 in
set_option maxHeartbeats 1000000 in
theorem walk_lgs_yes (w : World) (t : TaskV) (Ai Ag Ao : Option Addr) (ci cg co : Nat) (hR : TaskRead w Ai Ag Ao ci cg co t) (S : Option Addr) (cs : Nat) (st : List Int) (hS : Ints w S st) (hSn : NilOk S st cs) (n : Nat) (hn : t.facts = n) (hv : Valid t) (h2 : SetP st t.facts) (hre : GoalR t st) (hsub : ¬ ∀ q ∈ t.goal, q ∈ st) :
    Calls Try.prog 14 #[.agg #[.int .i64 t.facts, .slice Ai t.init.length ci, .slice Ag t.goal.length cg, .slice Ao t.ops.length co], .slice S st.length cs] w fun e w' => e = .returned (.bool true) ∧ Below w.heap.size w w' := by
  have hT := hR.mem
  have hls : lenOk st.length := Nat.le_trans hSn.2.1 hSn.2.2
  have hn24 : n ≤ 24 := by have := hv.f1; omega
  have hlg := hT.lgoal.le
  have HRI := Lib.hid (goal_in hv hn)
  have HL0 := Lib.hid (show (t.ops.map (·.cost)).length = t.ops.length by simp)
  have HC0 := Lib.hid (costs_bd hv)
  have h40 := hv.nops
  have HN := Lib.hid hn
  have HV := Lib.hid hv
  have H2 := Lib.hid h2
  have HRE := Lib.hid hre
  have HSU := Lib.hid hsub
  clear hv h2 hn hre hsub
  go_enter Try.func14, Try.ntmps14
  go_wp2_with fail
  refine (mexample_any _).mono ?_
  rintro e w1 ⟨rfl, hB1⟩
  have D1 := dstep w hB1 (by repeat (first | with_reducible exact Below.refl _ _ | with_reducible apply bdrew | with_reducible apply bdrewN | with_reducible apply balloc | ((with_reducible refine bset ?_ ?_ _); rotate_left; (first | omega | (simp <;> omega)))))
  have d1s := D1.size
  have C1 := Cls.below (l := [(w.heap.size, 0, .int .i64 t.facts), (w.heap.size, 1, .slice Ai t.init.length ci), (w.heap.size, 2, .slice Ag t.goal.length cg), (w.heap.size, 3, .slice Ao t.ops.length co)]) hB1 (by simp [Cls, go_sem])
  have F1 := C1
  simp only [Cls, and_true] at F1
  have y1w0 : w.heap.size < w1.heap.size := C1.blk (b := w.heap.size) (k := 0) (v := .int .i64 t.facts) (by simp)
  have y1wp1 : w.heap.size < w1.heap.size + 1 := (by omega)
  have y1wp2 : w.heap.size < w1.heap.size + 1 + 1 := (by omega)
  go_wp2_with fail
  refine (cuts_yes _ t Ai Ag Ao ci cg co (hT.below (by repeat (first | with_reducible exact D1 | with_reducible apply bdrew | with_reducible apply bdrewN | with_reducible apply balloc | ((with_reducible refine bset ?_ ?_ _); rotate_left; (first | omega | (simp <;> omega)))))) S cs st (hS.below (by repeat (first | with_reducible exact D1 | with_reducible apply bdrew | with_reducible apply bdrewN | with_reducible apply balloc | ((with_reducible refine bset ?_ ?_ _); rotate_left; (first | omega | (simp <;> omega)))))) hls n HN.out HV.out H2.out HRE.out).mono ?_
  rintro e w2 ⟨v2, xs, bs, rfl, hbs, hcs, hok, hbest, hz, hB2⟩
  have D2 := dstep w hB2 (by repeat (first | with_reducible exact D1 | with_reducible apply bdrew | with_reducible apply bdrewN | with_reducible apply balloc | ((with_reducible refine bset ?_ ?_ _); rotate_left; (first | omega | (simp <;> omega)))))
  have d2s := D2.size
  have C2 := Cls.below (l := [(w.heap.size, 0, .int .i64 t.facts), (w.heap.size, 1, .slice Ai t.init.length ci), (w.heap.size, 2, .slice Ag t.goal.length cg), (w.heap.size, 3, .slice Ao t.ops.length co)]) hB2 (by simp [Cls, go_sem, F1, y1w0, y1wp1, y1wp2])
  have F2 := C2
  simp only [Cls, and_true] at F2
  have y2w0 : w.heap.size < w2.heap.size := C2.blk (b := w.heap.size) (k := 0) (v := .int .i64 t.facts) (by simp)
  have y2wp1 : w.heap.size < w2.heap.size + 1 := (by omega)
  have y2wp2 : w.heap.size < w2.heap.size + 1 + 1 := (by omega)
  obtain ⟨hb0, hb1, hb2⟩ := total_le hok HL0.out HC0.out h40
  obtain ⟨A2, c2, rfl⟩ := OwnEs.form hcs
  have Hok := Lib.hid hok
  clear hok hbest hz hcs hbs
  obtain ⟨tt, htt⟩ : ∃ tt, Hid (totalOf xs = tt) := ⟨_, Lib.hid rfl⟩
  rw [htt.out] at hb0 hb1 ⊢
  obtain ⟨ll, hll⟩ : ∃ ll : Nat, Hid (xs.length = ll) := ⟨_, Lib.hid rfl⟩
  rw [hll.out] at hb2 ⊢
  have hd : decide (tt < 1000000000) = true := by simp; omega
  go_wp2_with fail
  refine (reachable_2 _ t Ai Ag Ao ci cg co (hT.below (by repeat (first | with_reducible exact D2 | with_reducible apply bdrew | with_reducible apply bdrewN | with_reducible apply balloc | ((with_reducible refine bset ?_ ?_ _); rotate_left; (first | omega | (simp <;> omega)))))) S cs st (hS.below (by repeat (first | with_reducible exact D2 | with_reducible apply bdrew | with_reducible apply bdrewN | with_reducible apply balloc | ((with_reducible refine bset ?_ ?_ _); rotate_left; (first | omega | (simp <;> omega)))))) hls n HN.out HV.out H2.out).mono ?_
  rintro e w3 ⟨v3, rfl, ho3, hB3⟩
  have D3 := dstep w hB3 (by repeat (first | with_reducible exact D2 | with_reducible apply bdrew | with_reducible apply bdrewN | with_reducible apply balloc | ((with_reducible refine bset ?_ ?_ _); rotate_left; (first | omega | (simp <;> omega)))))
  have d3s := D3.size
  have C3 := Cls.below (l := [(w.heap.size, 0, .int .i64 t.facts), (w.heap.size, 1, .slice Ai t.init.length ci), (w.heap.size, 2, .slice Ag t.goal.length cg), (w.heap.size, 3, .slice Ao t.ops.length co), (w2.heap.size, 0, .int .i64 0), (w2.heap.size, 1, .int .i64 0)]) hB3 (by simp [Cls, go_sem, F2, y2w0, y2wp1, y2wp2])
  have F3 := C3
  simp only [Cls, and_true] at F3
  have y3w0 : w.heap.size < w3.heap.size := C3.blk (b := w.heap.size) (k := 0) (v := .int .i64 t.facts) (by simp)
  have y3wp1 : w.heap.size < w3.heap.size + 1 := (by omega)
  have y3wp2 : w.heap.size < w3.heap.size + 1 + 1 := (by omega)
  have y3w20 : w2.heap.size < w3.heap.size := C3.blk (b := w2.heap.size) (k := 0) (v := .int .i64 0) (by simp)
  have y3w2p1 : w2.heap.size < w3.heap.size + 1 := (by omega)
  have y3w2p2 : w2.heap.size < w3.heap.size + 1 + 1 := (by omega)
  obtain ⟨A3, c3, rfl, -, hI3⟩ := ho3.form
  have hwl : (withinV n st t.ops fun _ => true).length ≤ 9223372036854775807 := Nat.le_trans withinV_len (by omega)
  go_wp2_with fail
  refine (subset_v _ _ _ _ _ _ _ false (hT.goal.below (by repeat (first | with_reducible exact D3 | with_reducible apply bdrew | with_reducible apply bdrewN | with_reducible apply balloc | ((with_reducible refine bset ?_ ?_ _); rotate_left; (first | omega | (simp <;> omega)))))) (hS.below (by repeat (first | with_reducible exact D3 | with_reducible apply bdrew | with_reducible apply bdrewN | with_reducible apply balloc | ((with_reducible refine bset ?_ ?_ _); rotate_left; (first | omega | (simp <;> omega)))))) hlg hls.le (by simp; simpa using HSU.out)).mono ?_
  rintro e w' ⟨rfl, rfl⟩
  go_wp2_with fail
  refine (subset_v _ _ _ _ _ _ _ true (hT.goal.below (by repeat (first | with_reducible exact D3 | with_reducible apply bdrew | with_reducible apply bdrewN | with_reducible apply balloc | ((with_reducible refine bset ?_ ?_ _); rotate_left; (first | omega | (simp <;> omega)))))) (hI3.below (by repeat (first | with_reducible exact Below.refl _ _ | with_reducible apply bdrew | with_reducible apply bdrewN | with_reducible apply balloc | ((with_reducible refine bset ?_ ?_ _); rotate_left; (first | omega | (simp <;> omega)))))) hlg hwl ((sub_within HRI.out).trans (by simp; exact HRE.out))).mono ?_
  rintro e w' ⟨rfl, rfl⟩
  go_wp2
  go_ret
  exact ⟨by simp, by repeat (first | with_reducible exact D3 | with_reducible apply bdrew | with_reducible apply bdrewN | with_reducible apply balloc | ((with_reducible refine bset ?_ ?_ _); rotate_left; (first | omega | (simp <;> omega))))⟩

set_option maxRecDepth 100000 in
set_option maxHeartbeats 1000000 in
theorem walk_lgs_no (w : World) (t : TaskV) (Ai Ag Ao : Option Addr) (ci cg co : Nat) (hR : TaskRead w Ai Ag Ao ci cg co t) (S : Option Addr) (cs : Nat) (st : List Int) (hS : Ints w S st) (hSn : NilOk S st cs) (n : Nat) (hn : t.facts = n) (hv : Valid t) (h2 : SetP st t.facts) (hre : ¬ GoalR t st) (hsub : ¬ ∀ q ∈ t.goal, q ∈ st) :
    Calls Try.prog 14 #[.agg #[.int .i64 t.facts, .slice Ai t.init.length ci, .slice Ag t.goal.length cg, .slice Ao t.ops.length co], .slice S st.length cs] w fun e w' => e = .returned (.bool true) ∧ Below w.heap.size w w' := by
  have hT := hR.mem
  have hls : lenOk st.length := Nat.le_trans hSn.2.1 hSn.2.2
  have hn24 : n ≤ 24 := by have := hv.f1; omega
  have hlg := hT.lgoal.le
  have HRI := Lib.hid (goal_in hv hn)
  have HL0 := Lib.hid (show (t.ops.map (·.cost)).length = t.ops.length by simp)
  have HC0 := Lib.hid (costs_bd hv)
  have h40 := hv.nops
  have HN := Lib.hid hn
  have HV := Lib.hid hv
  have H2 := Lib.hid h2
  have HRE := Lib.hid hre
  have HSU := Lib.hid hsub
  clear hv h2 hn hre hsub
  go_enter Try.func14, Try.ntmps14
  go_wp2_with fail
  refine (mexample_any _).mono ?_
  rintro e w1 ⟨rfl, hB1⟩
  have D1 := dstep w hB1 (by repeat (first | with_reducible exact Below.refl _ _ | with_reducible apply bdrew | with_reducible apply bdrewN | with_reducible apply balloc | ((with_reducible refine bset ?_ ?_ _); rotate_left; (first | omega | (simp <;> omega)))))
  have d1s := D1.size
  have C1 := Cls.below (l := [(w.heap.size, 0, .int .i64 t.facts), (w.heap.size, 1, .slice Ai t.init.length ci), (w.heap.size, 2, .slice Ag t.goal.length cg), (w.heap.size, 3, .slice Ao t.ops.length co)]) hB1 (by simp [Cls, go_sem])
  have F1 := C1
  simp only [Cls, and_true] at F1
  have y1w0 : w.heap.size < w1.heap.size := C1.blk (b := w.heap.size) (k := 0) (v := .int .i64 t.facts) (by simp)
  have y1wp1 : w.heap.size < w1.heap.size + 1 := (by omega)
  have y1wp2 : w.heap.size < w1.heap.size + 1 + 1 := (by omega)
  go_wp2_with fail
  refine (cuts_no _ t Ai Ag Ao ci cg co (hT.below (by repeat (first | with_reducible exact D1 | with_reducible apply bdrew | with_reducible apply bdrewN | with_reducible apply balloc | ((with_reducible refine bset ?_ ?_ _); rotate_left; (first | omega | (simp <;> omega)))))) S cs st (hS.below (by repeat (first | with_reducible exact D1 | with_reducible apply bdrew | with_reducible apply bdrewN | with_reducible apply balloc | ((with_reducible refine bset ?_ ?_ _); rotate_left; (first | omega | (simp <;> omega)))))) hls n HN.out HV.out H2.out HRE.out).mono ?_
  rintro e w2 ⟨rfl, hB2⟩
  have D2 := dstep w hB2 (by repeat (first | with_reducible exact D1 | with_reducible apply bdrew | with_reducible apply bdrewN | with_reducible apply balloc | ((with_reducible refine bset ?_ ?_ _); rotate_left; (first | omega | (simp <;> omega)))))
  have d2s := D2.size
  have C2 := Cls.below (l := [(w.heap.size, 0, .int .i64 t.facts), (w.heap.size, 1, .slice Ai t.init.length ci), (w.heap.size, 2, .slice Ag t.goal.length cg), (w.heap.size, 3, .slice Ao t.ops.length co)]) hB2 (by simp [Cls, go_sem, F1, y1w0, y1wp1, y1wp2])
  have F2 := C2
  simp only [Cls, and_true] at F2
  have y2w0 : w.heap.size < w2.heap.size := C2.blk (b := w.heap.size) (k := 0) (v := .int .i64 t.facts) (by simp)
  have y2wp1 : w.heap.size < w2.heap.size + 1 := (by omega)
  have y2wp2 : w.heap.size < w2.heap.size + 1 + 1 := (by omega)
  go_wp2_with fail
  refine (reachable_2 _ t Ai Ag Ao ci cg co (hT.below (by repeat (first | with_reducible exact D2 | with_reducible apply bdrew | with_reducible apply bdrewN | with_reducible apply balloc | ((with_reducible refine bset ?_ ?_ _); rotate_left; (first | omega | (simp <;> omega)))))) S cs st (hS.below (by repeat (first | with_reducible exact D2 | with_reducible apply bdrew | with_reducible apply bdrewN | with_reducible apply balloc | ((with_reducible refine bset ?_ ?_ _); rotate_left; (first | omega | (simp <;> omega)))))) hls n HN.out HV.out H2.out).mono ?_
  rintro e w3 ⟨v3, rfl, ho3, hB3⟩
  have D3 := dstep w hB3 (by repeat (first | with_reducible exact D2 | with_reducible apply bdrew | with_reducible apply bdrewN | with_reducible apply balloc | ((with_reducible refine bset ?_ ?_ _); rotate_left; (first | omega | (simp <;> omega)))))
  have d3s := D3.size
  have C3 := Cls.below (l := [(w.heap.size, 0, .int .i64 t.facts), (w.heap.size, 1, .slice Ai t.init.length ci), (w.heap.size, 2, .slice Ag t.goal.length cg), (w.heap.size, 3, .slice Ao t.ops.length co), (w2.heap.size, 0, .int .i64 0), (w2.heap.size, 1, .int .i64 0)]) hB3 (by simp [Cls, go_sem, F2, y2w0, y2wp1, y2wp2])
  have F3 := C3
  simp only [Cls, and_true] at F3
  have y3w0 : w.heap.size < w3.heap.size := C3.blk (b := w.heap.size) (k := 0) (v := .int .i64 t.facts) (by simp)
  have y3wp1 : w.heap.size < w3.heap.size + 1 := (by omega)
  have y3wp2 : w.heap.size < w3.heap.size + 1 + 1 := (by omega)
  have y3w20 : w2.heap.size < w3.heap.size := C3.blk (b := w2.heap.size) (k := 0) (v := .int .i64 0) (by simp)
  have y3w2p1 : w2.heap.size < w3.heap.size + 1 := (by omega)
  have y3w2p2 : w2.heap.size < w3.heap.size + 1 + 1 := (by omega)
  obtain ⟨A3, c3, rfl, -, hI3⟩ := ho3.form
  have hwl : (withinV n st t.ops fun _ => true).length ≤ 9223372036854775807 := Nat.le_trans withinV_len (by omega)
  go_wp2_with fail
  refine (subset_v _ _ _ _ _ _ _ false (hT.goal.below (by repeat (first | with_reducible exact D3 | with_reducible apply bdrew | with_reducible apply bdrewN | with_reducible apply balloc | ((with_reducible refine bset ?_ ?_ _); rotate_left; (first | omega | (simp <;> omega)))))) (hS.below (by repeat (first | with_reducible exact D3 | with_reducible apply bdrew | with_reducible apply bdrewN | with_reducible apply balloc | ((with_reducible refine bset ?_ ?_ _); rotate_left; (first | omega | (simp <;> omega)))))) hlg hls.le (by simp; simpa using HSU.out)).mono ?_
  rintro e w' ⟨rfl, rfl⟩
  go_wp2_with fail
  refine (subset_v _ _ _ _ _ _ _ false (hT.goal.below (by repeat (first | with_reducible exact D3 | with_reducible apply bdrew | with_reducible apply bdrewN | with_reducible apply balloc | ((with_reducible refine bset ?_ ?_ _); rotate_left; (first | omega | (simp <;> omega)))))) (hI3.below (by repeat (first | with_reducible exact Below.refl _ _ | with_reducible apply bdrew | with_reducible apply bdrewN | with_reducible apply balloc | ((with_reducible refine bset ?_ ?_ _); rotate_left; (first | omega | (simp <;> omega)))))) hlg hwl ((sub_within HRI.out).trans (by simp; simpa [GoalR] using HRE.out))).mono ?_
  rintro e w' ⟨rfl, rfl⟩
  go_wp2
  go_ret
  exact ⟨by simp, by repeat (first | with_reducible exact D3 | with_reducible apply bdrew | with_reducible apply bdrewN | with_reducible apply balloc | ((with_reducible refine bset ?_ ?_ _); rotate_left; (first | omega | (simp <;> omega))))⟩

theorem walk_lgs (w : World) (t : TaskV) (Ai Ag Ao : Option Addr) (ci cg co : Nat) (hR : TaskRead w Ai Ag Ao ci cg co t) (S : Option Addr) (cs : Nat) (st : List Int) (hS : Ints w S st) (hSn : NilOk S st cs) :
    Calls Try.prog 14 #[.agg #[.int .i64 t.facts, .slice Ai t.init.length ci, .slice Ag t.goal.length cg, .slice Ao t.ops.length co], .slice S st.length cs] w fun e w' => e = .returned (.bool true) ∧ Below w.heap.size w w' := by
  by_cases h : (sfault t st).1 = 0
  · obtain ⟨hv, h2⟩ := sfault_zero.1 h
    obtain ⟨n, hn⟩ := Int.eq_ofNat_of_zero_le hv.f0
    by_cases hs : ∀ q ∈ t.goal, q ∈ st
    · exact walk_lgs_in w t Ai Ag Ao ci cg co hR S cs st hS hSn n hn hv h2 (fun q hq => .init (hs q hq)) hs
    · by_cases hre : GoalR t st
      · exact walk_lgs_yes w t Ai Ag Ao ci cg co hR S cs st hS hSn n hn hv h2 hre hs
      · exact walk_lgs_no w t Ai Ag Ao ci cg co hR S cs st hS hSn n hn hv h2 hre hs
  · exact walk_lgs_1 w t Ai Ag Ao ci cg co hR S cs st hS hSn h

namespace lmcutGoalStates
open Go.ChangeShapes Go.WideShapes Go.ChangeAt Go.RowKit

set_option maxRecDepth 100000 in
theorem lifted (os : Os) (started : os.Started) (H : Type) (enc : TypeId × Value → H) :
    ReturnsInHanded {} Try.checked os 14 .any (Rows.lmcutGoalStatesSpec.pre6 enc Try.prog Try.f14 Rows.lmcutGoalStatesRow.domain false) (Rows.lmcutGoalStatesSpec.post enc Try.prog Try.f14 false true false false) := by
  refine returnsInHanded_of_change (C := Try.checked) own_knob started (by kernel_rfl) Try.func14
    (ChangeSpec.witness6 (enc := enc) (C := Try.checked) false ⟨#[], #[.agg #[.int .i64 0, .slice none 0 0, .slice none 0 0, .slice none 0 0], .slice none 0 0], []⟩ 8 (by kernel_rfl) (by kernel_rfl) (by kernel_rfl) (by kernel_rfl)) ?_
  intro W base args ds gs before hval0 hW _ hsz
  have hval : ∀ (j : Nat) t v, Try.f14.params[j]? = some t → args[j]? = some v → Value.okWide Try.prog W .any base t v := hval0
  have hpost := fun (W' : World) (hfn : gs = [] → Rows.lmcutGoalStatesSpec.fn H (ds ++ gs) = { results := [.lit (.bool true)], args := ds }) (hb : Below W.heap.size W W') => law_post (f := Try.f14) (tb := 4) laid_out_B Try.underlying4 rfl (by kernel_rfl) rfl hfn hW hb
  obtain ⟨p, q, hA0, hV, hpq, hfz, hnd⟩ := hW
  have hA : DataW.TrodAll enc Try.prog W 0 (fun _ => true) true Try.f14.params.toList args.toList ds p := hA0
  rw [Try.params14] at hA hval
  obtain ⟨v0, vs0, d0, ds0, p0, q0, hargs, rfl, hp0, h0, r0⟩ := trodAll_cons hA
  obtain ⟨v1, vs1, d1, ds1, p1, q1, rfl, rfl, hp1, h1, r1⟩ := trodAll_cons r0
  obtain ⟨rfl, rfl, hpn⟩ := trodAll_nil r1
  obtain rfl : args = #[v0, v1] := by cases args; simp_all
  obtain ⟨t, Ai, Ag, Ao, ci, cg, co, rfl, hR⟩ := open_taskW (hval 0 25 v0 rfl rfl) h0
  obtain ⟨S, cs, st, rfl, hSc, hSl, hSnn, hS, hSi⟩ := open_intsW (hval 1 22 v1 rfl rfl) h1
  refine (walk_lgs W t Ai Ag Ao ci cg co hR S cs st hS ⟨hSnn, hSc, hSl⟩).mono fun e W' ⟨he, hb⟩ => ?_
  subst he
  exact ⟨_, rfl, hpost W' (fun hg => by subst hg; rfl) hb⟩

theorem proved : Rows.LmcutGoalStatesSaid :=
  OpenClaim.holds_of_wide 14 Try.f14 rfl rfl rfl rfl rfl rfl rfl ⟨rfl, rfl, rfl, rfl, rfl⟩ rfl rfl rfl rfl rfl (by kernel_rfl) Try.func14 (by kernel_rfl)
    (of_decide_eq_true (by kernel_rfl)) (by unfold Func.isWrapper; first | (rw [if_pos (by decide +kernel)]; kernel_rfl) | (rw [if_neg (by decide +kernel)]; exact ⟨rfl, rfl⟩))
    (fun os started H enc _ => lifted os started H enc)
#print axioms proved
end lmcutGoalStates

end Go.Proofs.Ythnhhohnjiigcaa
