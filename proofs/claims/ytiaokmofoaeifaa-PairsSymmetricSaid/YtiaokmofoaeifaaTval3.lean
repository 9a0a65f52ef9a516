/-
  The reference's TaskFault; both StateFault: the fault of a task, of a task with a state.
-/
import Derived.Test.YtiaokmofoaeifaaTval2
namespace Go.Proofs.Ytiaokmofoaeifaa
open Go.RowKit
set_option linter.unusedVariables false
set_option linter.unusedSimpArgs false

set_option maxRecDepth 100000 in
set_option maxHeartbeats 400000 in
theorem taskfault_1 (w : World) (t : TaskV) (Ai Ag Ao : Option Addr) (ci cg co : Nat) (hT : TaskMem w Ai Ag Ao t) (h : t.facts < 0 ∨ 24 < t.facts) :
    Calls Try.prog 33 #[.agg #[.int .i64 t.facts, .slice Ai t.init.length ci, .slice Ag t.goal.length cg, .slice Ao t.ops.length co]] w fun e w' => e = .returned (.agg #[.int .i64 3, .int .i64 (-1)]) ∧ Below w.heap.size w w' := by
  go_enter Try.func33, Try.ntmps33
  go_wp2_with fail
  refine (in_no _ _ _ _ (by omega)).mono ?_
  rintro e w' ⟨rfl, rfl⟩
  go_wp2_with fail
  refine (at_any _ _ _).mono ?_
  rintro e w1 ⟨rfl, hB1⟩
  have D1 := dstep w hB1 (by repeat (first | with_reducible exact Below.refl _ _ | with_reducible apply bdrew | with_reducible apply bdrewN | with_reducible apply balloc | ((with_reducible refine bset ?_ ?_ _); rotate_left; (first | omega | (simp <;> omega)))))
  have d1s := D1.size
  have C1 := Cls.below (l := [(w.heap.size, 0, .int .i64 t.facts), (w.heap.size, 1, .slice Ai t.init.length ci), (w.heap.size, 2, .slice Ag t.goal.length cg), (w.heap.size, 3, .slice Ao t.ops.length co), (w.heap.size + 1, 0, .int .i64 0), (w.heap.size + 1, 1, .int .i64 0)]) hB1 (by simp [Cls, go_sem])
  have F1 := C1
  simp only [Cls, and_true] at F1
  have y1w1 : w.heap.size + 1 < w1.heap.size := C1.blk (b := w.heap.size + 1) (k := 0) (v := .int .i64 0) (by simp)
  have y1w0 : w.heap.size < w1.heap.size := (by omega)
  have y1wp1 : w.heap.size < w1.heap.size + 1 := (by omega)
  have y1wp2 : w.heap.size < w1.heap.size + 1 + 1 := (by omega)
  go_wp2
  refine bodyPost_ret (v := .agg #[.int .i64 3, .int .i64 (-1)]) ?_ rfl ⟨rfl, by repeat (first | with_reducible exact D1 | with_reducible apply bdrew | with_reducible apply bdrewN | with_reducible apply balloc | ((with_reducible refine bset ?_ ?_ _); rotate_left; (first | omega | (simp <;> omega))))⟩
  simp [results, Try.results33, go_sem, F1, y1w1, y1w0, y1wp1, y1wp2]

set_option maxRecDepth 100000 in
set_option maxHeartbeats 400000 in
theorem taskfault_2 (w : World) (t : TaskV) (Ai Ag Ao : Option Addr) (ci cg co : Nat) (hT : TaskMem w Ai Ag Ao t) (h : 0 ≤ t.facts) (h2 : t.facts ≤ 24) (hinit : ¬ SetP t.init t.facts) :
    Calls Try.prog 33 #[.agg #[.int .i64 t.facts, .slice Ai t.init.length ci, .slice Ag t.goal.length cg, .slice Ao t.ops.length co]] w fun e w' => e = .returned (.agg #[.int .i64 5, .int .i64 (-2)]) ∧ Below w.heap.size w w' := by
  have Hinit := Lib.hid hinit
  clear hinit
  go_enter Try.func33, Try.ntmps33
  go_wp2_with fail
  refine (in_yes _ _ _ _ (by omega) (by omega)).mono ?_
  rintro e w' ⟨rfl, rfl⟩
  go_wp2_with fail
  refine (risset_any _ _ _ _ _ (hT.init.below (by repeat (first | with_reducible exact Below.refl _ _ | with_reducible apply bdrew | with_reducible apply bdrewN | with_reducible apply balloc | ((with_reducible refine bset ?_ ?_ _); rotate_left; (first | omega | (simp <;> omega)))))) hT.linit.le (by omega) (by omega)).mono ?_
  rintro e w1 ⟨he, hB1⟩
  rw [setB_false.2 Hinit.out] at he
  subst he
  have D1 := dstep w hB1 (by repeat (first | with_reducible exact Below.refl _ _ | with_reducible apply bdrew | with_reducible apply bdrewN | with_reducible apply balloc | ((with_reducible refine bset ?_ ?_ _); rotate_left; (first | omega | (simp <;> omega)))))
  have d1s := D1.size
  have C1 := Cls.below (l := [(w.heap.size, 0, .int .i64 t.facts), (w.heap.size, 1, .slice Ai t.init.length ci), (w.heap.size, 2, .slice Ag t.goal.length cg), (w.heap.size, 3, .slice Ao t.ops.length co), (w.heap.size + 1, 0, .int .i64 0), (w.heap.size + 1, 1, .int .i64 0)]) hB1 (by simp [Cls, go_sem])
  have F1 := C1
  simp only [Cls, and_true] at F1
  have y1w1 : w.heap.size + 1 < w1.heap.size := C1.blk (b := w.heap.size + 1) (k := 0) (v := .int .i64 0) (by simp)
  have y1w0 : w.heap.size < w1.heap.size := (by omega)
  have y1wp1 : w.heap.size < w1.heap.size + 1 := (by omega)
  have y1wp2 : w.heap.size < w1.heap.size + 1 + 1 := (by omega)
  go_wp2_with fail
  refine (at_any _ _ _).mono ?_
  rintro e w2 ⟨rfl, hB2⟩
  have D2 := dstep w hB2 (by repeat (first | with_reducible exact D1 | with_reducible apply bdrew | with_reducible apply bdrewN | with_reducible apply balloc | ((with_reducible refine bset ?_ ?_ _); rotate_left; (first | omega | (simp <;> omega)))))
  have d2s := D2.size
  have C2 := Cls.below (l := [(w.heap.size, 0, .int .i64 t.facts), (w.heap.size, 1, .slice Ai t.init.length ci), (w.heap.size, 2, .slice Ag t.goal.length cg), (w.heap.size, 3, .slice Ao t.ops.length co), (w.heap.size + 1, 0, .int .i64 0), (w.heap.size + 1, 1, .int .i64 0)]) hB2 (by simp [Cls, go_sem, F1, y1w1, y1w0, y1wp1, y1wp2])
  have F2 := C2
  simp only [Cls, and_true] at F2
  have y2w1 : w.heap.size + 1 < w2.heap.size := C2.blk (b := w.heap.size + 1) (k := 0) (v := .int .i64 0) (by simp)
  have y2w0 : w.heap.size < w2.heap.size := (by omega)
  have y2wp1 : w.heap.size < w2.heap.size + 1 := (by omega)
  have y2wp2 : w.heap.size < w2.heap.size + 1 + 1 := (by omega)
  go_wp2
  refine bodyPost_ret (v := .agg #[.int .i64 5, .int .i64 (-2)]) ?_ rfl ⟨rfl, by repeat (first | with_reducible exact D2 | with_reducible apply bdrew | with_reducible apply bdrewN | with_reducible apply balloc | ((with_reducible refine bset ?_ ?_ _); rotate_left; (first | omega | (simp <;> omega))))⟩
  simp [results, Try.results33, go_sem, F2, y2w1, y2w0, y2wp1, y2wp2]

set_option maxRecDepth 100000 in
set_option maxHeartbeats 400000 in
theorem taskfault_3 (w : World) (t : TaskV) (Ai Ag Ao : Option Addr) (ci cg co : Nat) (hT : TaskMem w Ai Ag Ao t) (h : 0 ≤ t.facts) (h2 : t.facts ≤ 24) (hinit : SetP t.init t.facts) (hgoal : ¬ SetP t.goal t.facts) :
    Calls Try.prog 33 #[.agg #[.int .i64 t.facts, .slice Ai t.init.length ci, .slice Ag t.goal.length cg, .slice Ao t.ops.length co]] w fun e w' => e = .returned (.agg #[.int .i64 5, .int .i64 (-3)]) ∧ Below w.heap.size w w' := by
  have Hinit := Lib.hid hinit
  clear hinit
  have Hgoal := Lib.hid hgoal
  clear hgoal
  go_enter Try.func33, Try.ntmps33
  go_wp2_with fail
  refine (in_yes _ _ _ _ (by omega) (by omega)).mono ?_
  rintro e w' ⟨rfl, rfl⟩
  go_wp2_with fail
  refine (risset_any _ _ _ _ _ (hT.init.below (by repeat (first | with_reducible exact Below.refl _ _ | with_reducible apply bdrew | with_reducible apply bdrewN | with_reducible apply balloc | ((with_reducible refine bset ?_ ?_ _); rotate_left; (first | omega | (simp <;> omega)))))) hT.linit.le (by omega) (by omega)).mono ?_
  rintro e w1 ⟨he, hB1⟩
  rw [setB_true.2 Hinit.out] at he
  subst he
  have D1 := dstep w hB1 (by repeat (first | with_reducible exact Below.refl _ _ | with_reducible apply bdrew | with_reducible apply bdrewN | with_reducible apply balloc | ((with_reducible refine bset ?_ ?_ _); rotate_left; (first | omega | (simp <;> omega)))))
  have d1s := D1.size
  have C1 := Cls.below (l := [(w.heap.size, 0, .int .i64 t.facts), (w.heap.size, 1, .slice Ai t.init.length ci), (w.heap.size, 2, .slice Ag t.goal.length cg), (w.heap.size, 3, .slice Ao t.ops.length co), (w.heap.size + 1, 0, .int .i64 0), (w.heap.size + 1, 1, .int .i64 0)]) hB1 (by simp [Cls, go_sem])
  have F1 := C1
  simp only [Cls, and_true] at F1
  have y1w1 : w.heap.size + 1 < w1.heap.size := C1.blk (b := w.heap.size + 1) (k := 0) (v := .int .i64 0) (by simp)
  have y1w0 : w.heap.size < w1.heap.size := (by omega)
  have y1wp1 : w.heap.size < w1.heap.size + 1 := (by omega)
  have y1wp2 : w.heap.size < w1.heap.size + 1 + 1 := (by omega)
  go_wp2_with fail
  refine (risset_any _ _ _ _ _ (hT.goal.below (by repeat (first | with_reducible exact D1 | with_reducible apply bdrew | with_reducible apply bdrewN | with_reducible apply balloc | ((with_reducible refine bset ?_ ?_ _); rotate_left; (first | omega | (simp <;> omega)))))) hT.lgoal.le (by omega) (by omega)).mono ?_
  rintro e w2 ⟨he, hB2⟩
  rw [setB_false.2 Hgoal.out] at he
  subst he
  have D2 := dstep w hB2 (by repeat (first | with_reducible exact D1 | with_reducible apply bdrew | with_reducible apply bdrewN | with_reducible apply balloc | ((with_reducible refine bset ?_ ?_ _); rotate_left; (first | omega | (simp <;> omega)))))
  have d2s := D2.size
  have C2 := Cls.below (l := [(w.heap.size, 0, .int .i64 t.facts), (w.heap.size, 1, .slice Ai t.init.length ci), (w.heap.size, 2, .slice Ag t.goal.length cg), (w.heap.size, 3, .slice Ao t.ops.length co), (w.heap.size + 1, 0, .int .i64 0), (w.heap.size + 1, 1, .int .i64 0)]) hB2 (by simp [Cls, go_sem, F1, y1w1, y1w0, y1wp1, y1wp2])
  have F2 := C2
  simp only [Cls, and_true] at F2
  have y2w1 : w.heap.size + 1 < w2.heap.size := C2.blk (b := w.heap.size + 1) (k := 0) (v := .int .i64 0) (by simp)
  have y2w0 : w.heap.size < w2.heap.size := (by omega)
  have y2wp1 : w.heap.size < w2.heap.size + 1 := (by omega)
  have y2wp2 : w.heap.size < w2.heap.size + 1 + 1 := (by omega)
  go_wp2_with fail
  refine (at_any _ _ _).mono ?_
  rintro e w3 ⟨rfl, hB3⟩
  have D3 := dstep w hB3 (by repeat (first | with_reducible exact D2 | with_reducible apply bdrew | with_reducible apply bdrewN | with_reducible apply balloc | ((with_reducible refine bset ?_ ?_ _); rotate_left; (first | omega | (simp <;> omega)))))
  have d3s := D3.size
  have C3 := Cls.below (l := [(w.heap.size, 0, .int .i64 t.facts), (w.heap.size, 1, .slice Ai t.init.length ci), (w.heap.size, 2, .slice Ag t.goal.length cg), (w.heap.size, 3, .slice Ao t.ops.length co), (w.heap.size + 1, 0, .int .i64 0), (w.heap.size + 1, 1, .int .i64 0)]) hB3 (by simp [Cls, go_sem, F2, y2w1, y2w0, y2wp1, y2wp2])
  have F3 := C3
  simp only [Cls, and_true] at F3
  have y3w1 : w.heap.size + 1 < w3.heap.size := C3.blk (b := w.heap.size + 1) (k := 0) (v := .int .i64 0) (by simp)
  have y3w0 : w.heap.size < w3.heap.size := (by omega)
  have y3wp1 : w.heap.size < w3.heap.size + 1 := (by omega)
  have y3wp2 : w.heap.size < w3.heap.size + 1 + 1 := (by omega)
  go_wp2
  refine bodyPost_ret (v := .agg #[.int .i64 5, .int .i64 (-3)]) ?_ rfl ⟨rfl, by repeat (first | with_reducible exact D3 | with_reducible apply bdrew | with_reducible apply bdrewN | with_reducible apply balloc | ((with_reducible refine bset ?_ ?_ _); rotate_left; (first | omega | (simp <;> omega))))⟩
  simp [results, Try.results33, go_sem, F3, y3w1, y3w0, y3wp1, y3wp2]

set_option maxRecDepth 100000 in
set_option maxHeartbeats 400000 in
theorem taskfault_4 (w : World) (t : TaskV) (Ai Ag Ao : Option Addr) (ci cg co : Nat) (hT : TaskMem w Ai Ag Ao t) (h : 0 ≤ t.facts) (h2 : t.facts ≤ 24) (hinit : SetP t.init t.facts) (hgoal : SetP t.goal t.facts) (h3 : 40 < t.ops.length) :
    Calls Try.prog 33 #[.agg #[.int .i64 t.facts, .slice Ai t.init.length ci, .slice Ag t.goal.length cg, .slice Ao t.ops.length co]] w fun e w' => e = .returned (.agg #[.int .i64 2, .int .i64 (-1)]) ∧ Below w.heap.size w w' := by
  have Hinit := Lib.hid hinit
  clear hinit
  have Hgoal := Lib.hid hgoal
  clear hgoal
  go_enter Try.func33, Try.ntmps33
  go_wp2_with fail
  refine (in_yes _ _ _ _ (by omega) (by omega)).mono ?_
  rintro e w' ⟨rfl, rfl⟩
  go_wp2_with fail
  refine (risset_any _ _ _ _ _ (hT.init.below (by repeat (first | with_reducible exact Below.refl _ _ | with_reducible apply bdrew | with_reducible apply bdrewN | with_reducible apply balloc | ((with_reducible refine bset ?_ ?_ _); rotate_left; (first | omega | (simp <;> omega)))))) hT.linit.le (by omega) (by omega)).mono ?_
  rintro e w1 ⟨he, hB1⟩
  rw [setB_true.2 Hinit.out] at he
  subst he
  have D1 := dstep w hB1 (by repeat (first | with_reducible exact Below.refl _ _ | with_reducible apply bdrew | with_reducible apply bdrewN | with_reducible apply balloc | ((with_reducible refine bset ?_ ?_ _); rotate_left; (first | omega | (simp <;> omega)))))
  have d1s := D1.size
  have C1 := Cls.below (l := [(w.heap.size, 0, .int .i64 t.facts), (w.heap.size, 1, .slice Ai t.init.length ci), (w.heap.size, 2, .slice Ag t.goal.length cg), (w.heap.size, 3, .slice Ao t.ops.length co), (w.heap.size + 1, 0, .int .i64 0), (w.heap.size + 1, 1, .int .i64 0)]) hB1 (by simp [Cls, go_sem])
  have F1 := C1
  simp only [Cls, and_true] at F1
  have y1w1 : w.heap.size + 1 < w1.heap.size := C1.blk (b := w.heap.size + 1) (k := 0) (v := .int .i64 0) (by simp)
  have y1w0 : w.heap.size < w1.heap.size := (by omega)
  have y1wp1 : w.heap.size < w1.heap.size + 1 := (by omega)
  have y1wp2 : w.heap.size < w1.heap.size + 1 + 1 := (by omega)
  go_wp2_with fail
  refine (risset_any _ _ _ _ _ (hT.goal.below (by repeat (first | with_reducible exact D1 | with_reducible apply bdrew | with_reducible apply bdrewN | with_reducible apply balloc | ((with_reducible refine bset ?_ ?_ _); rotate_left; (first | omega | (simp <;> omega)))))) hT.lgoal.le (by omega) (by omega)).mono ?_
  rintro e w2 ⟨he, hB2⟩
  rw [setB_true.2 Hgoal.out] at he
  subst he
  have D2 := dstep w hB2 (by repeat (first | with_reducible exact D1 | with_reducible apply bdrew | with_reducible apply bdrewN | with_reducible apply balloc | ((with_reducible refine bset ?_ ?_ _); rotate_left; (first | omega | (simp <;> omega)))))
  have d2s := D2.size
  have C2 := Cls.below (l := [(w.heap.size, 0, .int .i64 t.facts), (w.heap.size, 1, .slice Ai t.init.length ci), (w.heap.size, 2, .slice Ag t.goal.length cg), (w.heap.size, 3, .slice Ao t.ops.length co), (w.heap.size + 1, 0, .int .i64 0), (w.heap.size + 1, 1, .int .i64 0)]) hB2 (by simp [Cls, go_sem, F1, y1w1, y1w0, y1wp1, y1wp2])
  have F2 := C2
  simp only [Cls, and_true] at F2
  have y2w1 : w.heap.size + 1 < w2.heap.size := C2.blk (b := w.heap.size + 1) (k := 0) (v := .int .i64 0) (by simp)
  have y2w0 : w.heap.size < w2.heap.size := (by omega)
  have y2wp1 : w.heap.size < w2.heap.size + 1 := (by omega)
  have y2wp2 : w.heap.size < w2.heap.size + 1 + 1 := (by omega)
  go_wp2_with fail
  refine (at_any _ _ _).mono ?_
  rintro e w3 ⟨rfl, hB3⟩
  have D3 := dstep w hB3 (by repeat (first | with_reducible exact D2 | with_reducible apply bdrew | with_reducible apply bdrewN | with_reducible apply balloc | ((with_reducible refine bset ?_ ?_ _); rotate_left; (first | omega | (simp <;> omega)))))
  have d3s := D3.size
  have C3 := Cls.below (l := [(w.heap.size, 0, .int .i64 t.facts), (w.heap.size, 1, .slice Ai t.init.length ci), (w.heap.size, 2, .slice Ag t.goal.length cg), (w.heap.size, 3, .slice Ao t.ops.length co), (w.heap.size + 1, 0, .int .i64 0), (w.heap.size + 1, 1, .int .i64 0)]) hB3 (by simp [Cls, go_sem, F2, y2w1, y2w0, y2wp1, y2wp2])
  have F3 := C3
  simp only [Cls, and_true] at F3
  have y3w1 : w.heap.size + 1 < w3.heap.size := C3.blk (b := w.heap.size + 1) (k := 0) (v := .int .i64 0) (by simp)
  have y3w0 : w.heap.size < w3.heap.size := (by omega)
  have y3wp1 : w.heap.size < w3.heap.size + 1 := (by omega)
  have y3wp2 : w.heap.size < w3.heap.size + 1 + 1 := (by omega)
  go_wp2
  refine bodyPost_ret (v := .agg #[.int .i64 2, .int .i64 (-1)]) ?_ rfl ⟨rfl, by repeat (first | with_reducible exact D3 | with_reducible apply bdrew | with_reducible apply bdrewN | with_reducible apply balloc | ((with_reducible refine bset ?_ ?_ _); rotate_left; (first | omega | (simp <;> omega))))⟩
  simp [results, Try.results33, go_sem, F3, y3w1, y3w0, y3wp1, y3wp2]

set_option maxRecDepth 100000 in
set_option maxRecDepth 100000 in
set_option maxHeartbeats 2000000 in
theorem taskfault_5 (w : World) (t : TaskV) (Ai Ag Ao : Option Addr) (ci cg co : Nat) (hT : TaskMem w Ai Ag Ao t) (h : 0 ≤ t.facts) (h2 : t.facts ≤ 24) (hinit : SetP t.init t.facts) (hgoal : SetP t.goal t.facts) (h3 : t.ops.length ≤ 40) :
    Calls Try.prog 33 #[.agg #[.int .i64 t.facts, .slice Ai t.init.length ci, .slice Ag t.goal.length cg, .slice Ao t.ops.length co]] w fun e w' => e = .returned (.agg #[.int .i64 (opsFault t.facts t.ops 0).1, .int .i64 (opsFault t.facts t.ops 0).2]) ∧ Below w.heap.size w w' := by
  have Hinit := Lib.hid hinit
  clear hinit
  have Hgoal := Lib.hid hgoal
  clear hgoal
  go_enter Try.func33, Try.ntmps33
  go_wp2_with fail
  refine (in_yes _ _ _ _ (by omega) (by omega)).mono ?_
  rintro e w' ⟨rfl, rfl⟩
  go_wp2_with fail
  refine (risset_any _ _ _ _ _ (hT.init.below (by repeat (first | with_reducible exact Below.refl _ _ | with_reducible apply bdrew | with_reducible apply bdrewN | with_reducible apply balloc | ((with_reducible refine bset ?_ ?_ _); rotate_left; (first | omega | (simp <;> omega)))))) hT.linit.le (by omega) (by omega)).mono ?_
  rintro e w1 ⟨he, hB1⟩
  rw [setB_true.2 Hinit.out] at he
  subst he
  have D1 := dstep w hB1 (by repeat (first | with_reducible exact Below.refl _ _ | with_reducible apply bdrew | with_reducible apply bdrewN | with_reducible apply balloc | ((with_reducible refine bset ?_ ?_ _); rotate_left; (first | omega | (simp <;> omega)))))
  have d1s := D1.size
  have C1 := Cls.below (l := [(w.heap.size, 0, .int .i64 t.facts), (w.heap.size, 1, .slice Ai t.init.length ci), (w.heap.size, 2, .slice Ag t.goal.length cg), (w.heap.size, 3, .slice Ao t.ops.length co), (w.heap.size + 1, 0, .int .i64 0), (w.heap.size + 1, 1, .int .i64 0)]) hB1 (by simp [Cls, go_sem])
  have F1 := C1
  simp only [Cls, and_true] at F1
  have y1w1 : w.heap.size + 1 < w1.heap.size := C1.blk (b := w.heap.size + 1) (k := 0) (v := .int .i64 0) (by simp)
  have y1w0 : w.heap.size < w1.heap.size := (by omega)
  have y1wp1 : w.heap.size < w1.heap.size + 1 := (by omega)
  have y1wp2 : w.heap.size < w1.heap.size + 1 + 1 := (by omega)
  go_wp2_with fail
  refine (risset_any _ _ _ _ _ (hT.goal.below (by repeat (first | with_reducible exact D1 | with_reducible apply bdrew | with_reducible apply bdrewN | with_reducible apply balloc | ((with_reducible refine bset ?_ ?_ _); rotate_left; (first | omega | (simp <;> omega)))))) hT.lgoal.le (by omega) (by omega)).mono ?_
  rintro e w2 ⟨he, hB2⟩
  rw [setB_true.2 Hgoal.out] at he
  subst he
  have D2 := dstep w hB2 (by repeat (first | with_reducible exact D1 | with_reducible apply bdrew | with_reducible apply bdrewN | with_reducible apply balloc | ((with_reducible refine bset ?_ ?_ _); rotate_left; (first | omega | (simp <;> omega)))))
  have d2s := D2.size
  have C2 := Cls.below (l := [(w.heap.size, 0, .int .i64 t.facts), (w.heap.size, 1, .slice Ai t.init.length ci), (w.heap.size, 2, .slice Ag t.goal.length cg), (w.heap.size, 3, .slice Ao t.ops.length co), (w.heap.size + 1, 0, .int .i64 0), (w.heap.size + 1, 1, .int .i64 0)]) hB2 (by simp [Cls, go_sem, F1, y1w1, y1w0, y1wp1, y1wp2])
  have F2 := C2
  simp only [Cls, and_true] at F2
  have y2w1 : w.heap.size + 1 < w2.heap.size := C2.blk (b := w.heap.size + 1) (k := 0) (v := .int .i64 0) (by simp)
  have y2w0 : w.heap.size < w2.heap.size := (by omega)
  have y2wp1 : w.heap.size < w2.heap.size + 1 := (by omega)
  have y2wp2 : w.heap.size < w2.heap.size + 1 + 1 := (by omega)
  go_wp2_with fail
  go_loopw [3] (fun i wr => ∃ k : Nat, k ≤ t.ops.length ∧ i = .int .i64 k ∧ Hid (∀ o ∈ t.ops.take k, opc o t.facts = 0) ∧ Below w.heap.size w wr ∧ Cls wr [(w.heap.size, 0, .int .i64 t.facts), (w.heap.size, 1, .slice Ai t.init.length ci), (w.heap.size, 2, .slice Ag t.goal.length cg), (w.heap.size, 3, .slice Ao t.ops.length co), (w.heap.size + 1, 0, .int .i64 0), (w.heap.size + 1, 1, .int .i64 0)]) (fun i _ => t.ops.length - (intOf i).toNat)
  case atStart => exact ⟨0, Nat.zero_le _, rfl, Lib.hid (by simp), (by repeat (first | with_reducible exact D2 | with_reducible apply bdrew | with_reducible apply bdrewN | with_reducible apply balloc | ((with_reducible refine bset ?_ ?_ _); rotate_left; (first | omega | (simp <;> omega))))), (by simp [Cls, go_sem, F2, y2w1, y2w0, y2wp1, y2wp2])⟩
  case round =>
    obtain ⟨k, hk, rfl, hno, hBr, hCr⟩ := hrel
    have drs := hBr.size
    have Fr := hCr
    simp only [Cls, and_true] at Fr
    have yrw1 : w.heap.size + 1 < wr.heap.size := hCr.blk (b := w.heap.size + 1) (k := 0) (v := .int .i64 0) (by simp)
    have yrw0 : w.heap.size < wr.heap.size := (by omega)
    have yrwp1 : w.heap.size < wr.heap.size + 1 := (by omega)
    have yrwp2 : w.heap.size < wr.heap.size + 1 + 1 := (by omega)
    by_cases hlt : k < t.ops.length
    · obtain ⟨ad, o, A0, c0, A1, c1, A2, c2, rfl, ho, hc0, hc1, hc2, hc3, hm⟩ := (hT.ops.below hBr).at_ hlt
      by_cases spre : SetP o.pre t.facts
      · by_cases sadd : SetP o.add t.facts
        · by_cases sdel : SetP o.del t.facts
          · by_cases sm : ∀ x ∈ o.add, ¬ x ∈ o.del
            · have hg := opc_good ⟨spre, sadd, sdel, sm⟩
              by_cases hcost : 0 ≤ o.cost ∧ o.cost ≤ 100
              · have HC := Lib.hid (hg.trans (if_neg (by omega)))
                obtain ⟨k1, k2⟩ := hcost
                clear hg
                have Spre := Lib.hid spre
                clear spre
                have Sadd := Lib.hid sadd
                clear sadd
                have Sdel := Lib.hid sdel
                clear sdel
                have SM := Lib.hid sm
                clear sm
                go_wp2_with fail
                refine (risset_any _ _ _ _ _ (hm.pre.below (by repeat (first | with_reducible exact Below.refl _ _ | with_reducible apply bdrew | with_reducible apply bdrewN | with_reducible apply balloc | ((with_reducible refine bset ?_ ?_ _); rotate_left; (first | omega | (simp <;> omega)))))) hm.lpre.le (by omega) (by omega)).mono ?_
                rintro e w3 ⟨he, hB3⟩
                rw [setB_true.2 Spre.out] at he
                subst he
                have D3 := dstep w hB3 (by repeat (first | with_reducible exact hBr | with_reducible apply bdrew | with_reducible apply bdrewN | with_reducible apply balloc | ((with_reducible refine bset ?_ ?_ _); rotate_left; (first | omega | (simp <;> omega)))))
                have d3s := D3.size
                have C3 := Cls.below (l := [(w.heap.size, 0, .int .i64 t.facts), (w.heap.size, 1, .slice Ai t.init.length ci), (w.heap.size, 2, .slice Ag t.goal.length cg), (w.heap.size, 3, .slice (some ad) t.ops.length co), (w.heap.size + 1, 0, .int .i64 0), (w.heap.size + 1, 1, .int .i64 0), (wr.heap.size, 0, .slice A0 o.pre.length c0), (wr.heap.size, 1, .slice A1 o.add.length c1), (wr.heap.size, 2, .slice A2 o.del.length c2), (wr.heap.size, 3, .int .i64 o.cost)]) hB3 (by simp [Cls, go_sem, Fr, yrw1, yrw0, yrwp1, yrwp2])
                have F3 := C3
                simp only [Cls, and_true] at F3
                have y3w1 : w.heap.size + 1 < w3.heap.size := C3.blk (b := w.heap.size + 1) (k := 0) (v := .int .i64 0) (by simp)
                have y3w0 : w.heap.size < w3.heap.size := (by omega)
                have y3wp1 : w.heap.size < w3.heap.size + 1 := (by omega)
                have y3wp2 : w.heap.size < w3.heap.size + 1 + 1 := (by omega)
                have y3wr0 : wr.heap.size < w3.heap.size := C3.blk (b := wr.heap.size) (k := 0) (v := .slice A0 o.pre.length c0) (by simp)
                have y3wrp1 : wr.heap.size < w3.heap.size + 1 := (by omega)
                have y3wrp2 : wr.heap.size < w3.heap.size + 1 + 1 := (by omega)
                have E3 := dstep wr hB3 (by repeat (first | with_reducible exact Below.refl _ _ | with_reducible apply bdrew | with_reducible apply bdrewN | with_reducible apply balloc | ((with_reducible refine bset ?_ ?_ _); rotate_left; (first | omega | (simp <;> omega)))))
                go_wp2_with fail
                refine (risset_any _ _ _ _ _ (hm.add.below (by repeat (first | with_reducible exact E3 | with_reducible apply bdrew | with_reducible apply bdrewN | with_reducible apply balloc | ((with_reducible refine bset ?_ ?_ _); rotate_left; (first | omega | (simp <;> omega)))))) hm.ladd.le (by omega) (by omega)).mono ?_
                rintro e w4 ⟨he, hB4⟩
                rw [setB_true.2 Sadd.out] at he
                subst he
                have D4 := dstep w hB4 (by repeat (first | with_reducible exact D3 | with_reducible apply bdrew | with_reducible apply bdrewN | with_reducible apply balloc | ((with_reducible refine bset ?_ ?_ _); rotate_left; (first | omega | (simp <;> omega)))))
                have d4s := D4.size
                have C4 := Cls.below (l := [(w.heap.size, 0, .int .i64 t.facts), (w.heap.size, 1, .slice Ai t.init.length ci), (w.heap.size, 2, .slice Ag t.goal.length cg), (w.heap.size, 3, .slice (some ad) t.ops.length co), (w.heap.size + 1, 0, .int .i64 0), (w.heap.size + 1, 1, .int .i64 0), (wr.heap.size, 0, .slice A0 o.pre.length c0), (wr.heap.size, 1, .slice A1 o.add.length c1), (wr.heap.size, 2, .slice A2 o.del.length c2), (wr.heap.size, 3, .int .i64 o.cost)]) hB4 (by simp [Cls, go_sem, F3, y3w1, y3w0, y3wp1, y3wp2, y3wr0, y3wrp1, y3wrp2])
                have F4 := C4
                simp only [Cls, and_true] at F4
                have y4w1 : w.heap.size + 1 < w4.heap.size := C4.blk (b := w.heap.size + 1) (k := 0) (v := .int .i64 0) (by simp)
                have y4w0 : w.heap.size < w4.heap.size := (by omega)
                have y4wp1 : w.heap.size < w4.heap.size + 1 := (by omega)
                have y4wp2 : w.heap.size < w4.heap.size + 1 + 1 := (by omega)
                have y4wr0 : wr.heap.size < w4.heap.size := C4.blk (b := wr.heap.size) (k := 0) (v := .slice A0 o.pre.length c0) (by simp)
                have y4wrp1 : wr.heap.size < w4.heap.size + 1 := (by omega)
                have y4wrp2 : wr.heap.size < w4.heap.size + 1 + 1 := (by omega)
                have E4 := dstep wr hB4 (by repeat (first | with_reducible exact E3 | with_reducible apply bdrew | with_reducible apply bdrewN | with_reducible apply balloc | ((with_reducible refine bset ?_ ?_ _); rotate_left; (first | omega | (simp <;> omega)))))
                go_wp2_with fail
                refine (risset_any _ _ _ _ _ (hm.del.below (by repeat (first | with_reducible exact E4 | with_reducible apply bdrew | with_reducible apply bdrewN | with_reducible apply balloc | ((with_reducible refine bset ?_ ?_ _); rotate_left; (first | omega | (simp <;> omega)))))) hm.ldel.le (by omega) (by omega)).mono ?_
                rintro e w5 ⟨he, hB5⟩
                rw [setB_true.2 Sdel.out] at he
                subst he
                have D5 := dstep w hB5 (by repeat (first | with_reducible exact D4 | with_reducible apply bdrew | with_reducible apply bdrewN | with_reducible apply balloc | ((with_reducible refine bset ?_ ?_ _); rotate_left; (first | omega | (simp <;> omega)))))
                have d5s := D5.size
                have C5 := Cls.below (l := [(w.heap.size, 0, .int .i64 t.facts), (w.heap.size, 1, .slice Ai t.init.length ci), (w.heap.size, 2, .slice Ag t.goal.length cg), (w.heap.size, 3, .slice (some ad) t.ops.length co), (w.heap.size + 1, 0, .int .i64 0), (w.heap.size + 1, 1, .int .i64 0), (wr.heap.size, 0, .slice A0 o.pre.length c0), (wr.heap.size, 1, .slice A1 o.add.length c1), (wr.heap.size, 2, .slice A2 o.del.length c2), (wr.heap.size, 3, .int .i64 o.cost)]) hB5 (by simp [Cls, go_sem, F4, y4w1, y4w0, y4wp1, y4wp2, y4wr0, y4wrp1, y4wrp2])
                have F5 := C5
                simp only [Cls, and_true] at F5
                have y5w1 : w.heap.size + 1 < w5.heap.size := C5.blk (b := w.heap.size + 1) (k := 0) (v := .int .i64 0) (by simp)
                have y5w0 : w.heap.size < w5.heap.size := (by omega)
                have y5wp1 : w.heap.size < w5.heap.size + 1 := (by omega)
                have y5wp2 : w.heap.size < w5.heap.size + 1 + 1 := (by omega)
                have y5wr0 : wr.heap.size < w5.heap.size := C5.blk (b := wr.heap.size) (k := 0) (v := .slice A0 o.pre.length c0) (by simp)
                have y5wrp1 : wr.heap.size < w5.heap.size + 1 := (by omega)
                have y5wrp2 : wr.heap.size < w5.heap.size + 1 + 1 := (by omega)
                have E5 := dstep wr hB5 (by repeat (first | with_reducible exact E4 | with_reducible apply bdrew | with_reducible apply bdrewN | with_reducible apply balloc | ((with_reducible refine bset ?_ ?_ _); rotate_left; (first | omega | (simp <;> omega)))))
                go_wp2_with fail
                refine (disjoint_any _ _ _ _ _ _ _ (hm.add.below (by repeat (first | with_reducible exact E5 | with_reducible apply bdrew | with_reducible apply bdrewN | with_reducible apply balloc | ((with_reducible refine bset ?_ ?_ _); rotate_left; (first | omega | (simp <;> omega)))))) (hm.del.below (by repeat (first | with_reducible exact E5 | with_reducible apply bdrew | with_reducible apply bdrewN | with_reducible apply balloc | ((with_reducible refine bset ?_ ?_ _); rotate_left; (first | omega | (simp <;> omega)))))) hm.ladd.le hm.ldel.le).mono ?_
                rintro e w' ⟨he, rfl⟩
                rw [decide_eq_true SM.out] at he
                subst he
                go_wp2_with fail
                refine (in_yes _ _ _ _ (by omega) (by omega)).mono ?_
                rintro e w' ⟨rfl, rfl⟩
                go_wp2
                go_roundw
                case rel => exact ⟨k + 1, by omega, by go_num, Lib.hid (forall_take_succ ho.out hno.out HC.out), (by repeat (first | with_reducible exact D5 | with_reducible apply bdrew | with_reducible apply bdrewN | with_reducible apply balloc | ((with_reducible refine bset ?_ ?_ _); rotate_left; (first | omega | (simp <;> omega))))), (by simp [Cls, go_sem, F5, y5w1, y5w0, y5wp1, y5wp2, y5wr0, y5wrp1, y5wrp2])⟩
                case measure => simp [intOf]; omega
              · have HC := Lib.hid (hg.trans (if_pos (by omega)))
                have hcost' : o.cost < 0 ∨ 100 < o.cost := by omega
                clear hg hcost
                have Spre := Lib.hid spre
                clear spre
                have Sadd := Lib.hid sadd
                clear sadd
                have Sdel := Lib.hid sdel
                clear sdel
                have SM := Lib.hid sm
                clear sm
                go_wp2_with fail
                refine (risset_any _ _ _ _ _ (hm.pre.below (by repeat (first | with_reducible exact Below.refl _ _ | with_reducible apply bdrew | with_reducible apply bdrewN | with_reducible apply balloc | ((with_reducible refine bset ?_ ?_ _); rotate_left; (first | omega | (simp <;> omega)))))) hm.lpre.le (by omega) (by omega)).mono ?_
                rintro e w3 ⟨he, hB3⟩
                rw [setB_true.2 Spre.out] at he
                subst he
                have D3 := dstep w hB3 (by repeat (first | with_reducible exact hBr | with_reducible apply bdrew | with_reducible apply bdrewN | with_reducible apply balloc | ((with_reducible refine bset ?_ ?_ _); rotate_left; (first | omega | (simp <;> omega)))))
                have d3s := D3.size
                have C3 := Cls.below (l := [(w.heap.size, 0, .int .i64 t.facts), (w.heap.size, 1, .slice Ai t.init.length ci), (w.heap.size, 2, .slice Ag t.goal.length cg), (w.heap.size, 3, .slice (some ad) t.ops.length co), (w.heap.size + 1, 0, .int .i64 0), (w.heap.size + 1, 1, .int .i64 0), (wr.heap.size, 0, .slice A0 o.pre.length c0), (wr.heap.size, 1, .slice A1 o.add.length c1), (wr.heap.size, 2, .slice A2 o.del.length c2), (wr.heap.size, 3, .int .i64 o.cost)]) hB3 (by simp [Cls, go_sem, Fr, yrw1, yrw0, yrwp1, yrwp2])
                have F3 := C3
                simp only [Cls, and_true] at F3
                have y3w1 : w.heap.size + 1 < w3.heap.size := C3.blk (b := w.heap.size + 1) (k := 0) (v := .int .i64 0) (by simp)
                have y3w0 : w.heap.size < w3.heap.size := (by omega)
                have y3wp1 : w.heap.size < w3.heap.size + 1 := (by omega)
                have y3wp2 : w.heap.size < w3.heap.size + 1 + 1 := (by omega)
                have y3wr0 : wr.heap.size < w3.heap.size := C3.blk (b := wr.heap.size) (k := 0) (v := .slice A0 o.pre.length c0) (by simp)
                have y3wrp1 : wr.heap.size < w3.heap.size + 1 := (by omega)
                have y3wrp2 : wr.heap.size < w3.heap.size + 1 + 1 := (by omega)
                have E3 := dstep wr hB3 (by repeat (first | with_reducible exact Below.refl _ _ | with_reducible apply bdrew | with_reducible apply bdrewN | with_reducible apply balloc | ((with_reducible refine bset ?_ ?_ _); rotate_left; (first | omega | (simp <;> omega)))))
                go_wp2_with fail
                refine (risset_any _ _ _ _ _ (hm.add.below (by repeat (first | with_reducible exact E3 | with_reducible apply bdrew | with_reducible apply bdrewN | with_reducible apply balloc | ((with_reducible refine bset ?_ ?_ _); rotate_left; (first | omega | (simp <;> omega)))))) hm.ladd.le (by omega) (by omega)).mono ?_
                rintro e w4 ⟨he, hB4⟩
                rw [setB_true.2 Sadd.out] at he
                subst he
                have D4 := dstep w hB4 (by repeat (first | with_reducible exact D3 | with_reducible apply bdrew | with_reducible apply bdrewN | with_reducible apply balloc | ((with_reducible refine bset ?_ ?_ _); rotate_left; (first | omega | (simp <;> omega)))))
                have d4s := D4.size
                have C4 := Cls.below (l := [(w.heap.size, 0, .int .i64 t.facts), (w.heap.size, 1, .slice Ai t.init.length ci), (w.heap.size, 2, .slice Ag t.goal.length cg), (w.heap.size, 3, .slice (some ad) t.ops.length co), (w.heap.size + 1, 0, .int .i64 0), (w.heap.size + 1, 1, .int .i64 0), (wr.heap.size, 0, .slice A0 o.pre.length c0), (wr.heap.size, 1, .slice A1 o.add.length c1), (wr.heap.size, 2, .slice A2 o.del.length c2), (wr.heap.size, 3, .int .i64 o.cost)]) hB4 (by simp [Cls, go_sem, F3, y3w1, y3w0, y3wp1, y3wp2, y3wr0, y3wrp1, y3wrp2])
                have F4 := C4
                simp only [Cls, and_true] at F4
                have y4w1 : w.heap.size + 1 < w4.heap.size := C4.blk (b := w.heap.size + 1) (k := 0) (v := .int .i64 0) (by simp)
                have y4w0 : w.heap.size < w4.heap.size := (by omega)
                have y4wp1 : w.heap.size < w4.heap.size + 1 := (by omega)
                have y4wp2 : w.heap.size < w4.heap.size + 1 + 1 := (by omega)
                have y4wr0 : wr.heap.size < w4.heap.size := C4.blk (b := wr.heap.size) (k := 0) (v := .slice A0 o.pre.length c0) (by simp)
                have y4wrp1 : wr.heap.size < w4.heap.size + 1 := (by omega)
                have y4wrp2 : wr.heap.size < w4.heap.size + 1 + 1 := (by omega)
                have E4 := dstep wr hB4 (by repeat (first | with_reducible exact E3 | with_reducible apply bdrew | with_reducible apply bdrewN | with_reducible apply balloc | ((with_reducible refine bset ?_ ?_ _); rotate_left; (first | omega | (simp <;> omega)))))
                go_wp2_with fail
                refine (risset_any _ _ _ _ _ (hm.del.below (by repeat (first | with_reducible exact E4 | with_reducible apply bdrew | with_reducible apply bdrewN | with_reducible apply balloc | ((with_reducible refine bset ?_ ?_ _); rotate_left; (first | omega | (simp <;> omega)))))) hm.ldel.le (by omega) (by omega)).mono ?_
                rintro e w5 ⟨he, hB5⟩
                rw [setB_true.2 Sdel.out] at he
                subst he
                have D5 := dstep w hB5 (by repeat (first | with_reducible exact D4 | with_reducible apply bdrew | with_reducible apply bdrewN | with_reducible apply balloc | ((with_reducible refine bset ?_ ?_ _); rotate_left; (first | omega | (simp <;> omega)))))
                have d5s := D5.size
                have C5 := Cls.below (l := [(w.heap.size, 0, .int .i64 t.facts), (w.heap.size, 1, .slice Ai t.init.length ci), (w.heap.size, 2, .slice Ag t.goal.length cg), (w.heap.size, 3, .slice (some ad) t.ops.length co), (w.heap.size + 1, 0, .int .i64 0), (w.heap.size + 1, 1, .int .i64 0), (wr.heap.size, 0, .slice A0 o.pre.length c0), (wr.heap.size, 1, .slice A1 o.add.length c1), (wr.heap.size, 2, .slice A2 o.del.length c2), (wr.heap.size, 3, .int .i64 o.cost)]) hB5 (by simp [Cls, go_sem, F4, y4w1, y4w0, y4wp1, y4wp2, y4wr0, y4wrp1, y4wrp2])
                have F5 := C5
                simp only [Cls, and_true] at F5
                have y5w1 : w.heap.size + 1 < w5.heap.size := C5.blk (b := w.heap.size + 1) (k := 0) (v := .int .i64 0) (by simp)
                have y5w0 : w.heap.size < w5.heap.size := (by omega)
                have y5wp1 : w.heap.size < w5.heap.size + 1 := (by omega)
                have y5wp2 : w.heap.size < w5.heap.size + 1 + 1 := (by omega)
                have y5wr0 : wr.heap.size < w5.heap.size := C5.blk (b := wr.heap.size) (k := 0) (v := .slice A0 o.pre.length c0) (by simp)
                have y5wrp1 : wr.heap.size < w5.heap.size + 1 := (by omega)
                have y5wrp2 : wr.heap.size < w5.heap.size + 1 + 1 := (by omega)
                have E5 := dstep wr hB5 (by repeat (first | with_reducible exact E4 | with_reducible apply bdrew | with_reducible apply bdrewN | with_reducible apply balloc | ((with_reducible refine bset ?_ ?_ _); rotate_left; (first | omega | (simp <;> omega)))))
                go_wp2_with fail
                refine (disjoint_any _ _ _ _ _ _ _ (hm.add.below (by repeat (first | with_reducible exact E5 | with_reducible apply bdrew | with_reducible apply bdrewN | with_reducible apply balloc | ((with_reducible refine bset ?_ ?_ _); rotate_left; (first | omega | (simp <;> omega)))))) (hm.del.below (by repeat (first | with_reducible exact E5 | with_reducible apply bdrew | with_reducible apply bdrewN | with_reducible apply balloc | ((with_reducible refine bset ?_ ?_ _); rotate_left; (first | omega | (simp <;> omega)))))) hm.ladd.le hm.ldel.le).mono ?_
                rintro e w' ⟨he, rfl⟩
                rw [decide_eq_true SM.out] at he
                subst he
                go_wp2_with fail
                refine (in_no _ _ _ _ (by omega)).mono ?_
                rintro e w' ⟨rfl, rfl⟩
                have e := opsFault_at t.ops 0 k o hno.out ho.out (by rw [HC.out]; decide)
                rw [HC.out] at e
                have HE := Lib.hid e
                clear e
                go_wp2_with fail
                refine (at_any _ _ _).mono ?_
                rintro e w6 ⟨rfl, hB6⟩
                have D6 := dstep w hB6 (by repeat (first | with_reducible exact D5 | with_reducible apply bdrew | with_reducible apply bdrewN | with_reducible apply balloc | ((with_reducible refine bset ?_ ?_ _); rotate_left; (first | omega | (simp <;> omega)))))
                have d6s := D6.size
                have C6 := Cls.below (l := [(w.heap.size, 0, .int .i64 t.facts), (w.heap.size, 1, .slice Ai t.init.length ci), (w.heap.size, 2, .slice Ag t.goal.length cg), (w.heap.size, 3, .slice (some ad) t.ops.length co), (w.heap.size + 1, 0, .int .i64 0), (w.heap.size + 1, 1, .int .i64 0), (wr.heap.size, 0, .slice A0 o.pre.length c0), (wr.heap.size, 1, .slice A1 o.add.length c1), (wr.heap.size, 2, .slice A2 o.del.length c2), (wr.heap.size, 3, .int .i64 o.cost)]) hB6 (by simp [Cls, go_sem, F5, y5w1, y5w0, y5wp1, y5wp2, y5wr0, y5wrp1, y5wrp2])
                have F6 := C6
                simp only [Cls, and_true] at F6
                have y6w1 : w.heap.size + 1 < w6.heap.size := C6.blk (b := w.heap.size + 1) (k := 0) (v := .int .i64 0) (by simp)
                have y6w0 : w.heap.size < w6.heap.size := (by omega)
                have y6wp1 : w.heap.size < w6.heap.size + 1 := (by omega)
                have y6wp2 : w.heap.size < w6.heap.size + 1 + 1 := (by omega)
                have y6wr0 : wr.heap.size < w6.heap.size := C6.blk (b := wr.heap.size) (k := 0) (v := .slice A0 o.pre.length c0) (by simp)
                have y6wrp1 : wr.heap.size < w6.heap.size + 1 := (by omega)
                have y6wrp2 : wr.heap.size < w6.heap.size + 1 + 1 := (by omega)
                have E6 := dstep wr hB6 (by repeat (first | with_reducible exact E5 | with_reducible apply bdrew | with_reducible apply bdrewN | with_reducible apply balloc | ((with_reducible refine bset ?_ ?_ _); rotate_left; (first | omega | (simp <;> omega)))))
                go_wp2
                refine bodyPost_ret (v := .agg #[.int .i64 3, .int .i64 (k : Int)]) ?_ rfl ⟨by rw [HE.out]; simp, by repeat (first | with_reducible exact D6 | with_reducible apply bdrew | with_reducible apply bdrewN | with_reducible apply balloc | ((with_reducible refine bset ?_ ?_ _); rotate_left; (first | omega | (simp <;> omega))))⟩
                simp [results, Try.results33, go_sem, F6, y6w1, y6w0, y6wp1, y6wp2, y6wr0, y6wrp1, y6wrp2]
            · have HC := Lib.hid (opc_bad (o := o) (f := t.facts) (fun h => sm h.2.2.2))
              have Spre := Lib.hid spre
              clear spre
              have Sadd := Lib.hid sadd
              clear sadd
              have Sdel := Lib.hid sdel
              clear sdel
              have SM := Lib.hid sm
              clear sm
              go_wp2_with fail
              refine (risset_any _ _ _ _ _ (hm.pre.below (by repeat (first | with_reducible exact Below.refl _ _ | with_reducible apply bdrew | with_reducible apply bdrewN | with_reducible apply balloc | ((with_reducible refine bset ?_ ?_ _); rotate_left; (first | omega | (simp <;> omega)))))) hm.lpre.le (by omega) (by omega)).mono ?_
              rintro e w3 ⟨he, hB3⟩
              rw [setB_true.2 Spre.out] at he
              subst he
              have D3 := dstep w hB3 (by repeat (first | with_reducible exact hBr | with_reducible apply bdrew | with_reducible apply bdrewN | with_reducible apply balloc | ((with_reducible refine bset ?_ ?_ _); rotate_left; (first | omega | (simp <;> omega)))))
              have d3s := D3.size
              have C3 := Cls.below (l := [(w.heap.size, 0, .int .i64 t.facts), (w.heap.size, 1, .slice Ai t.init.length ci), (w.heap.size, 2, .slice Ag t.goal.length cg), (w.heap.size, 3, .slice (some ad) t.ops.length co), (w.heap.size + 1, 0, .int .i64 0), (w.heap.size + 1, 1, .int .i64 0), (wr.heap.size, 0, .slice A0 o.pre.length c0), (wr.heap.size, 1, .slice A1 o.add.length c1), (wr.heap.size, 2, .slice A2 o.del.length c2), (wr.heap.size, 3, .int .i64 o.cost)]) hB3 (by simp [Cls, go_sem, Fr, yrw1, yrw0, yrwp1, yrwp2])
              have F3 := C3
              simp only [Cls, and_true] at F3
              have y3w1 : w.heap.size + 1 < w3.heap.size := C3.blk (b := w.heap.size + 1) (k := 0) (v := .int .i64 0) (by simp)
              have y3w0 : w.heap.size < w3.heap.size := (by omega)
              have y3wp1 : w.heap.size < w3.heap.size + 1 := (by omega)
              have y3wp2 : w.heap.size < w3.heap.size + 1 + 1 := (by omega)
              have y3wr0 : wr.heap.size < w3.heap.size := C3.blk (b := wr.heap.size) (k := 0) (v := .slice A0 o.pre.length c0) (by simp)
              have y3wrp1 : wr.heap.size < w3.heap.size + 1 := (by omega)
              have y3wrp2 : wr.heap.size < w3.heap.size + 1 + 1 := (by omega)
              have E3 := dstep wr hB3 (by repeat (first | with_reducible exact Below.refl _ _ | with_reducible apply bdrew | with_reducible apply bdrewN | with_reducible apply balloc | ((with_reducible refine bset ?_ ?_ _); rotate_left; (first | omega | (simp <;> omega)))))
              go_wp2_with fail
              refine (risset_any _ _ _ _ _ (hm.add.below (by repeat (first | with_reducible exact E3 | with_reducible apply bdrew | with_reducible apply bdrewN | with_reducible apply balloc | ((with_reducible refine bset ?_ ?_ _); rotate_left; (first | omega | (simp <;> omega)))))) hm.ladd.le (by omega) (by omega)).mono ?_
              rintro e w4 ⟨he, hB4⟩
              rw [setB_true.2 Sadd.out] at he
              subst he
              have D4 := dstep w hB4 (by repeat (first | with_reducible exact D3 | with_reducible apply bdrew | with_reducible apply bdrewN | with_reducible apply balloc | ((with_reducible refine bset ?_ ?_ _); rotate_left; (first | omega | (simp <;> omega)))))
              have d4s := D4.size
              have C4 := Cls.below (l := [(w.heap.size, 0, .int .i64 t.facts), (w.heap.size, 1, .slice Ai t.init.length ci), (w.heap.size, 2, .slice Ag t.goal.length cg), (w.heap.size, 3, .slice (some ad) t.ops.length co), (w.heap.size + 1, 0, .int .i64 0), (w.heap.size + 1, 1, .int .i64 0), (wr.heap.size, 0, .slice A0 o.pre.length c0), (wr.heap.size, 1, .slice A1 o.add.length c1), (wr.heap.size, 2, .slice A2 o.del.length c2), (wr.heap.size, 3, .int .i64 o.cost)]) hB4 (by simp [Cls, go_sem, F3, y3w1, y3w0, y3wp1, y3wp2, y3wr0, y3wrp1, y3wrp2])
              have F4 := C4
              simp only [Cls, and_true] at F4
              have y4w1 : w.heap.size + 1 < w4.heap.size := C4.blk (b := w.heap.size + 1) (k := 0) (v := .int .i64 0) (by simp)
              have y4w0 : w.heap.size < w4.heap.size := (by omega)
              have y4wp1 : w.heap.size < w4.heap.size + 1 := (by omega)
              have y4wp2 : w.heap.size < w4.heap.size + 1 + 1 := (by omega)
              have y4wr0 : wr.heap.size < w4.heap.size := C4.blk (b := wr.heap.size) (k := 0) (v := .slice A0 o.pre.length c0) (by simp)
              have y4wrp1 : wr.heap.size < w4.heap.size + 1 := (by omega)
              have y4wrp2 : wr.heap.size < w4.heap.size + 1 + 1 := (by omega)
              have E4 := dstep wr hB4 (by repeat (first | with_reducible exact E3 | with_reducible apply bdrew | with_reducible apply bdrewN | with_reducible apply balloc | ((with_reducible refine bset ?_ ?_ _); rotate_left; (first | omega | (simp <;> omega)))))
              go_wp2_with fail
              refine (risset_any _ _ _ _ _ (hm.del.below (by repeat (first | with_reducible exact E4 | with_reducible apply bdrew | with_reducible apply bdrewN | with_reducible apply balloc | ((with_reducible refine bset ?_ ?_ _); rotate_left; (first | omega | (simp <;> omega)))))) hm.ldel.le (by omega) (by omega)).mono ?_
              rintro e w5 ⟨he, hB5⟩
              rw [setB_true.2 Sdel.out] at he
              subst he
              have D5 := dstep w hB5 (by repeat (first | with_reducible exact D4 | with_reducible apply bdrew | with_reducible apply bdrewN | with_reducible apply balloc | ((with_reducible refine bset ?_ ?_ _); rotate_left; (first | omega | (simp <;> omega)))))
              have d5s := D5.size
              have C5 := Cls.below (l := [(w.heap.size, 0, .int .i64 t.facts), (w.heap.size, 1, .slice Ai t.init.length ci), (w.heap.size, 2, .slice Ag t.goal.length cg), (w.heap.size, 3, .slice (some ad) t.ops.length co), (w.heap.size + 1, 0, .int .i64 0), (w.heap.size + 1, 1, .int .i64 0), (wr.heap.size, 0, .slice A0 o.pre.length c0), (wr.heap.size, 1, .slice A1 o.add.length c1), (wr.heap.size, 2, .slice A2 o.del.length c2), (wr.heap.size, 3, .int .i64 o.cost)]) hB5 (by simp [Cls, go_sem, F4, y4w1, y4w0, y4wp1, y4wp2, y4wr0, y4wrp1, y4wrp2])
              have F5 := C5
              simp only [Cls, and_true] at F5
              have y5w1 : w.heap.size + 1 < w5.heap.size := C5.blk (b := w.heap.size + 1) (k := 0) (v := .int .i64 0) (by simp)
              have y5w0 : w.heap.size < w5.heap.size := (by omega)
              have y5wp1 : w.heap.size < w5.heap.size + 1 := (by omega)
              have y5wp2 : w.heap.size < w5.heap.size + 1 + 1 := (by omega)
              have y5wr0 : wr.heap.size < w5.heap.size := C5.blk (b := wr.heap.size) (k := 0) (v := .slice A0 o.pre.length c0) (by simp)
              have y5wrp1 : wr.heap.size < w5.heap.size + 1 := (by omega)
              have y5wrp2 : wr.heap.size < w5.heap.size + 1 + 1 := (by omega)
              have E5 := dstep wr hB5 (by repeat (first | with_reducible exact E4 | with_reducible apply bdrew | with_reducible apply bdrewN | with_reducible apply balloc | ((with_reducible refine bset ?_ ?_ _); rotate_left; (first | omega | (simp <;> omega)))))
              go_wp2_with fail
              refine (disjoint_any _ _ _ _ _ _ _ (hm.add.below (by repeat (first | with_reducible exact E5 | with_reducible apply bdrew | with_reducible apply bdrewN | with_reducible apply balloc | ((with_reducible refine bset ?_ ?_ _); rotate_left; (first | omega | (simp <;> omega)))))) (hm.del.below (by repeat (first | with_reducible exact E5 | with_reducible apply bdrew | with_reducible apply bdrewN | with_reducible apply balloc | ((with_reducible refine bset ?_ ?_ _); rotate_left; (first | omega | (simp <;> omega)))))) hm.ladd.le hm.ldel.le).mono ?_
              rintro e w' ⟨he, rfl⟩
              rw [decide_eq_false SM.out] at he
              subst he
              have e := opsFault_at t.ops 0 k o hno.out ho.out (by rw [HC.out]; decide)
              rw [HC.out] at e
              have HE := Lib.hid e
              clear e
              go_wp2_with fail
              refine (at_any _ _ _).mono ?_
              rintro e w6 ⟨rfl, hB6⟩
              have D6 := dstep w hB6 (by repeat (first | with_reducible exact D5 | with_reducible apply bdrew | with_reducible apply bdrewN | with_reducible apply balloc | ((with_reducible refine bset ?_ ?_ _); rotate_left; (first | omega | (simp <;> omega)))))
              have d6s := D6.size
              have C6 := Cls.below (l := [(w.heap.size, 0, .int .i64 t.facts), (w.heap.size, 1, .slice Ai t.init.length ci), (w.heap.size, 2, .slice Ag t.goal.length cg), (w.heap.size, 3, .slice (some ad) t.ops.length co), (w.heap.size + 1, 0, .int .i64 0), (w.heap.size + 1, 1, .int .i64 0), (wr.heap.size, 0, .slice A0 o.pre.length c0), (wr.heap.size, 1, .slice A1 o.add.length c1), (wr.heap.size, 2, .slice A2 o.del.length c2), (wr.heap.size, 3, .int .i64 o.cost)]) hB6 (by simp [Cls, go_sem, F5, y5w1, y5w0, y5wp1, y5wp2, y5wr0, y5wrp1, y5wrp2])
              have F6 := C6
              simp only [Cls, and_true] at F6
              have y6w1 : w.heap.size + 1 < w6.heap.size := C6.blk (b := w.heap.size + 1) (k := 0) (v := .int .i64 0) (by simp)
              have y6w0 : w.heap.size < w6.heap.size := (by omega)
              have y6wp1 : w.heap.size < w6.heap.size + 1 := (by omega)
              have y6wp2 : w.heap.size < w6.heap.size + 1 + 1 := (by omega)
              have y6wr0 : wr.heap.size < w6.heap.size := C6.blk (b := wr.heap.size) (k := 0) (v := .slice A0 o.pre.length c0) (by simp)
              have y6wrp1 : wr.heap.size < w6.heap.size + 1 := (by omega)
              have y6wrp2 : wr.heap.size < w6.heap.size + 1 + 1 := (by omega)
              have E6 := dstep wr hB6 (by repeat (first | with_reducible exact E5 | with_reducible apply bdrew | with_reducible apply bdrewN | with_reducible apply balloc | ((with_reducible refine bset ?_ ?_ _); rotate_left; (first | omega | (simp <;> omega)))))
              go_wp2
              refine bodyPost_ret (v := .agg #[.int .i64 5, .int .i64 (k : Int)]) ?_ rfl ⟨by rw [HE.out]; simp, by repeat (first | with_reducible exact D6 | with_reducible apply bdrew | with_reducible apply bdrewN | with_reducible apply balloc | ((with_reducible refine bset ?_ ?_ _); rotate_left; (first | omega | (simp <;> omega))))⟩
              simp [results, Try.results33, go_sem, F6, y6w1, y6w0, y6wp1, y6wp2, y6wr0, y6wrp1, y6wrp2]
          · have HC := Lib.hid (opc_bad (o := o) (f := t.facts) (fun h => sdel h.2.2.1))
            have Spre := Lib.hid spre
            clear spre
            have Sadd := Lib.hid sadd
            clear sadd
            have Sdel := Lib.hid sdel
            clear sdel
            go_wp2_with fail
            refine (risset_any _ _ _ _ _ (hm.pre.below (by repeat (first | with_reducible exact Below.refl _ _ | with_reducible apply bdrew | with_reducible apply bdrewN | with_reducible apply balloc | ((with_reducible refine bset ?_ ?_ _); rotate_left; (first | omega | (simp <;> omega)))))) hm.lpre.le (by omega) (by omega)).mono ?_
            rintro e w3 ⟨he, hB3⟩
            rw [setB_true.2 Spre.out] at he
            subst he
            have D3 := dstep w hB3 (by repeat (first | with_reducible exact hBr | with_reducible apply bdrew | with_reducible apply bdrewN | with_reducible apply balloc | ((with_reducible refine bset ?_ ?_ _); rotate_left; (first | omega | (simp <;> omega)))))
            have d3s := D3.size
            have C3 := Cls.below (l := [(w.heap.size, 0, .int .i64 t.facts), (w.heap.size, 1, .slice Ai t.init.length ci), (w.heap.size, 2, .slice Ag t.goal.length cg), (w.heap.size, 3, .slice (some ad) t.ops.length co), (w.heap.size + 1, 0, .int .i64 0), (w.heap.size + 1, 1, .int .i64 0), (wr.heap.size, 0, .slice A0 o.pre.length c0), (wr.heap.size, 1, .slice A1 o.add.length c1), (wr.heap.size, 2, .slice A2 o.del.length c2), (wr.heap.size, 3, .int .i64 o.cost)]) hB3 (by simp [Cls, go_sem, Fr, yrw1, yrw0, yrwp1, yrwp2])
            have F3 := C3
            simp only [Cls, and_true] at F3
            have y3w1 : w.heap.size + 1 < w3.heap.size := C3.blk (b := w.heap.size + 1) (k := 0) (v := .int .i64 0) (by simp)
            have y3w0 : w.heap.size < w3.heap.size := (by omega)
            have y3wp1 : w.heap.size < w3.heap.size + 1 := (by omega)
            have y3wp2 : w.heap.size < w3.heap.size + 1 + 1 := (by omega)
            have y3wr0 : wr.heap.size < w3.heap.size := C3.blk (b := wr.heap.size) (k := 0) (v := .slice A0 o.pre.length c0) (by simp)
            have y3wrp1 : wr.heap.size < w3.heap.size + 1 := (by omega)
            have y3wrp2 : wr.heap.size < w3.heap.size + 1 + 1 := (by omega)
            have E3 := dstep wr hB3 (by repeat (first | with_reducible exact Below.refl _ _ | with_reducible apply bdrew | with_reducible apply bdrewN | with_reducible apply balloc | ((with_reducible refine bset ?_ ?_ _); rotate_left; (first | omega | (simp <;> omega)))))
            go_wp2_with fail
            refine (risset_any _ _ _ _ _ (hm.add.below (by repeat (first | with_reducible exact E3 | with_reducible apply bdrew | with_reducible apply bdrewN | with_reducible apply balloc | ((with_reducible refine bset ?_ ?_ _); rotate_left; (first | omega | (simp <;> omega)))))) hm.ladd.le (by omega) (by omega)).mono ?_
            rintro e w4 ⟨he, hB4⟩
            rw [setB_true.2 Sadd.out] at he
            subst he
            have D4 := dstep w hB4 (by repeat (first | with_reducible exact D3 | with_reducible apply bdrew | with_reducible apply bdrewN | with_reducible apply balloc | ((with_reducible refine bset ?_ ?_ _); rotate_left; (first | omega | (simp <;> omega)))))
            have d4s := D4.size
            have C4 := Cls.below (l := [(w.heap.size, 0, .int .i64 t.facts), (w.heap.size, 1, .slice Ai t.init.length ci), (w.heap.size, 2, .slice Ag t.goal.length cg), (w.heap.size, 3, .slice (some ad) t.ops.length co), (w.heap.size + 1, 0, .int .i64 0), (w.heap.size + 1, 1, .int .i64 0), (wr.heap.size, 0, .slice A0 o.pre.length c0), (wr.heap.size, 1, .slice A1 o.add.length c1), (wr.heap.size, 2, .slice A2 o.del.length c2), (wr.heap.size, 3, .int .i64 o.cost)]) hB4 (by simp [Cls, go_sem, F3, y3w1, y3w0, y3wp1, y3wp2, y3wr0, y3wrp1, y3wrp2])
            have F4 := C4
            simp only [Cls, and_true] at F4
            have y4w1 : w.heap.size + 1 < w4.heap.size := C4.blk (b := w.heap.size + 1) (k := 0) (v := .int .i64 0) (by simp)
            have y4w0 : w.heap.size < w4.heap.size := (by omega)
            have y4wp1 : w.heap.size < w4.heap.size + 1 := (by omega)
            have y4wp2 : w.heap.size < w4.heap.size + 1 + 1 := (by omega)
            have y4wr0 : wr.heap.size < w4.heap.size := C4.blk (b := wr.heap.size) (k := 0) (v := .slice A0 o.pre.length c0) (by simp)
            have y4wrp1 : wr.heap.size < w4.heap.size + 1 := (by omega)
            have y4wrp2 : wr.heap.size < w4.heap.size + 1 + 1 := (by omega)
            have E4 := dstep wr hB4 (by repeat (first | with_reducible exact E3 | with_reducible apply bdrew | with_reducible apply bdrewN | with_reducible apply balloc | ((with_reducible refine bset ?_ ?_ _); rotate_left; (first | omega | (simp <;> omega)))))
            go_wp2_with fail
            refine (risset_any _ _ _ _ _ (hm.del.below (by repeat (first | with_reducible exact E4 | with_reducible apply bdrew | with_reducible apply bdrewN | with_reducible apply balloc | ((with_reducible refine bset ?_ ?_ _); rotate_left; (first | omega | (simp <;> omega)))))) hm.ldel.le (by omega) (by omega)).mono ?_
            rintro e w5 ⟨he, hB5⟩
            rw [setB_false.2 Sdel.out] at he
            subst he
            have D5 := dstep w hB5 (by repeat (first | with_reducible exact D4 | with_reducible apply bdrew | with_reducible apply bdrewN | with_reducible apply balloc | ((with_reducible refine bset ?_ ?_ _); rotate_left; (first | omega | (simp <;> omega)))))
            have d5s := D5.size
            have C5 := Cls.below (l := [(w.heap.size, 0, .int .i64 t.facts), (w.heap.size, 1, .slice Ai t.init.length ci), (w.heap.size, 2, .slice Ag t.goal.length cg), (w.heap.size, 3, .slice (some ad) t.ops.length co), (w.heap.size + 1, 0, .int .i64 0), (w.heap.size + 1, 1, .int .i64 0), (wr.heap.size, 0, .slice A0 o.pre.length c0), (wr.heap.size, 1, .slice A1 o.add.length c1), (wr.heap.size, 2, .slice A2 o.del.length c2), (wr.heap.size, 3, .int .i64 o.cost)]) hB5 (by simp [Cls, go_sem, F4, y4w1, y4w0, y4wp1, y4wp2, y4wr0, y4wrp1, y4wrp2])
            have F5 := C5
            simp only [Cls, and_true] at F5
            have y5w1 : w.heap.size + 1 < w5.heap.size := C5.blk (b := w.heap.size + 1) (k := 0) (v := .int .i64 0) (by simp)
            have y5w0 : w.heap.size < w5.heap.size := (by omega)
            have y5wp1 : w.heap.size < w5.heap.size + 1 := (by omega)
            have y5wp2 : w.heap.size < w5.heap.size + 1 + 1 := (by omega)
            have y5wr0 : wr.heap.size < w5.heap.size := C5.blk (b := wr.heap.size) (k := 0) (v := .slice A0 o.pre.length c0) (by simp)
            have y5wrp1 : wr.heap.size < w5.heap.size + 1 := (by omega)
            have y5wrp2 : wr.heap.size < w5.heap.size + 1 + 1 := (by omega)
            have E5 := dstep wr hB5 (by repeat (first | with_reducible exact E4 | with_reducible apply bdrew | with_reducible apply bdrewN | with_reducible apply balloc | ((with_reducible refine bset ?_ ?_ _); rotate_left; (first | omega | (simp <;> omega)))))
            have e := opsFault_at t.ops 0 k o hno.out ho.out (by rw [HC.out]; decide)
            rw [HC.out] at e
            have HE := Lib.hid e
            clear e
            go_wp2_with fail
            refine (at_any _ _ _).mono ?_
            rintro e w6 ⟨rfl, hB6⟩
            have D6 := dstep w hB6 (by repeat (first | with_reducible exact D5 | with_reducible apply bdrew | with_reducible apply bdrewN | with_reducible apply balloc | ((with_reducible refine bset ?_ ?_ _); rotate_left; (first | omega | (simp <;> omega)))))
            have d6s := D6.size
            have C6 := Cls.below (l := [(w.heap.size, 0, .int .i64 t.facts), (w.heap.size, 1, .slice Ai t.init.length ci), (w.heap.size, 2, .slice Ag t.goal.length cg), (w.heap.size, 3, .slice (some ad) t.ops.length co), (w.heap.size + 1, 0, .int .i64 0), (w.heap.size + 1, 1, .int .i64 0), (wr.heap.size, 0, .slice A0 o.pre.length c0), (wr.heap.size, 1, .slice A1 o.add.length c1), (wr.heap.size, 2, .slice A2 o.del.length c2), (wr.heap.size, 3, .int .i64 o.cost)]) hB6 (by simp [Cls, go_sem, F5, y5w1, y5w0, y5wp1, y5wp2, y5wr0, y5wrp1, y5wrp2])
            have F6 := C6
            simp only [Cls, and_true] at F6
            have y6w1 : w.heap.size + 1 < w6.heap.size := C6.blk (b := w.heap.size + 1) (k := 0) (v := .int .i64 0) (by simp)
            have y6w0 : w.heap.size < w6.heap.size := (by omega)
            have y6wp1 : w.heap.size < w6.heap.size + 1 := (by omega)
            have y6wp2 : w.heap.size < w6.heap.size + 1 + 1 := (by omega)
            have y6wr0 : wr.heap.size < w6.heap.size := C6.blk (b := wr.heap.size) (k := 0) (v := .slice A0 o.pre.length c0) (by simp)
            have y6wrp1 : wr.heap.size < w6.heap.size + 1 := (by omega)
            have y6wrp2 : wr.heap.size < w6.heap.size + 1 + 1 := (by omega)
            have E6 := dstep wr hB6 (by repeat (first | with_reducible exact E5 | with_reducible apply bdrew | with_reducible apply bdrewN | with_reducible apply balloc | ((with_reducible refine bset ?_ ?_ _); rotate_left; (first | omega | (simp <;> omega)))))
            go_wp2
            refine bodyPost_ret (v := .agg #[.int .i64 5, .int .i64 (k : Int)]) ?_ rfl ⟨by rw [HE.out]; simp, by repeat (first | with_reducible exact D6 | with_reducible apply bdrew | with_reducible apply bdrewN | with_reducible apply balloc | ((with_reducible refine bset ?_ ?_ _); rotate_left; (first | omega | (simp <;> omega))))⟩
            simp [results, Try.results33, go_sem, F6, y6w1, y6w0, y6wp1, y6wp2, y6wr0, y6wrp1, y6wrp2]
        · have HC := Lib.hid (opc_bad (o := o) (f := t.facts) (fun h => sadd h.2.1))
          have Spre := Lib.hid spre
          clear spre
          have Sadd := Lib.hid sadd
          clear sadd
          go_wp2_with fail
          refine (risset_any _ _ _ _ _ (hm.pre.below (by repeat (first | with_reducible exact Below.refl _ _ | with_reducible apply bdrew | with_reducible apply bdrewN | with_reducible apply balloc | ((with_reducible refine bset ?_ ?_ _); rotate_left; (first | omega | (simp <;> omega)))))) hm.lpre.le (by omega) (by omega)).mono ?_
          rintro e w3 ⟨he, hB3⟩
          rw [setB_true.2 Spre.out] at he
          subst he
          have D3 := dstep w hB3 (by repeat (first | with_reducible exact hBr | with_reducible apply bdrew | with_reducible apply bdrewN | with_reducible apply balloc | ((with_reducible refine bset ?_ ?_ _); rotate_left; (first | omega | (simp <;> omega)))))
          have d3s := D3.size
          have C3 := Cls.below (l := [(w.heap.size, 0, .int .i64 t.facts), (w.heap.size, 1, .slice Ai t.init.length ci), (w.heap.size, 2, .slice Ag t.goal.length cg), (w.heap.size, 3, .slice (some ad) t.ops.length co), (w.heap.size + 1, 0, .int .i64 0), (w.heap.size + 1, 1, .int .i64 0), (wr.heap.size, 0, .slice A0 o.pre.length c0), (wr.heap.size, 1, .slice A1 o.add.length c1), (wr.heap.size, 2, .slice A2 o.del.length c2), (wr.heap.size, 3, .int .i64 o.cost)]) hB3 (by simp [Cls, go_sem, Fr, yrw1, yrw0, yrwp1, yrwp2])
          have F3 := C3
          simp only [Cls, and_true] at F3
          have y3w1 : w.heap.size + 1 < w3.heap.size := C3.blk (b := w.heap.size + 1) (k := 0) (v := .int .i64 0) (by simp)
          have y3w0 : w.heap.size < w3.heap.size := (by omega)
          have y3wp1 : w.heap.size < w3.heap.size + 1 := (by omega)
          have y3wp2 : w.heap.size < w3.heap.size + 1 + 1 := (by omega)
          have y3wr0 : wr.heap.size < w3.heap.size := C3.blk (b := wr.heap.size) (k := 0) (v := .slice A0 o.pre.length c0) (by simp)
          have y3wrp1 : wr.heap.size < w3.heap.size + 1 := (by omega)
          have y3wrp2 : wr.heap.size < w3.heap.size + 1 + 1 := (by omega)
          have E3 := dstep wr hB3 (by repeat (first | with_reducible exact Below.refl _ _ | with_reducible apply bdrew | with_reducible apply bdrewN | with_reducible apply balloc | ((with_reducible refine bset ?_ ?_ _); rotate_left; (first | omega | (simp <;> omega)))))
          go_wp2_with fail
          refine (risset_any _ _ _ _ _ (hm.add.below (by repeat (first | with_reducible exact E3 | with_reducible apply bdrew | with_reducible apply bdrewN | with_reducible apply balloc | ((with_reducible refine bset ?_ ?_ _); rotate_left; (first | omega | (simp <;> omega)))))) hm.ladd.le (by omega) (by omega)).mono ?_
          rintro e w4 ⟨he, hB4⟩
          rw [setB_false.2 Sadd.out] at he
          subst he
          have D4 := dstep w hB4 (by repeat (first | with_reducible exact D3 | with_reducible apply bdrew | with_reducible apply bdrewN | with_reducible apply balloc | ((with_reducible refine bset ?_ ?_ _); rotate_left; (first | omega | (simp <;> omega)))))
          have d4s := D4.size
          have C4 := Cls.below (l := [(w.heap.size, 0, .int .i64 t.facts), (w.heap.size, 1, .slice Ai t.init.length ci), (w.heap.size, 2, .slice Ag t.goal.length cg), (w.heap.size, 3, .slice (some ad) t.ops.length co), (w.heap.size + 1, 0, .int .i64 0), (w.heap.size + 1, 1, .int .i64 0), (wr.heap.size, 0, .slice A0 o.pre.length c0), (wr.heap.size, 1, .slice A1 o.add.length c1), (wr.heap.size, 2, .slice A2 o.del.length c2), (wr.heap.size, 3, .int .i64 o.cost)]) hB4 (by simp [Cls, go_sem, F3, y3w1, y3w0, y3wp1, y3wp2, y3wr0, y3wrp1, y3wrp2])
          have F4 := C4
          simp only [Cls, and_true] at F4
          have y4w1 : w.heap.size + 1 < w4.heap.size := C4.blk (b := w.heap.size + 1) (k := 0) (v := .int .i64 0) (by simp)
          have y4w0 : w.heap.size < w4.heap.size := (by omega)
          have y4wp1 : w.heap.size < w4.heap.size + 1 := (by omega)
          have y4wp2 : w.heap.size < w4.heap.size + 1 + 1 := (by omega)
          have y4wr0 : wr.heap.size < w4.heap.size := C4.blk (b := wr.heap.size) (k := 0) (v := .slice A0 o.pre.length c0) (by simp)
          have y4wrp1 : wr.heap.size < w4.heap.size + 1 := (by omega)
          have y4wrp2 : wr.heap.size < w4.heap.size + 1 + 1 := (by omega)
          have E4 := dstep wr hB4 (by repeat (first | with_reducible exact E3 | with_reducible apply bdrew | with_reducible apply bdrewN | with_reducible apply balloc | ((with_reducible refine bset ?_ ?_ _); rotate_left; (first | omega | (simp <;> omega)))))
          have e := opsFault_at t.ops 0 k o hno.out ho.out (by rw [HC.out]; decide)
          rw [HC.out] at e
          have HE := Lib.hid e
          clear e
          go_wp2_with fail
          refine (at_any _ _ _).mono ?_
          rintro e w5 ⟨rfl, hB5⟩
          have D5 := dstep w hB5 (by repeat (first | with_reducible exact D4 | with_reducible apply bdrew | with_reducible apply bdrewN | with_reducible apply balloc | ((with_reducible refine bset ?_ ?_ _); rotate_left; (first | omega | (simp <;> omega)))))
          have d5s := D5.size
          have C5 := Cls.below (l := [(w.heap.size, 0, .int .i64 t.facts), (w.heap.size, 1, .slice Ai t.init.length ci), (w.heap.size, 2, .slice Ag t.goal.length cg), (w.heap.size, 3, .slice (some ad) t.ops.length co), (w.heap.size + 1, 0, .int .i64 0), (w.heap.size + 1, 1, .int .i64 0), (wr.heap.size, 0, .slice A0 o.pre.length c0), (wr.heap.size, 1, .slice A1 o.add.length c1), (wr.heap.size, 2, .slice A2 o.del.length c2), (wr.heap.size, 3, .int .i64 o.cost)]) hB5 (by simp [Cls, go_sem, F4, y4w1, y4w0, y4wp1, y4wp2, y4wr0, y4wrp1, y4wrp2])
          have F5 := C5
          simp only [Cls, and_true] at F5
          have y5w1 : w.heap.size + 1 < w5.heap.size := C5.blk (b := w.heap.size + 1) (k := 0) (v := .int .i64 0) (by simp)
          have y5w0 : w.heap.size < w5.heap.size := (by omega)
          have y5wp1 : w.heap.size < w5.heap.size + 1 := (by omega)
          have y5wp2 : w.heap.size < w5.heap.size + 1 + 1 := (by omega)
          have y5wr0 : wr.heap.size < w5.heap.size := C5.blk (b := wr.heap.size) (k := 0) (v := .slice A0 o.pre.length c0) (by simp)
          have y5wrp1 : wr.heap.size < w5.heap.size + 1 := (by omega)
          have y5wrp2 : wr.heap.size < w5.heap.size + 1 + 1 := (by omega)
          have E5 := dstep wr hB5 (by repeat (first | with_reducible exact E4 | with_reducible apply bdrew | with_reducible apply bdrewN | with_reducible apply balloc | ((with_reducible refine bset ?_ ?_ _); rotate_left; (first | omega | (simp <;> omega)))))
          go_wp2
          refine bodyPost_ret (v := .agg #[.int .i64 5, .int .i64 (k : Int)]) ?_ rfl ⟨by rw [HE.out]; simp, by repeat (first | with_reducible exact D5 | with_reducible apply bdrew | with_reducible apply bdrewN | with_reducible apply balloc | ((with_reducible refine bset ?_ ?_ _); rotate_left; (first | omega | (simp <;> omega))))⟩
          simp [results, Try.results33, go_sem, F5, y5w1, y5w0, y5wp1, y5wp2, y5wr0, y5wrp1, y5wrp2]
      · have HC := Lib.hid (opc_bad (o := o) (f := t.facts) (fun h => spre h.1))
        have Spre := Lib.hid spre
        clear spre
        go_wp2_with fail
        refine (risset_any _ _ _ _ _ (hm.pre.below (by repeat (first | with_reducible exact Below.refl _ _ | with_reducible apply bdrew | with_reducible apply bdrewN | with_reducible apply balloc | ((with_reducible refine bset ?_ ?_ _); rotate_left; (first | omega | (simp <;> omega)))))) hm.lpre.le (by omega) (by omega)).mono ?_
        rintro e w3 ⟨he, hB3⟩
        rw [setB_false.2 Spre.out] at he
        subst he
        have D3 := dstep w hB3 (by repeat (first | with_reducible exact hBr | with_reducible apply bdrew | with_reducible apply bdrewN | with_reducible apply balloc | ((with_reducible refine bset ?_ ?_ _); rotate_left; (first | omega | (simp <;> omega)))))
        have d3s := D3.size
        have C3 := Cls.below (l := [(w.heap.size, 0, .int .i64 t.facts), (w.heap.size, 1, .slice Ai t.init.length ci), (w.heap.size, 2, .slice Ag t.goal.length cg), (w.heap.size, 3, .slice (some ad) t.ops.length co), (w.heap.size + 1, 0, .int .i64 0), (w.heap.size + 1, 1, .int .i64 0), (wr.heap.size, 0, .slice A0 o.pre.length c0), (wr.heap.size, 1, .slice A1 o.add.length c1), (wr.heap.size, 2, .slice A2 o.del.length c2), (wr.heap.size, 3, .int .i64 o.cost)]) hB3 (by simp [Cls, go_sem, Fr, yrw1, yrw0, yrwp1, yrwp2])
        have F3 := C3
        simp only [Cls, and_true] at F3
        have y3w1 : w.heap.size + 1 < w3.heap.size := C3.blk (b := w.heap.size + 1) (k := 0) (v := .int .i64 0) (by simp)
        have y3w0 : w.heap.size < w3.heap.size := (by omega)
        have y3wp1 : w.heap.size < w3.heap.size + 1 := (by omega)
        have y3wp2 : w.heap.size < w3.heap.size + 1 + 1 := (by omega)
        have y3wr0 : wr.heap.size < w3.heap.size := C3.blk (b := wr.heap.size) (k := 0) (v := .slice A0 o.pre.length c0) (by simp)
        have y3wrp1 : wr.heap.size < w3.heap.size + 1 := (by omega)
        have y3wrp2 : wr.heap.size < w3.heap.size + 1 + 1 := (by omega)
        have E3 := dstep wr hB3 (by repeat (first | with_reducible exact Below.refl _ _ | with_reducible apply bdrew | with_reducible apply bdrewN | with_reducible apply balloc | ((with_reducible refine bset ?_ ?_ _); rotate_left; (first | omega | (simp <;> omega)))))
        have e := opsFault_at t.ops 0 k o hno.out ho.out (by rw [HC.out]; decide)
        rw [HC.out] at e
        have HE := Lib.hid e
        clear e
        go_wp2_with fail
        refine (at_any _ _ _).mono ?_
        rintro e w4 ⟨rfl, hB4⟩
        have D4 := dstep w hB4 (by repeat (first | with_reducible exact D3 | with_reducible apply bdrew | with_reducible apply bdrewN | with_reducible apply balloc | ((with_reducible refine bset ?_ ?_ _); rotate_left; (first | omega | (simp <;> omega)))))
        have d4s := D4.size
        have C4 := Cls.below (l := [(w.heap.size, 0, .int .i64 t.facts), (w.heap.size, 1, .slice Ai t.init.length ci), (w.heap.size, 2, .slice Ag t.goal.length cg), (w.heap.size, 3, .slice (some ad) t.ops.length co), (w.heap.size + 1, 0, .int .i64 0), (w.heap.size + 1, 1, .int .i64 0), (wr.heap.size, 0, .slice A0 o.pre.length c0), (wr.heap.size, 1, .slice A1 o.add.length c1), (wr.heap.size, 2, .slice A2 o.del.length c2), (wr.heap.size, 3, .int .i64 o.cost)]) hB4 (by simp [Cls, go_sem, F3, y3w1, y3w0, y3wp1, y3wp2, y3wr0, y3wrp1, y3wrp2])
        have F4 := C4
        simp only [Cls, and_true] at F4
        have y4w1 : w.heap.size + 1 < w4.heap.size := C4.blk (b := w.heap.size + 1) (k := 0) (v := .int .i64 0) (by simp)
        have y4w0 : w.heap.size < w4.heap.size := (by omega)
        have y4wp1 : w.heap.size < w4.heap.size + 1 := (by omega)
        have y4wp2 : w.heap.size < w4.heap.size + 1 + 1 := (by omega)
        have y4wr0 : wr.heap.size < w4.heap.size := C4.blk (b := wr.heap.size) (k := 0) (v := .slice A0 o.pre.length c0) (by simp)
        have y4wrp1 : wr.heap.size < w4.heap.size + 1 := (by omega)
        have y4wrp2 : wr.heap.size < w4.heap.size + 1 + 1 := (by omega)
        have E4 := dstep wr hB4 (by repeat (first | with_reducible exact E3 | with_reducible apply bdrew | with_reducible apply bdrewN | with_reducible apply balloc | ((with_reducible refine bset ?_ ?_ _); rotate_left; (first | omega | (simp <;> omega)))))
        go_wp2
        refine bodyPost_ret (v := .agg #[.int .i64 5, .int .i64 (k : Int)]) ?_ rfl ⟨by rw [HE.out]; simp, by repeat (first | with_reducible exact D4 | with_reducible apply bdrew | with_reducible apply bdrewN | with_reducible apply balloc | ((with_reducible refine bset ?_ ?_ _); rotate_left; (first | omega | (simp <;> omega))))⟩
        simp [results, Try.results33, go_sem, F4, y4w1, y4w0, y4wp1, y4wp2, y4wr0, y4wrp1, y4wrp2]
    · have e := opsFault_good t.ops 0 (forall_take_all hlt hno.out)
      have HE := Lib.hid e
      clear e
      go_wp2
      refine bodyPost_ret (v := .agg #[.int .i64 0, .int .i64 0]) ?_ rfl ⟨by rw [HE.out], by repeat (first | with_reducible exact hBr | with_reducible apply bdrew | with_reducible apply bdrewN | with_reducible apply balloc | ((with_reducible refine bset ?_ ?_ _); rotate_left; (first | omega | (simp <;> omega))))⟩
      simp [results, Try.results33, go_sem, Fr, yrw1, yrw0, yrwp1, yrwp2]


theorem taskfault_any (w : World) (t : TaskV) (Ai Ag Ao : Option Addr) (ci cg co : Nat) (hT : TaskMem w Ai Ag Ao t) :
    Calls Try.prog 33 #[.agg #[.int .i64 t.facts, .slice Ai t.init.length ci, .slice Ag t.goal.length cg, .slice Ao t.ops.length co]] w fun e w' => e = .returned (.agg #[.int .i64 (tfault t).1, .int .i64 (tfault t).2]) ∧ Below w.heap.size w w' := by
  by_cases h : t.facts < 0 ∨ 24 < t.facts
  · rw [tfault_1 h]; exact taskfault_1 w t Ai Ag Ao ci cg co hT h
  · by_cases h1 : SetP t.init t.facts
    · by_cases h2 : SetP t.goal t.facts
      · by_cases h3 : 40 < t.ops.length
        · rw [tfault_4 h h1 h2 h3]; exact taskfault_4 w t Ai Ag Ao ci cg co hT (by omega) (by omega) h1 h2 h3
        · rw [tfault_5 h h1 h2 h3]; exact taskfault_5 w t Ai Ag Ao ci cg co hT (by omega) (by omega) h1 h2 (by omega)
      · rw [tfault_3 h h1 h2]; exact taskfault_3 w t Ai Ag Ao ci cg co hT (by omega) (by omega) h1 h2
    · rw [tfault_2 h h1]; exact taskfault_2 w t Ai Ag Ao ci cg co hT (by omega) (by omega) h1

end Go.Proofs.Ytiaokmofoaeifaa
