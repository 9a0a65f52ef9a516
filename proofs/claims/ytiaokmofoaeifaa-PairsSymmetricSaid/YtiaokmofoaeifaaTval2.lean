/-
  strips.Validate: the fault of a task.
-/
import Derived.Test.YtiaokmofoaeifaaTval
namespace Go.Proofs.Ytiaokmofoaeifaa
open Go.RowKit
set_option linter.unusedVariables false
set_option linter.unusedSimpArgs false

set_option maxRecDepth 100000 in
set_option maxHeartbeats 400000 in
theorem validate_1 (w : World) (t : TaskV) (Ai Ag Ao : Option Addr) (ci cg co : Nat) (hT : TaskMem w Ai Ag Ao t) (h : t.facts < 0) :
    Calls Try.prog 55 #[.agg #[.int .i64 t.facts, .slice Ai t.init.length ci, .slice Ag t.goal.length cg, .slice Ao t.ops.length co]] w fun e w' => e = .returned (.agg #[.int .i64 3, .int .i64 (-1)]) ∧ Below w.heap.size w w' := by
  go_enter Try.func55, Try.ntmps55
  go_wp2
  refine bodyPost_ret (v := .agg #[.int .i64 3, .int .i64 (-1)]) ?_ rfl ⟨rfl, by repeat (first | with_reducible exact Below.refl _ _ | with_reducible apply bdrew | with_reducible apply bdrewN | with_reducible apply balloc | ((with_reducible refine bset ?_ ?_ _); rotate_left; (first | omega | (simp <;> omega))))⟩
  simp [results, Try.results55, go_sem]

set_option maxRecDepth 100000 in
set_option maxHeartbeats 400000 in
theorem validate_2 (w : World) (t : TaskV) (Ai Ag Ao : Option Addr) (ci cg co : Nat) (hT : TaskMem w Ai Ag Ao t) (h : 0 ≤ t.facts) (h2 : 24 < t.facts) :
    Calls Try.prog 55 #[.agg #[.int .i64 t.facts, .slice Ai t.init.length ci, .slice Ag t.goal.length cg, .slice Ao t.ops.length co]] w fun e w' => e = .returned (.agg #[.int .i64 3, .int .i64 (-1)]) ∧ Below w.heap.size w w' := by
  go_enter Try.func55, Try.ntmps55
  go_wp2
  refine bodyPost_ret (v := .agg #[.int .i64 3, .int .i64 (-1)]) ?_ rfl ⟨rfl, by repeat (first | with_reducible exact Below.refl _ _ | with_reducible apply bdrew | with_reducible apply bdrewN | with_reducible apply balloc | ((with_reducible refine bset ?_ ?_ _); rotate_left; (first | omega | (simp <;> omega))))⟩
  simp [results, Try.results55, go_sem]

set_option maxRecDepth 100000 in
set_option maxHeartbeats 400000 in
theorem validate_3 (w : World) (t : TaskV) (Ai Ag Ao : Option Addr) (ci cg co : Nat) (hT : TaskMem w Ai Ag Ao t) (h : 0 ≤ t.facts) (h2 : t.facts ≤ 24) (hinit : ¬ SetP t.init t.facts) :
    Calls Try.prog 55 #[.agg #[.int .i64 t.facts, .slice Ai t.init.length ci, .slice Ag t.goal.length cg, .slice Ao t.ops.length co]] w fun e w' => e = .returned (.agg #[.int .i64 5, .int .i64 (-2)]) ∧ Below w.heap.size w w' := by
  have HINIT := Lib.hid hinit
  clear hinit
  go_enter Try.func55, Try.ntmps55
  go_wp2_with fail
  refine (isset_no _ _ _ _ _ (hT.init.below (by repeat (first | with_reducible exact Below.refl _ _ | with_reducible apply bdrew | with_reducible apply bdrewN | with_reducible apply balloc | ((with_reducible refine bset ?_ ?_ _); rotate_left; (first | omega | (simp <;> omega)))))) hT.linit.le HINIT.out).mono ?_
  rintro e w' ⟨rfl, rfl⟩
  go_wp2
  refine bodyPost_ret (v := .agg #[.int .i64 5, .int .i64 (-2)]) ?_ rfl ⟨rfl, by repeat (first | with_reducible exact Below.refl _ _ | with_reducible apply bdrew | with_reducible apply bdrewN | with_reducible apply balloc | ((with_reducible refine bset ?_ ?_ _); rotate_left; (first | omega | (simp <;> omega))))⟩
  simp [results, Try.results55, go_sem]

set_option maxRecDepth 100000 in
set_option maxHeartbeats 400000 in
theorem validate_4 (w : World) (t : TaskV) (Ai Ag Ao : Option Addr) (ci cg co : Nat) (hT : TaskMem w Ai Ag Ao t) (h : 0 ≤ t.facts) (h2 : t.facts ≤ 24) (hinit : SetP t.init t.facts) (hgoal : ¬ SetP t.goal t.facts) :
    Calls Try.prog 55 #[.agg #[.int .i64 t.facts, .slice Ai t.init.length ci, .slice Ag t.goal.length cg, .slice Ao t.ops.length co]] w fun e w' => e = .returned (.agg #[.int .i64 5, .int .i64 (-3)]) ∧ Below w.heap.size w w' := by
  have HINIT := Lib.hid hinit
  clear hinit
  have HGOAL := Lib.hid hgoal
  clear hgoal
  go_enter Try.func55, Try.ntmps55
  go_wp2_with fail
  refine (isset_yes _ _ _ _ _ (hT.init.below (by repeat (first | with_reducible exact Below.refl _ _ | with_reducible apply bdrew | with_reducible apply bdrewN | with_reducible apply balloc | ((with_reducible refine bset ?_ ?_ _); rotate_left; (first | omega | (simp <;> omega)))))) hT.linit.le HINIT.out).mono ?_
  rintro e w' ⟨rfl, rfl⟩
  go_wp2_with fail
  refine (isset_no _ _ _ _ _ (hT.goal.below (by repeat (first | with_reducible exact Below.refl _ _ | with_reducible apply bdrew | with_reducible apply bdrewN | with_reducible apply balloc | ((with_reducible refine bset ?_ ?_ _); rotate_left; (first | omega | (simp <;> omega)))))) hT.lgoal.le HGOAL.out).mono ?_
  rintro e w' ⟨rfl, rfl⟩
  go_wp2
  refine bodyPost_ret (v := .agg #[.int .i64 5, .int .i64 (-3)]) ?_ rfl ⟨rfl, by repeat (first | with_reducible exact Below.refl _ _ | with_reducible apply bdrew | with_reducible apply bdrewN | with_reducible apply balloc | ((with_reducible refine bset ?_ ?_ _); rotate_left; (first | omega | (simp <;> omega))))⟩
  simp [results, Try.results55, go_sem]

set_option maxRecDepth 100000 in
set_option maxHeartbeats 400000 in
theorem validate_5 (w : World) (t : TaskV) (Ai Ag Ao : Option Addr) (ci cg co : Nat) (hT : TaskMem w Ai Ag Ao t) (h : 0 ≤ t.facts) (h2 : t.facts ≤ 24) (hinit : SetP t.init t.facts) (hgoal : SetP t.goal t.facts) (h3 : 40 < t.ops.length) :
    Calls Try.prog 55 #[.agg #[.int .i64 t.facts, .slice Ai t.init.length ci, .slice Ag t.goal.length cg, .slice Ao t.ops.length co]] w fun e w' => e = .returned (.agg #[.int .i64 2, .int .i64 (-1)]) ∧ Below w.heap.size w w' := by
  have HINIT := Lib.hid hinit
  clear hinit
  have HGOAL := Lib.hid hgoal
  clear hgoal
  go_enter Try.func55, Try.ntmps55
  go_wp2_with fail
  refine (isset_yes _ _ _ _ _ (hT.init.below (by repeat (first | with_reducible exact Below.refl _ _ | with_reducible apply bdrew | with_reducible apply bdrewN | with_reducible apply balloc | ((with_reducible refine bset ?_ ?_ _); rotate_left; (first | omega | (simp <;> omega)))))) hT.linit.le HINIT.out).mono ?_
  rintro e w' ⟨rfl, rfl⟩
  go_wp2_with fail
  refine (isset_yes _ _ _ _ _ (hT.goal.below (by repeat (first | with_reducible exact Below.refl _ _ | with_reducible apply bdrew | with_reducible apply bdrewN | with_reducible apply balloc | ((with_reducible refine bset ?_ ?_ _); rotate_left; (first | omega | (simp <;> omega)))))) hT.lgoal.le HGOAL.out).mono ?_
  rintro e w' ⟨rfl, rfl⟩
  go_wp2
  refine bodyPost_ret (v := .agg #[.int .i64 2, .int .i64 (-1)]) ?_ rfl ⟨rfl, by repeat (first | with_reducible exact Below.refl _ _ | with_reducible apply bdrew | with_reducible apply bdrewN | with_reducible apply balloc | ((with_reducible refine bset ?_ ?_ _); rotate_left; (first | omega | (simp <;> omega))))⟩
  simp [results, Try.results55, go_sem]

set_option maxRecDepth 100000 in
set_option maxRecDepth 100000 in
set_option maxHeartbeats 1000000 in
theorem validate_6 (w : World) (t : TaskV) (Ai Ag Ao : Option Addr) (ci cg co : Nat) (hT : TaskMem w Ai Ag Ao t) (h : 0 ≤ t.facts) (h2 : t.facts ≤ 24) (hinit : SetP t.init t.facts) (hgoal : SetP t.goal t.facts) (h3 : t.ops.length ≤ 40) :
    Calls Try.prog 55 #[.agg #[.int .i64 t.facts, .slice Ai t.init.length ci, .slice Ag t.goal.length cg, .slice Ao t.ops.length co]] w fun e w' => e = .returned (.agg #[.int .i64 (opsFault t.facts t.ops 0).1, .int .i64 (opsFault t.facts t.ops 0).2]) ∧ Below w.heap.size w w' := by
  have HINIT := Lib.hid hinit
  clear hinit
  have HGOAL := Lib.hid hgoal
  clear hgoal
  go_enter Try.func55, Try.ntmps55
  go_wp2_with fail
  refine (isset_yes _ _ _ _ _ (hT.init.below (by repeat (first | with_reducible exact Below.refl _ _ | with_reducible apply bdrew | with_reducible apply bdrewN | with_reducible apply balloc | ((with_reducible refine bset ?_ ?_ _); rotate_left; (first | omega | (simp <;> omega)))))) hT.linit.le HINIT.out).mono ?_
  rintro e w' ⟨rfl, rfl⟩
  go_wp2_with fail
  refine (isset_yes _ _ _ _ _ (hT.goal.below (by repeat (first | with_reducible exact Below.refl _ _ | with_reducible apply bdrew | with_reducible apply bdrewN | with_reducible apply balloc | ((with_reducible refine bset ?_ ?_ _); rotate_left; (first | omega | (simp <;> omega)))))) hT.lgoal.le HGOAL.out).mono ?_
  rintro e w' ⟨rfl, rfl⟩
  go_wp2_with fail
  go_loopw [41] (fun i wr => ∃ k : Nat, k ≤ t.ops.length ∧ i = .int .i64 k ∧ Hid (∀ o ∈ t.ops.take k, opc o t.facts = 0) ∧ Below w.heap.size w wr ∧ Cls wr [(w.heap.size, 0, .int .i64 t.facts), (w.heap.size, 1, .slice Ai t.init.length ci), (w.heap.size, 2, .slice Ag t.goal.length cg), (w.heap.size, 3, .slice Ao t.ops.length co), (w.heap.size + 1, 0, .int .i64 0), (w.heap.size + 1, 1, .int .i64 0)]) (fun i _ => t.ops.length - (intOf i).toNat)
  case atStart => exact ⟨0, Nat.zero_le _, rfl, Lib.hid (by simp), (by repeat (first | with_reducible exact Below.refl _ _ | with_reducible apply bdrew | with_reducible apply bdrewN | with_reducible apply balloc | ((with_reducible refine bset ?_ ?_ _); rotate_left; (first | omega | (simp <;> omega))))), (by simp [Cls, go_sem])⟩
  case round =>
    obtain ⟨k, hk, rfl, hno, hBr, hCr⟩ := hrel
    have drs := hBr.size
    have Fr := hCr
    simp only [Cls, and_true] at Fr
    have yrw1 : w.heap.size + 1 < wr.heap.size := hCr.blk (b := w.heap.size + 1) (k := 0) (v := .int .i64 0) (by simp)
    have yrw0 : w.heap.size < wr.heap.size := (by omega)
    have yrwp1 : w.heap.size < wr.heap.size + 1 := (by omega)
    have yrwp2 : w.heap.size < wr.heap.size + 1 + 1 := (by omega)
    by_cases hlt : k < t.ops.length
    · obtain ⟨ad, o, A0, c0, A1, c1, A2, c2, rfl, ho, hc0, hc1, hc2, hc3, hm⟩ := (hT.ops.below hBr).at_ hlt
      by_cases hz : opc o t.facts = 0
      · have HZ := Lib.hid hz
        clear hz
        go_wp2_with fail
        refine (operator_any _ _ _ _ _ _ _ _ h h2 _ (hm.below ((Below.refl _ _).alloc (Nat.le_refl _) _))).mono ?_
        rintro e w1 ⟨he, hB1⟩
        rw [HZ.out] at he
        subst he
        have D1 := dstep w hB1 (by repeat (first | with_reducible exact hBr | with_reducible apply bdrew | with_reducible apply bdrewN | with_reducible apply balloc | ((with_reducible refine bset ?_ ?_ _); rotate_left; (first | omega | (simp <;> omega)))))
        have d1s := D1.size
        have C1 := Cls.below (l := [(w.heap.size, 0, .int .i64 t.facts), (w.heap.size, 1, .slice Ai t.init.length ci), (w.heap.size, 2, .slice Ag t.goal.length cg), (w.heap.size, 3, .slice (some ad) t.ops.length co), (w.heap.size + 1, 0, .int .i64 0), (w.heap.size + 1, 1, .int .i64 0), (wr.heap.size, 0, .slice A0 o.pre.length c0), (wr.heap.size, 1, .slice A1 o.add.length c1), (wr.heap.size, 2, .slice A2 o.del.length c2), (wr.heap.size, 3, .int .i64 o.cost)]) hB1 (by simp [Cls, go_sem, Fr, yrw1, yrw0, yrwp1, yrwp2])
        have F1 := C1
        simp only [Cls, and_true] at F1
        have y1w1 : w.heap.size + 1 < w1.heap.size := C1.blk (b := w.heap.size + 1) (k := 0) (v := .int .i64 0) (by simp)
        have y1w0 : w.heap.size < w1.heap.size := (by omega)
        have y1wp1 : w.heap.size < w1.heap.size + 1 := (by omega)
        have y1wp2 : w.heap.size < w1.heap.size + 1 + 1 := (by omega)
        have y1wr0 : wr.heap.size < w1.heap.size := C1.blk (b := wr.heap.size) (k := 0) (v := .slice A0 o.pre.length c0) (by simp)
        have y1wrp1 : wr.heap.size < w1.heap.size + 1 := (by omega)
        have y1wrp2 : wr.heap.size < w1.heap.size + 1 + 1 := (by omega)
        go_wp2
        go_roundw
        case rel => exact ⟨k + 1, by omega, by go_num, Lib.hid (forall_take_succ ho.out hno.out HZ.out), (by repeat (first | with_reducible exact D1 | with_reducible apply bdrew | with_reducible apply bdrewN | with_reducible apply balloc | ((with_reducible refine bset ?_ ?_ _); rotate_left; (first | omega | (simp <;> omega))))), (by simp [Cls, go_sem, F1, y1w1, y1w0, y1wp1, y1wp2, y1wr0, y1wrp1, y1wrp2])⟩
        case measure => simp [intOf]; omega
      · have hz' : (opc o t.facts != 0) = true := by simpa using hz
        have e := opsFault_at t.ops 0 k o hno.out ho.out hz
        have HE := Lib.hid e
        clear e
        go_wp2_with fail
        refine (operator_any _ _ _ _ _ _ _ _ h h2 _ (hm.below ((Below.refl _ _).alloc (Nat.le_refl _) _))).mono ?_
        rintro e w1 ⟨rfl, hB1⟩
        have D1 := dstep w hB1 (by repeat (first | with_reducible exact hBr | with_reducible apply bdrew | with_reducible apply bdrewN | with_reducible apply balloc | ((with_reducible refine bset ?_ ?_ _); rotate_left; (first | omega | (simp <;> omega)))))
        have d1s := D1.size
        have C1 := Cls.below (l := [(w.heap.size, 0, .int .i64 t.facts), (w.heap.size, 1, .slice Ai t.init.length ci), (w.heap.size, 2, .slice Ag t.goal.length cg), (w.heap.size, 3, .slice (some ad) t.ops.length co), (w.heap.size + 1, 0, .int .i64 0), (w.heap.size + 1, 1, .int .i64 0), (wr.heap.size, 0, .slice A0 o.pre.length c0), (wr.heap.size, 1, .slice A1 o.add.length c1), (wr.heap.size, 2, .slice A2 o.del.length c2), (wr.heap.size, 3, .int .i64 o.cost)]) hB1 (by simp [Cls, go_sem, Fr, yrw1, yrw0, yrwp1, yrwp2])
        have F1 := C1
        simp only [Cls, and_true] at F1
        have y1w1 : w.heap.size + 1 < w1.heap.size := C1.blk (b := w.heap.size + 1) (k := 0) (v := .int .i64 0) (by simp)
        have y1w0 : w.heap.size < w1.heap.size := (by omega)
        have y1wp1 : w.heap.size < w1.heap.size + 1 := (by omega)
        have y1wp2 : w.heap.size < w1.heap.size + 1 + 1 := (by omega)
        have y1wr0 : wr.heap.size < w1.heap.size := C1.blk (b := wr.heap.size) (k := 0) (v := .slice A0 o.pre.length c0) (by simp)
        have y1wrp1 : wr.heap.size < w1.heap.size + 1 := (by omega)
        have y1wrp2 : wr.heap.size < w1.heap.size + 1 + 1 := (by omega)
        go_wp2
        refine bodyPost_ret (v := .agg #[.int .i64 (opc o t.facts), .int .i64 (k : Int)]) ?_ rfl ⟨by rw [HE.out]; simp, by repeat (first | with_reducible exact D1 | with_reducible apply bdrew | with_reducible apply bdrewN | with_reducible apply balloc | ((with_reducible refine bset ?_ ?_ _); rotate_left; (first | omega | (simp <;> omega))))⟩
        simp [results, Try.results55, go_sem, F1, y1w1, y1w0, y1wp1, y1wp2, y1wr0, y1wrp1, y1wrp2]
    · have e := opsFault_good t.ops 0 (forall_take_all hlt hno.out)
      have HE := Lib.hid e
      clear e
      go_wp2
      refine bodyPost_ret (v := .agg #[.int .i64 0, .int .i64 0]) ?_ rfl ⟨by rw [HE.out], by repeat (first | with_reducible exact hBr | with_reducible apply bdrew | with_reducible apply bdrewN | with_reducible apply balloc | ((with_reducible refine bset ?_ ?_ _); rotate_left; (first | omega | (simp <;> omega))))⟩
      simp [results, Try.results55, go_sem, Fr, yrw1, yrw0, yrwp1, yrwp2]


theorem validate_any (w : World) (t : TaskV) (Ai Ag Ao : Option Addr) (ci cg co : Nat) (hT : TaskMem w Ai Ag Ao t) :
    Calls Try.prog 55 #[.agg #[.int .i64 t.facts, .slice Ai t.init.length ci, .slice Ag t.goal.length cg, .slice Ao t.ops.length co]] w fun e w' => e = .returned (.agg #[.int .i64 (tfault t).1, .int .i64 (tfault t).2]) ∧ Below w.heap.size w w' := by
  by_cases h : t.facts < 0 ∨ 24 < t.facts
  · rw [tfault_1 h]
    by_cases h0 : t.facts < 0
    · exact validate_1 w t Ai Ag Ao ci cg co hT h0
    · exact validate_2 w t Ai Ag Ao ci cg co hT (by omega) (by omega)
  · by_cases h1 : SetP t.init t.facts
    · by_cases h2 : SetP t.goal t.facts
      · by_cases h3 : 40 < t.ops.length
        · rw [tfault_4 h h1 h2 h3]; exact validate_5 w t Ai Ag Ao ci cg co hT (by omega) (by omega) h1 h2 h3
        · rw [tfault_5 h h1 h2 h3]; exact validate_6 w t Ai Ag Ao ci cg co hT (by omega) (by omega) h1 h2 (by omega)
      · rw [tfault_3 h h1 h2]; exact validate_4 w t Ai Ag Ao ci cg co hT (by omega) (by omega) h1 h2
    · rw [tfault_2 h h1]; exact validate_3 w t Ai Ag Ao ci cg co hT (by omega) (by omega) h1

end Go.Proofs.Ytiaokmofoaeifaa
