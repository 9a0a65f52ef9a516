/-
  No state that operators lead to contains both facts of an exclusive pair.
-/
import Derived.Test.YtiaokmofoaeifaaPt6
import Derived.Test.YtiaokmofoaeifaaSt5
import Derived.Test.YtiaokmofoaeifaaBlaw
import Derived.Test.YtiaokmofoaeifaaMA
namespace Go.Proofs.Ytiaokmofoaeifaa
open Go.RowKit
set_option linter.unusedVariables false
set_option linter.unusedSimpArgs false

set_option maxRecDepth 100000 in
set_option maxHeartbeats 1000000 in
theorem walk_pnt_1 (w : World) (t : TaskV) (Ai Ag Ao : Option Addr) (ci cg co : Nat) (hR : TaskRead w Ai Ag Ao ci cg co t) (P : Option Addr) (cp : Nat) (plan : List Int) (hP : Ints w P plan) (hlP : plan.length ≤ 9223372036854775807) (h : ¬ (tfault t).1 = 0) :
    Calls Try.prog 13 #[.agg #[.int .i64 t.facts, .slice Ai t.init.length ci, .slice Ag t.goal.length cg, .slice Ao t.ops.length co], .slice P plan.length cp] w fun e w' => e = .returned (.bool true) ∧ Below w.heap.size w w' := by
  have N := bb_no h
  have N' := bn_yes h
  have hT := hR.mem
  have hli := hT.linit
  go_enter Try.func13, Try.ntmps13
  go_wp2_with fail
  refine (pexample_any _).mono ?_
  rintro e w1 ⟨rfl, hB1⟩
  have D1 := dstep w hB1 (by repeat (first | with_reducible exact Below.refl _ _ | with_reducible apply bdrew | with_reducible apply bdrewN | with_reducible apply balloc | ((with_reducible refine bset ?_ ?_ _); rotate_left; (first | omega | (simp <;> omega)))))
  have d1s := D1.size
  have C1 := Cls.below (l := [(w.heap.size, 0, .int .i64 t.facts), (w.heap.size, 1, .slice Ai t.init.length ci), (w.heap.size, 2, .slice Ag t.goal.length cg), (w.heap.size, 3, .slice Ao t.ops.length co)]) hB1 (by simp [Cls, go_sem])
  have F1 := C1
  simp only [Cls, and_true] at F1
  have y1w0 : w.heap.size < w1.heap.size := C1.blk (b := w.heap.size) (k := 0) (v := .int .i64 t.facts) (by simp)
  have y1wp1 : w.heap.size < w1.heap.size + 1 := (by omega)
  have y1wp2 : w.heap.size < w1.heap.size + 1 + 1 := (by omega)
  go_wp2_with fail
  refine (pexcl_1 _ t Ai Ag Ao ci cg co (hT.below (by repeat (first | with_reducible exact D1 | with_reducible apply bdrew | with_reducible apply bdrewN | with_reducible apply balloc | ((with_reducible refine bset ?_ ?_ _); rotate_left; (first | omega | (simp <;> omega)))))) h).mono ?_
  rintro e w2 ⟨rfl, hB2⟩
  have D2 := dstep w hB2 (by repeat (first | with_reducible exact D1 | with_reducible apply bdrew | with_reducible apply bdrewN | with_reducible apply balloc | ((with_reducible refine bset ?_ ?_ _); rotate_left; (first | omega | (simp <;> omega)))))
  have d2s := D2.size
  have C2 := Cls.below (l := [(w.heap.size, 0, .int .i64 t.facts), (w.heap.size, 1, .slice Ai t.init.length ci), (w.heap.size, 2, .slice Ag t.goal.length cg), (w.heap.size, 3, .slice Ao t.ops.length co)]) hB2 (by simp [Cls, go_sem, F1, y1w0, y1wp1, y1wp2])
  have F2 := C2
  simp only [Cls, and_true] at F2
  have y2w0 : w.heap.size < w2.heap.size := C2.blk (b := w.heap.size) (k := 0) (v := .int .i64 t.facts) (by simp)
  have y2wp1 : w.heap.size < w2.heap.size + 1 := (by omega)
  have y2wp2 : w.heap.size < w2.heap.size + 1 + 1 := (by omega)
  go_wp2_with fail
  refine (play_1 _ t Ai Ag Ao ci cg co (hT.below (by repeat (first | with_reducible exact D2 | with_reducible apply bdrew | with_reducible apply bdrewN | with_reducible apply balloc | ((with_reducible refine bset ?_ ?_ _); rotate_left; (first | omega | (simp <;> omega)))))) _ _ _ (hT.init.below (by repeat (first | with_reducible exact D2 | with_reducible apply bdrew | with_reducible apply bdrewN | with_reducible apply balloc | ((with_reducible refine bset ?_ ?_ _); rotate_left; (first | omega | (simp <;> omega)))))) hli _ _ plan h).mono ?_
  rintro e w3 ⟨rfl, hB3⟩
  have D3 := dstep w hB3 (by repeat (first | with_reducible exact D2 | with_reducible apply bdrew | with_reducible apply bdrewN | with_reducible apply balloc | ((with_reducible refine bset ?_ ?_ _); rotate_left; (first | omega | (simp <;> omega)))))
  have d3s := D3.size
  have C3 := Cls.below (l := [(w.heap.size, 0, .int .i64 t.facts), (w.heap.size, 1, .slice Ai t.init.length ci), (w.heap.size, 2, .slice Ag t.goal.length cg), (w.heap.size, 3, .slice Ao t.ops.length co), (w2.heap.size, 0, .int .i64 (tfault t).1), (w2.heap.size, 1, .int .i64 (tfault t).2)]) hB3 (by simp [Cls, go_sem, F2, y2w0, y2wp1, y2wp2])
  have F3 := C3
  simp only [Cls, and_true] at F3
  have y3w0 : w.heap.size < w3.heap.size := C3.blk (b := w.heap.size) (k := 0) (v := .int .i64 t.facts) (by simp)
  have y3wp1 : w.heap.size < w3.heap.size + 1 := (by omega)
  have y3wp2 : w.heap.size < w3.heap.size + 1 + 1 := (by omega)
  have y3w20 : w2.heap.size < w3.heap.size := C3.blk (b := w2.heap.size) (k := 0) (v := .int .i64 (tfault t).1) (by simp)
  have y3w2p1 : w2.heap.size < w3.heap.size + 1 := (by omega)
  have y3w2p2 : w2.heap.size < w3.heap.size + 1 + 1 := (by omega)
  go_wp2
  go_ret
  exact ⟨by simp, by repeat (first | with_reducible exact D3 | with_reducible apply bdrew | with_reducible apply bdrewN | with_reducible apply balloc | ((with_reducible refine bset ?_ ?_ _); rotate_left; (first | omega | (simp <;> omega))))⟩

set_option maxRecDepth 100000 in
set_option maxHeartbeats 1000000 in
theorem walk_pnt_2 (w : World) (t : TaskV) (Ai Ag Ao : Option Addr) (ci cg co : Nat) (hR : TaskRead w Ai Ag Ao ci cg co t) (P : Option Addr) (cp : Nat) (plan : List Int) (hP : Ints w P plan) (hlP : plan.length ≤ 9223372036854775807) (n : Nat) (hn : t.facts = n) (hv : Valid t) (hs : ¬ StepsOk t.ops.length plan) :
    Calls Try.prog 13 #[.agg #[.int .i64 t.facts, .slice Ai t.init.length ci, .slice Ag t.goal.length cg, .slice Ao t.ops.length co], .slice P plan.length cp] w fun e w' => e = .returned (.bool true) ∧ Below w.heap.size w w' := by
  have hT := hR.mem
  have hn24 : n ≤ 24 := by have := hv.f1; omega
  have HN := Lib.hid hn
  have HV := Lib.hid hv
  have HST := Lib.hid hv.init
  have N := bb_no (stepsF_ne plan)
  have N' := bn_yes (stepsF_ne plan)
  have HNS := Lib.hid hs
  clear hv hn hs
  go_enter Try.func13, Try.ntmps13
  go_wp2_with fail
  refine (pexample_any _).mono ?_
  rintro e w1 ⟨rfl, hB1⟩
  have D1 := dstep w hB1 (by repeat (first | with_reducible exact Below.refl _ _ | with_reducible apply bdrew | with_reducible apply bdrewN | with_reducible apply balloc | ((with_reducible refine bset ?_ ?_ _); rotate_left; (first | omega | (simp <;> omega)))))
  have d1s := D1.size
  have C1 := Cls.below (l := [(w.heap.size, 0, .int .i64 t.facts), (w.heap.size, 1, .slice Ai t.init.length ci), (w.heap.size, 2, .slice Ag t.goal.length cg), (w.heap.size, 3, .slice Ao t.ops.length co)]) hB1 (by simp [Cls, go_sem])
  have F1 := C1
  simp only [Cls, and_true] at F1
  have y1w0 : w.heap.size < w1.heap.size := C1.blk (b := w.heap.size) (k := 0) (v := .int .i64 t.facts) (by simp)
  have y1wp1 : w.heap.size < w1.heap.size + 1 := (by omega)
  have y1wp2 : w.heap.size < w1.heap.size + 1 + 1 := (by omega)
  go_wp2_with fail
  refine (pexcl_2 _ t Ai Ag Ao ci cg co (hT.below (by repeat (first | with_reducible exact D1 | with_reducible apply bdrew | with_reducible apply bdrewN | with_reducible apply balloc | ((with_reducible refine bset ?_ ?_ _); rotate_left; (first | omega | (simp <;> omega)))))) (hR.ops.below (by repeat (first | with_reducible exact D1 | with_reducible apply bdrew | with_reducible apply bdrewN | with_reducible apply balloc | ((with_reducible refine bset ?_ ?_ _); rotate_left; (first | omega | (simp <;> omega)))))) n HN.out HV.out).mono ?_
  rintro e w2 ⟨v2, V, rfl, ⟨bX, hbX, ho2⟩, hbest, hB2⟩
  have D2 := dstep w hB2 (by repeat (first | with_reducible exact D1 | with_reducible apply bdrew | with_reducible apply bdrewN | with_reducible apply balloc | ((with_reducible refine bset ?_ ?_ _); rotate_left; (first | omega | (simp <;> omega)))))
  have d2s := D2.size
  have C2 := Cls.below (l := [(w.heap.size, 0, .int .i64 t.facts), (w.heap.size, 1, .slice Ai t.init.length ci), (w.heap.size, 2, .slice Ag t.goal.length cg), (w.heap.size, 3, .slice Ao t.ops.length co)]) hB2 (by simp [Cls, go_sem, F1, y1w0, y1wp1, y1wp2])
  have F2 := C2
  simp only [Cls, and_true] at F2
  have y2w0 : w.heap.size < w2.heap.size := C2.blk (b := w.heap.size) (k := 0) (v := .int .i64 t.facts) (by simp)
  have y2wp1 : w.heap.size < w2.heap.size + 1 := (by omega)
  have y2wp2 : w.heap.size < w2.heap.size + 1 + 1 := (by omega)
  go_wp2_with fail
  refine (play_2 _ t Ai Ag Ao ci cg co (hT.below (by repeat (first | with_reducible exact D2 | with_reducible apply bdrew | with_reducible apply bdrewN | with_reducible apply balloc | ((with_reducible refine bset ?_ ?_ _); rotate_left; (first | omega | (simp <;> omega)))))) _ _ _ (hT.init.below (by repeat (first | with_reducible exact D2 | with_reducible apply bdrew | with_reducible apply bdrewN | with_reducible apply balloc | ((with_reducible refine bset ?_ ?_ _); rotate_left; (first | omega | (simp <;> omega)))))) HST.out _ _ _ (hP.below (by repeat (first | with_reducible exact D2 | with_reducible apply bdrew | with_reducible apply bdrewN | with_reducible apply balloc | ((with_reducible refine bset ?_ ?_ _); rotate_left; (first | omega | (simp <;> omega)))))) hlP HV.out HNS.out).mono ?_
  rintro e w3 ⟨rfl, hB3⟩
  have D3 := dstep w hB3 (by repeat (first | with_reducible exact D2 | with_reducible apply bdrew | with_reducible apply bdrewN | with_reducible apply balloc | ((with_reducible refine bset ?_ ?_ _); rotate_left; (first | omega | (simp <;> omega)))))
  have d3s := D3.size
  have C3 := Cls.below (l := [(w.heap.size, 0, .int .i64 t.facts), (w.heap.size, 1, .slice Ai t.init.length ci), (w.heap.size, 2, .slice Ag t.goal.length cg), (w.heap.size, 3, .slice Ao t.ops.length co), (w2.heap.size, 0, .int .i64 0), (w2.heap.size, 1, .int .i64 0)]) hB3 (by simp [Cls, go_sem, F2, y2w0, y2wp1, y2wp2])
  have F3 := C3
  simp only [Cls, and_true] at F3
  have y3w0 : w.heap.size < w3.heap.size := C3.blk (b := w.heap.size) (k := 0) (v := .int .i64 t.facts) (by simp)
  have y3wp1 : w.heap.size < w3.heap.size + 1 := (by omega)
  have y3wp2 : w.heap.size < w3.heap.size + 1 + 1 := (by omega)
  have y3w20 : w2.heap.size < w3.heap.size := C3.blk (b := w2.heap.size) (k := 0) (v := .int .i64 0) (by simp)
  have y3w2p1 : w2.heap.size < w3.heap.size + 1 := (by omega)
  have y3w2p2 : w2.heap.size < w3.heap.size + 1 + 1 := (by omega)
  go_wp2
  go_ret
  exact ⟨by simp, by repeat (first | with_reducible exact D3 | with_reducible apply bdrew | with_reducible apply bdrewN | with_reducible apply balloc | ((with_reducible refine bset ?_ ?_ _); rotate_left; (first | omega | (simp <;> omega))))⟩

set_option maxRecDepth 100000 in
set_option maxHeartbeats 1000000 in
theorem walk_pnt_3 (w : World) (t : TaskV) (Ai Ag Ao : Option Addr) (ci cg co : Nat) (hR : TaskRead w Ai Ag Ao ci cg co t) (P : Option Addr) (cp : Nat) (plan : List Int) (hP : Ints w P plan) (hlP : plan.length ≤ 9223372036854775807) (n : Nat) (hn : t.facts = n) (hv : Valid t) (hok : StepsOk t.ops.length plan) (hsh : (runV n t.ops t.init plan).length ≤ plan.length) :
    Calls Try.prog 13 #[.agg #[.int .i64 t.facts, .slice Ai t.init.length ci, .slice Ag t.goal.length cg, .slice Ao t.ops.length co], .slice P plan.length cp] w fun e w' => e = .returned (.bool true) ∧ Below w.heap.size w w' := by
  have hT := hR.mem
  have hn24 : n ≤ 24 := by have := hv.f1; omega
  have HN := Lib.hid hn
  have HV := Lib.hid hv
  have HST := Lib.hid hv.init
  have HOK := Lib.hid hok
  have HX := Lib.hid hsh
  clear hv hn hok hsh
  go_enter Try.func13, Try.ntmps13
  go_wp2_with fail
  refine (pexample_any _).mono ?_
  rintro e w1 ⟨rfl, hB1⟩
  have D1 := dstep w hB1 (by repeat (first | with_reducible exact Below.refl _ _ | with_reducible apply bdrew | with_reducible apply bdrewN | with_reducible apply balloc | ((with_reducible refine bset ?_ ?_ _); rotate_left; (first | omega | (simp <;> omega)))))
  have d1s := D1.size
  have C1 := Cls.below (l := [(w.heap.size, 0, .int .i64 t.facts), (w.heap.size, 1, .slice Ai t.init.length ci), (w.heap.size, 2, .slice Ag t.goal.length cg), (w.heap.size, 3, .slice Ao t.ops.length co)]) hB1 (by simp [Cls, go_sem])
  have F1 := C1
  simp only [Cls, and_true] at F1
  have y1w0 : w.heap.size < w1.heap.size := C1.blk (b := w.heap.size) (k := 0) (v := .int .i64 t.facts) (by simp)
  have y1wp1 : w.heap.size < w1.heap.size + 1 := (by omega)
  have y1wp2 : w.heap.size < w1.heap.size + 1 + 1 := (by omega)
  go_wp2_with fail
  refine (pexcl_2 _ t Ai Ag Ao ci cg co (hT.below (by repeat (first | with_reducible exact D1 | with_reducible apply bdrew | with_reducible apply bdrewN | with_reducible apply balloc | ((with_reducible refine bset ?_ ?_ _); rotate_left; (first | omega | (simp <;> omega)))))) (hR.ops.below (by repeat (first | with_reducible exact D1 | with_reducible apply bdrew | with_reducible apply bdrewN | with_reducible apply balloc | ((with_reducible refine bset ?_ ?_ _); rotate_left; (first | omega | (simp <;> omega)))))) n HN.out HV.out).mono ?_
  rintro e w2 ⟨v2, V, rfl, ⟨bX, hbX, ho2⟩, hbest, hB2⟩
  have D2 := dstep w hB2 (by repeat (first | with_reducible exact D1 | with_reducible apply bdrew | with_reducible apply bdrewN | with_reducible apply balloc | ((with_reducible refine bset ?_ ?_ _); rotate_left; (first | omega | (simp <;> omega)))))
  have d2s := D2.size
  have C2 := Cls.below (l := [(w.heap.size, 0, .int .i64 t.facts), (w.heap.size, 1, .slice Ai t.init.length ci), (w.heap.size, 2, .slice Ag t.goal.length cg), (w.heap.size, 3, .slice Ao t.ops.length co)]) hB2 (by simp [Cls, go_sem, F1, y1w0, y1wp1, y1wp2])
  have F2 := C2
  simp only [Cls, and_true] at F2
  have y2w0 : w.heap.size < w2.heap.size := C2.blk (b := w.heap.size) (k := 0) (v := .int .i64 t.facts) (by simp)
  have y2wp1 : w.heap.size < w2.heap.size + 1 := (by omega)
  have y2wp2 : w.heap.size < w2.heap.size + 1 + 1 := (by omega)
  go_wp2_with fail
  refine (play_3 _ t Ai Ag Ao ci cg co (hT.below (by repeat (first | with_reducible exact D2 | with_reducible apply bdrew | with_reducible apply bdrewN | with_reducible apply balloc | ((with_reducible refine bset ?_ ?_ _); rotate_left; (first | omega | (simp <;> omega)))))) (hR.ops.below (by repeat (first | with_reducible exact D2 | with_reducible apply bdrew | with_reducible apply bdrewN | with_reducible apply balloc | ((with_reducible refine bset ?_ ?_ _); rotate_left; (first | omega | (simp <;> omega)))))) _ _ _ (hT.init.below (by repeat (first | with_reducible exact D2 | with_reducible apply bdrew | with_reducible apply bdrewN | with_reducible apply balloc | ((with_reducible refine bset ?_ ?_ _); rotate_left; (first | omega | (simp <;> omega)))))) HST.out _ _ _ (hP.below (by repeat (first | with_reducible exact D2 | with_reducible apply bdrew | with_reducible apply bdrewN | with_reducible apply balloc | ((with_reducible refine bset ?_ ?_ _); rotate_left; (first | omega | (simp <;> omega)))))) n HN.out HV.out HOK.out HX.out).mono ?_
  rintro e w3 ⟨rfl, hB3⟩
  have D3 := dstep w hB3 (by repeat (first | with_reducible exact D2 | with_reducible apply bdrew | with_reducible apply bdrewN | with_reducible apply balloc | ((with_reducible refine bset ?_ ?_ _); rotate_left; (first | omega | (simp <;> omega)))))
  have d3s := D3.size
  have C3 := Cls.below (l := [(w.heap.size, 0, .int .i64 t.facts), (w.heap.size, 1, .slice Ai t.init.length ci), (w.heap.size, 2, .slice Ag t.goal.length cg), (w.heap.size, 3, .slice Ao t.ops.length co), (w2.heap.size, 0, .int .i64 0), (w2.heap.size, 1, .int .i64 0)]) hB3 (by simp [Cls, go_sem, F2, y2w0, y2wp1, y2wp2])
  have F3 := C3
  simp only [Cls, and_true] at F3
  have y3w0 : w.heap.size < w3.heap.size := C3.blk (b := w.heap.size) (k := 0) (v := .int .i64 t.facts) (by simp)
  have y3wp1 : w.heap.size < w3.heap.size + 1 := (by omega)
  have y3wp2 : w.heap.size < w3.heap.size + 1 + 1 := (by omega)
  have y3w20 : w2.heap.size < w3.heap.size := C3.blk (b := w2.heap.size) (k := 0) (v := .int .i64 0) (by simp)
  have y3w2p1 : w2.heap.size < w3.heap.size + 1 := (by omega)
  have y3w2p2 : w2.heap.size < w3.heap.size + 1 + 1 := (by omega)
  go_wp2
  go_ret
  exact ⟨by simp, by repeat (first | with_reducible exact D3 | with_reducible apply bdrew | with_reducible apply bdrewN | with_reducible apply balloc | ((with_reducible refine bset ?_ ?_ _); rotate_left; (first | omega | (simp <;> omega))))⟩

set_option maxRecDepth 100000 in
set_option maxHeartbeats 4000000 in
theorem walk_pnt_4 (w : World) (t : TaskV) (Ai Ag Ao : Option Addr) (ci cg co : Nat) (hR : TaskRead w Ai Ag Ao ci cg co t) (P : Option Addr) (cp : Nat) (plan : List Int) (hP : Ints w P plan) (hlP : plan.length ≤ 9223372036854775807) (n : Nat) (hn : t.facts = n) (hv : Valid t) (hok : StepsOk t.ops.length plan) (hful : (runV n t.ops t.init plan).length = plan.length + 1) :
    Calls Try.prog 13 #[.agg #[.int .i64 t.facts, .slice Ai t.init.length ci, .slice Ag t.goal.length cg, .slice Ao t.ops.length co], .slice P plan.length cp] w fun e w' => e = .returned (.bool true) ∧ Below w.heap.size w w' := by
  have hT := hR.mem
  have hn24 : n ≤ 24 := by have := hv.f1; omega
  have HN := Lib.hid hn
  have HV := Lib.hid hv
  have HST := Lib.hid hv.init
  have HO := Lib.hid (opsIn_of hv hn)
  have HIN := Lib.hid (show ∀ q ∈ t.init, Rng n q by have := hv.init.1; rw [hn] at this; exact this)
  have HOK := Lib.hid hok
  have HX := Lib.hid hful
  have hl60 := hok.1
  clear hv hn hok hful
  go_enter Try.func13, Try.ntmps13
  go_wp2_with fail
  refine (pexample_any _).mono ?_
  rintro e w1 ⟨rfl, hB1⟩
  have D1 := dstep w hB1 (by repeat (first | with_reducible exact Below.refl _ _ | with_reducible apply bdrew | with_reducible apply bdrewN | with_reducible apply balloc | ((with_reducible refine bset ?_ ?_ _); rotate_left; (first | omega | (simp <;> omega)))))
  have d1s := D1.size
  have C1 := Cls.below (l := [(w.heap.size, 0, .int .i64 t.facts), (w.heap.size, 1, .slice Ai t.init.length ci), (w.heap.size, 2, .slice Ag t.goal.length cg), (w.heap.size, 3, .slice Ao t.ops.length co)]) hB1 (by simp [Cls, go_sem])
  have F1 := C1
  simp only [Cls, and_true] at F1
  have y1w0 : w.heap.size < w1.heap.size := C1.blk (b := w.heap.size) (k := 0) (v := .int .i64 t.facts) (by simp)
  have y1wp1 : w.heap.size < w1.heap.size + 1 := (by omega)
  have y1wp2 : w.heap.size < w1.heap.size + 1 + 1 := (by omega)
  go_wp2_with fail
  refine (pexcl_2 _ t Ai Ag Ao ci cg co (hT.below (by repeat (first | with_reducible exact D1 | with_reducible apply bdrew | with_reducible apply bdrewN | with_reducible apply balloc | ((with_reducible refine bset ?_ ?_ _); rotate_left; (first | omega | (simp <;> omega)))))) (hR.ops.below (by repeat (first | with_reducible exact D1 | with_reducible apply bdrew | with_reducible apply bdrewN | with_reducible apply balloc | ((with_reducible refine bset ?_ ?_ _); rotate_left; (first | omega | (simp <;> omega)))))) n HN.out HV.out).mono ?_
  rintro e w2 ⟨v2, V, rfl, ⟨bX, hbX, ho2⟩, hbest, hB2⟩
  have D2 := dstep w hB2 (by repeat (first | with_reducible exact D1 | with_reducible apply bdrew | with_reducible apply bdrewN | with_reducible apply balloc | ((with_reducible refine bset ?_ ?_ _); rotate_left; (first | omega | (simp <;> omega)))))
  have d2s := D2.size
  have C2 := Cls.below (l := [(w.heap.size, 0, .int .i64 t.facts), (w.heap.size, 1, .slice Ai t.init.length ci), (w.heap.size, 2, .slice Ag t.goal.length cg), (w.heap.size, 3, .slice Ao t.ops.length co)]) hB2 (by simp [Cls, go_sem, F1, y1w0, y1wp1, y1wp2])
  have F2 := C2
  simp only [Cls, and_true] at F2
  have y2w0 : w.heap.size < w2.heap.size := C2.blk (b := w.heap.size) (k := 0) (v := .int .i64 t.facts) (by simp)
  have y2wp1 : w.heap.size < w2.heap.size + 1 := (by omega)
  have y2wp2 : w.heap.size < w2.heap.size + 1 + 1 := (by omega)
  have HBE := Lib.hid hbest
  clear hbest
  obtain ⟨ps, hps⟩ : ∃ ps, Hid (exTo n V n = ps) := ⟨_, Lib.hid rfl⟩
  have hpl : ps.length ≤ 1000000 := by
    have h1 := exTo_len n V n
    have h2 := Nat.mul_le_mul hn24 hn24
    rw [hps.out] at h1; omega
  rw [hps.out] at ho2
  obtain ⟨A2, c2, rfl⟩ := OwnEs.form ho2
  go_wp2_with fail
  refine (play_4 _ t Ai Ag Ao ci cg co (hT.below (by repeat (first | with_reducible exact D2 | with_reducible apply bdrew | with_reducible apply bdrewN | with_reducible apply balloc | ((with_reducible refine bset ?_ ?_ _); rotate_left; (first | omega | (simp <;> omega)))))) (hR.ops.below (by repeat (first | with_reducible exact D2 | with_reducible apply bdrew | with_reducible apply bdrewN | with_reducible apply balloc | ((with_reducible refine bset ?_ ?_ _); rotate_left; (first | omega | (simp <;> omega)))))) _ _ _ (hT.init.below (by repeat (first | with_reducible exact D2 | with_reducible apply bdrew | with_reducible apply bdrewN | with_reducible apply balloc | ((with_reducible refine bset ?_ ?_ _); rotate_left; (first | omega | (simp <;> omega)))))) HST.out _ _ _ (hP.below (by repeat (first | with_reducible exact D2 | with_reducible apply bdrew | with_reducible apply bdrewN | with_reducible apply balloc | ((with_reducible refine bset ?_ ?_ _); rotate_left; (first | omega | (simp <;> omega)))))) n HN.out HV.out HOK.out HX.out).mono ?_
  rintro e w3 ⟨v3, rfl, ⟨bR, hbR, ho3⟩, hB3⟩
  have D3 := dstep w hB3 (by repeat (first | with_reducible exact D2 | with_reducible apply bdrew | with_reducible apply bdrewN | with_reducible apply balloc | ((with_reducible refine bset ?_ ?_ _); rotate_left; (first | omega | (simp <;> omega)))))
  have d3s := D3.size
  have Ew2_3 := dstep w2 hB3 (by repeat (first | with_reducible exact Below.refl _ _ | with_reducible apply bdrew | with_reducible apply bdrewN | with_reducible apply balloc | ((with_reducible refine bset ?_ ?_ _); rotate_left; (first | omega | (simp <;> omega)))))
  have C3 := Cls.below (l := [(w.heap.size, 0, .int .i64 t.facts), (w.heap.size, 1, .slice Ai t.init.length ci), (w.heap.size, 2, .slice Ag t.goal.length cg), (w.heap.size, 3, .slice Ao t.ops.length co), (w2.heap.size, 0, .int .i64 0), (w2.heap.size, 1, .int .i64 0)]) hB3 (by simp [Cls, go_sem, F2, y2w0, y2wp1, y2wp2])
  have F3 := C3
  simp only [Cls, and_true] at F3
  have y3w0 : w.heap.size < w3.heap.size := C3.blk (b := w.heap.size) (k := 0) (v := .int .i64 t.facts) (by simp)
  have y3wp1 : w.heap.size < w3.heap.size + 1 := (by omega)
  have y3wp2 : w.heap.size < w3.heap.size + 1 + 1 := (by omega)
  have y3w20 : w2.heap.size < w3.heap.size := C3.blk (b := w2.heap.size) (k := 0) (v := .int .i64 0) (by simp)
  have y3w2p1 : w2.heap.size < w3.heap.size + 1 := (by omega)
  have y3w2p2 : w2.heap.size < w3.heap.size + 1 + 1 := (by omega)
  obtain ⟨rows, hrows⟩ : ∃ rows, Hid (runV n t.ops t.init plan = rows) := ⟨_, Lib.hid rfl⟩
  have hrl : rows.length ≤ 1000000 := by
    have h1 := runV_len (n := n) (ops := t.ops) plan t.init
    rw [hrows.out] at h1; omega
  rw [hrows.out] at ho3
  obtain ⟨A3, c3, rfl⟩ := OwnEs.form ho3
  have ho23 := OwnPP.below ho2 (by repeat (first | with_reducible exact Ew2_3 | with_reducible apply bdrew | with_reducible apply bdrewN | with_reducible apply balloc | ((with_reducible refine bset ?_ ?_ _); rotate_left; (first | omega | (simp <;> omega)))))
  go_wp2_with fail
  go_loopw [9] (fun i wr => ∃ k : Nat, k ≤ ps.length ∧ i = .int .i64 k ∧ Below w3.heap.size w3 wr ∧ Cls wr [(w.heap.size, 0, .int .i64 t.facts), (w.heap.size, 1, .slice Ai t.init.length ci), (w.heap.size, 2, .slice Ag t.goal.length cg), (w.heap.size, 3, .slice Ao t.ops.length co), (w2.heap.size, 0, .int .i64 0), (w2.heap.size, 1, .int .i64 0), (w3.heap.size, 0, .int .i64 0), (w3.heap.size, 1, .int .i64 0)]) (fun i _ => ps.length - (intOf i).toNat)
  case atStart => exact ⟨0, Nat.zero_le _, rfl, (by repeat (first | with_reducible exact Below.refl _ _ | with_reducible apply bdrew | with_reducible apply bdrewN | with_reducible apply balloc | ((with_reducible refine bset ?_ ?_ _); rotate_left; (first | omega | (simp <;> omega))))), (by simp [Cls, go_sem, F3, y3w0, y3wp1, y3wp2, y3w20, y3w2p1, y3w2p2])⟩
  case round =>
    obtain ⟨k, hk, rfl, hBr, hCr⟩ := hrel
    obtain ⟨w4, rfl⟩ : ∃ wo : World, wo = wr := ⟨_, rfl⟩
    have drs := hBr.size
    have Fr := hCr
    simp only [Cls, and_true] at Fr
    have yrw0 : w.heap.size < w4.heap.size := hCr.blk (b := w.heap.size) (k := 0) (v := .int .i64 t.facts) (by simp)
    have yrwp1 : w.heap.size < w4.heap.size + 1 := (by omega)
    have yrwp2 : w.heap.size < w4.heap.size + 1 + 1 := (by omega)
    have yrw20 : w2.heap.size < w4.heap.size := hCr.blk (b := w2.heap.size) (k := 0) (v := .int .i64 0) (by simp)
    have yrw2p1 : w2.heap.size < w4.heap.size + 1 := (by omega)
    have yrw2p2 : w2.heap.size < w4.heap.size + 1 + 1 := (by omega)
    have yrw30 : w3.heap.size < w4.heap.size := hCr.blk (b := w3.heap.size) (k := 0) (v := .int .i64 0) (by simp)
    have yrw3p1 : w3.heap.size < w4.heap.size + 1 := (by omega)
    have yrw3p2 : w3.heap.size < w4.heap.size + 1 + 1 := (by omega)
    by_cases hlt : k < ps.length
    · go_wp2_with fail
      go_loopw [10] (fun i wr => ∃ j : Nat, j ≤ rows.length ∧ i = .int .i64 j ∧ Below w3.heap.size w3 wr ∧ Cls wr [(w.heap.size, 0, .int .i64 t.facts), (w.heap.size, 1, .slice Ai t.init.length ci), (w.heap.size, 2, .slice Ag t.goal.length cg), (w.heap.size, 3, .slice Ao t.ops.length co), (w2.heap.size, 0, .int .i64 0), (w2.heap.size, 1, .int .i64 0), (w3.heap.size, 0, .int .i64 0), (w3.heap.size, 1, .int .i64 0)]) (fun i _ => rows.length - (intOf i).toNat)
      case atStart => exact ⟨0, Nat.zero_le _, rfl, (by repeat (first | with_reducible exact hBr | with_reducible apply bdrew | with_reducible apply bdrewN | with_reducible apply balloc | ((with_reducible refine bset ?_ ?_ _); rotate_left; (first | omega | (simp <;> omega))))), (Cls.below (w := w4) (by repeat (first | with_reducible exact Below.refl _ _ | with_reducible apply bdrew | with_reducible apply bdrewN | with_reducible apply balloc | ((with_reducible refine bset ?_ ?_ _); rotate_left; (first | omega | (simp <;> omega))))) hCr)⟩
      case round =>
        obtain ⟨j, hj, rfl, hBs, hCs⟩ := hrel
        obtain ⟨w5, rfl⟩ : ∃ wo : World, wo = wr := ⟨_, rfl⟩
        have dss := hBs.size
        have Fs := hCs
        simp only [Cls, and_true] at Fs
        have ysw0 : w.heap.size < w5.heap.size := hCs.blk (b := w.heap.size) (k := 0) (v := .int .i64 t.facts) (by simp)
        have yswp1 : w.heap.size < w5.heap.size + 1 := (by omega)
        have yswp2 : w.heap.size < w5.heap.size + 1 + 1 := (by omega)
        have ysw20 : w2.heap.size < w5.heap.size := hCs.blk (b := w2.heap.size) (k := 0) (v := .int .i64 0) (by simp)
        have ysw2p1 : w2.heap.size < w5.heap.size + 1 := (by omega)
        have ysw2p2 : w2.heap.size < w5.heap.size + 1 + 1 := (by omega)
        have ysw30 : w3.heap.size < w5.heap.size := hCs.blk (b := w3.heap.size) (k := 0) (v := .int .i64 0) (by simp)
        have ysw3p1 : w3.heap.size < w5.heap.size + 1 := (by omega)
        have ysw3p2 : w3.heap.size < w5.heap.size + 1 + 1 := (by omega)
        by_cases hjl : j < rows.length
        · obtain ⟨g, cs1, pq, rfl, _, _, hpq, _, hc, hpp⟩ := OwnEs.at_ (OwnPP.below ho23 hBs) (i := k) hlt
          obtain ⟨g', cs2, r, rfl, _, _, hr, _, hc', A', c', rfl, hJ, hJn, hJ1, hJ2, hJ3⟩ := OwnEs.at_ (OwnLL.below ho3 hBs) (i := j) hjl
          obtain ⟨x, y⟩ := pq
          subst hpp
          have z0 := hc 0 _ rfl
          have z1 := hc 1 _ rfl
          have z2 := hc' 0 _ rfl
          simp only [Nat.add_zero, Nat.mul_one] at z0 z2
          have hrl2 : r.length ≤ 9223372036854775807 := by omega
          have HBOTH := Lib.hid (show ¬ (x ∈ r ∧ y ∈ r) from fun hm => by
            obtain ⟨p, q, h1, h2, h3, h4⟩ := exTo_mem.1 (by rw [hps.out]; exact List.mem_of_getElem? hpq.out)
            injection h4 with e1 e2
            subst e1; subst e2
            have := HBE.out.together HO.out HIN.out (plan := plan) j r (by rw [hrows.out]; exact hr.out) _ hm.1 _ hm.2
            omega)
          clear hc hc' hpq hr hJn hJ1 hJ2 hJ3
          by_cases hx : x ∈ r
          · have HX1 := Lib.hid hx
            have HY1 := Lib.hid (show ¬ y ∈ r from fun h => HBOTH.out ⟨hx, h⟩)
            clear hx
            go_wp2_with fail
            go_quiet (first | (with_reducible show Calls _ _ #[_, .int .i64 x] _ _; exact Calls.quiet_of_same ((has_yes _ _ _ x _ (hJ.below (by repeat (first | with_reducible exact Below.refl _ _ | with_reducible apply bdrew | with_reducible apply bdrewN | with_reducible apply balloc | ((with_reducible refine bset ?_ ?_ _); rotate_left; (first | omega | (simp <;> omega)))))) hrl2 HX1.out).mono fun _ _ h => ⟨h.1, h.2.symm⟩)) | (with_reducible show Calls _ _ #[_, .int .i64 y] _ _; exact Calls.quiet_of_same ((has_no _ _ _ y _ (hJ.below (by repeat (first | with_reducible exact Below.refl _ _ | with_reducible apply bdrew | with_reducible apply bdrewN | with_reducible apply balloc | ((with_reducible refine bset ?_ ?_ _); rotate_left; (first | omega | (simp <;> omega)))))) hrl2 HY1.out).mono fun _ _ h => ⟨h.1, h.2.symm⟩)))
            go_wp2
            go_roundw
            case rel => exact ⟨j + 1, by omega, by go_num, (by repeat (first | with_reducible exact hBs | with_reducible apply bdrew | with_reducible apply bdrewN | with_reducible apply balloc | ((with_reducible refine bset ?_ ?_ _); rotate_left; (first | omega | (simp <;> omega))))), (Cls.below (w := w5) (by repeat (first | with_reducible exact Below.refl _ _ | with_reducible apply bdrew | with_reducible apply bdrewN | with_reducible apply balloc | ((with_reducible refine bset ?_ ?_ _); rotate_left; (first | omega | (simp <;> omega))))) hCs)⟩
            case measure => simp [intOf]; omega
          · have HX1 := Lib.hid hx
            clear hx
            go_wp2_with fail
            go_quiet (((with_reducible show Calls _ _ #[_, .int .i64 x] _ _; exact Calls.quiet_of_same ((has_no _ _ _ x _ (hJ.below (by repeat (first | with_reducible exact Below.refl _ _ | with_reducible apply bdrew | with_reducible apply bdrewN | with_reducible apply balloc | ((with_reducible refine bset ?_ ?_ _); rotate_left; (first | omega | (simp <;> omega)))))) hrl2 HX1.out).mono fun _ _ h => ⟨h.1, h.2.symm⟩))))
            go_wp2
            go_roundw
            case rel => exact ⟨j + 1, by omega, by go_num, (by repeat (first | with_reducible exact hBs | with_reducible apply bdrew | with_reducible apply bdrewN | with_reducible apply balloc | ((with_reducible refine bset ?_ ?_ _); rotate_left; (first | omega | (simp <;> omega))))), (Cls.below (w := w5) (by repeat (first | with_reducible exact Below.refl _ _ | with_reducible apply bdrew | with_reducible apply bdrewN | with_reducible apply balloc | ((with_reducible refine bset ?_ ?_ _); rotate_left; (first | omega | (simp <;> omega))))) hCs)⟩
            case measure => simp [intOf]; omega
        · go_wp2
          go_roundw
          case rel => exact ⟨k + 1, by omega, by go_num, (by repeat (first | with_reducible exact hBs | with_reducible apply bdrew | with_reducible apply bdrewN | with_reducible apply balloc | ((with_reducible refine bset ?_ ?_ _); rotate_left; (first | omega | (simp <;> omega))))), (Cls.below (w := w5) (by repeat (first | with_reducible exact Below.refl _ _ | with_reducible apply bdrew | with_reducible apply bdrewN | with_reducible apply balloc | ((with_reducible refine bset ?_ ?_ _); rotate_left; (first | omega | (simp <;> omega))))) hCs)⟩
          case measure => simp [intOf]; omega
    · have DR := D3.trans (hBr.mono D3.size)
      go_wp2
      go_ret
      exact ⟨rfl, by repeat (first | with_reducible exact DR | with_reducible apply bdrew | with_reducible apply bdrewN | with_reducible apply balloc | ((with_reducible refine bset ?_ ?_ _); rotate_left; (first | omega | (simp <;> omega))))⟩

theorem walk_pnt (w : World) (t : TaskV) (Ai Ag Ao : Option Addr) (ci cg co : Nat) (hR : TaskRead w Ai Ag Ao ci cg co t) (P : Option Addr) (cp : Nat) (plan : List Int) (hP : Ints w P plan) (hlP : plan.length ≤ 9223372036854775807) :
    Calls Try.prog 13 #[.agg #[.int .i64 t.facts, .slice Ai t.init.length ci, .slice Ag t.goal.length cg, .slice Ao t.ops.length co], .slice P plan.length cp] w fun e w' => e = .returned (.bool true) ∧ Below w.heap.size w w' := by
  by_cases h : (tfault t).1 = 0
  · have hv := tfault_zero.1 h
    obtain ⟨n, hn⟩ := Int.eq_ofNat_of_zero_le hv.f0
    by_cases h2 : StepsOk t.ops.length plan
    · have hl := runV_len (n := n) (ops := t.ops) plan t.init
      by_cases h3 : (runV n t.ops t.init plan).length ≤ plan.length
      · exact walk_pnt_3 w t Ai Ag Ao ci cg co hR P cp plan hP hlP n hn hv h2 h3
      · exact walk_pnt_4 w t Ai Ag Ao ci cg co hR P cp plan hP hlP n hn hv h2 (by omega)
    · exact walk_pnt_2 w t Ai Ag Ao ci cg co hR P cp plan hP hlP n hn hv h2
  · exact walk_pnt_1 w t Ai Ag Ao ci cg co hR P cp plan hP hlP h

namespace pairsNeverTogether
open Go.ChangeShapes Go.WideShapes Go.ChangeAt Go.RowKit

set_option maxRecDepth 100000 in
theorem lifted (os : Os) (started : os.Started) (H : Type) (enc : TypeId × Value → H) :
    ReturnsInHanded {} Try.checked os 13 .any (Rows.pairsNeverTogetherSpec.pre6 enc Try.prog Try.f13 Rows.pairsNeverTogetherRow.domain false) (Rows.pairsNeverTogetherSpec.post enc Try.prog Try.f13 false true false false) := by
  refine returnsInHanded_of_change (C := Try.checked) own_knob started (by kernel_rfl) Try.func13
    (ChangeSpec.witness6 (enc := enc) (C := Try.checked) false ⟨#[], #[.agg #[.int .i64 0, .slice none 0 0, .slice none 0 0, .slice none 0 0], .slice none 0 0], []⟩ 8 (by kernel_rfl) (by kernel_rfl) (by kernel_rfl) (by kernel_rfl)) ?_
  intro W base args ds gs before hval0 hW _ hsz
  have hval : ∀ (j : Nat) t v, Try.f13.params[j]? = some t → args[j]? = some v → Value.okWide Try.prog W .any base t v := hval0
  have hpost := fun (W' : World) (hfn : gs = [] → Rows.pairsNeverTogetherSpec.fn H (ds ++ gs) = { results := [.lit (.bool true)], args := ds }) (hb : Below W.heap.size W W') => law_post (f := Try.f13) (tb := 4) laid_out_B Try.underlying4 rfl (by kernel_rfl) rfl hfn hW hb
  obtain ⟨p, q, hA0, hV, hpq, hfz, hnd⟩ := hW
  have hA : DataW.TrodAll enc Try.prog W 0 (fun _ => true) true Try.f13.params.toList args.toList ds p := hA0
  rw [Try.params13] at hA hval
  obtain ⟨v0, vs0, d0, ds0, p0, q0, hargs, rfl, hp0, h0, r0⟩ := trodAll_cons hA
  obtain ⟨v1, vs1, d1, ds1, p1, q1, rfl, rfl, hp1, h1, r1⟩ := trodAll_cons r0
  obtain ⟨rfl, rfl, hpn⟩ := trodAll_nil r1
  obtain rfl : args = #[v0, v1] := by cases args; simp_all
  obtain ⟨t, Ai, Ag, Ao, ci, cg, co, rfl, hR⟩ := open_taskW (hval 0 25 v0 rfl rfl) h0
  obtain ⟨S, cs, st, rfl, hSc, hSl, hSnn, hS, hSi⟩ := open_intsW (hval 1 22 v1 rfl rfl) h1
  refine (walk_pnt W t Ai Ag Ao ci cg co hR S cs st hS (Nat.le_trans hSc hSl)).mono fun e W' ⟨he, hb⟩ => ?_
  subst he
  exact ⟨_, rfl, hpost W' (fun hg => by subst hg; rfl) hb⟩

theorem proved : Rows.PairsNeverTogetherSaid :=
  OpenClaim.holds_of_wide 13 Try.f13 rfl rfl rfl rfl rfl rfl rfl ⟨rfl, rfl, rfl, rfl, rfl⟩ rfl rfl rfl rfl rfl (by kernel_rfl) Try.func13 (by kernel_rfl)
    (of_decide_eq_true (by kernel_rfl)) (by unfold Func.isWrapper; first | (rw [if_pos (by decide +kernel)]; kernel_rfl) | (rw [if_neg (by decide +kernel)]; exact ⟨rfl, rfl⟩))
    (fun os started H enc _ => lifted os started H enc)
#print axioms proved
end pairsNeverTogether

end Go.Proofs.Ytiaokmofoaeifaa
