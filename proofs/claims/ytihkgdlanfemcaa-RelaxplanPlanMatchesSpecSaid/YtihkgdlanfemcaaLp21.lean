/-
  relaxplan.Supporters and Plan return the specified results.
-/
import Derived.Test.YtihkgdlanfemcaaRex
import Derived.Test.YtihkgdlanfemcaaSo3
import Derived.Test.YtihkgdlanfemcaaBlaw
import Derived.Test.YtihkgdlanfemcaaMA
import Derived.Test.YtihkgdlanfemcaaPfacts
namespace Go.Proofs.Ytihkgdlanfemcaa
open Go.RowKit
set_option linter.unusedVariables false
set_option linter.unusedSimpArgs false

set_option maxRecDepth 100000 in
set_option maxHeartbeats 1000000 in
theorem walk_rpm_1 (w : World) (t : TaskV) (Ai Ag Ao : Option Addr) (ci cg co : Nat) (hR : TaskRead w Ai Ag Ao ci cg co t) (S : Option Addr) (cs : Nat) (st : List Int) (hS : Ints w S st) (hSn : NilOk S st cs) (h : ¬ (sfault t st).1 = 0) :
    Calls Try.prog 4 #[.agg #[.int .i64 t.facts, .slice Ai t.init.length ci, .slice Ag t.goal.length cg, .slice Ao t.ops.length co], .slice S st.length cs] w fun e w' => e = .returned (.bool true) ∧ Below w.heap.size w w' := by
  have N := bb_no h
  have N' := bn_yes h
  have hT := hR.mem
  have hls : lenOk st.length := Nat.le_trans hSn.2.1 hSn.2.2
  go_enter Try.func4, Try.ntmps4
  go_wp2_with fail
  refine (pxexample_any _).mono ?_
  rintro e w1 ⟨rfl, hB1⟩
  have D1 := dstep w hB1 (by repeat (first | with_reducible exact Below.refl _ _ | with_reducible apply bdrew | with_reducible apply bdrewN | with_reducible apply balloc | ((with_reducible refine bset ?_ ?_ _); rotate_left; (first | omega | (simp <;> omega)))))
  have d1s := D1.size
  have C1 := Cls.below (l := [(w.heap.size, 0, .int .i64 t.facts), (w.heap.size, 1, .slice Ai t.init.length ci), (w.heap.size, 2, .slice Ag t.goal.length cg), (w.heap.size, 3, .slice Ao t.ops.length co)]) hB1 (by simp [Cls, go_sem])
  have F1 := C1
  simp only [Cls, and_true] at F1
  have y1w0 : w.heap.size < w1.heap.size := C1.blk (b := w.heap.size) (k := 0) (v := .int .i64 t.facts) (by simp)
  have y1wp1 : w.heap.size < w1.heap.size + 1 := (by omega)
  have y1wp2 : w.heap.size < w1.heap.size + 1 + 1 := (by omega)
  go_wp2_with fail
  refine (supps_1 _ t Ai Ag Ao ci cg co (hT.below (by repeat (first | with_reducible exact D1 | with_reducible apply bdrew | with_reducible apply bdrewN | with_reducible apply balloc | ((with_reducible refine bset ?_ ?_ _); rotate_left; (first | omega | (simp <;> omega)))))) _ _ _ (hS.below (by repeat (first | with_reducible exact D1 | with_reducible apply bdrew | with_reducible apply bdrewN | with_reducible apply balloc | ((with_reducible refine bset ?_ ?_ _); rotate_left; (first | omega | (simp <;> omega)))))) hls h).mono ?_
  rintro e w2 ⟨rfl, hB2⟩
  have D2 := dstep w hB2 (by repeat (first | with_reducible exact D1 | with_reducible apply bdrew | with_reducible apply bdrewN | with_reducible apply balloc | ((with_reducible refine bset ?_ ?_ _); rotate_left; (first | omega | (simp <;> omega)))))
  have d2s := D2.size
  have C2 := Cls.below (l := [(w.heap.size, 0, .int .i64 t.facts), (w.heap.size, 1, .slice Ai t.init.length ci), (w.heap.size, 2, .slice Ag t.goal.length cg), (w.heap.size, 3, .slice Ao t.ops.length co)]) hB2 (by simp [Cls, go_sem, F1, y1w0, y1wp1, y1wp2])
  have F2 := C2
  simp only [Cls, and_true] at F2
  have y2w0 : w.heap.size < w2.heap.size := C2.blk (b := w.heap.size) (k := 0) (v := .int .i64 t.facts) (by simp)
  have y2wp1 : w.heap.size < w2.heap.size + 1 := (by omega)
  have y2wp2 : w.heap.size < w2.heap.size + 1 + 1 := (by omega)
  go_wp2_with fail
  refine (plan_1 _ t Ai Ag Ao ci cg co (hT.below (by repeat (first | with_reducible exact D2 | with_reducible apply bdrew | with_reducible apply bdrewN | with_reducible apply balloc | ((with_reducible refine bset ?_ ?_ _); rotate_left; (first | omega | (simp <;> omega)))))) _ _ _ (hS.below (by repeat (first | with_reducible exact D2 | with_reducible apply bdrew | with_reducible apply bdrewN | with_reducible apply balloc | ((with_reducible refine bset ?_ ?_ _); rotate_left; (first | omega | (simp <;> omega)))))) hls h).mono ?_
  rintro e w3 ⟨rfl, hB3⟩
  have D3 := dstep w hB3 (by repeat (first | with_reducible exact D2 | with_reducible apply bdrew | with_reducible apply bdrewN | with_reducible apply balloc | ((with_reducible refine bset ?_ ?_ _); rotate_left; (first | omega | (simp <;> omega)))))
  have d3s := D3.size
  have C3 := Cls.below (l := [(w.heap.size, 0, .int .i64 t.facts), (w.heap.size, 1, .slice Ai t.init.length ci), (w.heap.size, 2, .slice Ag t.goal.length cg), (w.heap.size, 3, .slice Ao t.ops.length co), (w2.heap.size, 0, .int .i64 (sfault t st).1), (w2.heap.size, 1, .int .i64 (sfault t st).2)]) hB3 (by simp [Cls, go_sem, F2, y2w0, y2wp1, y2wp2])
  have F3 := C3
  simp only [Cls, and_true] at F3
  have y3w0 : w.heap.size < w3.heap.size := C3.blk (b := w.heap.size) (k := 0) (v := .int .i64 t.facts) (by simp)
  have y3wp1 : w.heap.size < w3.heap.size + 1 := (by omega)
  have y3wp2 : w.heap.size < w3.heap.size + 1 + 1 := (by omega)
  have y3w20 : w2.heap.size < w3.heap.size := C3.blk (b := w2.heap.size) (k := 0) (v := .int .i64 (sfault t st).1) (by simp)
  have y3w2p1 : w2.heap.size < w3.heap.size + 1 := (by omega)
  have y3w2p2 : w2.heap.size < w3.heap.size + 1 + 1 := (by omega)
  go_wp2_with fail
  refine (rstatefault_any _ t Ai Ag Ao ci cg co (hT.below (by repeat (first | with_reducible exact D3 | with_reducible apply bdrew | with_reducible apply bdrewN | with_reducible apply balloc | ((with_reducible refine bset ?_ ?_ _); rotate_left; (first | omega | (simp <;> omega)))))) _ _ _ (hS.below (by repeat (first | with_reducible exact D3 | with_reducible apply bdrew | with_reducible apply bdrewN | with_reducible apply balloc | ((with_reducible refine bset ?_ ?_ _); rotate_left; (first | omega | (simp <;> omega)))))) hls).mono ?_
  rintro e w4 ⟨rfl, hB4⟩
  have D4 := dstep w hB4 (by repeat (first | with_reducible exact D3 | with_reducible apply bdrew | with_reducible apply bdrewN | with_reducible apply balloc | ((with_reducible refine bset ?_ ?_ _); rotate_left; (first | omega | (simp <;> omega)))))
  have d4s := D4.size
  have C4 := Cls.below (l := [(w.heap.size, 0, .int .i64 t.facts), (w.heap.size, 1, .slice Ai t.init.length ci), (w.heap.size, 2, .slice Ag t.goal.length cg), (w.heap.size, 3, .slice Ao t.ops.length co), (w2.heap.size, 0, .int .i64 (sfault t st).1), (w2.heap.size, 1, .int .i64 (sfault t st).2), (w3.heap.size, 0, .int .i64 (sfault t st).1), (w3.heap.size, 1, .int .i64 (sfault t st).2)]) hB4 (by simp [Cls, go_sem, F3, y3w0, y3wp1, y3wp2, y3w20, y3w2p1, y3w2p2])
  have F4 := C4
  simp only [Cls, and_true] at F4
  have y4w0 : w.heap.size < w4.heap.size := C4.blk (b := w.heap.size) (k := 0) (v := .int .i64 t.facts) (by simp)
  have y4wp1 : w.heap.size < w4.heap.size + 1 := (by omega)
  have y4wp2 : w.heap.size < w4.heap.size + 1 + 1 := (by omega)
  have y4w20 : w2.heap.size < w4.heap.size := C4.blk (b := w2.heap.size) (k := 0) (v := .int .i64 (sfault t st).1) (by simp)
  have y4w2p1 : w2.heap.size < w4.heap.size + 1 := (by omega)
  have y4w2p2 : w2.heap.size < w4.heap.size + 1 + 1 := (by omega)
  have y4w30 : w3.heap.size < w4.heap.size := C4.blk (b := w3.heap.size) (k := 0) (v := .int .i64 (sfault t st).1) (by simp)
  have y4w3p1 : w3.heap.size < w4.heap.size + 1 := (by omega)
  have y4w3p2 : w3.heap.size < w4.heap.size + 1 + 1 := (by omega)
  go_wp2
  go_ret
  exact ⟨by simp, by repeat (first | with_reducible exact D4 | with_reducible apply bdrew | with_reducible apply bdrewN | with_reducible apply balloc | ((with_reducible refine bset ?_ ?_ _); rotate_left; (first | omega | (simp <;> omega))))⟩

set_option maxRecDepth 100000 in
set_option maxHeartbeats 4000000 in
theorem walk_rpm_2 (w : World) (t : TaskV) (Ai Ag Ao : Option Addr) (ci cg co : Nat) (hR : TaskRead w Ai Ag Ao ci cg co t) (S : Option Addr) (cs : Nat) (st : List Int) (hS : Ints w S st) (hSn : NilOk S st cs) (n : Nat) (hn : t.facts = n) (hv : Valid t) (h2 : SetP st t.facts) :
    Calls Try.prog 4 #[.agg #[.int .i64 t.facts, .slice Ai t.init.length ci, .slice Ag t.goal.length cg, .slice Ao t.ops.length co], .slice S st.length cs] w fun e w' => e = .returned (.bool true) ∧ Below w.heap.size w w' := by
  have hT := hR.mem
  have hls : lenOk st.length := Nat.le_trans hSn.2.1 hSn.2.2
  have h40 := hv.nops
  have hn24 : n ≤ 24 := by have := hv.f1; omega
  have HN := Lib.hid hn
  have HV := Lib.hid hv
  have H2 := Lib.hid h2
  have HST := Lib.hid (show SetP st (n : Int) by rw [← hn]; exact h2)
  have HL := Lib.hid (levV_spec n st t.ops)
  have hne1 : ((n : Int) == t.facts) = true := by rw [hn]; simp
  have hne2 : ((n : Int) != t.facts) = false := by rw [hn]; simp
  have hne3 : decide ((n : Int) = t.facts) = true := by rw [hn]; simp
  clear hv h2 hn
  go_enter Try.func4, Try.ntmps4
  go_wp2_with fail
  refine (pxexample_any _).mono ?_
  rintro e w1 ⟨rfl, hB1⟩
  have D1 := dstep w hB1 (by repeat (first | with_reducible exact Below.refl _ _ | with_reducible apply bdrew | with_reducible apply bdrewN | with_reducible apply balloc | ((with_reducible refine bset ?_ ?_ _); rotate_left; (first | omega | (simp <;> omega)))))
  have d1s := D1.size
  have C1 := Cls.below (l := [(w.heap.size, 0, .int .i64 t.facts), (w.heap.size, 1, .slice Ai t.init.length ci), (w.heap.size, 2, .slice Ag t.goal.length cg), (w.heap.size, 3, .slice Ao t.ops.length co)]) hB1 (by simp [Cls, go_sem])
  have F1 := C1
  simp only [Cls, and_true] at F1
  have y1w0 : w.heap.size < w1.heap.size := C1.blk (b := w.heap.size) (k := 0) (v := .int .i64 t.facts) (by simp)
  have y1wp1 : w.heap.size < w1.heap.size + 1 := (by omega)
  have y1wp2 : w.heap.size < w1.heap.size + 1 + 1 := (by omega)
  go_wp2_with fail
  refine (supps_2 _ t Ai Ag Ao ci cg co (hT.below (by repeat (first | with_reducible exact D1 | with_reducible apply bdrew | with_reducible apply bdrewN | with_reducible apply balloc | ((with_reducible refine bset ?_ ?_ _); rotate_left; (first | omega | (simp <;> omega)))))) _ _ _ (hS.below (by repeat (first | with_reducible exact D1 | with_reducible apply bdrew | with_reducible apply bdrewN | with_reducible apply balloc | ((with_reducible refine bset ?_ ?_ _); rotate_left; (first | omega | (simp <;> omega)))))) hls n HN.out HV.out H2.out).mono ?_
  rintro e w2 ⟨g2, rfl, hg2, hA2, hL2, hB2⟩
  have D2 := dstep w hB2 (by repeat (first | with_reducible exact D1 | with_reducible apply bdrew | with_reducible apply bdrewN | with_reducible apply balloc | ((with_reducible refine bset ?_ ?_ _); rotate_left; (first | omega | (simp <;> omega)))))
  have d2s := D2.size
  have C2 := Cls.below (l := [(w.heap.size, 0, .int .i64 t.facts), (w.heap.size, 1, .slice Ai t.init.length ci), (w.heap.size, 2, .slice Ag t.goal.length cg), (w.heap.size, 3, .slice Ao t.ops.length co)]) hB2 (by simp [Cls, go_sem, F1, y1w0, y1wp1, y1wp2])
  have F2 := C2
  simp only [Cls, and_true] at F2
  have y2w0 : w.heap.size < w2.heap.size := C2.blk (b := w.heap.size) (k := 0) (v := .int .i64 t.facts) (by simp)
  have y2wp1 : w.heap.size < w2.heap.size + 1 := (by omega)
  have y2wp2 : w.heap.size < w2.heap.size + 1 + 1 := (by omega)
  clear hL2
  go_wp2_with fail
  refine (plan_2 _ t Ai Ag Ao ci cg co (hT.below (by repeat (first | with_reducible exact D2 | with_reducible apply bdrew | with_reducible apply bdrewN | with_reducible apply balloc | ((with_reducible refine bset ?_ ?_ _); rotate_left; (first | omega | (simp <;> omega)))))) _ _ _ (hS.below (by repeat (first | with_reducible exact D2 | with_reducible apply bdrew | with_reducible apply bdrewN | with_reducible apply balloc | ((with_reducible refine bset ?_ ?_ _); rotate_left; (first | omega | (simp <;> omega)))))) hls n HN.out HV.out H2.out).mono ?_
  rintro e w3 ⟨v3, ok, rfl, hok, ho3, hB3⟩
  have D3 := dstep w hB3 (by repeat (first | with_reducible exact D2 | with_reducible apply bdrew | with_reducible apply bdrewN | with_reducible apply balloc | ((with_reducible refine bset ?_ ?_ _); rotate_left; (first | omega | (simp <;> omega)))))
  have d3s := D3.size
  have Ew2_3 := dstep w2 hB3 (by repeat (first | with_reducible exact Below.refl _ _ | with_reducible apply bdrew | with_reducible apply bdrewN | with_reducible apply balloc | ((with_reducible refine bset ?_ ?_ _); rotate_left; (first | omega | (simp <;> omega)))))
  have C3 := Cls.below (l := [(w.heap.size, 0, .int .i64 t.facts), (w.heap.size, 1, .slice Ai t.init.length ci), (w.heap.size, 2, .slice Ag t.goal.length cg), (w.heap.size, 3, .slice Ao t.ops.length co), (w2.heap.size, 0, .int .i64 0), (w2.heap.size, 1, .int .i64 0)]) hB3 (by simp [Cls, go_sem, F2, y2w0, y2wp1, y2wp2])
  have F3 := C3
  simp only [Cls, and_true] at F3
  have y3w0 : w.heap.size < w3.heap.size := C3.blk (b := w.heap.size) (k := 0) (v := .int .i64 t.facts) (by simp)
  have y3wp1 : w.heap.size < w3.heap.size + 1 := (by omega)
  have y3wp2 : w.heap.size < w3.heap.size + 1 + 1 := (by omega)
  have y3w20 : w2.heap.size < w3.heap.size := C3.blk (b := w2.heap.size) (k := 0) (v := .int .i64 0) (by simp)
  have y3w2p1 : w2.heap.size < w3.heap.size + 1 := (by omega)
  have y3w2p2 : w2.heap.size < w3.heap.size + 1 + 1 := (by omega)
  go_wp2_with fail
  refine (rstatefault_3 _ t Ai Ag Ao ci cg co (hT.below (by repeat (first | with_reducible exact D3 | with_reducible apply bdrew | with_reducible apply bdrewN | with_reducible apply balloc | ((with_reducible refine bset ?_ ?_ _); rotate_left; (first | omega | (simp <;> omega)))))) _ _ _ (hS.below (by repeat (first | with_reducible exact D3 | with_reducible apply bdrew | with_reducible apply bdrewN | with_reducible apply balloc | ((with_reducible refine bset ?_ ?_ _); rotate_left; (first | omega | (simp <;> omega)))))) hls HV.out H2.out).mono ?_
  rintro e w4 ⟨rfl, hB4⟩
  have D4 := dstep w hB4 (by repeat (first | with_reducible exact D3 | with_reducible apply bdrew | with_reducible apply bdrewN | with_reducible apply balloc | ((with_reducible refine bset ?_ ?_ _); rotate_left; (first | omega | (simp <;> omega)))))
  have d4s := D4.size
  have Ew2_4 := dstep w2 hB4 (by repeat (first | with_reducible exact Ew2_3 | with_reducible apply bdrew | with_reducible apply bdrewN | with_reducible apply balloc | ((with_reducible refine bset ?_ ?_ _); rotate_left; (first | omega | (simp <;> omega)))))
  have Ew3_4 := dstep w3 hB4 (by repeat (first | with_reducible exact Below.refl _ _ | with_reducible apply bdrew | with_reducible apply bdrewN | with_reducible apply balloc | ((with_reducible refine bset ?_ ?_ _); rotate_left; (first | omega | (simp <;> omega)))))
  have C4 := Cls.below (l := [(w.heap.size, 0, .int .i64 t.facts), (w.heap.size, 1, .slice Ai t.init.length ci), (w.heap.size, 2, .slice Ag t.goal.length cg), (w.heap.size, 3, .slice Ao t.ops.length co), (w2.heap.size, 0, .int .i64 0), (w2.heap.size, 1, .int .i64 0), (w3.heap.size, 0, .int .i64 0), (w3.heap.size, 1, .int .i64 0)]) hB4 (by simp [Cls, go_sem, F3, y3w0, y3wp1, y3wp2, y3w20, y3w2p1, y3w2p2])
  have F4 := C4
  simp only [Cls, and_true] at F4
  have y4w0 : w.heap.size < w4.heap.size := C4.blk (b := w.heap.size) (k := 0) (v := .int .i64 t.facts) (by simp)
  have y4wp1 : w.heap.size < w4.heap.size + 1 := (by omega)
  have y4wp2 : w.heap.size < w4.heap.size + 1 + 1 := (by omega)
  have y4w20 : w2.heap.size < w4.heap.size := C4.blk (b := w2.heap.size) (k := 0) (v := .int .i64 0) (by simp)
  have y4w2p1 : w2.heap.size < w4.heap.size + 1 := (by omega)
  have y4w2p2 : w2.heap.size < w4.heap.size + 1 + 1 := (by omega)
  have y4w30 : w3.heap.size < w4.heap.size := C4.blk (b := w3.heap.size) (k := 0) (v := .int .i64 0) (by simp)
  have y4w3p1 : w3.heap.size < w4.heap.size + 1 := (by omega)
  have y4w3p2 : w3.heap.size < w4.heap.size + 1 + 1 := (by omega)
  go_wp2_with fail
  refine (levelsof_any _ t Ai Ag Ao ci cg co (hT.below (by repeat (first | with_reducible exact D4 | with_reducible apply bdrew | with_reducible apply bdrewN | with_reducible apply balloc | ((with_reducible refine bset ?_ ?_ _); rotate_left; (first | omega | (simp <;> omega)))))) _ _ _ (hS.below (by repeat (first | with_reducible exact D4 | with_reducible apply bdrew | with_reducible apply bdrewN | with_reducible apply balloc | ((with_reducible refine bset ?_ ?_ _); rotate_left; (first | omega | (simp <;> omega)))))) hSn.1 n HN.out HV.out H2.out).mono ?_
  rintro e w5 ⟨g5, rfl, hg5, hA5, hB5⟩
  have D5 := dstep w hB5 (by repeat (first | with_reducible exact D4 | with_reducible apply bdrew | with_reducible apply bdrewN | with_reducible apply balloc | ((with_reducible refine bset ?_ ?_ _); rotate_left; (first | omega | (simp <;> omega)))))
  have d5s := D5.size
  have Ew2_5 := dstep w2 hB5 (by repeat (first | with_reducible exact Ew2_4 | with_reducible apply bdrew | with_reducible apply bdrewN | with_reducible apply balloc | ((with_reducible refine bset ?_ ?_ _); rotate_left; (first | omega | (simp <;> omega)))))
  have Ew3_5 := dstep w3 hB5 (by repeat (first | with_reducible exact Ew3_4 | with_reducible apply bdrew | with_reducible apply bdrewN | with_reducible apply balloc | ((with_reducible refine bset ?_ ?_ _); rotate_left; (first | omega | (simp <;> omega)))))
  have C5 := Cls.below (l := [(w.heap.size, 0, .int .i64 t.facts), (w.heap.size, 1, .slice Ai t.init.length ci), (w.heap.size, 2, .slice Ag t.goal.length cg), (w.heap.size, 3, .slice Ao t.ops.length co), (w2.heap.size, 0, .int .i64 0), (w2.heap.size, 1, .int .i64 0), (w3.heap.size, 0, .int .i64 0), (w3.heap.size, 1, .int .i64 0), (w4.heap.size, 0, .int .i64 0), (w4.heap.size, 1, .int .i64 0)]) hB5 (by simp [Cls, go_sem, F4, y4w0, y4wp1, y4wp2, y4w20, y4w2p1, y4w2p2, y4w30, y4w3p1, y4w3p2])
  have F5 := C5
  simp only [Cls, and_true] at F5
  have y5w0 : w.heap.size < w5.heap.size := C5.blk (b := w.heap.size) (k := 0) (v := .int .i64 t.facts) (by simp)
  have y5wp1 : w.heap.size < w5.heap.size + 1 := (by omega)
  have y5wp2 : w.heap.size < w5.heap.size + 1 + 1 := (by omega)
  have y5w20 : w2.heap.size < w5.heap.size := C5.blk (b := w2.heap.size) (k := 0) (v := .int .i64 0) (by simp)
  have y5w2p1 : w2.heap.size < w5.heap.size + 1 := (by omega)
  have y5w2p2 : w2.heap.size < w5.heap.size + 1 + 1 := (by omega)
  have y5w30 : w3.heap.size < w5.heap.size := C5.blk (b := w3.heap.size) (k := 0) (v := .int .i64 0) (by simp)
  have y5w3p1 : w3.heap.size < w5.heap.size + 1 := (by omega)
  have y5w3p2 : w3.heap.size < w5.heap.size + 1 + 1 := (by omega)
  have y5w40 : w4.heap.size < w5.heap.size := C5.blk (b := w4.heap.size) (k := 0) (v := .int .i64 0) (by simp)
  have y5w4p1 : w4.heap.size < w5.heap.size + 1 := (by omega)
  have y5w4p2 : w4.heap.size < w5.heap.size + 1 + 1 := (by omega)
  have HOK := Lib.hid hok
  clear hok
  obtain ⟨V, hVe⟩ : ∃ V, Hid (levV n st t.ops = V) := ⟨_, Lib.hid rfl⟩
  rw [hVe.out] at hA2 hA5 HL HOK ho3
  have hVl := HL.out.len
  have HVR := Lib.hid (fun q => levs_rng HL.out q)
  obtain ⟨pl, hpl⟩ : ∃ l, Hid ((if ok then planTo V t.ops n t.goal else []) = l) := ⟨_, Lib.hid rfl⟩
  rw [hpl.out] at ho3
  have hpl40 : pl.length ≤ 40 := by
    rw [← hpl.out]
    cases ok with
    | false => simp
    | true =>
      have h := plan_tells HV.out HN.out HST.out (by rw [hVe.out]; exact HOK.out.1 rfl)
      rw [hVe.out] at h
      have := nodup_len h.nodup h.rng
      rw [if_pos rfl]; omega
  obtain ⟨A3, c3, rfl, hnil3, hI3⟩ := ho3.form
  clear hnil3 ho3
  have hA25 := hA2.below (by repeat (first | with_reducible exact Ew2_5 | with_reducible apply bdrew | with_reducible apply bdrewN | with_reducible apply balloc | ((with_reducible refine bset ?_ ?_ _); rotate_left; (first | omega | (simp <;> omega)))))
  have hI35 := hI3.below (by repeat (first | with_reducible exact Ew3_5 | with_reducible apply bdrew | with_reducible apply bdrewN | with_reducible apply balloc | ((with_reducible refine bset ?_ ?_ _); rotate_left; (first | omega | (simp <;> omega)))))
  go_wp2_with fail
  go_loopw [12] (fun i wr => ∃ k : Nat, k ≤ n ∧ i = .int .i64 k ∧ Below w5.heap.size w5 wr ∧ Cls wr [(w.heap.size, 0, .int .i64 t.facts), (w.heap.size, 1, .slice Ai t.init.length ci), (w.heap.size, 2, .slice Ag t.goal.length cg), (w.heap.size, 3, .slice Ao t.ops.length co), (w2.heap.size, 0, .int .i64 0), (w2.heap.size, 1, .int .i64 0), (w3.heap.size, 0, .int .i64 0), (w3.heap.size, 1, .int .i64 0), (w4.heap.size, 0, .int .i64 0), (w4.heap.size, 1, .int .i64 0)]) (fun i _ => n - (intOf i).toNat)
  case atStart => exact ⟨0, Nat.zero_le _, rfl, (by repeat (first | with_reducible exact Below.refl _ _ | with_reducible apply bdrew | with_reducible apply bdrewN | with_reducible apply balloc | ((with_reducible refine bset ?_ ?_ _); rotate_left; (first | omega | (simp <;> omega))))), (by simp [Cls, go_sem, F5, y5w0, y5wp1, y5wp2, y5w20, y5w2p1, y5w2p2, y5w30, y5w3p1, y5w3p2, y5w40, y5w4p1, y5w4p2])⟩
  case round =>
    obtain ⟨k, hk, rfl, hBr, hCr⟩ := hrel
    obtain ⟨w6, rfl⟩ : ∃ wo : World, wo = wr := ⟨_, rfl⟩
    have drs := hBr.size
    have Fr := hCr
    simp only [Cls, and_true] at Fr
    have yrw0 : w.heap.size < w6.heap.size := hCr.blk (b := w.heap.size) (k := 0) (v := .int .i64 t.facts) (by simp)
    have yrwp1 : w.heap.size < w6.heap.size + 1 := (by omega)
    have yrwp2 : w.heap.size < w6.heap.size + 1 + 1 := (by omega)
    have yrw20 : w2.heap.size < w6.heap.size := hCr.blk (b := w2.heap.size) (k := 0) (v := .int .i64 0) (by simp)
    have yrw2p1 : w2.heap.size < w6.heap.size + 1 := (by omega)
    have yrw2p2 : w2.heap.size < w6.heap.size + 1 + 1 := (by omega)
    have yrw30 : w3.heap.size < w6.heap.size := hCr.blk (b := w3.heap.size) (k := 0) (v := .int .i64 0) (by simp)
    have yrw3p1 : w3.heap.size < w6.heap.size + 1 := (by omega)
    have yrw3p2 : w3.heap.size < w6.heap.size + 1 + 1 := (by omega)
    have yrw40 : w4.heap.size < w6.heap.size := hCr.blk (b := w4.heap.size) (k := 0) (v := .int .i64 0) (by simp)
    have yrw4p1 : w4.heap.size < w6.heap.size + 1 := (by omega)
    have yrw4p2 : w4.heap.size < w6.heap.size + 1 + 1 := (by omega)
    have DR := D5.trans (hBr.mono D5.size)
    by_cases hlt : k < n
    · have hkd : decide ((k : Int) < t.facts) = true := decide_eq_true (by have := HN.out; omega)
      obtain ⟨x, hx⟩ : ∃ x, Hid (supOf V t.ops (k : Int) = x) := ⟨_, Lib.hid rfl⟩
      obtain ⟨z, hz, hzc, hzf⟩ := (hA25.below hBr).cell (i := k) (by simp [supL]; exact hlt)
      have hxc : w6.cell? ⟨g2, k, none⟩ = some (.int .i64 x) := by
        have h := hz.out
        rw [supL_get hlt, hx.out] at h
        injection h with h
        rw [h]; exact hzc
      have hgb : g2 < w6.heap.size := World.block_lt_of_cell? w6 _ hxc
      clear hz hzc hzf
      go_wp2_with fail
      go_region_held3 (fun W => W.cell? ⟨w.heap.size, 0, none⟩ = some (.int .i64 t.facts) ∧ W.cell? ⟨w.heap.size, 1, none⟩ = some (.slice Ai t.init.length ci) ∧ W.cell? ⟨w.heap.size, 2, none⟩ = some (.slice Ag t.goal.length cg) ∧ W.cell? ⟨w.heap.size, 3, none⟩ = some (.slice Ao t.ops.length co) ∧ W.cell? ⟨g2, k, none⟩ = some (.int .i64 x)) (first | exact hK | go_keep) (first | (go_at_call 31; refine (supporterof_any _ t Ai Ag Ao ci cg co (hT.below (by repeat (first | with_reducible exact DR | with_reducible apply bdrew | with_reducible apply bdrewN | with_reducible apply balloc | ((with_reducible refine bset ?_ ?_ _); rotate_left; (first | omega | (simp <;> omega)))))) g5 V (hA5.below (by repeat (first | with_reducible exact hBr | with_reducible apply bdrew | with_reducible apply bdrewN | with_reducible apply balloc | ((with_reducible refine bset ?_ ?_ _); rotate_left; (first | omega | (simp <;> omega)))))) n HN.out HV.out hVl HVR.out k hlt).mono ?_; rintro e w7 ⟨he, hB7⟩; rw [hx.out] at he; subst he; have D7 := dstep w5 hB7 (by repeat (first | with_reducible exact hBr | with_reducible apply bdrew | with_reducible apply bdrewN | with_reducible apply balloc | ((with_reducible refine bset ?_ ?_ _); rotate_left; (first | omega | (simp <;> omega))))); have E7 := dstep w6 hB7 (by repeat (first | with_reducible exact Below.refl _ _ | with_reducible apply bdrew | with_reducible apply bdrewN | with_reducible apply balloc | ((with_reducible refine bset ?_ ?_ _); rotate_left; (first | omega | (simp <;> omega))))); have C7 := Cls.below (l := [(w.heap.size, 0, .int .i64 t.facts), (w.heap.size, 1, .slice Ai t.init.length ci), (w.heap.size, 2, .slice Ag t.goal.length cg), (w.heap.size, 3, .slice Ao t.ops.length co), (w2.heap.size, 0, .int .i64 0), (w2.heap.size, 1, .int .i64 0), (w3.heap.size, 0, .int .i64 0), (w3.heap.size, 1, .int .i64 0), (w4.heap.size, 0, .int .i64 0), (w4.heap.size, 1, .int .i64 0)]) hB7 (by simp [Cls, go_sem, Fr, yrw0, yrwp1, yrwp2, yrw20, yrw2p1, yrw2p2, yrw30, yrw3p1, yrw3p2, yrw40, yrw4p1, yrw4p2]); have F7 := C7; simp only [Cls, and_true] at F7; have hxc7 := (E7.cell (World.block_lt_of_cell? w6 _ hxc)).trans hxc; have hK : w7.cell? ⟨w.heap.size, 0, none⟩ = some (.int .i64 t.facts) ∧ w7.cell? ⟨w.heap.size, 1, none⟩ = some (.slice Ai t.init.length ci) ∧ w7.cell? ⟨w.heap.size, 2, none⟩ = some (.slice Ag t.goal.length cg) ∧ w7.cell? ⟨w.heap.size, 3, none⟩ = some (.slice Ao t.ops.length co) ∧ w7.cell? ⟨g2, k, none⟩ = some (.int .i64 x) := (by simp [F7, hxc7])))
      go_wp2
      go_roundw
      case rel => exact ⟨k + 1, by omega, by go_num, D7, C7⟩
      case measure => simp [intOf]; omega
    · have hkd : decide ((k : Int) < t.facts) = false := decide_eq_false (by have := HN.out; omega)
      go_wp2_with fail
      refine (rplan_any _ t Ai Ag Ao ci cg co (hT.below (by repeat (first | with_reducible exact DR | with_reducible apply bdrew | with_reducible apply bdrewN | with_reducible apply balloc | ((with_reducible refine bset ?_ ?_ _); rotate_left; (first | omega | (simp <;> omega)))))) _ _ _ (hS.below (by repeat (first | with_reducible exact DR | with_reducible apply bdrew | with_reducible apply bdrewN | with_reducible apply balloc | ((with_reducible refine bset ?_ ?_ _); rotate_left; (first | omega | (simp <;> omega)))))) hSn.1 n HN.out HV.out H2.out).mono ?_
      rintro e w7 ⟨v7, ok7, rfl, hok7, ho7, hB7⟩
      have D7 := dstep w hB7 (by repeat (first | with_reducible exact DR | with_reducible apply bdrew | with_reducible apply bdrewN | with_reducible apply balloc | ((with_reducible refine bset ?_ ?_ _); rotate_left; (first | omega | (simp <;> omega)))))
      have d7s := D7.size
      have Ew5_7 := dstep w5 hB7 (by repeat (first | with_reducible exact hBr | with_reducible apply bdrew | with_reducible apply bdrewN | with_reducible apply balloc | ((with_reducible refine bset ?_ ?_ _); rotate_left; (first | omega | (simp <;> omega)))))
      have C7 := Cls.below (l := [(w.heap.size, 0, .int .i64 t.facts), (w.heap.size, 1, .slice Ai t.init.length ci), (w.heap.size, 2, .slice Ag t.goal.length cg), (w.heap.size, 3, .slice Ao t.ops.length co), (w2.heap.size, 0, .int .i64 0), (w2.heap.size, 1, .int .i64 0), (w3.heap.size, 0, .int .i64 0), (w3.heap.size, 1, .int .i64 0), (w4.heap.size, 0, .int .i64 0), (w4.heap.size, 1, .int .i64 0)]) hB7 (by simp [Cls, go_sem, Fr, yrw0, yrwp1, yrwp2, yrw20, yrw2p1, yrw2p2, yrw30, yrw3p1, yrw3p2, yrw40, yrw4p1, yrw4p2])
      have F7 := C7
      simp only [Cls, and_true] at F7
      have y7w0 : w.heap.size < w7.heap.size := C7.blk (b := w.heap.size) (k := 0) (v := .int .i64 t.facts) (by simp)
      have y7wp1 : w.heap.size < w7.heap.size + 1 := (by omega)
      have y7wp2 : w.heap.size < w7.heap.size + 1 + 1 := (by omega)
      have y7w20 : w2.heap.size < w7.heap.size := C7.blk (b := w2.heap.size) (k := 0) (v := .int .i64 0) (by simp)
      have y7w2p1 : w2.heap.size < w7.heap.size + 1 := (by omega)
      have y7w2p2 : w2.heap.size < w7.heap.size + 1 + 1 := (by omega)
      have y7w30 : w3.heap.size < w7.heap.size := C7.blk (b := w3.heap.size) (k := 0) (v := .int .i64 0) (by simp)
      have y7w3p1 : w3.heap.size < w7.heap.size + 1 := (by omega)
      have y7w3p2 : w3.heap.size < w7.heap.size + 1 + 1 := (by omega)
      have y7w40 : w4.heap.size < w7.heap.size := C7.blk (b := w4.heap.size) (k := 0) (v := .int .i64 0) (by simp)
      have y7w4p1 : w4.heap.size < w7.heap.size + 1 := (by omega)
      have y7w4p2 : w4.heap.size < w7.heap.size + 1 + 1 := (by omega)
      rw [hVe.out] at hok7 ho7
      have hoke : ok7 = ok := by
        have h := hok7.trans HOK.out.symm
        cases ok <;> cases ok7 <;> simp at h <;> rfl
      subst hoke
      rw [hpl.out] at ho7
      obtain ⟨A7, c7, rfl, hnil7, hI7⟩ := ho7.form
      clear hnil7 ho7 hok7
      have hee : (ok7 == ok7) = true := by simp
      go_wp2_with fail
      refine (ints_at _ _ _ _ pl.length pl pl _ (hI35.below (by repeat (first | with_reducible exact Ew5_7 | with_reducible apply bdrew | with_reducible apply bdrewN | with_reducible apply balloc | ((with_reducible refine bset ?_ ?_ _); rotate_left; (first | omega | (simp <;> omega)))))) hI7 rfl rfl (by omega) true (by simp)).mono ?_
      rintro e w8 ⟨rfl, hB8⟩
      have D8 := dstep w hB8 (by repeat (first | with_reducible exact D7 | with_reducible apply bdrew | with_reducible apply bdrewN | with_reducible apply balloc | ((with_reducible refine bset ?_ ?_ _); rotate_left; (first | omega | (simp <;> omega)))))
      have d8s := D8.size
      have Ew5_8 := dstep w5 hB8 (by repeat (first | with_reducible exact Ew5_7 | with_reducible apply bdrew | with_reducible apply bdrewN | with_reducible apply balloc | ((with_reducible refine bset ?_ ?_ _); rotate_left; (first | omega | (simp <;> omega)))))
      have C8 := Cls.below (l := [(w.heap.size, 0, .int .i64 t.facts), (w.heap.size, 1, .slice Ai t.init.length ci), (w.heap.size, 2, .slice Ag t.goal.length cg), (w.heap.size, 3, .slice Ao t.ops.length co), (w2.heap.size, 0, .int .i64 0), (w2.heap.size, 1, .int .i64 0), (w3.heap.size, 0, .int .i64 0), (w3.heap.size, 1, .int .i64 0), (w4.heap.size, 0, .int .i64 0), (w4.heap.size, 1, .int .i64 0)]) hB8 (by simp [Cls, go_sem, F7, y7w0, y7wp1, y7wp2, y7w20, y7w2p1, y7w2p2, y7w30, y7w3p1, y7w3p2, y7w40, y7w4p1, y7w4p2])
      have F8 := C8
      simp only [Cls, and_true] at F8
      have y8w0 : w.heap.size < w8.heap.size := C8.blk (b := w.heap.size) (k := 0) (v := .int .i64 t.facts) (by simp)
      have y8wp1 : w.heap.size < w8.heap.size + 1 := (by omega)
      have y8wp2 : w.heap.size < w8.heap.size + 1 + 1 := (by omega)
      have y8w20 : w2.heap.size < w8.heap.size := C8.blk (b := w2.heap.size) (k := 0) (v := .int .i64 0) (by simp)
      have y8w2p1 : w2.heap.size < w8.heap.size + 1 := (by omega)
      have y8w2p2 : w2.heap.size < w8.heap.size + 1 + 1 := (by omega)
      have y8w30 : w3.heap.size < w8.heap.size := C8.blk (b := w3.heap.size) (k := 0) (v := .int .i64 0) (by simp)
      have y8w3p1 : w3.heap.size < w8.heap.size + 1 := (by omega)
      have y8w3p2 : w3.heap.size < w8.heap.size + 1 + 1 := (by omega)
      have y8w40 : w4.heap.size < w8.heap.size := C8.blk (b := w4.heap.size) (k := 0) (v := .int .i64 0) (by simp)
      have y8w4p1 : w4.heap.size < w8.heap.size + 1 := (by omega)
      have y8w4p2 : w4.heap.size < w8.heap.size + 1 + 1 := (by omega)
      go_wp2
      go_ret
      exact ⟨by simp, by repeat (first | with_reducible exact D8 | with_reducible apply bdrew | with_reducible apply bdrewN | with_reducible apply balloc | ((with_reducible refine bset ?_ ?_ _); rotate_left; (first | omega | (simp <;> omega))))⟩

theorem walk_rpm (w : World) (t : TaskV) (Ai Ag Ao : Option Addr) (ci cg co : Nat) (hR : TaskRead w Ai Ag Ao ci cg co t) (S : Option Addr) (cs : Nat) (st : List Int) (hS : Ints w S st) (hSn : NilOk S st cs) :
    Calls Try.prog 4 #[.agg #[.int .i64 t.facts, .slice Ai t.init.length ci, .slice Ag t.goal.length cg, .slice Ao t.ops.length co], .slice S st.length cs] w fun e w' => e = .returned (.bool true) ∧ Below w.heap.size w w' := by
  by_cases h : (sfault t st).1 = 0
  · obtain ⟨hv, h2⟩ := sfault_zero.1 h
    obtain ⟨n, hn⟩ := Int.eq_ofNat_of_zero_le hv.f0
    exact walk_rpm_2 w t Ai Ag Ao ci cg co hR S cs st hS hSn n hn hv h2
  · exact walk_rpm_1 w t Ai Ag Ao ci cg co hR S cs st hS hSn h

namespace relaxplanPlanMatchesSpec
open Go.ChangeShapes Go.WideShapes Go.ChangeAt Go.RowKit

set_option maxRecDepth 100000 in
theorem lifted (os : Os) (started : os.Started) (H : Type) (enc : TypeId × Value → H) :
    ReturnsInHanded {} Try.checked os 4 .any (Rows.relaxplanPlanMatchesSpecSpec.pre6 enc Try.prog Try.f4 Rows.relaxplanPlanMatchesSpecRow.domain false) (Rows.relaxplanPlanMatchesSpecSpec.post enc Try.prog Try.f4 false true false false) := by
  refine returnsInHanded_of_change (C := Try.checked) own_knob started (by kernel_rfl) Try.func4
    (ChangeSpec.witness6 (enc := enc) (C := Try.checked) false ⟨#[], #[.agg #[.int .i64 0, .slice none 0 0, .slice none 0 0, .slice none 0 0], .slice none 0 0], []⟩ 8 (by kernel_rfl) (by kernel_rfl) (by kernel_rfl) (by kernel_rfl)) ?_
  intro W base args ds gs before hval0 hW _ hsz
  have hval : ∀ (j : Nat) t v, Try.f4.params[j]? = some t → args[j]? = some v → Value.okWide Try.prog W .any base t v := hval0
  have hpost := fun (W' : World) (hfn : gs = [] → Rows.relaxplanPlanMatchesSpecSpec.fn H (ds ++ gs) = { results := [.lit (.bool true)], args := ds }) (hb : Below W.heap.size W W') => law_post (f := Try.f4) (tb := 4) laid_out_B Try.underlying4 rfl (by kernel_rfl) rfl hfn hW hb
  obtain ⟨p, q, hA0, hV, hpq, hfz, hnd⟩ := hW
  have hA : DataW.TrodAll enc Try.prog W 0 (fun _ => true) true Try.f4.params.toList args.toList ds p := hA0
  rw [Try.params4] at hA hval
  obtain ⟨v0, vs0, d0, ds0, p0, q0, hargs, rfl, hp0, h0, r0⟩ := trodAll_cons hA
  obtain ⟨v1, vs1, d1, ds1, p1, q1, rfl, rfl, hp1, h1, r1⟩ := trodAll_cons r0
  obtain ⟨rfl, rfl, hpn⟩ := trodAll_nil r1
  obtain rfl : args = #[v0, v1] := by cases args; simp_all
  obtain ⟨t, Ai, Ag, Ao, ci, cg, co, rfl, hR⟩ := open_taskW (hval 0 25 v0 rfl rfl) h0
  obtain ⟨S, cs, st, rfl, hSc, hSl, hSnn, hS, hSi⟩ := open_intsW (hval 1 22 v1 rfl rfl) h1
  refine (walk_rpm W t Ai Ag Ao ci cg co hR S cs st hS ⟨hSnn, hSc, hSl⟩).mono fun e W' ⟨he, hb⟩ => ?_
  subst he
  exact ⟨_, rfl, hpost W' (fun hg => by subst hg; rfl) hb⟩

theorem closed : joinedFacts Try.checked.prog 4 Try.f4 Rows.relaxplanPlanMatchesSpecSpec Rows.relaxplanPlanMatchesSpecRow = true := by
  unfold joinedFacts
  rw [pf_enter, pf_lifts, pf_make]
  kernel_rfl
theorem proved : Rows.RelaxplanPlanMatchesSpecSaid :=
  OpenClaim.holds_of_wide 4 Try.f4 rfl rfl rfl rfl rfl rfl rfl ⟨rfl, rfl, rfl, rfl, rfl⟩ rfl rfl rfl rfl rfl (by kernel_rfl) Try.func4 closed
    (of_decide_eq_true (by kernel_rfl)) (by unfold Func.isWrapper; first | (rw [if_pos (by decide +kernel)]; kernel_rfl) | (rw [if_neg (by decide +kernel)]; exact ⟨rfl, rfl⟩))
    (fun os started H enc _ => lifted os started H enc)
#print axioms proved
end relaxplanPlanMatchesSpec

end Go.Proofs.Ytihkgdlanfemcaa
