/-
  hitting.Bound returns the least cost of a hitting set for the cuts of the state.
-/
import Derived.Test.YtihkgdlanfemcaaY20
import Derived.Test.YtihkgdlanfemcaaY14
import Derived.Test.YtihkgdlanfemcaaY10
import Derived.Test.YtihkgdlanfemcaaY9
import Derived.Test.YtihkgdlanfemcaaY21
import Derived.Test.YtihkgdlanfemcaaY1
import Derived.Test.YtihkgdlanfemcaaY22
namespace Go.Proofs.Ytihkgdlanfemcaa
open Go.RowKit
set_option linter.unusedVariables false
set_option linter.unusedSimpArgs false

set_option maxRecDepth 100000 in
set_option maxHeartbeats 1000000 in
theorem walk_hbb_1 (w : World) (t : TaskV) (Ai Ag Ao : Option Addr) (ci cg co : Nat) (hR : TaskRead w Ai Ag Ao ci cg co t) (S : Option Addr) (cs : Nat) (st : List Int) (hS : Ints w S st) (hSn : NilOk S st cs) (h : ¬ (sfault t st).1 = 0) :
    Calls Try.prog 11 #[.agg #[.int .i64 t.facts, .slice Ai t.init.length ci, .slice Ag t.goal.length cg, .slice Ao t.ops.length co], .slice S st.length cs] w fun e w' => e = .returned (.bool true) ∧ Below w.heap.size w w' := by
  have N := bb_no h
  have N' := bn_yes h
  have hT := hR.mem
  have hls : lenOk st.length := Nat.le_trans hSn.2.1 hSn.2.2
  go_enter Try.func11, Try.ntmps11
  go_wp2_with fail
  refine (hexample_any _).mono ?_
  rintro e w1 ⟨rfl, hB1⟩
  have D1 := dstep w hB1 (by repeat (first | with_reducible exact Below.refl _ _ | with_reducible apply bdrew | with_reducible apply bdrewN | with_reducible apply balloc | ((with_reducible refine bset ?_ ?_ _); rotate_left; (first | omega | (simp <;> omega)))))
  have d1s := D1.size
  have C1 := Cls.below (l := [(w.heap.size, 0, .int .i64 t.facts), (w.heap.size, 1, .slice Ai t.init.length ci), (w.heap.size, 2, .slice Ag t.goal.length cg), (w.heap.size, 3, .slice Ao t.ops.length co)]) hB1 (by simp [Cls, go_sem])
  have F1 := C1
  simp only [Cls, and_true] at F1
  have y1w0 : w.heap.size < w1.heap.size := C1.blk (b := w.heap.size) (k := 0) (v := .int .i64 t.facts) (by simp)
  have y1wp1 : w.heap.size < w1.heap.size + 1 := (by omega)
  have y1wp2 : w.heap.size < w1.heap.size + 1 + 1 := (by omega)
  go_wp2_with fail
  refine (bound_1 _ t Ai Ag Ao ci cg co (hT.below (by repeat (first | with_reducible exact D1 | with_reducible apply bdrew | with_reducible apply bdrewN | with_reducible apply balloc | ((with_reducible refine bset ?_ ?_ _); rotate_left; (first | omega | (simp <;> omega)))))) _ _ _ (hS.below (by repeat (first | with_reducible exact D1 | with_reducible apply bdrew | with_reducible apply bdrewN | with_reducible apply balloc | ((with_reducible refine bset ?_ ?_ _); rotate_left; (first | omega | (simp <;> omega)))))) hls h).mono ?_
  rintro e w2 ⟨rfl, hB2⟩
  have D2 := dstep w hB2 (by repeat (first | with_reducible exact D1 | with_reducible apply bdrew | with_reducible apply bdrewN | with_reducible apply balloc | ((with_reducible refine bset ?_ ?_ _); rotate_left; (first | omega | (simp <;> omega)))))
  have d2s := D2.size
  have C2 := Cls.below (l := [(w.heap.size, 0, .int .i64 t.facts), (w.heap.size, 1, .slice Ai t.init.length ci), (w.heap.size, 2, .slice Ag t.goal.length cg), (w.heap.size, 3, .slice Ao t.ops.length co)]) hB2 (by simp [Cls, go_sem, F1, y1w0, y1wp1, y1wp2])
  have F2 := C2
  simp only [Cls, and_true] at F2
  have y2w0 : w.heap.size < w2.heap.size := C2.blk (b := w.heap.size) (k := 0) (v := .int .i64 t.facts) (by simp)
  have y2wp1 : w.heap.size < w2.heap.size + 1 := (by omega)
  have y2wp2 : w.heap.size < w2.heap.size + 1 + 1 := (by omega)
  go_wp2_with fail
  refine (cuts_1 _ t Ai Ag Ao ci cg co (hT.below (by repeat (first | with_reducible exact D2 | with_reducible apply bdrew | with_reducible apply bdrewN | with_reducible apply balloc | ((with_reducible refine bset ?_ ?_ _); rotate_left; (first | omega | (simp <;> omega)))))) _ _ _ (hS.below (by repeat (first | with_reducible exact D2 | with_reducible apply bdrew | with_reducible apply bdrewN | with_reducible apply balloc | ((with_reducible refine bset ?_ ?_ _); rotate_left; (first | omega | (simp <;> omega)))))) hls h).mono ?_
  rintro e w3 ⟨rfl, hB3⟩
  have D3 := dstep w hB3 (by repeat (first | with_reducible exact D2 | with_reducible apply bdrew | with_reducible apply bdrewN | with_reducible apply balloc | ((with_reducible refine bset ?_ ?_ _); rotate_left; (first | omega | (simp <;> omega)))))
  have d3s := D3.size
  have C3 := Cls.below (l := [(w.heap.size, 0, .int .i64 t.facts), (w.heap.size, 1, .slice Ai t.init.length ci), (w.heap.size, 2, .slice Ag t.goal.length cg), (w.heap.size, 3, .slice Ao t.ops.length co), (w2.heap.size, 0, .int .i64 (sfault t st).1), (w2.heap.size, 1, .int .i64 (sfault t st).2)]) hB3 (by simp [Cls, go_sem, F2, y2w0, y2wp1, y2wp2])
  have F3 := C3
  simp only [Cls, and_true] at F3
  have y3w0 : w.heap.size < w3.heap.size := C3.blk (b := w.heap.size) (k := 0) (v := .int .i64 t.facts) (by simp)
  have y3wp1 : w.heap.size < w3.heap.size + 1 := (by omega)
  have y3wp2 : w.heap.size < w3.heap.size + 1 + 1 := (by omega)
  have y3w20 : w2.heap.size < w3.heap.size := C3.blk (b := w2.heap.size) (k := 0) (v := .int .i64 (sfault t st).1) (by simp)
  have y3w2p1 : w2.heap.size < w3.heap.size + 1 := (by omega)
  have y3w2p2 : w2.heap.size < w3.heap.size + 1 + 1 := (by omega)
  go_wp2_with fail
  refine (rstatefault_any _ t Ai Ag Ao ci cg co (hT.below (by repeat (first | with_reducible exact D3 | with_reducible apply bdrew | with_reducible apply bdrewN | with_reducible apply balloc | ((with_reducible refine bset ?_ ?_ _); rotate_left; (first | omega | (simp <;> omega)))))) _ _ _ (hS.below (by repeat (first | with_reducible exact D3 | with_reducible apply bdrew | with_reducible apply bdrewN | with_reducible apply balloc | ((with_reducible refine bset ?_ ?_ _); rotate_left; (first | omega | (simp <;> omega)))))) hls).mono ?_
  rintro e w4 ⟨rfl, hB4⟩
  have D4 := dstep w hB4 (by repeat (first | with_reducible exact D3 | with_reducible apply bdrew | with_reducible apply bdrewN | with_reducible apply balloc | ((with_reducible refine bset ?_ ?_ _); rotate_left; (first | omega | (simp <;> omega)))))
  have d4s := D4.size
  have C4 := Cls.below (l := [(w.heap.size, 0, .int .i64 t.facts), (w.heap.size, 1, .slice Ai t.init.length ci), (w.heap.size, 2, .slice Ag t.goal.length cg), (w.heap.size, 3, .slice Ao t.ops.length co), (w2.heap.size, 0, .int .i64 (sfault t st).1), (w2.heap.size, 1, .int .i64 (sfault t st).2), (w3.heap.size, 0, .int .i64 (sfault t st).1), (w3.heap.size, 1, .int .i64 (sfault t st).2)]) hB4 (by simp [Cls, go_sem, F3, y3w0, y3wp1, y3wp2, y3w20, y3w2p1, y3w2p2])
  have F4 := C4
  simp only [Cls, and_true] at F4
  have y4w0 : w.heap.size < w4.heap.size := C4.blk (b := w.heap.size) (k := 0) (v := .int .i64 t.facts) (by simp)
  have y4wp1 : w.heap.size < w4.heap.size + 1 := (by omega)
  have y4wp2 : w.heap.size < w4.heap.size + 1 + 1 := (by omega)
  have y4w20 : w2.heap.size < w4.heap.size := C4.blk (b := w2.heap.size) (k := 0) (v := .int .i64 (sfault t st).1) (by simp)
  have y4w2p1 : w2.heap.size < w4.heap.size + 1 := (by omega)
  have y4w2p2 : w2.heap.size < w4.heap.size + 1 + 1 := (by omega)
  have y4w30 : w3.heap.size < w4.heap.size := C4.blk (b := w3.heap.size) (k := 0) (v := .int .i64 (sfault t st).1) (by simp)
  have y4w3p1 : w3.heap.size < w4.heap.size + 1 := (by omega)
  have y4w3p2 : w3.heap.size < w4.heap.size + 1 + 1 := (by omega)
  go_wp2
  go_ret
  exact ⟨by simp, by repeat (first | with_reducible exact D4 | with_reducible apply bdrew | with_reducible apply bdrewN | with_reducible apply balloc | ((with_reducible refine bset ?_ ?_ _); rotate_left; (first | omega | (simp <;> omega))))⟩

set_option maxRecDepth 100000 in
set_option maxHeartbeats 1000000 in
theorem walk_hbb_no (w : World) (t : TaskV) (Ai Ag Ao : Option Addr) (ci cg co : Nat) (hR : TaskRead w Ai Ag Ao ci cg co t) (S : Option Addr) (cs : Nat) (st : List Int) (hS : Ints w S st) (hSn : NilOk S st cs) (n : Nat) (hn : t.facts = n) (hv : Valid t) (h2 : SetP st t.facts) (hre : ¬ GoalR t st) :
    Calls Try.prog 11 #[.agg #[.int .i64 t.facts, .slice Ai t.init.length ci, .slice Ag t.goal.length cg, .slice Ao t.ops.length co], .slice S st.length cs] w fun e w' => e = .returned (.bool true) ∧ Below w.heap.size w w' := by
  have hT := hR.mem
  have hls : lenOk st.length := Nat.le_trans hSn.2.1 hSn.2.2
  have HN := Lib.hid hn
  have HV := Lib.hid hv
  have H2 := Lib.hid h2
  have hn40 : t.ops.length ≤ 40 := hv.nops
  have HRE := Lib.hid hre
  clear hv h2 hn hre
  go_enter Try.func11, Try.ntmps11
  go_wp2_with fail
  refine (hexample_any _).mono ?_
  rintro e w1 ⟨rfl, hB1⟩
  have D1 := dstep w hB1 (by repeat (first | with_reducible exact Below.refl _ _ | with_reducible apply bdrew | with_reducible apply bdrewN | with_reducible apply balloc | ((with_reducible refine bset ?_ ?_ _); rotate_left; (first | omega | (simp <;> omega)))))
  have d1s := D1.size
  have C1 := Cls.below (l := [(w.heap.size, 0, .int .i64 t.facts), (w.heap.size, 1, .slice Ai t.init.length ci), (w.heap.size, 2, .slice Ag t.goal.length cg), (w.heap.size, 3, .slice Ao t.ops.length co)]) hB1 (by simp [Cls, go_sem])
  have F1 := C1
  simp only [Cls, and_true] at F1
  have y1w0 : w.heap.size < w1.heap.size := C1.blk (b := w.heap.size) (k := 0) (v := .int .i64 t.facts) (by simp)
  have y1wp1 : w.heap.size < w1.heap.size + 1 := (by omega)
  have y1wp2 : w.heap.size < w1.heap.size + 1 + 1 := (by omega)
  go_wp2_with fail
  refine (bound_no _ t Ai Ag Ao ci cg co (hT.below (by repeat (first | with_reducible exact D1 | with_reducible apply bdrew | with_reducible apply bdrewN | with_reducible apply balloc | ((with_reducible refine bset ?_ ?_ _); rotate_left; (first | omega | (simp <;> omega)))))) S cs st (hS.below (by repeat (first | with_reducible exact D1 | with_reducible apply bdrew | with_reducible apply bdrewN | with_reducible apply balloc | ((with_reducible refine bset ?_ ?_ _); rotate_left; (first | omega | (simp <;> omega)))))) hls n HN.out HV.out H2.out HRE.out).mono ?_
  rintro e w2 ⟨rfl, hB2⟩
  have D2 := dstep w hB2 (by repeat (first | with_reducible exact D1 | with_reducible apply bdrew | with_reducible apply bdrewN | with_reducible apply balloc | ((with_reducible refine bset ?_ ?_ _); rotate_left; (first | omega | (simp <;> omega)))))
  have d2s := D2.size
  have C2 := Cls.below (l := [(w.heap.size, 0, .int .i64 t.facts), (w.heap.size, 1, .slice Ai t.init.length ci), (w.heap.size, 2, .slice Ag t.goal.length cg), (w.heap.size, 3, .slice Ao t.ops.length co)]) hB2 (by simp [Cls, go_sem, F1, y1w0, y1wp1, y1wp2])
  have F2 := C2
  simp only [Cls, and_true] at F2
  have y2w0 : w.heap.size < w2.heap.size := C2.blk (b := w.heap.size) (k := 0) (v := .int .i64 t.facts) (by simp)
  have y2wp1 : w.heap.size < w2.heap.size + 1 := (by omega)
  have y2wp2 : w.heap.size < w2.heap.size + 1 + 1 := (by omega)
  go_wp2_with fail
  refine (cuts_no _ t Ai Ag Ao ci cg co (hT.below (by repeat (first | with_reducible exact D2 | with_reducible apply bdrew | with_reducible apply bdrewN | with_reducible apply balloc | ((with_reducible refine bset ?_ ?_ _); rotate_left; (first | omega | (simp <;> omega)))))) S cs st (hS.below (by repeat (first | with_reducible exact D2 | with_reducible apply bdrew | with_reducible apply bdrewN | with_reducible apply balloc | ((with_reducible refine bset ?_ ?_ _); rotate_left; (first | omega | (simp <;> omega)))))) hls n HN.out HV.out H2.out HRE.out).mono ?_
  rintro e w3 ⟨rfl, hB3⟩
  have D3 := dstep w hB3 (by repeat (first | with_reducible exact D2 | with_reducible apply bdrew | with_reducible apply bdrewN | with_reducible apply balloc | ((with_reducible refine bset ?_ ?_ _); rotate_left; (first | omega | (simp <;> omega)))))
  have d3s := D3.size
  have C3 := Cls.below (l := [(w.heap.size, 0, .int .i64 t.facts), (w.heap.size, 1, .slice Ai t.init.length ci), (w.heap.size, 2, .slice Ag t.goal.length cg), (w.heap.size, 3, .slice Ao t.ops.length co), (w2.heap.size, 0, .int .i64 0), (w2.heap.size, 1, .int .i64 0)]) hB3 (by simp [Cls, go_sem, F2, y2w0, y2wp1, y2wp2])
  have F3 := C3
  simp only [Cls, and_true] at F3
  have y3w0 : w.heap.size < w3.heap.size := C3.blk (b := w.heap.size) (k := 0) (v := .int .i64 t.facts) (by simp)
  have y3wp1 : w.heap.size < w3.heap.size + 1 := (by omega)
  have y3wp2 : w.heap.size < w3.heap.size + 1 + 1 := (by omega)
  have y3w20 : w2.heap.size < w3.heap.size := C3.blk (b := w2.heap.size) (k := 0) (v := .int .i64 0) (by simp)
  have y3w2p1 : w2.heap.size < w3.heap.size + 1 := (by omega)
  have y3w2p2 : w2.heap.size < w3.heap.size + 1 + 1 := (by omega)
  go_wp2_with fail
  refine (rstatefault_3 _ t Ai Ag Ao ci cg co (hT.below (by repeat (first | with_reducible exact D3 | with_reducible apply bdrew | with_reducible apply bdrewN | with_reducible apply balloc | ((with_reducible refine bset ?_ ?_ _); rotate_left; (first | omega | (simp <;> omega)))))) _ _ _ (hS.below (by repeat (first | with_reducible exact D3 | with_reducible apply bdrew | with_reducible apply bdrewN | with_reducible apply balloc | ((with_reducible refine bset ?_ ?_ _); rotate_left; (first | omega | (simp <;> omega)))))) hls HV.out H2.out).mono ?_
  rintro e w4 ⟨rfl, hB4⟩
  have D4 := dstep w hB4 (by repeat (first | with_reducible exact D3 | with_reducible apply bdrew | with_reducible apply bdrewN | with_reducible apply balloc | ((with_reducible refine bset ?_ ?_ _); rotate_left; (first | omega | (simp <;> omega)))))
  have d4s := D4.size
  have C4 := Cls.below (l := [(w.heap.size, 0, .int .i64 t.facts), (w.heap.size, 1, .slice Ai t.init.length ci), (w.heap.size, 2, .slice Ag t.goal.length cg), (w.heap.size, 3, .slice Ao t.ops.length co), (w2.heap.size, 0, .int .i64 0), (w2.heap.size, 1, .int .i64 0), (w3.heap.size, 0, .int .i64 0), (w3.heap.size, 1, .int .i64 0)]) hB4 (by simp [Cls, go_sem, F3, y3w0, y3wp1, y3wp2, y3w20, y3w2p1, y3w2p2])
  have F4 := C4
  simp only [Cls, and_true] at F4
  have y4w0 : w.heap.size < w4.heap.size := C4.blk (b := w.heap.size) (k := 0) (v := .int .i64 t.facts) (by simp)
  have y4wp1 : w.heap.size < w4.heap.size + 1 := (by omega)
  have y4wp2 : w.heap.size < w4.heap.size + 1 + 1 := (by omega)
  have y4w20 : w2.heap.size < w4.heap.size := C4.blk (b := w2.heap.size) (k := 0) (v := .int .i64 0) (by simp)
  have y4w2p1 : w2.heap.size < w4.heap.size + 1 := (by omega)
  have y4w2p2 : w2.heap.size < w4.heap.size + 1 + 1 := (by omega)
  have y4w30 : w3.heap.size < w4.heap.size := C4.blk (b := w3.heap.size) (k := 0) (v := .int .i64 0) (by simp)
  have y4w3p1 : w3.heap.size < w4.heap.size + 1 := (by omega)
  have y4w3p2 : w3.heap.size < w4.heap.size + 1 + 1 := (by omega)
  go_wp2
  go_ret
  exact ⟨by simp, by repeat (first | with_reducible exact D4 | with_reducible apply bdrew | with_reducible apply bdrewN | with_reducible apply balloc | ((with_reducible refine bset ?_ ?_ _); rotate_left; (first | omega | (simp <;> omega))))⟩

set_option maxRecDepth 100000 in
set_option maxHeartbeats 8000000 in
theorem walk_hbb_yes (w : World) (t : TaskV) (Ai Ag Ao : Option Addr) (ci cg co : Nat) (hR : TaskRead w Ai Ag Ao ci cg co t) (S : Option Addr) (cs : Nat) (st : List Int) (hS : Ints w S st) (hSn : NilOk S st cs) (n : Nat) (hn : t.facts = n) (hv : Valid t) (h2 : SetP st t.facts) (hre : GoalR t st) :
    Calls Try.prog 11 #[.agg #[.int .i64 t.facts, .slice Ai t.init.length ci, .slice Ag t.goal.length cg, .slice Ao t.ops.length co], .slice S st.length cs] w fun e w' => e = .returned (.bool true) ∧ Below w.heap.size w w' := by
  have hT := hR.mem
  have hls : lenOk st.length := Nat.le_trans hSn.2.1 hSn.2.2
  have HN := Lib.hid hn
  have HV := Lib.hid hv
  have H2 := Lib.hid h2
  have hn40 : t.ops.length ≤ 40 := hv.nops
  have HRE := Lib.hid hre
  clear hv h2 hn hre
  go_enter Try.func11, Try.ntmps11
  go_wp2_with fail
  refine (hexample_any _).mono ?_
  rintro e w1 ⟨rfl, hB1⟩
  have D1 := dstep w hB1 (by repeat (first | with_reducible exact Below.refl _ _ | with_reducible apply bdrew | with_reducible apply bdrewN | with_reducible apply balloc | ((with_reducible refine bset ?_ ?_ _); rotate_left; (first | omega | (simp <;> omega)))))
  have d1s := D1.size
  have C1 := Cls.below (l := [(w.heap.size, 0, .int .i64 t.facts), (w.heap.size, 1, .slice Ai t.init.length ci), (w.heap.size, 2, .slice Ag t.goal.length cg), (w.heap.size, 3, .slice Ao t.ops.length co)]) hB1 (by simp [Cls, go_sem])
  have F1 := C1
  simp only [Cls, and_true] at F1
  have y1w0 : w.heap.size < w1.heap.size := C1.blk (b := w.heap.size) (k := 0) (v := .int .i64 t.facts) (by simp)
  have y1wp1 : w.heap.size < w1.heap.size + 1 := (by omega)
  have y1wp2 : w.heap.size < w1.heap.size + 1 + 1 := (by omega)
  go_wp2_with fail
  refine (bound_yes _ t Ai Ag Ao ci cg co (hT.below (by repeat (first | with_reducible exact D1 | with_reducible apply bdrew | with_reducible apply bdrewN | with_reducible apply balloc | ((with_reducible refine bset ?_ ?_ _); rotate_left; (first | omega | (simp <;> omega)))))) S cs st (hS.below (by repeat (first | with_reducible exact D1 | with_reducible apply bdrew | with_reducible apply bdrewN | with_reducible apply balloc | ((with_reducible refine bset ?_ ?_ _); rotate_left; (first | omega | (simp <;> omega)))))) hls n HN.out HV.out H2.out HRE.out).mono ?_
  rintro e w2 ⟨xs, hok, hbest, hz, hx, hB2⟩
  have D2 := dstep w hB2 (by repeat (first | with_reducible exact D1 | with_reducible apply bdrew | with_reducible apply bdrewN | with_reducible apply balloc | ((with_reducible refine bset ?_ ?_ _); rotate_left; (first | omega | (simp <;> omega)))))
  have d2s := D2.size
  have C2 := Cls.below (l := [(w.heap.size, 0, .int .i64 t.facts), (w.heap.size, 1, .slice Ai t.init.length ci), (w.heap.size, 2, .slice Ag t.goal.length cg), (w.heap.size, 3, .slice Ao t.ops.length co)]) hB2 (by simp [Cls, go_sem, F1, y1w0, y1wp1, y1wp2])
  have F2 := C2
  simp only [Cls, and_true] at F2
  have y2w0 : w.heap.size < w2.heap.size := C2.blk (b := w.heap.size) (k := 0) (v := .int .i64 t.facts) (by simp)
  have y2wp1 : w.heap.size < w2.heap.size + 1 := (by omega)
  have y2wp2 : w.heap.size < w2.heap.size + 1 + 1 := (by omega)
  clear hbest
  have hx2 : ∃ nn cc jj : Int, e = .returned (.tuple #[.int .i64 nn, .agg #[.int .i64 cc, .int .i64 jj]]) ∧ Hid (((16 < xs.length ∨ 16 < (usedV xs).length) ∧ nn = 0 ∧ cc = 10 ∧ jj = -8) ∨ (¬ (16 < xs.length ∨ 16 < (usedV xs).length) ∧ cc = 0 ∧ jj = 0 ∧ ∃ v, Cho (costW (costsV t.ops (usedV xs))) (AllHit (setsV (usedV xs) xs) (2 ^ (costsV t.ops (usedV xs)).length)) nn v)) := by
    rcases hx with ⟨h1, rfl⟩ | ⟨h1, c, v, rfl, h2⟩
    · exact ⟨_, _, _, rfl, Lib.hid (.inl ⟨h1, rfl, rfl, rfl⟩)⟩
    · exact ⟨_, _, _, rfl, Lib.hid (.inr ⟨h1, rfl, rfl, v, h2⟩)⟩
  clear hx
  obtain ⟨nn, cc, jj, rfl, HX⟩ := hx2
  have HOK := Lib.hid hok
  have HZ := Lib.hid hz
  clear hok hz
  go_wp2_with fail
  refine (cuts_yes _ t Ai Ag Ao ci cg co (hT.below (by repeat (first | with_reducible exact D2 | with_reducible apply bdrew | with_reducible apply bdrewN | with_reducible apply balloc | ((with_reducible refine bset ?_ ?_ _); rotate_left; (first | omega | (simp <;> omega)))))) S cs st (hS.below (by repeat (first | with_reducible exact D2 | with_reducible apply bdrew | with_reducible apply bdrewN | with_reducible apply balloc | ((with_reducible refine bset ?_ ?_ _); rotate_left; (first | omega | (simp <;> omega)))))) hls n HN.out HV.out H2.out HRE.out).mono ?_
  rintro e w3 ⟨v3, ys, bs, rfl, hbs, hcs, hok4, hbest4, hz4, hB3⟩
  have D3 := dstep w hB3 (by repeat (first | with_reducible exact D2 | with_reducible apply bdrew | with_reducible apply bdrewN | with_reducible apply balloc | ((with_reducible refine bset ?_ ?_ _); rotate_left; (first | omega | (simp <;> omega)))))
  have d3s := D3.size
  have C3 := Cls.below (l := [(w.heap.size, 0, .int .i64 t.facts), (w.heap.size, 1, .slice Ai t.init.length ci), (w.heap.size, 2, .slice Ag t.goal.length cg), (w.heap.size, 3, .slice Ao t.ops.length co), (w2.heap.size, 0, .int .i64 cc), (w2.heap.size, 1, .int .i64 jj)]) hB3 (by simp [Cls, go_sem, F2, y2w0, y2wp1, y2wp2])
  have F3 := C3
  simp only [Cls, and_true] at F3
  have y3w0 : w.heap.size < w3.heap.size := C3.blk (b := w.heap.size) (k := 0) (v := .int .i64 t.facts) (by simp)
  have y3wp1 : w.heap.size < w3.heap.size + 1 := (by omega)
  have y3wp2 : w.heap.size < w3.heap.size + 1 + 1 := (by omega)
  have y3w20 : w2.heap.size < w3.heap.size := C3.blk (b := w2.heap.size) (k := 0) (v := .int .i64 cc) (by simp)
  have y3w2p1 : w2.heap.size < w3.heap.size + 1 := (by omega)
  have y3w2p2 : w2.heap.size < w3.heap.size + 1 + 1 := (by omega)
  obtain rfl := cuts_uniq HOK.out hok4 HZ.out hz4
  clear hok4 hz4 hbest4
  have hin := cuts_in HV.out HOK.out
  have I3 := Lib.hid hin.len
  have hxn := hin.num
  have HUR := Lib.hid (used_rng HV.out HOK.out)
  have hu40 : (usedV xs).length ≤ 40 := by have := (used_set HV.out HOK.out).length (by omega); omega
  obtain ⟨tt, htt⟩ : ∃ a, Hid (totalOf xs = a) := ⟨_, Lib.hid rfl⟩
  have htot := hin.tot
  rw [htt.out] at htot ⊢
  have hte : (tt == 1000000000) = false := beq_eq_false_iff_ne.2 (by omega)
  have hte2 : decide (tt = 1000000000) = false := decide_eq_false (by omega)
  clear hin
  obtain ⟨A3, c3, rfl⟩ := OwnEs.form hcs
  go_wp2_with fail
  refine (rstatefault_3 _ t Ai Ag Ao ci cg co (hT.below (by repeat (first | with_reducible exact D3 | with_reducible apply bdrew | with_reducible apply bdrewN | with_reducible apply balloc | ((with_reducible refine bset ?_ ?_ _); rotate_left; (first | omega | (simp <;> omega)))))) _ _ _ (hS.below (by repeat (first | with_reducible exact D3 | with_reducible apply bdrew | with_reducible apply bdrewN | with_reducible apply balloc | ((with_reducible refine bset ?_ ?_ _); rotate_left; (first | omega | (simp <;> omega)))))) hls HV.out H2.out).mono ?_
  rintro e w4 ⟨rfl, hB4⟩
  have D4 := dstep w hB4 (by repeat (first | with_reducible exact D3 | with_reducible apply bdrew | with_reducible apply bdrewN | with_reducible apply balloc | ((with_reducible refine bset ?_ ?_ _); rotate_left; (first | omega | (simp <;> omega)))))
  have d4s := D4.size
  have Ew3_4 := dstep w3 hB4 (by repeat (first | with_reducible exact Below.refl _ _ | with_reducible apply bdrew | with_reducible apply bdrewN | with_reducible apply balloc | ((with_reducible refine bset ?_ ?_ _); rotate_left; (first | omega | (simp <;> omega)))))
  have C4 := Cls.below (l := [(w.heap.size, 0, .int .i64 t.facts), (w.heap.size, 1, .slice Ai t.init.length ci), (w.heap.size, 2, .slice Ag t.goal.length cg), (w.heap.size, 3, .slice Ao t.ops.length co), (w2.heap.size, 0, .int .i64 cc), (w2.heap.size, 1, .int .i64 jj), (w3.heap.size, 0, .int .i64 0), (w3.heap.size, 1, .int .i64 0)]) hB4 (by simp [Cls, go_sem, F3, y3w0, y3wp1, y3wp2, y3w20, y3w2p1, y3w2p2])
  have F4 := C4
  simp only [Cls, and_true] at F4
  have y4w0 : w.heap.size < w4.heap.size := C4.blk (b := w.heap.size) (k := 0) (v := .int .i64 t.facts) (by simp)
  have y4wp1 : w.heap.size < w4.heap.size + 1 := (by omega)
  have y4wp2 : w.heap.size < w4.heap.size + 1 + 1 := (by omega)
  have y4w20 : w2.heap.size < w4.heap.size := C4.blk (b := w2.heap.size) (k := 0) (v := .int .i64 cc) (by simp)
  have y4w2p1 : w2.heap.size < w4.heap.size + 1 := (by omega)
  have y4w2p2 : w2.heap.size < w4.heap.size + 1 + 1 := (by omega)
  have y4w30 : w3.heap.size < w4.heap.size := C4.blk (b := w3.heap.size) (k := 0) (v := .int .i64 0) (by simp)
  have y4w3p1 : w3.heap.size < w4.heap.size + 1 := (by omega)
  have y4w3p2 : w3.heap.size < w4.heap.size + 1 + 1 := (by omega)
  have hcs := OwnCs.below hcs (by repeat (first | with_reducible exact Ew3_4 | with_reducible apply bdrew | with_reducible apply bdrewN | with_reducible apply balloc | ((with_reducible refine bset ?_ ?_ _); rotate_left; (first | omega | (simp <;> omega)))))
  have hT4 := hT.below D4
  go_wp2_with fail
  go_loopw [11, 12, 13] (fun a c i wr => ∃ (k : Nat) (va vc : Value), k ≤ t.ops.length ∧ i = .int .i64 k ∧ va = a ∧ vc = c ∧ OwnL (w4.heap.size + 1) wr [va, vc] [usedTo xs k, costsV t.ops (usedTo xs k)] ∧ Below w4.heap.size w4 wr ∧ Cls wr [(w.heap.size, 0, .int .i64 t.facts), (w.heap.size, 1, .slice Ai t.init.length ci), (w.heap.size, 2, .slice Ag t.goal.length cg), (w.heap.size, 3, .slice Ao t.ops.length co), (w2.heap.size, 0, .int .i64 cc), (w2.heap.size, 1, .int .i64 jj), (w3.heap.size, 0, .int .i64 0), (w3.heap.size, 1, .int .i64 0), (w4.heap.size, 0, .int .i64 0), (w4.heap.size, 1, .int .i64 0)]) (fun _ _ i _ => t.ops.length - (intOf i).toNat)
  case atStart => exact ⟨0, _, _, Nat.zero_le _, rfl, rfl, rfl, ((OwnL.nil _ _).more).more, (by repeat (first | with_reducible exact Below.refl _ _ | with_reducible apply bdrew | with_reducible apply bdrewN | with_reducible apply balloc | ((with_reducible refine bset ?_ ?_ _); rotate_left; (first | omega | (simp <;> omega))))), (by simp [Cls, go_sem, F4, y4w0, y4wp1, y4wp2, y4w20, y4w2p1, y4w2p2, y4w30, y4w3p1, y4w3p2])⟩
  case round =>
    obtain ⟨k, va, vc, hk, rfl, rfl, rfl, hL, hBr, hCr⟩ := hrel
    obtain ⟨w5, rfl⟩ : ∃ wo : World, wo = wr := ⟨_, rfl⟩
    have drs := hBr.size
    have Fr := hCr
    simp only [Cls, and_true] at Fr
    have yrw0 : w.heap.size < w5.heap.size := hCr.blk (b := w.heap.size) (k := 0) (v := .int .i64 t.facts) (by simp)
    have yrwp1 : w.heap.size < w5.heap.size + 1 := (by omega)
    have yrwp2 : w.heap.size < w5.heap.size + 1 + 1 := (by omega)
    have yrw20 : w2.heap.size < w5.heap.size := hCr.blk (b := w2.heap.size) (k := 0) (v := .int .i64 cc) (by simp)
    have yrw2p1 : w2.heap.size < w5.heap.size + 1 := (by omega)
    have yrw2p2 : w2.heap.size < w5.heap.size + 1 + 1 := (by omega)
    have yrw30 : w3.heap.size < w5.heap.size := hCr.blk (b := w3.heap.size) (k := 0) (v := .int .i64 0) (by simp)
    have yrw3p1 : w3.heap.size < w5.heap.size + 1 := (by omega)
    have yrw3p2 : w3.heap.size < w5.heap.size + 1 + 1 := (by omega)
    have yrw40 : w4.heap.size < w5.heap.size := hCr.blk (b := w4.heap.size) (k := 0) (v := .int .i64 0) (by simp)
    have yrw4p1 : w4.heap.size < w5.heap.size + 1 := (by omega)
    have yrw4p2 : w4.heap.size < w5.heap.size + 1 + 1 := (by omega)
    by_cases hlt : k < t.ops.length
    · obtain ⟨ad', o, A6, c6, A7, c7, A8, c8, rfl, ho, hc0, hc1, hc2, hc3, hm⟩ := hT4.ops.at_ hlt
      have hob4 := World.block_lt_of_cell? w4 _ hc3
      have HOC := Lib.hid (cost_at (x := (k : Int)) (o := o) ho.out)
      clear hc0 hc1 hc2 hm
      go_wp2_with fail
      go_loopw [11, 12, 14] (fun a c i wr => ∃ (j : Nat) (va vc : Value), j ≤ xs.length ∧ i = .int .i64 j ∧ va = a ∧ vc = c ∧ OwnL (w4.heap.size + 1) wr [va, vc] [usedMid xs k j, costsV t.ops (usedMid xs k j)] ∧ Below w4.heap.size w4 wr ∧ Cls wr [(w.heap.size, 0, .int .i64 t.facts), (w.heap.size, 1, .slice Ai t.init.length ci), (w.heap.size, 2, .slice Ag t.goal.length cg), (w.heap.size, 3, .slice (some ad') t.ops.length co), (w2.heap.size, 0, .int .i64 cc), (w2.heap.size, 1, .int .i64 jj), (w3.heap.size, 0, .int .i64 0), (w3.heap.size, 1, .int .i64 0), (w4.heap.size, 0, .int .i64 0), (w4.heap.size, 1, .int .i64 0)]) (fun _ _ i _ => xs.length - (intOf i).toNat)
      case atStart => exact ⟨0, _, _, Nat.zero_le _, rfl, rfl, rfl, (by rw [usedMid_zero]; exact hL.below (by repeat (first | with_reducible exact Below.refl _ _ | with_reducible apply bdrew | with_reducible apply bdrewN | with_reducible apply balloc | ((with_reducible refine bset ?_ ?_ _); rotate_left; (first | omega | (simp <;> omega)))))), (by repeat (first | with_reducible exact hBr | with_reducible apply bdrew | with_reducible apply bdrewN | with_reducible apply balloc | ((with_reducible refine bset ?_ ?_ _); rotate_left; (first | omega | (simp <;> omega))))), (by simp [Cls, go_sem, Fr, yrw0, yrwp1, yrwp2, yrw20, yrw2p1, yrw2p2, yrw30, yrw3p1, yrw3p2, yrw40, yrw4p1, yrw4p2])⟩
      case round =>
        obtain ⟨j, va, vc, hj, rfl, rfl, rfl, hM, hBs, hCs⟩ := hrel
        obtain ⟨w6, rfl⟩ : ∃ wo : World, wo = wr := ⟨_, rfl⟩
        have dss := hBs.size
        have Fs := hCs
        simp only [Cls, and_true] at Fs
        have ysw0 : w.heap.size < w6.heap.size := hCs.blk (b := w.heap.size) (k := 0) (v := .int .i64 t.facts) (by simp)
        have yswp1 : w.heap.size < w6.heap.size + 1 := (by omega)
        have yswp2 : w.heap.size < w6.heap.size + 1 + 1 := (by omega)
        have ysw20 : w2.heap.size < w6.heap.size := hCs.blk (b := w2.heap.size) (k := 0) (v := .int .i64 cc) (by simp)
        have ysw2p1 : w2.heap.size < w6.heap.size + 1 := (by omega)
        have ysw2p2 : w2.heap.size < w6.heap.size + 1 + 1 := (by omega)
        have ysw30 : w3.heap.size < w6.heap.size := hCs.blk (b := w3.heap.size) (k := 0) (v := .int .i64 0) (by simp)
        have ysw3p1 : w3.heap.size < w6.heap.size + 1 := (by omega)
        have ysw3p2 : w3.heap.size < w6.heap.size + 1 + 1 := (by omega)
        have ysw40 : w4.heap.size < w6.heap.size := hCs.blk (b := w4.heap.size) (k := 0) (v := .int .i64 0) (by simp)
        have ysw4p1 : w4.heap.size < w6.heap.size + 1 := (by omega)
        have ysw4p2 : w4.heap.size < w6.heap.size + 1 + 1 := (by omega)
        by_cases hlt2 : j < xs.length
        · obtain ⟨g, cs', x, e3, hgb, hgl, hx, hcl, hcell, hpc⟩ := OwnEs.at_ (OwnCs.below hcs hBs) (i := j) hlt2
          subst e3
          obtain ⟨A', c', rfl, hJ, hJn⟩ := hpc.form
          have hcr0 : w6.cell? ⟨g, j * 2, none⟩ = some (.slice A' x.1.length c') := by have := hcell 0 _ rfl; simpa using this
          have hcr1 : w6.cell? ⟨g, j * 2 + 1, none⟩ = some (.int .i64 x.2) := hcell 1 _ rfl
          have hxl : x.1.length ≤ 9223372036854775807 := by have := I3.out x (List.mem_of_getElem? hx.out); omega
          clear hcell hcl hJn
          obtain ⟨Au, cu, hue, -, hIu⟩ := (hM.own 0 _ _ rfl rfl).form
          obtain ⟨Ac, cc', hce, -, -⟩ := (hM.own 1 _ _ rfl rfl).form
          have hUl := usedMid_len xs k j
          have HSAME := Lib.hid (usedMid_same (k := k) hx.out)
          have HNEW := Lib.hid (usedMid_new (k := k) hx.out)
          have hVl := costsV_len t.ops (usedMid xs k j)
          have HSN := Lib.hid (costsV_snoc t.ops (usedMid xs k j) (k : Int))
          obtain ⟨V, hV⟩ : ∃ l, Hid (costsV t.ops (usedMid xs k j) = l) := ⟨_, Lib.hid rfl⟩
          rw [hV.out] at hM hce hVl HSN
          obtain ⟨U, hU⟩ : ∃ l, Hid (usedMid xs k j = l) := ⟨_, Lib.hid rfl⟩
          rw [hU.out] at hM hue hIu hUl HSAME HNEW hVl HSN
          have HCV := Lib.hid (show costsV t.ops U = V by rw [← hU.out]; exact hV.out)
          clear hV hU
          subst hue
          subst hce
          have HLV := Lib.hid hVl
          have hVn : V.length ≤ k + 1 := by omega
          clear hVl
          by_cases hk1 : (k : Int) ∈ x.1
          · by_cases hk2 : (k : Int) ∈ U
            · go_wp2_with fail
              refine (has_yes _ _ _ _ _ (hJ.below (by repeat (first | with_reducible exact Below.refl _ _ | with_reducible apply bdrew | with_reducible apply bdrewN | with_reducible apply balloc | ((with_reducible refine bset ?_ ?_ _); rotate_left; (first | omega | (simp <;> omega)))))) hxl hk1).mono ?_
              rintro e w' ⟨rfl, rfl⟩
              go_wp2_with fail
              refine (has_yes _ _ _ _ _ (hIu.below (by repeat (first | with_reducible exact Below.refl _ _ | with_reducible apply bdrew | with_reducible apply bdrewN | with_reducible apply balloc | ((with_reducible refine bset ?_ ?_ _); rotate_left; (first | omega | (simp <;> omega)))))) (by omega) hk2).mono ?_
              rintro e w' ⟨rfl, rfl⟩
              go_wp2
              go_roundw
              case rel => exact ⟨j + 1, _, _, by omega, by go_num, rfl, rfl, (by rw [HSAME.out (.inr hk2), HCV.out]; exact hM.below (by repeat (first | with_reducible exact Below.refl _ _ | with_reducible apply bdrew | with_reducible apply bdrewN | with_reducible apply balloc | ((with_reducible refine bset ?_ ?_ _); rotate_left; (first | omega | (simp <;> omega)))))), (by repeat (first | with_reducible exact hBs | with_reducible apply bdrew | with_reducible apply bdrewN | with_reducible apply balloc | ((with_reducible refine bset ?_ ?_ _); rotate_left; (first | omega | (simp <;> omega))))), (Cls.below (w := w6) (by repeat (first | with_reducible exact Below.refl _ _ | with_reducible apply bdrew | with_reducible apply bdrewN | with_reducible apply balloc | ((with_reducible refine bset ?_ ?_ _); rotate_left; (first | omega | (simp <;> omega))))) hCs)⟩
              case measure => simp [intOf]; omega
            · have hlen1 : U.length < 1000000000000 := by omega
              have hlen2 : V.length < 1000000000000 := by omega
              go_wp2_with fail
              refine (has_yes _ _ _ _ _ (hJ.below (by repeat (first | with_reducible exact Below.refl _ _ | with_reducible apply bdrew | with_reducible apply bdrewN | with_reducible apply balloc | ((with_reducible refine bset ?_ ?_ _); rotate_left; (first | omega | (simp <;> omega)))))) hxl hk1).mono ?_
              rintro e w' ⟨rfl, rfl⟩
              go_wp2_with fail
              refine (has_no _ _ _ _ _ (hIu.below (by repeat (first | with_reducible exact Below.refl _ _ | with_reducible apply bdrew | with_reducible apply bdrewN | with_reducible apply balloc | ((with_reducible refine bset ?_ ?_ _); rotate_left; (first | omega | (simp <;> omega)))))) (by omega) hk2).mono ?_
              rintro e w' ⟨rfl, rfl⟩
              go_wp2_with (first | (at_builtin; refine wpList_push_at rfl (.tmp 92) (.tmp 94) rfl w4 [(w.heap.size, 0, .int .i64 t.facts), (w.heap.size, 1, .slice Ai t.init.length ci), (w.heap.size, 2, .slice Ag t.goal.length cg), (w.heap.size, 3, .slice (some ad') t.ops.length co), (w2.heap.size, 0, .int .i64 cc), (w2.heap.size, 1, .int .i64 jj), (w3.heap.size, 0, .int .i64 0), (w3.heap.size, 1, .int .i64 0), (w4.heap.size, 0, .int .i64 0), (w4.heap.size, 1, .int .i64 0)] (w4.heap.size + 1) (.slice Au U.length cu) (U) ((k : Int)) rfl (OwnI.below (hM.own 0 _ _ rfl rfl) ?p1) ⟨w6.heap.size, 0, none⟩ 1 rfl ?p2 hlen1 ?p3 ?p4 ?p5 ?p6 ?p7 ?_; (case p1 => repeat (first | with_reducible exact Below.refl _ _ | with_reducible apply bdrew | with_reducible apply bdrewN | with_reducible apply balloc | ((with_reducible refine bset ?_ ?_ _); rotate_left; (first | omega | (simp <;> omega))))); (case p2 => (simp [go_sem])); (case p3 => (first | omega | (simp <;> omega))); (case p4 => (first | omega | (simp <;> omega))); (case p5 => repeat (first | with_reducible exact hBs | with_reducible apply bdrew | with_reducible apply bdrewN | with_reducible apply balloc | ((with_reducible refine bset ?_ ?_ _); rotate_left; (first | omega | (simp <;> omega))))); (case p6 => simp [Cls, go_sem, Fs, ysw0, yswp1, yswp2, ysw20, ysw2p1, ysw2p2, ysw30, ysw3p1, ysw3p2, ysw40, ysw4p1, ysw4p2]); (case p7 => (simp <;> omega)); intro v7 w7 o7 D7 C7 sz7 G7 at7; have L7 := (OwnL.below hM (balloc (Below.refl _ _) : Below w6.heap.size w6 (w6.alloc (.cells #[.int .i64 ((k : Int))] 3)))).push 0 rfl rfl o7 G7 at7; simp only [List.set_cons_zero, List.set_cons_succ] at L7; clear G7 at7 o7; have d7s := D7.size; have F7 := C7; simp only [Cls, and_true] at F7; have y7w0 : w.heap.size < w7.heap.size := C7.blk (b := w.heap.size) (k := 0) (v := .int .i64 t.facts) (by simp); have y7wp1 : w.heap.size < w7.heap.size + 1 := (by omega); have y7wp2 : w.heap.size < w7.heap.size + 1 + 1 := (by omega); have y7w20 : w2.heap.size < w7.heap.size := C7.blk (b := w2.heap.size) (k := 0) (v := .int .i64 cc) (by simp); have y7w2p1 : w2.heap.size < w7.heap.size + 1 := (by omega); have y7w2p2 : w2.heap.size < w7.heap.size + 1 + 1 := (by omega); have y7w30 : w3.heap.size < w7.heap.size := C7.blk (b := w3.heap.size) (k := 0) (v := .int .i64 0) (by simp); have y7w3p1 : w3.heap.size < w7.heap.size + 1 := (by omega); have y7w3p2 : w3.heap.size < w7.heap.size + 1 + 1 := (by omega); have y7w40 : w4.heap.size < w7.heap.size := C7.blk (b := w4.heap.size) (k := 0) (v := .int .i64 0) (by simp); have y7w4p1 : w4.heap.size < w7.heap.size + 1 := (by omega); have y7w4p2 : w4.heap.size < w7.heap.size + 1 + 1 := (by omega); have hq3 : w7.cell? ⟨(ad'.add (k * 4)).block, (ad'.add (k * 4)).off + 3, none⟩ = some (.int .i64 o.cost) := (D7.cell (World.block_lt_of_cell? w4 _ hc3)).trans hc3; have hob : (ad'.add (k * 4)).block < w7.heap.size := Nat.lt_of_lt_of_le hob4 D7.size) | (at_builtin; refine wpList_push_at rfl (.tmp 96) (.tmp 103) rfl w4 [(w.heap.size, 0, .int .i64 t.facts), (w.heap.size, 1, .slice Ai t.init.length ci), (w.heap.size, 2, .slice Ag t.goal.length cg), (w.heap.size, 3, .slice (some ad') t.ops.length co), (w2.heap.size, 0, .int .i64 cc), (w2.heap.size, 1, .int .i64 jj), (w3.heap.size, 0, .int .i64 0), (w3.heap.size, 1, .int .i64 0), (w4.heap.size, 0, .int .i64 0), (w4.heap.size, 1, .int .i64 0)] (w4.heap.size + 1) (.slice Ac V.length cc') (V) (o.cost) rfl (OwnI.below (L7.own 1 _ _ rfl rfl) ?p1) ⟨w7.heap.size, 0, none⟩ 1 rfl ?p2 hlen2 ?p3 ?p4 ?p5 ?p6 ?p7 ?_; (case p1 => repeat (first | with_reducible exact Below.refl _ _ | with_reducible apply bdrew | with_reducible apply bdrewN | with_reducible apply balloc | ((with_reducible refine bset ?_ ?_ _); rotate_left; (first | omega | (simp <;> omega))))); (case p2 => (simp [go_sem])); (case p3 => (first | omega | (simp <;> omega))); (case p4 => (first | omega | (simp <;> omega))); (case p5 => repeat (first | with_reducible exact D7 | with_reducible apply bdrew | with_reducible apply bdrewN | with_reducible apply balloc | ((with_reducible refine bset ?_ ?_ _); rotate_left; (first | omega | (simp <;> omega))))); (case p6 => simp [Cls, go_sem, F7, y7w0, y7wp1, y7wp2, y7w20, y7w2p1, y7w2p2, y7w30, y7w3p1, y7w3p2, y7w40, y7w4p1, y7w4p2]); (case p7 => (simp <;> omega)); intro v8 w8 o8 D8 C8 sz8 G8 at8; have L8 := (OwnL.below L7 (balloc (Below.refl _ _) : Below w7.heap.size w7 (w7.alloc (.cells #[.int .i64 (o.cost)] 3)))).push 1 rfl rfl o8 G8 at8; simp only [List.set_cons_zero, List.set_cons_succ] at L8; clear G8 at8 o8; have d8s := D8.size; have F8 := C8; simp only [Cls, and_true] at F8; have y8w0 : w.heap.size < w8.heap.size := C8.blk (b := w.heap.size) (k := 0) (v := .int .i64 t.facts) (by simp); have y8wp1 : w.heap.size < w8.heap.size + 1 := (by omega); have y8wp2 : w.heap.size < w8.heap.size + 1 + 1 := (by omega); have y8w20 : w2.heap.size < w8.heap.size := C8.blk (b := w2.heap.size) (k := 0) (v := .int .i64 cc) (by simp); have y8w2p1 : w2.heap.size < w8.heap.size + 1 := (by omega); have y8w2p2 : w2.heap.size < w8.heap.size + 1 + 1 := (by omega); have y8w30 : w3.heap.size < w8.heap.size := C8.blk (b := w3.heap.size) (k := 0) (v := .int .i64 0) (by simp); have y8w3p1 : w3.heap.size < w8.heap.size + 1 := (by omega); have y8w3p2 : w3.heap.size < w8.heap.size + 1 + 1 := (by omega); have y8w40 : w4.heap.size < w8.heap.size := C8.blk (b := w4.heap.size) (k := 0) (v := .int .i64 0) (by simp); have y8w4p1 : w4.heap.size < w8.heap.size + 1 := (by omega); have y8w4p2 : w4.heap.size < w8.heap.size + 1 + 1 := (by omega)))
              go_roundw
              case rel => exact ⟨j + 1, _, _, by omega, by go_num, rfl, rfl, (by rw [HNEW.out hk1 hk2, HSN.out, HOC.out]; exact L8), (by repeat (first | with_reducible exact D8 | with_reducible apply bdrew | with_reducible apply bdrewN | with_reducible apply balloc | ((with_reducible refine bset ?_ ?_ _); rotate_left; (first | omega | (simp <;> omega))))), (by simp [Cls, go_sem, F8, y8w0, y8wp1, y8wp2, y8w20, y8w2p1, y8w2p2, y8w30, y8w3p1, y8w3p2, y8w40, y8w4p1, y8w4p2])⟩
              case measure => simp [intOf]; omega
          · go_wp2_with fail
            refine (has_no _ _ _ _ _ (hJ.below (by repeat (first | with_reducible exact Below.refl _ _ | with_reducible apply bdrew | with_reducible apply bdrewN | with_reducible apply balloc | ((with_reducible refine bset ?_ ?_ _); rotate_left; (first | omega | (simp <;> omega)))))) hxl hk1).mono ?_
            rintro e w' ⟨rfl, rfl⟩
            go_wp2
            go_roundw
            case rel => exact ⟨j + 1, _, _, by omega, by go_num, rfl, rfl, (by rw [HSAME.out (.inl hk1), HCV.out]; exact hM.below (by repeat (first | with_reducible exact Below.refl _ _ | with_reducible apply bdrew | with_reducible apply bdrewN | with_reducible apply balloc | ((with_reducible refine bset ?_ ?_ _); rotate_left; (first | omega | (simp <;> omega)))))), (by repeat (first | with_reducible exact hBs | with_reducible apply bdrew | with_reducible apply bdrewN | with_reducible apply balloc | ((with_reducible refine bset ?_ ?_ _); rotate_left; (first | omega | (simp <;> omega))))), (Cls.below (w := w6) (by repeat (first | with_reducible exact Below.refl _ _ | with_reducible apply bdrew | with_reducible apply bdrewN | with_reducible apply balloc | ((with_reducible refine bset ?_ ?_ _); rotate_left; (first | omega | (simp <;> omega))))) hCs)⟩
            case measure => simp [intOf]; omega
        · obtain rfl : j = xs.length := by omega
          rw [usedMid_all] at hM
          go_wp2
          go_roundw
          case rel => exact ⟨k + 1, _, _, by omega, by go_num, rfl, rfl, hM.below (by repeat (first | with_reducible exact Below.refl _ _ | with_reducible apply bdrew | with_reducible apply bdrewN | with_reducible apply balloc | ((with_reducible refine bset ?_ ?_ _); rotate_left; (first | omega | (simp <;> omega))))), (by repeat (first | with_reducible exact hBs | with_reducible apply bdrew | with_reducible apply bdrewN | with_reducible apply balloc | ((with_reducible refine bset ?_ ?_ _); rotate_left; (first | omega | (simp <;> omega))))), (Cls.below (w := w6) (by repeat (first | with_reducible exact Below.refl _ _ | with_reducible apply bdrew | with_reducible apply bdrewN | with_reducible apply balloc | ((with_reducible refine bset ?_ ?_ _); rotate_left; (first | omega | (simp <;> omega))))) hCs)⟩
          case measure => simp [intOf]; omega
    · obtain rfl : k = t.ops.length := by omega
      rw [usedTo_all HUR.out] at hL
      have hsu := hL.own 0 _ _ rfl rfl
      have hsc := hL.own 1 _ _ rfl rfl
      obtain ⟨A5, c5, rfl, -, hI5⟩ := hsu.form
      obtain ⟨A9, c9, rfl, -, hI9⟩ := hsc.form
      clear hsu hsc hL
      have DW := D4.trans (hBr.mono D4.size)
      by_cases h16 : 16 < xs.length
      · have hd1 : decide ((xs.length : Int) > 16) = true := decide_eq_true (by omega)
        obtain ⟨-, rfl, rfl, rfl⟩ | ⟨h9, -⟩ := HX.out
        · go_wp2_with fail
          go_region_held3 (fun W => W.cell? ⟨w2.heap.size, 0, none⟩ = some (.int .i64 10) ∧ W.cell? ⟨w2.heap.size, 1, none⟩ = some (.int .i64 (-8))) (first | exact hK | go_keep) (first | (go_at_call 37; refine (at_any _ _ _).mono ?_; rintro e w16 ⟨rfl, hB16⟩; have D16 := dstep w hB16 (by repeat (first | with_reducible exact DW | with_reducible apply bdrew | with_reducible apply bdrewN | with_reducible apply balloc | ((with_reducible refine bset ?_ ?_ _); rotate_left; (first | omega | (simp <;> omega))))); have C16 := Cls.below (l := [(w.heap.size, 0, .int .i64 t.facts), (w.heap.size, 1, .slice Ai t.init.length ci), (w.heap.size, 2, .slice Ag t.goal.length cg), (w.heap.size, 3, .slice Ao t.ops.length co), (w2.heap.size, 0, .int .i64 10), (w2.heap.size, 1, .int .i64 (-8)), (w3.heap.size, 0, .int .i64 0), (w3.heap.size, 1, .int .i64 0), (w4.heap.size, 0, .int .i64 0), (w4.heap.size, 1, .int .i64 0)]) hB16 (by simp [Cls, go_sem, Fr, yrw0, yrwp1, yrwp2, yrw20, yrw2p1, yrw2p2, yrw30, yrw3p1, yrw3p2, yrw40, yrw4p1, yrw4p2]); have F16 := C16; simp only [Cls, and_true] at F16; have hK : w16.cell? ⟨w2.heap.size, 0, none⟩ = some (.int .i64 10) ∧ w16.cell? ⟨w2.heap.size, 1, none⟩ = some (.int .i64 (-8)) := (by simp [F16])))
          go_wp2
          go_ret
          exact ⟨by simp, by repeat (first | with_reducible exact D16 | with_reducible apply bdrew | with_reducible apply bdrewN | with_reducible apply balloc | ((with_reducible refine bset ?_ ?_ _); rotate_left; (first | omega | (simp <;> omega))))⟩
        · exact absurd (by omega) h9
      · have hd1 : decide ((xs.length : Int) > 16) = false := decide_eq_false (by omega)
        by_cases hu16 : 16 < (usedV xs).length
        · have hd2 : decide (((usedV xs).length : Int) > 16) = true := decide_eq_true (by omega)
          obtain ⟨-, rfl, rfl, rfl⟩ | ⟨h9, -⟩ := HX.out
          · go_wp2_with fail
            go_region_held3 (fun W => W.cell? ⟨w2.heap.size, 0, none⟩ = some (.int .i64 10) ∧ W.cell? ⟨w2.heap.size, 1, none⟩ = some (.int .i64 (-8))) (first | exact hK | go_keep) (first | (go_at_call 37; refine (at_any _ _ _).mono ?_; rintro e w16 ⟨rfl, hB16⟩; have D16 := dstep w hB16 (by repeat (first | with_reducible exact DW | with_reducible apply bdrew | with_reducible apply bdrewN | with_reducible apply balloc | ((with_reducible refine bset ?_ ?_ _); rotate_left; (first | omega | (simp <;> omega))))); have C16 := Cls.below (l := [(w.heap.size, 0, .int .i64 t.facts), (w.heap.size, 1, .slice Ai t.init.length ci), (w.heap.size, 2, .slice Ag t.goal.length cg), (w.heap.size, 3, .slice Ao t.ops.length co), (w2.heap.size, 0, .int .i64 10), (w2.heap.size, 1, .int .i64 (-8)), (w3.heap.size, 0, .int .i64 0), (w3.heap.size, 1, .int .i64 0), (w4.heap.size, 0, .int .i64 0), (w4.heap.size, 1, .int .i64 0)]) hB16 (by simp [Cls, go_sem, Fr, yrw0, yrwp1, yrwp2, yrw20, yrw2p1, yrw2p2, yrw30, yrw3p1, yrw3p2, yrw40, yrw4p1, yrw4p2]); have F16 := C16; simp only [Cls, and_true] at F16; have hK : w16.cell? ⟨w2.heap.size, 0, none⟩ = some (.int .i64 10) ∧ w16.cell? ⟨w2.heap.size, 1, none⟩ = some (.int .i64 (-8)) := (by simp [F16])))
            go_wp2
            go_ret
            exact ⟨by simp, by repeat (first | with_reducible exact D16 | with_reducible apply bdrew | with_reducible apply bdrewN | with_reducible apply balloc | ((with_reducible refine bset ?_ ?_ _); rotate_left; (first | omega | (simp <;> omega))))⟩
          · exact absurd (by omega) h9
        · have hd2 : decide (((usedV xs).length : Int) > 16) = false := decide_eq_false (by omega)
          obtain ⟨h9, -⟩ | ⟨hfew, rfl, rfl, v9, hch9⟩ := HX.out
          · exact absurd h9 (by omega)
          have HFEW := Lib.hid hfew
          have HCH := Lib.hid hch9
          clear hfew hch9
          have HHOK := Lib.hid (hok_cuts HV.out HOK.out HFEW.out)
          have HUV := Lib.hid (show ∀ x ∈ xs, ∀ y ∈ x.1, y ∈ usedV xs from fun x hx y hy => usedV_mem.2 ⟨x, hx, hy⟩)
          obtain ⟨CU, hCU⟩ : ∃ l, Hid (costsV t.ops (usedV xs) = l) := ⟨_, Lib.hid rfl⟩
          rw [hCU.out] at HHOK HCH hI9 ⊢
          obtain ⟨U, hU⟩ : ∃ l, Hid (usedV xs = l) := ⟨_, Lib.hid rfl⟩
          rw [hU.out] at HHOK hI5 hu16 hd2 hu40 HUV ⊢
          go_wp2_with fail
          go_loopw [15, 16] (fun sv x wr => ∃ (k : Nat) (vj : Value), k ≤ xs.length ∧ x = .int .i64 k ∧ vj = sv ∧ OwnLL w5.heap.size wr vj (setsT U (xs.take k)) ∧ Below w5.heap.size w5 wr ∧ Cls wr [(w.heap.size, 0, .int .i64 t.facts), (w.heap.size, 1, .slice Ai t.init.length ci), (w.heap.size, 2, .slice Ag t.goal.length cg), (w.heap.size, 3, .slice Ao t.ops.length co), (w2.heap.size, 0, .int .i64 0), (w2.heap.size, 1, .int .i64 0), (w3.heap.size, 0, .int .i64 0), (w3.heap.size, 1, .int .i64 0), (w4.heap.size, 0, .int .i64 0), (w4.heap.size, 1, .int .i64 0)]) (fun _ x _ => xs.length - (intOf x).toNat)
          case atStart => exact ⟨0, _, Nat.zero_le _, rfl, rfl, OwnEs.nil _ _, (by repeat (first | with_reducible exact Below.refl _ _ | with_reducible apply bdrew | with_reducible apply bdrewN | with_reducible apply balloc | ((with_reducible refine bset ?_ ?_ _); rotate_left; (first | omega | (simp <;> omega))))), (by simp [Cls, go_sem, Fr, yrw0, yrwp1, yrwp2, yrw20, yrw2p1, yrw2p2, yrw30, yrw3p1, yrw3p2, yrw40, yrw4p1, yrw4p2])⟩
          case round =>
            obtain ⟨k, vj, hk, rfl, rfl, hown7, hBu, hCu⟩ := hrel
            obtain ⟨w7, rfl⟩ : ∃ wo : World, wo = wr := ⟨_, rfl⟩
            have dus := hBu.size
            have Fu := hCu
            simp only [Cls, and_true] at Fu
            have yuw0 : w.heap.size < w7.heap.size := hCu.blk (b := w.heap.size) (k := 0) (v := .int .i64 t.facts) (by simp)
            have yuwp1 : w.heap.size < w7.heap.size + 1 := (by omega)
            have yuwp2 : w.heap.size < w7.heap.size + 1 + 1 := (by omega)
            have yuw20 : w2.heap.size < w7.heap.size := hCu.blk (b := w2.heap.size) (k := 0) (v := .int .i64 0) (by simp)
            have yuw2p1 : w2.heap.size < w7.heap.size + 1 := (by omega)
            have yuw2p2 : w2.heap.size < w7.heap.size + 1 + 1 := (by omega)
            have yuw30 : w3.heap.size < w7.heap.size := hCu.blk (b := w3.heap.size) (k := 0) (v := .int .i64 0) (by simp)
            have yuw3p1 : w3.heap.size < w7.heap.size + 1 := (by omega)
            have yuw3p2 : w3.heap.size < w7.heap.size + 1 + 1 := (by omega)
            have yuw40 : w4.heap.size < w7.heap.size := hCu.blk (b := w4.heap.size) (k := 0) (v := .int .i64 0) (by simp)
            have yuw4p1 : w4.heap.size < w7.heap.size + 1 := (by omega)
            have yuw4p2 : w4.heap.size < w7.heap.size + 1 + 1 := (by omega)
            have DU4 := hBr.trans (hBu.mono hBr.size)
            have DU := DW.trans (hBu.mono DW.size)
            by_cases hlt : k < xs.length
            · obtain ⟨g, cs', x, e3, hgb, hgl, hx, hcl, hcell, hpc⟩ := OwnEs.at_ (OwnCs.below hcs DU4) (i := k) hlt
              subst e3
              obtain ⟨A', c', rfl, hJ, hJn⟩ := hpc.form
              have hcr0 : w7.cell? ⟨g, k * 2, none⟩ = some (.slice A' x.1.length c') := by have := hcell 0 _ rfl; simpa using this
              have hcr1 : w7.cell? ⟨g, k * 2 + 1, none⟩ = some (.int .i64 x.2) := hcell 1 _ rfl
              have HXS := Lib.hid (setsT_succ (U := U) hx.out)
              have hx40 := I3.out x (List.mem_of_getElem? hx.out)
              obtain ⟨C, cm⟩ := x
              have hcr0 : w7.cell? ⟨g, k * 2, none⟩ = some (.slice A' C.length c') := hcr0
              have hcr1 : w7.cell? ⟨g, k * 2 + 1, none⟩ = some (.int .i64 cm) := hcr1
              have hJ : Ints w7 A' C := hJ
              have hx40 : C.length ≤ 40 := hx40
              have hC63 : C.length ≤ 9223372036854775807 := by omega
              have HXS : Hid (setsT U (xs.take (k + 1)) = setsT U (xs.take k) ++ [setTo U C U.length]) := HXS
              clear hcell hcl hJn hx
              go_wp2_with fail
              go_loopw [17, 18] (fun sv x wr => ∃ (j : Nat) (vs : Value), j ≤ U.length ∧ x = .int .i64 j ∧ vs = sv ∧ OwnI (w7.heap.size + 1) wr vs (setTo U C j) ∧ Below w7.heap.size w7 wr ∧ Cls wr [(w.heap.size, 0, .int .i64 t.facts), (w.heap.size, 1, .slice Ai t.init.length ci), (w.heap.size, 2, .slice Ag t.goal.length cg), (w.heap.size, 3, .slice Ao t.ops.length co), (w2.heap.size, 0, .int .i64 0), (w2.heap.size, 1, .int .i64 0), (w3.heap.size, 0, .int .i64 0), (w3.heap.size, 1, .int .i64 0), (w4.heap.size, 0, .int .i64 0), (w4.heap.size, 1, .int .i64 0)]) (fun _ x _ => U.length - (intOf x).toNat)
              case atStart => exact ⟨0, _, Nat.zero_le _, rfl, rfl, OwnI.nil _ _, (by repeat (first | with_reducible exact Below.refl _ _ | with_reducible apply bdrew | with_reducible apply bdrewN | with_reducible apply balloc | ((with_reducible refine bset ?_ ?_ _); rotate_left; (first | omega | (simp <;> omega))))), (by simp [Cls, go_sem, Fu, yuw0, yuwp1, yuwp2, yuw20, yuw2p1, yuw2p2, yuw30, yuw3p1, yuw3p2, yuw40, yuw4p1, yuw4p2])⟩
              case round =>
                obtain ⟨j, vs, hj, rfl, rfl, hown8, hBv, hCv⟩ := hrel
                obtain ⟨w8, rfl⟩ : ∃ wo : World, wo = wr := ⟨_, rfl⟩
                have dvs := hBv.size
                have Fv := hCv
                simp only [Cls, and_true] at Fv
                have yvw0 : w.heap.size < w8.heap.size := hCv.blk (b := w.heap.size) (k := 0) (v := .int .i64 t.facts) (by simp)
                have yvwp1 : w.heap.size < w8.heap.size + 1 := (by omega)
                have yvwp2 : w.heap.size < w8.heap.size + 1 + 1 := (by omega)
                have yvw20 : w2.heap.size < w8.heap.size := hCv.blk (b := w2.heap.size) (k := 0) (v := .int .i64 0) (by simp)
                have yvw2p1 : w2.heap.size < w8.heap.size + 1 := (by omega)
                have yvw2p2 : w2.heap.size < w8.heap.size + 1 + 1 := (by omega)
                have yvw30 : w3.heap.size < w8.heap.size := hCv.blk (b := w3.heap.size) (k := 0) (v := .int .i64 0) (by simp)
                have yvw3p1 : w3.heap.size < w8.heap.size + 1 := (by omega)
                have yvw3p2 : w3.heap.size < w8.heap.size + 1 + 1 := (by omega)
                have yvw40 : w4.heap.size < w8.heap.size := hCv.blk (b := w4.heap.size) (k := 0) (v := .int .i64 0) (by simp)
                have yvw4p1 : w4.heap.size < w8.heap.size + 1 := (by omega)
                have yvw4p2 : w4.heap.size < w8.heap.size + 1 + 1 := (by omega)
                by_cases hlt2 : j < U.length
                · obtain ⟨ad8, y, rfl, hy, hyc⟩ := ((hI5.below hBu).below hBv).at_ hlt2
                  have hq0 : w8.cell? ⟨g, k * 2, none⟩ = some (.slice A' C.length c') := (hBv.cell hgl).trans hcr0
                  have hq1 : w8.cell? ⟨g, k * 2 + 1, none⟩ = some (.int .i64 cm) := (hBv.cell hgl).trans hcr1
                  have HSS := Lib.hid (setTo_succ (C := C) hy.out)
                  have hsl := setTo_len U C j
                  have hlen : (setTo U C j).length < 1000000000000 := by omega
                  by_cases hin : y ∈ C
                  · rw [if_pos hin] at HSS
                    go_wp2_with fail
                    go_quiet ((go_at_call 40; exact Calls.quiet_of_same ((has_yes _ _ _ _ _ (hJ.below (by repeat (first | with_reducible exact hBv | with_reducible apply bdrew | with_reducible apply bdrewN | with_reducible apply balloc | ((with_reducible refine bset ?_ ?_ _); rotate_left; (first | omega | (simp <;> omega)))))) hC63 hin).mono fun _ _ h => ⟨h.1, h.2.symm⟩)))
                    go_wp2_with (at_builtin; go_must (refine wpList_push rfl (.tmp 142) (.tmp 144) rfl w7 [(w.heap.size, 0, .int .i64 t.facts), (w.heap.size, 1, .slice Ai t.init.length ci), (w.heap.size, 2, .slice Ag t.goal.length cg), (w.heap.size, 3, .slice Ao t.ops.length co), (w2.heap.size, 0, .int .i64 0), (w2.heap.size, 1, .int .i64 0), (w3.heap.size, 0, .int .i64 0), (w3.heap.size, 1, .int .i64 0), (w4.heap.size, 0, .int .i64 0), (w4.heap.size, 1, .int .i64 0)] (w7.heap.size + 1) vs _ ((j : Int)) rfl (OwnI.below hown8 ?p1) ⟨w8.heap.size, 0, none⟩ 1 rfl ?p2 hlen ?p3 ?p4 ?p5 ?p6 ?p7 ?_; (case p1 => repeat (first | with_reducible exact Below.refl _ _ | with_reducible apply bdrew | with_reducible apply bdrewN | with_reducible apply balloc | ((with_reducible refine bset ?_ ?_ _); rotate_left; (first | omega | (simp <;> omega))))); (case p2 => (first | simp [Cls, go_sem, Fv, yvw0, yvwp1, yvwp2, yvw20, yvw2p1, yvw2p2, yvw30, yvw3p1, yvw3p2, yvw40, yvw4p1, yvw4p2] | exact cell_new_at _ _ _ _ rfl)); (case p3 => (first | omega | (simp <;> omega))); (case p4 => (first | omega | (simp <;> omega))); (case p5 => repeat (first | with_reducible exact hBv | with_reducible apply bdrew | with_reducible apply bdrewN | with_reducible apply balloc | ((with_reducible refine bset ?_ ?_ _); rotate_left; (first | omega | (simp <;> omega))))); (case p6 => exact Cls.below (w := w8) (by repeat (first | with_reducible exact Below.refl _ _ | with_reducible apply bdrew | with_reducible apply bdrewN | with_reducible apply balloc | ((with_reducible refine bset ?_ ?_ _); rotate_left; (first | omega | (simp <;> omega))))) hCv); (case p7 => (simp <;> omega)); intro v9 w9 o9 D9 C9 sz9; have d9s := D9.size; have F9 := C9; simp only [Cls, and_true] at F9; have y9w0 : w.heap.size < w9.heap.size := C9.blk (b := w.heap.size) (k := 0) (v := .int .i64 t.facts) (by simp); have y9wp1 : w.heap.size < w9.heap.size + 1 := (by omega); have y9wp2 : w.heap.size < w9.heap.size + 1 + 1 := (by omega); have y9w20 : w2.heap.size < w9.heap.size := C9.blk (b := w2.heap.size) (k := 0) (v := .int .i64 0) (by simp); have y9w2p1 : w2.heap.size < w9.heap.size + 1 := (by omega); have y9w2p2 : w2.heap.size < w9.heap.size + 1 + 1 := (by omega); have y9w30 : w3.heap.size < w9.heap.size := C9.blk (b := w3.heap.size) (k := 0) (v := .int .i64 0) (by simp); have y9w3p1 : w3.heap.size < w9.heap.size + 1 := (by omega); have y9w3p2 : w3.heap.size < w9.heap.size + 1 + 1 := (by omega); have y9w40 : w4.heap.size < w9.heap.size := C9.blk (b := w4.heap.size) (k := 0) (v := .int .i64 0) (by simp); have y9w4p1 : w4.heap.size < w9.heap.size + 1 := (by omega); have y9w4p2 : w4.heap.size < w9.heap.size + 1 + 1 := (by omega)))
                    go_roundw
                    case rel => exact ⟨j + 1, v9, by omega, by go_num, rfl, by rw [HSS.out]; exact o9, (by repeat (first | with_reducible exact D9 | with_reducible apply bdrew | with_reducible apply bdrewN | with_reducible apply balloc | ((with_reducible refine bset ?_ ?_ _); rotate_left; (first | omega | (simp <;> omega))))), (by simp [Cls, go_sem, F9, y9w0, y9wp1, y9wp2, y9w20, y9w2p1, y9w2p2, y9w30, y9w3p1, y9w3p2, y9w40, y9w4p1, y9w4p2])⟩
                    case measure => simp [intOf]; omega
                  · rw [if_neg hin, List.append_nil] at HSS
                    go_wp2_with fail
                    go_quiet ((go_at_call 40; exact Calls.quiet_of_same ((has_no _ _ _ _ _ (hJ.below (by repeat (first | with_reducible exact hBv | with_reducible apply bdrew | with_reducible apply bdrewN | with_reducible apply balloc | ((with_reducible refine bset ?_ ?_ _); rotate_left; (first | omega | (simp <;> omega)))))) hC63 hin).mono fun _ _ h => ⟨h.1, h.2.symm⟩)))
                    go_wp2
                    go_roundw
                    case rel => exact ⟨j + 1, _, by omega, by go_num, rfl, by rw [HSS.out]; exact hown8.below (by repeat (first | with_reducible exact Below.refl _ _ | with_reducible apply bdrew | with_reducible apply bdrewN | with_reducible apply balloc | ((with_reducible refine bset ?_ ?_ _); rotate_left; (first | omega | (simp <;> omega))))), (by repeat (first | with_reducible exact hBv | with_reducible apply bdrew | with_reducible apply bdrewN | with_reducible apply balloc | ((with_reducible refine bset ?_ ?_ _); rotate_left; (first | omega | (simp <;> omega))))), (Cls.below (w := w8) (by repeat (first | with_reducible exact Below.refl _ _ | with_reducible apply bdrew | with_reducible apply bdrewN | with_reducible apply balloc | ((with_reducible refine bset ?_ ?_ _); rotate_left; (first | omega | (simp <;> omega))))) hCv)⟩
                    case measure => simp [intOf]; omega
                · obtain rfl : j = U.length := by omega
                  obtain ⟨A10, c10, rfl, -, -⟩ := hown8.form
                  have hown7' := hown7.below hBv
                  have hlt67 := hBu.size
                  have hrow : ∀ b, vj.ownBlock = some b → b < w7.heap.size + 1 := fun b hb => by
                    have h1 := (OwnEs.lt hown7 b hb).2
                    omega
                  have HY := Lib.hid (plist_of (B := w5.heap.size) (row := vj.ownBlock) hown8 (by omega) hrow)
                  have hlen : (setsT U (xs.take k)).length < 1000000000000 := by rw [setsT_len, List.length_take]; omega
                  have hB58 := hBu.trans (hBv.mono hBu.size)
                  have hs58 := hB58.size
                  go_wp2_with (at_builtin; go_must (refine wpList_el (plist_stable _) 27 24 (.slice none 0 0) Try.underlying27 info_list rfl (by decide) (by decide) rfl (.tmp 146) (.tmp 148) rfl w5 [(w.heap.size, 0, .int .i64 t.facts), (w.heap.size, 1, .slice Ai t.init.length ci), (w.heap.size, 2, .slice Ag t.goal.length cg), (w.heap.size, 3, .slice Ao t.ops.length co), (w2.heap.size, 0, .int .i64 0), (w2.heap.size, 1, .int .i64 0), (w3.heap.size, 0, .int .i64 0), (w3.heap.size, 1, .int .i64 0), (w4.heap.size, 0, .int .i64 0), (w4.heap.size, 1, .int .i64 0)] rfl (OwnLL.below hown7' ?p1) ⟨w8.heap.size, 0, none⟩ 1 rfl [.slice A10 (setTo U C U.length).length c10] (setTo U C U.length) rfl (cells_one ?p2) ?p8 ((plist_stable _).below HY.out ?p9) hlen ?p3 (Nat.le_refl _) ?p5 ?p6 ?p7 ?_; (case p1 => repeat (first | with_reducible exact Below.refl _ _ | with_reducible apply bdrew | with_reducible apply bdrewN | with_reducible apply balloc | ((with_reducible refine bset ?_ ?_ _); rotate_left; (first | omega | (simp <;> omega))))); (case p2 => simp [go_sem]); (case p3 => (simp <;> omega)); (case p5 => repeat (first | with_reducible exact hB58 | with_reducible apply bdrew | with_reducible apply bdrewN | with_reducible apply balloc | ((with_reducible refine bset ?_ ?_ _); rotate_left; (first | omega | (simp <;> omega))))); (case p6 => simp [Cls, go_sem, Fv, yvw0, yvwp1, yvwp2, yvw20, yvw2p1, yvw2p2, yvw30, yvw3p1, yvw3p2, yvw40, yvw4p1, yvw4p2]); (case p7 => (simp <;> omega)); (case p8 => intro u hu; simp at hu; subst hu; rfl); (case p9 => repeat (first | with_reducible exact Below.refl _ _ | with_reducible apply bdrew | with_reducible apply bdrewN | with_reducible apply balloc | ((with_reducible refine bset ?_ ?_ _); rotate_left; (first | omega | (simp <;> omega))))); intro v10 w10 o10 D10 C10 sz10 G10 at10; clear G10 at10; have d10s := D10.size))
                  go_roundw
                  case rel => exact ⟨k + 1, v10, by omega, by go_num, rfl, by rw [HXS.out]; exact o10, D10, C10⟩
                  case measure => simp [intOf]; omega
            · obtain rfl : k = xs.length := by omega
              rw [List.take_length] at hown7
              obtain ⟨A11, c11, rfl⟩ := OwnEs.form hown7
              have hst : Hid (setsT (usedV xs) xs = setsT U xs) := Lib.hid (by rw [hU.out])
              go_wp2_with fail
              refine (leasthit_any _ A11 c11 _ (llr_of_own hown7) A9 c9 _ (hI9.below hBu) HHOK.out).mono ?_
              rintro e w12 ⟨b12, l12, rfl, hch, hB12⟩
              have D12 := dstep w hB12 (by repeat (first | with_reducible exact DU | with_reducible apply bdrew | with_reducible apply bdrewN | with_reducible apply balloc | ((with_reducible refine bset ?_ ?_ _); rotate_left; (first | omega | (simp <;> omega)))))
              have d12s := D12.size
              have C12 := Cls.below (l := [(w.heap.size, 0, .int .i64 t.facts), (w.heap.size, 1, .slice Ai t.init.length ci), (w.heap.size, 2, .slice Ag t.goal.length cg), (w.heap.size, 3, .slice Ao t.ops.length co), (w2.heap.size, 0, .int .i64 0), (w2.heap.size, 1, .int .i64 0), (w3.heap.size, 0, .int .i64 0), (w3.heap.size, 1, .int .i64 0), (w4.heap.size, 0, .int .i64 0), (w4.heap.size, 1, .int .i64 0)]) hB12 (by simp [Cls, go_sem, Fu, yuw0, yuwp1, yuwp2, yuw20, yuw2p1, yuw2p2, yuw30, yuw3p1, yuw3p2, yuw40, yuw4p1, yuw4p2])
              have F12 := C12
              simp only [Cls, and_true] at F12
              have y12w0 : w.heap.size < w12.heap.size := C12.blk (b := w.heap.size) (k := 0) (v := .int .i64 t.facts) (by simp)
              have y12wp1 : w.heap.size < w12.heap.size + 1 := (by omega)
              have y12wp2 : w.heap.size < w12.heap.size + 1 + 1 := (by omega)
              have y12w20 : w2.heap.size < w12.heap.size := C12.blk (b := w2.heap.size) (k := 0) (v := .int .i64 0) (by simp)
              have y12w2p1 : w2.heap.size < w12.heap.size + 1 := (by omega)
              have y12w2p2 : w2.heap.size < w12.heap.size + 1 + 1 := (by omega)
              have y12w30 : w3.heap.size < w12.heap.size := C12.blk (b := w3.heap.size) (k := 0) (v := .int .i64 0) (by simp)
              have y12w3p1 : w3.heap.size < w12.heap.size + 1 := (by omega)
              have y12w3p2 : w3.heap.size < w12.heap.size + 1 + 1 := (by omega)
              have y12w40 : w4.heap.size < w12.heap.size := C12.blk (b := w4.heap.size) (k := 0) (v := .int .i64 0) (by simp)
              have y12w4p1 : w4.heap.size < w12.heap.size + 1 := (by omega)
              have y12w4p2 : w4.heap.size < w12.heap.size + 1 + 1 := (by omega)
              have hnl : nn = l12 := cho_cuts HV.out HOK.out HFEW.out (v := v9) (u := b12) (by rw [hCU.out]; exact HCH.out) (by rw [hCU.out, hst.out]; exact hch)
              subst hnl
              clear hch
              go_wp2
              go_ret
              exact ⟨by simp, by repeat (first | with_reducible exact D12 | with_reducible apply bdrew | with_reducible apply bdrewN | with_reducible apply balloc | ((with_reducible refine bset ?_ ?_ _); rotate_left; (first | omega | (simp <;> omega))))⟩

theorem walk_hbb (w : World) (t : TaskV) (Ai Ag Ao : Option Addr) (ci cg co : Nat) (hR : TaskRead w Ai Ag Ao ci cg co t) (S : Option Addr) (cs : Nat) (st : List Int) (hS : Ints w S st) (hSn : NilOk S st cs) :
    Calls Try.prog 11 #[.agg #[.int .i64 t.facts, .slice Ai t.init.length ci, .slice Ag t.goal.length cg, .slice Ao t.ops.length co], .slice S st.length cs] w fun e w' => e = .returned (.bool true) ∧ Below w.heap.size w w' := by
  by_cases h : (sfault t st).1 = 0
  · obtain ⟨hv, h2⟩ := sfault_zero.1 h
    obtain ⟨n, hn⟩ := Int.eq_ofNat_of_zero_le hv.f0
    by_cases hre : GoalR t st
    · exact walk_hbb_yes w t Ai Ag Ao ci cg co hR S cs st hS hSn n hn hv h2 hre
    · exact walk_hbb_no w t Ai Ag Ao ci cg co hR S cs st hS hSn n hn hv h2 hre
  · exact walk_hbb_1 w t Ai Ag Ao ci cg co hR S cs st hS hSn h

namespace hittingBoundMatchesSpec
open Go.ChangeShapes Go.WideShapes Go.ChangeAt Go.RowKit

set_option maxRecDepth 100000 in
theorem lifted (os : Os) (started : os.Started) (H : Type) (enc : TypeId × Value → H) :
    ReturnsInHanded {} Try.checked os 11 .any (Rows.hittingBoundMatchesSpecSpec.pre6 enc Try.prog Try.f11 Rows.hittingBoundMatchesSpecRow.domain false) (Rows.hittingBoundMatchesSpecSpec.post enc Try.prog Try.f11 false true false false) := by
  refine returnsInHanded_of_change (C := Try.checked) own_knob started (by kernel_rfl) Try.func11
    (ChangeSpec.witness6 (enc := enc) (C := Try.checked) false ⟨#[], #[.agg #[.int .i64 0, .slice none 0 0, .slice none 0 0, .slice none 0 0], .slice none 0 0], []⟩ 8 (by kernel_rfl) (by kernel_rfl) (by kernel_rfl) (by kernel_rfl)) ?_
  intro W base args ds gs before hval0 hW _ hsz
  have hval : ∀ (j : Nat) t v, Try.f11.params[j]? = some t → args[j]? = some v → Value.okWide Try.prog W .any base t v := hval0
  have hpost := fun (W' : World) (hfn : gs = [] → Rows.hittingBoundMatchesSpecSpec.fn H (ds ++ gs) = { results := [.lit (.bool true)], args := ds }) (hb : Below W.heap.size W W') => law_post (f := Try.f11) (tb := 4) laid_out_B Try.underlying4 rfl (by kernel_rfl) rfl hfn hW hb
  obtain ⟨p, q, hA0, hV, hpq, hfz, hnd⟩ := hW
  have hA : DataW.TrodAll enc Try.prog W 0 (fun _ => true) true Try.f11.params.toList args.toList ds p := hA0
  rw [Try.params11] at hA hval
  obtain ⟨v0, vs0, d0, ds0, p0, q0, hargs, rfl, hp0, h0, r0⟩ := trodAll_cons hA
  obtain ⟨v1, vs1, d1, ds1, p1, q1, rfl, rfl, hp1, h1, r1⟩ := trodAll_cons r0
  obtain ⟨rfl, rfl, hpn⟩ := trodAll_nil r1
  obtain rfl : args = #[v0, v1] := by cases args; simp_all
  obtain ⟨t, Ai, Ag, Ao, ci, cg, co, rfl, hR⟩ := open_taskW (hval 0 25 v0 rfl rfl) h0
  obtain ⟨S, cs, st, rfl, hSc, hSl, hSnn, hS, hSi⟩ := open_intsW (hval 1 22 v1 rfl rfl) h1
  refine (walk_hbb W t Ai Ag Ao ci cg co hR S cs st hS ⟨hSnn, hSc, hSl⟩).mono fun e W' ⟨he, hb⟩ => ?_
  subst he
  exact ⟨_, rfl, hpost W' (fun hg => by subst hg; rfl) hb⟩

theorem closed : joinedFacts Try.checked.prog 11 Try.f11 Rows.hittingBoundMatchesSpecSpec Rows.hittingBoundMatchesSpecRow = true := by
  unfold joinedFacts
  rw [pf_enter, pf_lifts, pf_make]
  kernel_rfl
theorem proved : Rows.HittingBoundMatchesSpecSaid :=
  OpenClaim.holds_of_wide 11 Try.f11 rfl rfl rfl rfl rfl rfl rfl ⟨rfl, rfl, rfl, rfl, rfl⟩ rfl rfl rfl rfl rfl (by kernel_rfl) Try.func11 closed
    (of_decide_eq_true (by kernel_rfl)) (by unfold Func.isWrapper; first | (rw [if_pos (by decide +kernel)]; kernel_rfl) | (rw [if_neg (by decide +kernel)]; exact ⟨rfl, rfl⟩))
    (fun os started H enc _ => lifted os started H enc)
#print axioms proved
end hittingBoundMatchesSpec

end Go.Proofs.Ytihkgdlanfemcaa
