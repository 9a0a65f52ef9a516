/-
  pairs.Values, Goal and Exclusive: the law's walk.
-/
import Derived.Test.YtihkgdlanfemcaaPt6
import Derived.Test.YtihkgdlanfemcaaPv5
import Derived.Test.YtihkgdlanfemcaaBlaw
import Derived.Test.YtihkgdlanfemcaaMA
import Derived.Test.YtihkgdlanfemcaaPfacts
namespace Go.Proofs.Ytihkgdlanfemcaa
open Go.RowKit
set_option linter.unusedVariables false
set_option linter.unusedSimpArgs false

set_option maxRecDepth 100000 in
set_option maxHeartbeats 1000000 in
theorem walk_pvs_1 (w : World) (t : TaskV) (Ai Ag Ao : Option Addr) (ci cg co : Nat) (hR : TaskRead w Ai Ag Ao ci cg co t) (S : Option Addr) (cs : Nat) (st : List Int) (hS : Ints w S st) (hSn : NilOk S st cs) (h : ¬ (tfault t).1 = 0) :
    Calls Try.prog 3 #[.agg #[.int .i64 t.facts, .slice Ai t.init.length ci, .slice Ag t.goal.length cg, .slice Ao t.ops.length co], .slice S st.length cs] w fun e w' => e = .returned (.bool true) ∧ Below w.heap.size w w' := by
  have N := bb_no h
  have N' := bn_yes h
  have hT := hR.mem
  have hls : lenOk st.length := Nat.le_trans hSn.2.1 hSn.2.2
  have HSF := Lib.hid (sfault_task (s := st) h)
  have hs : ¬ (sfault t st).1 = 0 := by rw [HSF.out]; exact h
  go_enter Try.func3, Try.ntmps3
  go_wp2_with fail
  refine (pexample_any _).mono ?_
  rintro e w1 ⟨rfl, hB1⟩
  have D1 := dstep w hB1 (by repeat (first | with_reducible exact Below.refl _ _ | with_reducible apply bdrew | with_reducible apply bdrewN | with_reducible apply balloc | ((with_reducible refine bset ?_ ?_ _); rotate_left; (first | omega | (simp <;> omega)))))
  have d1s := D1.size
  have C1 := Cls.below (l := [(w.heap.size, 0, .int .i64 t.facts), (w.heap.size, 1, .slice Ai t.init.length ci), (w.heap.size, 2, .slice Ag t.goal.length cg), (w.heap.size, 3, .slice Ao t.ops.length co)]) hB1 (by simp [Cls, go_sem])
  have F1 := C1
  simp only [Cls, and_true] at F1
  have y1w0 : w.heap.size < w1.heap.size := C1.blk (b := w.heap.size) (k := 0) (v := .int .i64 t.facts) (by simp)
  have y1wp1 : w.heap.size < w1.heap.size + 1 := (by omega)
  have y1wp2 : w.heap.size < w1.heap.size + 1 + 1 := (by omega)
  go_wp2_with fail
  refine (pvalues_1 _ t Ai Ag Ao ci cg co (hT.below (by repeat (first | with_reducible exact D1 | with_reducible apply bdrew | with_reducible apply bdrewN | with_reducible apply balloc | ((with_reducible refine bset ?_ ?_ _); rotate_left; (first | omega | (simp <;> omega)))))) _ _ _ (hS.below (by repeat (first | with_reducible exact D1 | with_reducible apply bdrew | with_reducible apply bdrewN | with_reducible apply balloc | ((with_reducible refine bset ?_ ?_ _); rotate_left; (first | omega | (simp <;> omega)))))) hls hs).mono ?_
  rintro e w2 ⟨he, hB2⟩
  rw [HSF.out] at he
  subst he
  have D2 := dstep w hB2 (by repeat (first | with_reducible exact D1 | with_reducible apply bdrew | with_reducible apply bdrewN | with_reducible apply balloc | ((with_reducible refine bset ?_ ?_ _); rotate_left; (first | omega | (simp <;> omega)))))
  have d2s := D2.size
  have C2 := Cls.below (l := [(w.heap.size, 0, .int .i64 t.facts), (w.heap.size, 1, .slice Ai t.init.length ci), (w.heap.size, 2, .slice Ag t.goal.length cg), (w.heap.size, 3, .slice Ao t.ops.length co)]) hB2 (by simp [Cls, go_sem, F1, y1w0, y1wp1, y1wp2])
  have F2 := C2
  simp only [Cls, and_true] at F2
  have y2w0 : w.heap.size < w2.heap.size := C2.blk (b := w.heap.size) (k := 0) (v := .int .i64 t.facts) (by simp)
  have y2wp1 : w.heap.size < w2.heap.size + 1 := (by omega)
  have y2wp2 : w.heap.size < w2.heap.size + 1 + 1 := (by omega)
  go_wp2_with fail
  refine (pgoal_1 _ t Ai Ag Ao ci cg co (hT.below (by repeat (first | with_reducible exact D2 | with_reducible apply bdrew | with_reducible apply bdrewN | with_reducible apply balloc | ((with_reducible refine bset ?_ ?_ _); rotate_left; (first | omega | (simp <;> omega)))))) _ _ _ (hS.below (by repeat (first | with_reducible exact D2 | with_reducible apply bdrew | with_reducible apply bdrewN | with_reducible apply balloc | ((with_reducible refine bset ?_ ?_ _); rotate_left; (first | omega | (simp <;> omega)))))) hls hs).mono ?_
  rintro e w3 ⟨he, hB3⟩
  rw [HSF.out] at he
  subst he
  have D3 := dstep w hB3 (by repeat (first | with_reducible exact D2 | with_reducible apply bdrew | with_reducible apply bdrewN | with_reducible apply balloc | ((with_reducible refine bset ?_ ?_ _); rotate_left; (first | omega | (simp <;> omega)))))
  have d3s := D3.size
  have C3 := Cls.below (l := [(w.heap.size, 0, .int .i64 t.facts), (w.heap.size, 1, .slice Ai t.init.length ci), (w.heap.size, 2, .slice Ag t.goal.length cg), (w.heap.size, 3, .slice Ao t.ops.length co), (w2.heap.size, 0, .int .i64 (tfault t).1), (w2.heap.size, 1, .int .i64 (tfault t).2)]) hB3 (by simp [Cls, go_sem, F2, y2w0, y2wp1, y2wp2])
  have F3 := C3
  simp only [Cls, and_true] at F3
  have y3w0 : w.heap.size < w3.heap.size := C3.blk (b := w.heap.size) (k := 0) (v := .int .i64 t.facts) (by simp)
  have y3wp1 : w.heap.size < w3.heap.size + 1 := (by omega)
  have y3wp2 : w.heap.size < w3.heap.size + 1 + 1 := (by omega)
  have y3w20 : w2.heap.size < w3.heap.size := C3.blk (b := w2.heap.size) (k := 0) (v := .int .i64 (tfault t).1) (by simp)
  have y3w2p1 : w2.heap.size < w3.heap.size + 1 := (by omega)
  have y3w2p2 : w2.heap.size < w3.heap.size + 1 + 1 := (by omega)
  go_wp2_with fail
  refine (pexcl_1 _ t Ai Ag Ao ci cg co (hT.below (by repeat (first | with_reducible exact D3 | with_reducible apply bdrew | with_reducible apply bdrewN | with_reducible apply balloc | ((with_reducible refine bset ?_ ?_ _); rotate_left; (first | omega | (simp <;> omega)))))) h).mono ?_
  rintro e w4 ⟨rfl, hB4⟩
  have D4 := dstep w hB4 (by repeat (first | with_reducible exact D3 | with_reducible apply bdrew | with_reducible apply bdrewN | with_reducible apply balloc | ((with_reducible refine bset ?_ ?_ _); rotate_left; (first | omega | (simp <;> omega)))))
  have d4s := D4.size
  have C4 := Cls.below (l := [(w.heap.size, 0, .int .i64 t.facts), (w.heap.size, 1, .slice Ai t.init.length ci), (w.heap.size, 2, .slice Ag t.goal.length cg), (w.heap.size, 3, .slice Ao t.ops.length co), (w2.heap.size, 0, .int .i64 (tfault t).1), (w2.heap.size, 1, .int .i64 (tfault t).2), (w3.heap.size, 0, .int .i64 (tfault t).1), (w3.heap.size, 1, .int .i64 (tfault t).2)]) hB4 (by simp [Cls, go_sem, F3, y3w0, y3wp1, y3wp2, y3w20, y3w2p1, y3w2p2])
  have F4 := C4
  simp only [Cls, and_true] at F4
  have y4w0 : w.heap.size < w4.heap.size := C4.blk (b := w.heap.size) (k := 0) (v := .int .i64 t.facts) (by simp)
  have y4wp1 : w.heap.size < w4.heap.size + 1 := (by omega)
  have y4wp2 : w.heap.size < w4.heap.size + 1 + 1 := (by omega)
  have y4w20 : w2.heap.size < w4.heap.size := C4.blk (b := w2.heap.size) (k := 0) (v := .int .i64 (tfault t).1) (by simp)
  have y4w2p1 : w2.heap.size < w4.heap.size + 1 := (by omega)
  have y4w2p2 : w2.heap.size < w4.heap.size + 1 + 1 := (by omega)
  have y4w30 : w3.heap.size < w4.heap.size := C4.blk (b := w3.heap.size) (k := 0) (v := .int .i64 (tfault t).1) (by simp)
  have y4w3p1 : w3.heap.size < w4.heap.size + 1 := (by omega)
  have y4w3p2 : w3.heap.size < w4.heap.size + 1 + 1 := (by omega)
  go_wp2_with fail
  refine (taskfault_any _ t Ai Ag Ao ci cg co (hT.below (by repeat (first | with_reducible exact D4 | with_reducible apply bdrew | with_reducible apply bdrewN | with_reducible apply balloc | ((with_reducible refine bset ?_ ?_ _); rotate_left; (first | omega | (simp <;> omega))))))).mono ?_
  rintro e w5 ⟨rfl, hB5⟩
  have D5 := dstep w hB5 (by repeat (first | with_reducible exact D4 | with_reducible apply bdrew | with_reducible apply bdrewN | with_reducible apply balloc | ((with_reducible refine bset ?_ ?_ _); rotate_left; (first | omega | (simp <;> omega)))))
  have d5s := D5.size
  have C5 := Cls.below (l := [(w.heap.size, 0, .int .i64 t.facts), (w.heap.size, 1, .slice Ai t.init.length ci), (w.heap.size, 2, .slice Ag t.goal.length cg), (w.heap.size, 3, .slice Ao t.ops.length co), (w2.heap.size, 0, .int .i64 (tfault t).1), (w2.heap.size, 1, .int .i64 (tfault t).2), (w3.heap.size, 0, .int .i64 (tfault t).1), (w3.heap.size, 1, .int .i64 (tfault t).2), (w4.heap.size, 0, .int .i64 (tfault t).1), (w4.heap.size, 1, .int .i64 (tfault t).2)]) hB5 (by simp [Cls, go_sem, F4, y4w0, y4wp1, y4wp2, y4w20, y4w2p1, y4w2p2, y4w30, y4w3p1, y4w3p2])
  have F5 := C5
  simp only [Cls, and_true] at F5
  have y5w0 : w.heap.size < w5.heap.size := C5.blk (b := w.heap.size) (k := 0) (v := .int .i64 t.facts) (by simp)
  have y5wp1 : w.heap.size < w5.heap.size + 1 := (by omega)
  have y5wp2 : w.heap.size < w5.heap.size + 1 + 1 := (by omega)
  have y5w20 : w2.heap.size < w5.heap.size := C5.blk (b := w2.heap.size) (k := 0) (v := .int .i64 (tfault t).1) (by simp)
  have y5w2p1 : w2.heap.size < w5.heap.size + 1 := (by omega)
  have y5w2p2 : w2.heap.size < w5.heap.size + 1 + 1 := (by omega)
  have y5w30 : w3.heap.size < w5.heap.size := C5.blk (b := w3.heap.size) (k := 0) (v := .int .i64 (tfault t).1) (by simp)
  have y5w3p1 : w3.heap.size < w5.heap.size + 1 := (by omega)
  have y5w3p2 : w3.heap.size < w5.heap.size + 1 + 1 := (by omega)
  have y5w40 : w4.heap.size < w5.heap.size := C5.blk (b := w4.heap.size) (k := 0) (v := .int .i64 (tfault t).1) (by simp)
  have y5w4p1 : w4.heap.size < w5.heap.size + 1 := (by omega)
  have y5w4p2 : w4.heap.size < w5.heap.size + 1 + 1 := (by omega)
  go_wp2
  go_ret
  exact ⟨by simp, by repeat (first | with_reducible exact D5 | with_reducible apply bdrew | with_reducible apply bdrewN | with_reducible apply balloc | ((with_reducible refine bset ?_ ?_ _); rotate_left; (first | omega | (simp <;> omega))))⟩

theorem pops_in {t : TaskV} {n : Nat} (hv : Valid t) (hn : t.facts = n) : OpsIn n t.ops := fun o ho => by
  obtain ⟨⟨h1, h2, _, _⟩, h3, h4⟩ := hv.ops o ho
  rw [hn] at h1 h2
  exact ⟨fun p hp => h1.1 p hp, fun p hp => h2.1 p hp, h3, h4⟩
set_option maxRecDepth 100000 in
set_option maxHeartbeats 4000000 in
theorem walk_pvs_good (w : World) (t : TaskV) (Ai Ag Ao : Option Addr) (ci cg co : Nat) (hR : TaskRead w Ai Ag Ao ci cg co t) (S : Option Addr) (cs : Nat) (st : List Int) (hS : Ints w S st) (hSn : NilOk S st cs) (n : Nat) (hn : t.facts = n) (hv : Valid t) (h2 : SetP st t.facts) :
    Calls Try.prog 3 #[.agg #[.int .i64 t.facts, .slice Ai t.init.length ci, .slice Ag t.goal.length cg, .slice Ao t.ops.length co], .slice S st.length cs] w fun e w' => e = .returned (.bool true) ∧ Below w.heap.size w w' := by
  have hT := hR.mem
  have hls : lenOk st.length := Nat.le_trans hSn.2.1 hSn.2.2
  have hn24 : n ≤ 24 := by have := hv.f1; omega
  have HT0 := Lib.hid (tfault_valid hv)
  have HN := Lib.hid hn
  have HV := Lib.hid hv
  have h40 := hv.nops
  have hli : lenOk t.init.length := hT.linit
  have hlg : t.goal.length ≤ 1000000 := by have := SetP.length hv.goal hv.f0; omega
  have HGO := Lib.hid (goal_in hv hn)
  have HIR := Lib.hid (fun q hq => by have := hv.init.1 q hq; rw [hn] at this; exact this : ∀ q ∈ t.init, Rng n q)
  have HOPS := Lib.hid (pops_in hv hn)
  have HSETS := Lib.hid (fun o ho => by have := (hv.ops o ho).1.1; rw [hn] at this; exact this : ∀ o ∈ t.ops, SetP o.pre (n : Int))
  have H2 := Lib.hid h2
  have HSR := Lib.hid (fun q hq => by have := h2.1 q hq; rw [hn] at this; exact this : ∀ q ∈ st, Rng n q)
  have HSZ := Lib.hid (sfault_yes (tfault_zero.2 hv) h2)
  rw [hn]
  clear hv hn h2
  go_enter Try.func3, Try.ntmps3
  go_wp2_with fail
  refine (pexample_any _).mono ?_
  rintro e w1 ⟨rfl, hB1⟩
  have D1 := dstep w hB1 (by repeat (first | with_reducible exact Below.refl _ _ | with_reducible apply bdrew | with_reducible apply bdrewN | with_reducible apply balloc | ((with_reducible refine bset ?_ ?_ _); rotate_left; (first | omega | (simp <;> omega)))))
  have d1s := D1.size
  have C1 := Cls.below (l := [(w.heap.size, 0, .int .i64 (n : Int)), (w.heap.size, 1, .slice Ai t.init.length ci), (w.heap.size, 2, .slice Ag t.goal.length cg), (w.heap.size, 3, .slice Ao t.ops.length co)]) hB1 (by simp [Cls, go_sem])
  have F1 := C1
  simp only [Cls, and_true] at F1
  have y1w0 : w.heap.size < w1.heap.size := C1.blk (b := w.heap.size) (k := 0) (v := .int .i64 (n : Int)) (by simp)
  have y1wp1 : w.heap.size < w1.heap.size + 1 := (by omega)
  have y1wp2 : w.heap.size < w1.heap.size + 1 + 1 := (by omega)
  go_wp2_with fail
  refine (pvalues_2n _ t Ai Ag Ao ci cg co (hT.below (by repeat (first | with_reducible exact D1 | with_reducible apply bdrew | with_reducible apply bdrewN | with_reducible apply balloc | ((with_reducible refine bset ?_ ?_ _); rotate_left; (first | omega | (simp <;> omega)))))) (hR.ops.below (by repeat (first | with_reducible exact D1 | with_reducible apply bdrew | with_reducible apply bdrewN | with_reducible apply balloc | ((with_reducible refine bset ?_ ?_ _); rotate_left; (first | omega | (simp <;> omega)))))) _ _ _ (hS.below (by repeat (first | with_reducible exact D1 | with_reducible apply bdrew | with_reducible apply bdrewN | with_reducible apply balloc | ((with_reducible refine bset ?_ ?_ _); rotate_left; (first | omega | (simp <;> omega)))))) hls n HN.out HV.out H2.out).mono ?_
  rintro e w2 ⟨g2, V2, rfl, hT2, hb2, hB2⟩
  have D2 := dstep w hB2 (by repeat (first | with_reducible exact D1 | with_reducible apply bdrew | with_reducible apply bdrewN | with_reducible apply balloc | ((with_reducible refine bset ?_ ?_ _); rotate_left; (first | omega | (simp <;> omega)))))
  have d2s := D2.size
  have C2 := Cls.below (l := [(w.heap.size, 0, .int .i64 (n : Int)), (w.heap.size, 1, .slice Ai t.init.length ci), (w.heap.size, 2, .slice Ag t.goal.length cg), (w.heap.size, 3, .slice Ao t.ops.length co)]) hB2 (by simp [Cls, go_sem, F1, y1w0, y1wp1, y1wp2])
  have F2 := C2
  simp only [Cls, and_true] at F2
  have y2w0 : w.heap.size < w2.heap.size := C2.blk (b := w.heap.size) (k := 0) (v := .int .i64 (n : Int)) (by simp)
  have y2wp1 : w.heap.size < w2.heap.size + 1 := (by omega)
  have y2wp2 : w.heap.size < w2.heap.size + 1 + 1 := (by omega)
  have Hb2 := Lib.hid hb2
  have hL2 := hT2.llr
  clear hb2 hT2
  go_wp2_with fail
  refine (pgoal_2n _ t Ai Ag Ao ci cg co (hT.below (by repeat (first | with_reducible exact D2 | with_reducible apply bdrew | with_reducible apply bdrewN | with_reducible apply balloc | ((with_reducible refine bset ?_ ?_ _); rotate_left; (first | omega | (simp <;> omega)))))) (hR.ops.below (by repeat (first | with_reducible exact D2 | with_reducible apply bdrew | with_reducible apply bdrewN | with_reducible apply balloc | ((with_reducible refine bset ?_ ?_ _); rotate_left; (first | omega | (simp <;> omega)))))) hR.ngoal _ _ _ (hS.below (by repeat (first | with_reducible exact D2 | with_reducible apply bdrew | with_reducible apply bdrewN | with_reducible apply balloc | ((with_reducible refine bset ?_ ?_ _); rotate_left; (first | omega | (simp <;> omega)))))) hls n HN.out HV.out H2.out).mono ?_
  rintro e w3 ⟨V3, rfl, hb3, hB3⟩
  have D3 := dstep w hB3 (by repeat (first | with_reducible exact D2 | with_reducible apply bdrew | with_reducible apply bdrewN | with_reducible apply balloc | ((with_reducible refine bset ?_ ?_ _); rotate_left; (first | omega | (simp <;> omega)))))
  have d3s := D3.size
  have Ew2_3 := dstep w2 hB3 (by repeat (first | with_reducible exact Below.refl _ _ | with_reducible apply bdrew | with_reducible apply bdrewN | with_reducible apply balloc | ((with_reducible refine bset ?_ ?_ _); rotate_left; (first | omega | (simp <;> omega)))))
  have C3 := Cls.below (l := [(w.heap.size, 0, .int .i64 (n : Int)), (w.heap.size, 1, .slice Ai t.init.length ci), (w.heap.size, 2, .slice Ag t.goal.length cg), (w.heap.size, 3, .slice Ao t.ops.length co), (w2.heap.size, 0, .int .i64 0), (w2.heap.size, 1, .int .i64 0)]) hB3 (by simp [Cls, go_sem, F2, y2w0, y2wp1, y2wp2])
  have F3 := C3
  simp only [Cls, and_true] at F3
  have y3w0 : w.heap.size < w3.heap.size := C3.blk (b := w.heap.size) (k := 0) (v := .int .i64 (n : Int)) (by simp)
  have y3wp1 : w.heap.size < w3.heap.size + 1 := (by omega)
  have y3wp2 : w.heap.size < w3.heap.size + 1 + 1 := (by omega)
  have y3w20 : w2.heap.size < w3.heap.size := C3.blk (b := w2.heap.size) (k := 0) (v := .int .i64 0) (by simp)
  have y3w2p1 : w2.heap.size < w3.heap.size + 1 := (by omega)
  have y3w2p2 : w2.heap.size < w3.heap.size + 1 + 1 := (by omega)
  have Hb3 := Lib.hid hb3
  clear hb3
  obtain ⟨vg, hvg⟩ : ∃ vg, Hid (valP V3 t.goal = vg) := ⟨_, Lib.hid rfl⟩
  rw [hvg.out]
  go_wp2_with fail
  refine (pexcl_2n _ t Ai Ag Ao ci cg co (hT.below (by repeat (first | with_reducible exact D3 | with_reducible apply bdrew | with_reducible apply bdrewN | with_reducible apply balloc | ((with_reducible refine bset ?_ ?_ _); rotate_left; (first | omega | (simp <;> omega)))))) (hR.ops.below (by repeat (first | with_reducible exact D3 | with_reducible apply bdrew | with_reducible apply bdrewN | with_reducible apply balloc | ((with_reducible refine bset ?_ ?_ _); rotate_left; (first | omega | (simp <;> omega)))))) n HN.out HV.out).mono ?_
  rintro e w4 ⟨v4, V4, rfl, ⟨B4, hB4', ho4⟩, hb4, hB4⟩
  have D4 := dstep w hB4 (by repeat (first | with_reducible exact D3 | with_reducible apply bdrew | with_reducible apply bdrewN | with_reducible apply balloc | ((with_reducible refine bset ?_ ?_ _); rotate_left; (first | omega | (simp <;> omega)))))
  have d4s := D4.size
  have Ew2_4 := dstep w2 hB4 (by repeat (first | with_reducible exact Ew2_3 | with_reducible apply bdrew | with_reducible apply bdrewN | with_reducible apply balloc | ((with_reducible refine bset ?_ ?_ _); rotate_left; (first | omega | (simp <;> omega)))))
  have C4 := Cls.below (l := [(w.heap.size, 0, .int .i64 (n : Int)), (w.heap.size, 1, .slice Ai t.init.length ci), (w.heap.size, 2, .slice Ag t.goal.length cg), (w.heap.size, 3, .slice Ao t.ops.length co), (w2.heap.size, 0, .int .i64 0), (w2.heap.size, 1, .int .i64 0), (w3.heap.size, 0, .int .i64 0), (w3.heap.size, 1, .int .i64 0)]) hB4 (by simp [Cls, go_sem, F3, y3w0, y3wp1, y3wp2, y3w20, y3w2p1, y3w2p2])
  have F4 := C4
  simp only [Cls, and_true] at F4
  have y4w0 : w.heap.size < w4.heap.size := C4.blk (b := w.heap.size) (k := 0) (v := .int .i64 (n : Int)) (by simp)
  have y4wp1 : w.heap.size < w4.heap.size + 1 := (by omega)
  have y4wp2 : w.heap.size < w4.heap.size + 1 + 1 := (by omega)
  have y4w20 : w2.heap.size < w4.heap.size := C4.blk (b := w2.heap.size) (k := 0) (v := .int .i64 0) (by simp)
  have y4w2p1 : w2.heap.size < w4.heap.size + 1 := (by omega)
  have y4w2p2 : w2.heap.size < w4.heap.size + 1 + 1 := (by omega)
  have y4w30 : w3.heap.size < w4.heap.size := C4.blk (b := w3.heap.size) (k := 0) (v := .int .i64 0) (by simp)
  have y4w3p1 : w3.heap.size < w4.heap.size + 1 := (by omega)
  have y4w3p2 : w3.heap.size < w4.heap.size + 1 + 1 := (by omega)
  have Hb4 := Lib.hid hb4
  clear hb4 hB4'
  go_wp2_with fail
  refine (taskfault_anyn _ t Ai Ag Ao ci cg co (hT.below (by repeat (first | with_reducible exact D4 | with_reducible apply bdrew | with_reducible apply bdrewN | with_reducible apply balloc | ((with_reducible refine bset ?_ ?_ _); rotate_left; (first | omega | (simp <;> omega)))))) n HN.out).mono ?_
  rintro e w5 ⟨he, hB5⟩
  rw [HT0.out] at he
  subst he
  have D5 := dstep w hB5 (by repeat (first | with_reducible exact D4 | with_reducible apply bdrew | with_reducible apply bdrewN | with_reducible apply balloc | ((with_reducible refine bset ?_ ?_ _); rotate_left; (first | omega | (simp <;> omega)))))
  have d5s := D5.size
  have Ew2_5 := dstep w2 hB5 (by repeat (first | with_reducible exact Ew2_4 | with_reducible apply bdrew | with_reducible apply bdrewN | with_reducible apply balloc | ((with_reducible refine bset ?_ ?_ _); rotate_left; (first | omega | (simp <;> omega)))))
  have Ew4_5 := dstep w4 hB5 (by repeat (first | with_reducible exact Below.refl _ _ | with_reducible apply bdrew | with_reducible apply bdrewN | with_reducible apply balloc | ((with_reducible refine bset ?_ ?_ _); rotate_left; (first | omega | (simp <;> omega)))))
  have C5 := Cls.below (l := [(w.heap.size, 0, .int .i64 (n : Int)), (w.heap.size, 1, .slice Ai t.init.length ci), (w.heap.size, 2, .slice Ag t.goal.length cg), (w.heap.size, 3, .slice Ao t.ops.length co), (w2.heap.size, 0, .int .i64 0), (w2.heap.size, 1, .int .i64 0), (w3.heap.size, 0, .int .i64 0), (w3.heap.size, 1, .int .i64 0), (w4.heap.size, 0, .int .i64 0), (w4.heap.size, 1, .int .i64 0)]) hB5 (by simp [Cls, go_sem, F4, y4w0, y4wp1, y4wp2, y4w20, y4w2p1, y4w2p2, y4w30, y4w3p1, y4w3p2])
  have F5 := C5
  simp only [Cls, and_true] at F5
  have y5w0 : w.heap.size < w5.heap.size := C5.blk (b := w.heap.size) (k := 0) (v := .int .i64 (n : Int)) (by simp)
  have y5wp1 : w.heap.size < w5.heap.size + 1 := (by omega)
  have y5wp2 : w.heap.size < w5.heap.size + 1 + 1 := (by omega)
  have y5w20 : w2.heap.size < w5.heap.size := C5.blk (b := w2.heap.size) (k := 0) (v := .int .i64 0) (by simp)
  have y5w2p1 : w2.heap.size < w5.heap.size + 1 := (by omega)
  have y5w2p2 : w2.heap.size < w5.heap.size + 1 + 1 := (by omega)
  have y5w30 : w3.heap.size < w5.heap.size := C5.blk (b := w3.heap.size) (k := 0) (v := .int .i64 0) (by simp)
  have y5w3p1 : w3.heap.size < w5.heap.size + 1 := (by omega)
  have y5w3p2 : w3.heap.size < w5.heap.size + 1 + 1 := (by omega)
  have y5w40 : w4.heap.size < w5.heap.size := C5.blk (b := w4.heap.size) (k := 0) (v := .int .i64 0) (by simp)
  have y5w4p1 : w4.heap.size < w5.heap.size + 1 := (by omega)
  have y5w4p2 : w4.heap.size < w5.heap.size + 1 + 1 := (by omega)
  go_wp2_with fail
  refine (rpairs_any _ t Ai Ag Ao ci cg co (hT.below (by repeat (first | with_reducible exact D5 | with_reducible apply bdrew | with_reducible apply bdrewN | with_reducible apply balloc | ((with_reducible refine bset ?_ ?_ _); rotate_left; (first | omega | (simp <;> omega)))))) _ _ _ (hT.init.below (by repeat (first | with_reducible exact D5 | with_reducible apply bdrew | with_reducible apply bdrewN | with_reducible apply balloc | ((with_reducible refine bset ?_ ?_ _); rotate_left; (first | omega | (simp <;> omega)))))) hli n hn24 HIR.out HOPS.out HSETS.out (hR.ops.below (by repeat (first | with_reducible exact D5 | with_reducible apply bdrew | with_reducible apply bdrewN | with_reducible apply balloc | ((with_reducible refine bset ?_ ?_ _); rotate_left; (first | omega | (simp <;> omega)))))) h40).mono ?_
  rintro e w6 ⟨V, A6, c6, rfl, hL6, Hb6, hB6⟩
  have D6 := dstep w hB6 (by repeat (first | with_reducible exact D5 | with_reducible apply bdrew | with_reducible apply bdrewN | with_reducible apply balloc | ((with_reducible refine bset ?_ ?_ _); rotate_left; (first | omega | (simp <;> omega)))))
  have d6s := D6.size
  have Ew2_6 := dstep w2 hB6 (by repeat (first | with_reducible exact Ew2_5 | with_reducible apply bdrew | with_reducible apply bdrewN | with_reducible apply balloc | ((with_reducible refine bset ?_ ?_ _); rotate_left; (first | omega | (simp <;> omega)))))
  have Ew4_6 := dstep w4 hB6 (by repeat (first | with_reducible exact Ew4_5 | with_reducible apply bdrew | with_reducible apply bdrewN | with_reducible apply balloc | ((with_reducible refine bset ?_ ?_ _); rotate_left; (first | omega | (simp <;> omega)))))
  have C6 := Cls.below (l := [(w.heap.size, 0, .int .i64 (n : Int)), (w.heap.size, 1, .slice Ai t.init.length ci), (w.heap.size, 2, .slice Ag t.goal.length cg), (w.heap.size, 3, .slice Ao t.ops.length co), (w2.heap.size, 0, .int .i64 0), (w2.heap.size, 1, .int .i64 0), (w3.heap.size, 0, .int .i64 0), (w3.heap.size, 1, .int .i64 0), (w4.heap.size, 0, .int .i64 0), (w4.heap.size, 1, .int .i64 0), (w5.heap.size, 0, .int .i64 0), (w5.heap.size, 1, .int .i64 0)]) hB6 (by simp [Cls, go_sem, F5, y5w0, y5wp1, y5wp2, y5w20, y5w2p1, y5w2p2, y5w30, y5w3p1, y5w3p2, y5w40, y5w4p1, y5w4p2])
  have F6 := C6
  simp only [Cls, and_true] at F6
  have y6w0 : w.heap.size < w6.heap.size := C6.blk (b := w.heap.size) (k := 0) (v := .int .i64 (n : Int)) (by simp)
  have y6wp1 : w.heap.size < w6.heap.size + 1 := (by omega)
  have y6wp2 : w.heap.size < w6.heap.size + 1 + 1 := (by omega)
  have y6w20 : w2.heap.size < w6.heap.size := C6.blk (b := w2.heap.size) (k := 0) (v := .int .i64 0) (by simp)
  have y6w2p1 : w2.heap.size < w6.heap.size + 1 := (by omega)
  have y6w2p2 : w2.heap.size < w6.heap.size + 1 + 1 := (by omega)
  have y6w30 : w3.heap.size < w6.heap.size := C6.blk (b := w3.heap.size) (k := 0) (v := .int .i64 0) (by simp)
  have y6w3p1 : w3.heap.size < w6.heap.size + 1 := (by omega)
  have y6w3p2 : w3.heap.size < w6.heap.size + 1 + 1 := (by omega)
  have y6w40 : w4.heap.size < w6.heap.size := C6.blk (b := w4.heap.size) (k := 0) (v := .int .i64 0) (by simp)
  have y6w4p1 : w4.heap.size < w6.heap.size + 1 := (by omega)
  have y6w4p2 : w4.heap.size < w6.heap.size + 1 + 1 := (by omega)
  have y6w50 : w5.heap.size < w6.heap.size := C6.blk (b := w5.heap.size) (k := 0) (v := .int .i64 0) (by simp)
  have y6w5p1 : w5.heap.size < w6.heap.size + 1 := (by omega)
  have y6w5p2 : w5.heap.size < w6.heap.size + 1 + 1 := (by omega)
  rw [exTo_same Hb4.out Hb6.out] at ho4
  go_wp2_with fail
  go_loopw [13, 14] (fun v i wr => ∃ k : Nat, k ≤ n ∧ i = .int .i64 k ∧ OwnPP w6.heap.size wr v (exTo n V k) ∧ Below w6.heap.size w6 wr ∧ Cls wr [(w.heap.size, 0, .int .i64 (n : Int)), (w.heap.size, 1, .slice Ai t.init.length ci), (w.heap.size, 2, .slice Ag t.goal.length cg), (w.heap.size, 3, .slice Ao t.ops.length co), (w2.heap.size, 0, .int .i64 0), (w2.heap.size, 1, .int .i64 0), (w3.heap.size, 0, .int .i64 0), (w3.heap.size, 1, .int .i64 0), (w4.heap.size, 0, .int .i64 0), (w4.heap.size, 1, .int .i64 0), (w5.heap.size, 0, .int .i64 0), (w5.heap.size, 1, .int .i64 0)]) (fun _ i _ => n - (intOf i).toNat)
  case atStart => exact ⟨0, Nat.zero_le _, rfl, OwnEs.nil _ _, (by repeat (first | with_reducible exact Below.refl _ _ | with_reducible apply bdrew | with_reducible apply bdrewN | with_reducible apply balloc | ((with_reducible refine bset ?_ ?_ _); rotate_left; (first | omega | (simp <;> omega))))), (by simp [Cls, go_sem, F6, y6w0, y6wp1, y6wp2, y6w20, y6w2p1, y6w2p2, y6w30, y6w3p1, y6w3p2, y6w40, y6w4p1, y6w4p2, y6w50, y6w5p1, y6w5p2])⟩
  case round =>
    obtain ⟨k, hk, rfl, hown, hBr, hCr⟩ := hrel
    obtain ⟨w7, rfl⟩ : ∃ wo : World, wo = wr := ⟨_, rfl⟩
    have drs := hBr.size
    have Fr := hCr
    simp only [Cls, and_true] at Fr
    have yrw0 : w.heap.size < w7.heap.size := hCr.blk (b := w.heap.size) (k := 0) (v := .int .i64 (n : Int)) (by simp)
    have yrwp1 : w.heap.size < w7.heap.size + 1 := (by omega)
    have yrwp2 : w.heap.size < w7.heap.size + 1 + 1 := (by omega)
    have yrw20 : w2.heap.size < w7.heap.size := hCr.blk (b := w2.heap.size) (k := 0) (v := .int .i64 0) (by simp)
    have yrw2p1 : w2.heap.size < w7.heap.size + 1 := (by omega)
    have yrw2p2 : w2.heap.size < w7.heap.size + 1 + 1 := (by omega)
    have yrw30 : w3.heap.size < w7.heap.size := hCr.blk (b := w3.heap.size) (k := 0) (v := .int .i64 0) (by simp)
    have yrw3p1 : w3.heap.size < w7.heap.size + 1 := (by omega)
    have yrw3p2 : w3.heap.size < w7.heap.size + 1 + 1 := (by omega)
    have yrw40 : w4.heap.size < w7.heap.size := hCr.blk (b := w4.heap.size) (k := 0) (v := .int .i64 0) (by simp)
    have yrw4p1 : w4.heap.size < w7.heap.size + 1 := (by omega)
    have yrw4p2 : w4.heap.size < w7.heap.size + 1 + 1 := (by omega)
    have yrw50 : w5.heap.size < w7.heap.size := hCr.blk (b := w5.heap.size) (k := 0) (v := .int .i64 0) (by simp)
    have yrw5p1 : w5.heap.size < w7.heap.size + 1 := (by omega)
    have yrw5p2 : w5.heap.size < w7.heap.size + 1 + 1 := (by omega)
    by_cases hlt : k < n
    · have HK0 : Hid (OwnPP w6.heap.size w7 u13 (exTo n V k ++ exPart V k (k + 1))) := Lib.hid (by rw [exPart_zero, List.append_nil]; exact hown)
      go_wp2_with fail
      go_loopw [13, 15] (fun v i wr => ∃ j : Nat, k < j ∧ j ≤ n ∧ i = .int .i64 j ∧ OwnPP w6.heap.size wr v (exTo n V k ++ exPart V k j) ∧ Below w6.heap.size w6 wr ∧ Cls wr [(w.heap.size, 0, .int .i64 (n : Int)), (w.heap.size, 1, .slice Ai t.init.length ci), (w.heap.size, 2, .slice Ag t.goal.length cg), (w.heap.size, 3, .slice Ao t.ops.length co), (w2.heap.size, 0, .int .i64 0), (w2.heap.size, 1, .int .i64 0), (w3.heap.size, 0, .int .i64 0), (w3.heap.size, 1, .int .i64 0), (w4.heap.size, 0, .int .i64 0), (w4.heap.size, 1, .int .i64 0), (w5.heap.size, 0, .int .i64 0), (w5.heap.size, 1, .int .i64 0)]) (fun _ i _ => n - (intOf i).toNat)
      case atStart => exact ⟨k + 1, by omega, by omega, by go_num, HK0.out, (by repeat (first | with_reducible exact hBr | with_reducible apply bdrew | with_reducible apply bdrewN | with_reducible apply balloc | ((with_reducible refine bset ?_ ?_ _); rotate_left; (first | omega | (simp <;> omega))))), (by simp [Cls, go_sem, Fr, yrw0, yrwp1, yrwp2, yrw20, yrw2p1, yrw2p2, yrw30, yrw3p1, yrw3p2, yrw40, yrw4p1, yrw4p2, yrw50, yrw5p1, yrw5p2])⟩
      case round =>
        obtain ⟨j, hkj, hj, rfl, ho8, hBs, hCs⟩ := hrel
        obtain ⟨w8, rfl⟩ : ∃ wo : World, wo = wr := ⟨_, rfl⟩
        have dss := hBs.size
        have Fs := hCs
        simp only [Cls, and_true] at Fs
        have ysw0 : w.heap.size < w8.heap.size := hCs.blk (b := w.heap.size) (k := 0) (v := .int .i64 (n : Int)) (by simp)
        have yswp1 : w.heap.size < w8.heap.size + 1 := (by omega)
        have yswp2 : w.heap.size < w8.heap.size + 1 + 1 := (by omega)
        have ysw20 : w2.heap.size < w8.heap.size := hCs.blk (b := w2.heap.size) (k := 0) (v := .int .i64 0) (by simp)
        have ysw2p1 : w2.heap.size < w8.heap.size + 1 := (by omega)
        have ysw2p2 : w2.heap.size < w8.heap.size + 1 + 1 := (by omega)
        have ysw30 : w3.heap.size < w8.heap.size := hCs.blk (b := w3.heap.size) (k := 0) (v := .int .i64 0) (by simp)
        have ysw3p1 : w3.heap.size < w8.heap.size + 1 := (by omega)
        have ysw3p2 : w3.heap.size < w8.heap.size + 1 + 1 := (by omega)
        have ysw40 : w4.heap.size < w8.heap.size := hCs.blk (b := w4.heap.size) (k := 0) (v := .int .i64 0) (by simp)
        have ysw4p1 : w4.heap.size < w8.heap.size + 1 := (by omega)
        have ysw4p2 : w4.heap.size < w8.heap.size + 1 + 1 := (by omega)
        have ysw50 : w5.heap.size < w8.heap.size := hCs.blk (b := w5.heap.size) (k := 0) (v := .int .i64 0) (by simp)
        have ysw5p1 : w5.heap.size < w8.heap.size + 1 := (by omega)
        have ysw5p2 : w5.heap.size < w8.heap.size + 1 + 1 := (by omega)
        by_cases hjl : j < n
        · have hkI : (0 : Int) ≤ (k : Int) ∧ (k : Int) < (n : Int) := by omega
          have hjI : (0 : Int) ≤ (j : Int) ∧ (j : Int) < (n : Int) := by omega
          obtain ⟨ad, bd, cr, rfl, hgc, hcv, -⟩ := tab_at (hL6.below hBs) hkI hjI
          rw [Int.toNat_natCast] at hgc hcv
          obtain ⟨hk0, hk1⟩ := hkI
          obtain ⟨hj0, hj1⟩ := hjI
          have hlen : (exTo n V k ++ exPart V k j).length < 1000000000000 := by
            rw [List.length_append]
            have h1 := exTo_len n V k
            have h2 := exPart_len V k j
            have h3 := Nat.mul_le_mul (show k ≤ 24 by omega) hn24
            omega
          by_cases he : V (k : Int) (j : Int) = 1000000000
          · have HP := Lib.hid (exPart_yes (V := V) hkj he)
            rw [he] at hcv
            clear he
            go_wp2_with (at_builtin; go_must (refine wpList_el ppair_stable 34 16 (.agg #[.int .i64 0, .int .i64 0]) Try.underlying34 info_pair rfl (by decide) (by decide) rfl (.tmp 90) (.tmp 94) rfl w6 [(w.heap.size, 0, .int .i64 (n : Int)), (w.heap.size, 1, .slice Ai t.init.length ci), (w.heap.size, 2, .slice Ag t.goal.length cg), (w.heap.size, 3, .slice Ao t.ops.length co), (w2.heap.size, 0, .int .i64 0), (w2.heap.size, 1, .int .i64 0), (w3.heap.size, 0, .int .i64 0), (w3.heap.size, 1, .int .i64 0), (w4.heap.size, 0, .int .i64 0), (w4.heap.size, 1, .int .i64 0), (w5.heap.size, 0, .int .i64 0), (w5.heap.size, 1, .int .i64 0)] rfl (OwnPP.below ho8 ?p1) ⟨w8.heap.size, 0, none⟩ 1 rfl [.int .i64 (k : Int), .int .i64 (j : Int)] ((k : Int), (j : Int)) rfl (cells_two ?p2 ?p10) ?p8 rfl hlen ?p3 (Nat.le_refl _) ?p5 ?p6 ?p7 ?_; (case p1 => repeat (first | with_reducible exact Below.refl _ _ | with_reducible apply bdrew | with_reducible apply bdrewN | with_reducible apply balloc | ((with_reducible refine bset ?_ ?_ _); rotate_left; (first | omega | (simp <;> omega))))); (case p2 => simp [go_sem]); (case p10 => simp [go_sem]); (case p3 => (simp <;> omega)); (case p5 => repeat (first | with_reducible exact hBs | with_reducible apply bdrew | with_reducible apply bdrewN | with_reducible apply balloc | ((with_reducible refine bset ?_ ?_ _); rotate_left; (first | omega | (simp <;> omega))))); (case p6 => simp [Cls, go_sem, Fs, ysw0, yswp1, yswp2, ysw20, ysw2p1, ysw2p2, ysw30, ysw3p1, ysw3p2, ysw40, ysw4p1, ysw4p2, ysw50, ysw5p1, ysw5p2]); (case p7 => (simp <;> omega)); (case p8 => intro u hu; simp at hu; rcases hu with rfl | rfl <;> rfl); intro v9 w9 o9 D9 C9 sz9 G9 at9; clear G9 at9))
            go_roundw
            case rel => exact ⟨j + 1, by omega, by omega, by go_num, by rw [← HP.out, ← List.append_assoc]; exact o9, D9, C9⟩
            case measure => simp [intOf]; omega
          · have HP := Lib.hid (exPart_no (V := V) he)
            obtain ⟨vv, hvv⟩ : ∃ vv, Hid (V (k : Int) (j : Int) = vv) := ⟨_, Lib.hid rfl⟩
            rw [hvv.out] at hcv he
            have hne : (vv == 1000000000) = false := by simpa using he
            clear he
            go_wp2
            go_roundw
            case rel => exact ⟨j + 1, by omega, by omega, by go_num, by rw [HP.out]; exact ho8, (by repeat (first | with_reducible exact hBs | with_reducible apply bdrew | with_reducible apply bdrewN | with_reducible apply balloc | ((with_reducible refine bset ?_ ?_ _); rotate_left; (first | omega | (simp <;> omega))))), (by simp [Cls, go_sem, Fs, ysw0, yswp1, yswp2, ysw20, ysw2p1, ysw2p2, ysw30, ysw3p1, ysw3p2, ysw40, ysw4p1, ysw4p2, ysw50, ysw5p1, ysw5p2])⟩
            case measure => simp [intOf]; omega
        · obtain rfl : n = j := by omega
          have HP := Lib.hid (exTo_succ n V k)
          go_wp2
          go_roundw
          case rel => exact ⟨k + 1, by omega, by go_num, by rw [← HP.out]; exact ho8, (by repeat (first | with_reducible exact hBs | with_reducible apply bdrew | with_reducible apply bdrewN | with_reducible apply balloc | ((with_reducible refine bset ?_ ?_ _); rotate_left; (first | omega | (simp <;> omega))))), (by simp [Cls, go_sem, Fs, ysw0, yswp1, yswp2, ysw20, ysw2p1, ysw2p2, ysw30, ysw3p1, ysw3p2, ysw40, ysw4p1, ysw4p2, ysw50, ysw5p1, ysw5p2])⟩
          case measure => simp [intOf]; omega
    · obtain rfl : n = k := by omega
      have DR := D6.trans (hBr.mono D6.size)
      obtain ⟨ps, hps⟩ : ∃ ps, Hid (exTo n V n = ps) := ⟨_, Lib.hid rfl⟩
      have hpl : ps.length ≤ 9223372036854775807 := by
        rw [← hps.out]
        have h1 := exTo_len n V n
        have h3 := Nat.mul_le_mul hn24 hn24
        omega
      rw [hps.out] at hown ho4
      obtain ⟨A4, c4, rfl⟩ := OwnEs.form ho4
      obtain ⟨A7, c7, rfl⟩ := OwnEs.form hown
      have hX4 := OwnPP.below (OwnPP.below ho4 (by repeat (first | with_reducible exact Ew4_6 | with_reducible apply bdrew | with_reducible apply bdrewN | with_reducible apply balloc | ((with_reducible refine bset ?_ ?_ _); rotate_left; (first | omega | (simp <;> omega)))))) hBr
      clear ho4
      have EW2 := (show Below w2.heap.size w2 w6 from by repeat (first | with_reducible exact Ew2_6 | with_reducible apply bdrew | with_reducible apply bdrewN | with_reducible apply balloc | ((with_reducible refine bset ?_ ?_ _); rotate_left; (first | omega | (simp <;> omega))))).trans (hBr.mono (show Below w2.heap.size w2 w6 from by repeat (first | with_reducible exact Ew2_6 | with_reducible apply bdrew | with_reducible apply bdrewN | with_reducible apply balloc | ((with_reducible refine bset ?_ ?_ _); rotate_left; (first | omega | (simp <;> omega))))).size)
      go_wp2_with fail
      refine (couples_yes _ A4 A7 B4 w6.heap.size c4 c7 ps (OwnPP.below hX4 (by repeat (first | with_reducible exact Below.refl _ _ | with_reducible apply bdrew | with_reducible apply bdrewN | with_reducible apply balloc | ((with_reducible refine bset ?_ ?_ _); rotate_left; (first | omega | (simp <;> omega)))))) (OwnPP.below hown (by repeat (first | with_reducible exact Below.refl _ _ | with_reducible apply bdrew | with_reducible apply bdrewN | with_reducible apply balloc | ((with_reducible refine bset ?_ ?_ _); rotate_left; (first | omega | (simp <;> omega)))))) hpl).mono ?_
      rintro e w8 ⟨rfl, hB8⟩
      have D8 := dstep w hB8 (by repeat (first | with_reducible exact DR | with_reducible apply bdrew | with_reducible apply bdrewN | with_reducible apply balloc | ((with_reducible refine bset ?_ ?_ _); rotate_left; (first | omega | (simp <;> omega)))))
      have d8s := D8.size
      have Ew2_8 := dstep w2 hB8 (by repeat (first | with_reducible exact EW2 | with_reducible apply bdrew | with_reducible apply bdrewN | with_reducible apply balloc | ((with_reducible refine bset ?_ ?_ _); rotate_left; (first | omega | (simp <;> omega)))))
      have C8 := Cls.below (l := [(w.heap.size, 0, .int .i64 (n : Int)), (w.heap.size, 1, .slice Ai t.init.length ci), (w.heap.size, 2, .slice Ag t.goal.length cg), (w.heap.size, 3, .slice Ao t.ops.length co), (w2.heap.size, 0, .int .i64 0), (w2.heap.size, 1, .int .i64 0), (w3.heap.size, 0, .int .i64 0), (w3.heap.size, 1, .int .i64 0), (w4.heap.size, 0, .int .i64 0), (w4.heap.size, 1, .int .i64 0), (w5.heap.size, 0, .int .i64 0), (w5.heap.size, 1, .int .i64 0)]) hB8 (by simp [Cls, go_sem, Fr, yrw0, yrwp1, yrwp2, yrw20, yrw2p1, yrw2p2, yrw30, yrw3p1, yrw3p2, yrw40, yrw4p1, yrw4p2, yrw50, yrw5p1, yrw5p2])
      have F8 := C8
      simp only [Cls, and_true] at F8
      have y8w0 : w.heap.size < w8.heap.size := C8.blk (b := w.heap.size) (k := 0) (v := .int .i64 (n : Int)) (by simp)
      have y8wp1 : w.heap.size < w8.heap.size + 1 := (by omega)
      have y8wp2 : w.heap.size < w8.heap.size + 1 + 1 := (by omega)
      have y8w20 : w2.heap.size < w8.heap.size := C8.blk (b := w2.heap.size) (k := 0) (v := .int .i64 0) (by simp)
      have y8w2p1 : w2.heap.size < w8.heap.size + 1 := (by omega)
      have y8w2p2 : w2.heap.size < w8.heap.size + 1 + 1 := (by omega)
      have y8w30 : w3.heap.size < w8.heap.size := C8.blk (b := w3.heap.size) (k := 0) (v := .int .i64 0) (by simp)
      have y8w3p1 : w3.heap.size < w8.heap.size + 1 := (by omega)
      have y8w3p2 : w3.heap.size < w8.heap.size + 1 + 1 := (by omega)
      have y8w40 : w4.heap.size < w8.heap.size := C8.blk (b := w4.heap.size) (k := 0) (v := .int .i64 0) (by simp)
      have y8w4p1 : w4.heap.size < w8.heap.size + 1 := (by omega)
      have y8w4p2 : w4.heap.size < w8.heap.size + 1 + 1 := (by omega)
      have y8w50 : w5.heap.size < w8.heap.size := C8.blk (b := w5.heap.size) (k := 0) (v := .int .i64 0) (by simp)
      have y8w5p1 : w5.heap.size < w8.heap.size + 1 := (by omega)
      have y8w5p2 : w5.heap.size < w8.heap.size + 1 + 1 := (by omega)
      go_wp2_with fail
      refine (rstatefault_anyn _ t Ai Ag Ao ci cg co (hT.below (by repeat (first | with_reducible exact D8 | with_reducible apply bdrew | with_reducible apply bdrewN | with_reducible apply balloc | ((with_reducible refine bset ?_ ?_ _); rotate_left; (first | omega | (simp <;> omega)))))) _ _ _ (hS.below (by repeat (first | with_reducible exact D8 | with_reducible apply bdrew | with_reducible apply bdrewN | with_reducible apply balloc | ((with_reducible refine bset ?_ ?_ _); rotate_left; (first | omega | (simp <;> omega)))))) hls n HN.out).mono ?_
      rintro e w9 ⟨he, hB9⟩
      rw [HSZ.out] at he
      subst he
      have D9 := dstep w hB9 (by repeat (first | with_reducible exact D8 | with_reducible apply bdrew | with_reducible apply bdrewN | with_reducible apply balloc | ((with_reducible refine bset ?_ ?_ _); rotate_left; (first | omega | (simp <;> omega)))))
      have d9s := D9.size
      have Ew2_9 := dstep w2 hB9 (by repeat (first | with_reducible exact Ew2_8 | with_reducible apply bdrew | with_reducible apply bdrewN | with_reducible apply balloc | ((with_reducible refine bset ?_ ?_ _); rotate_left; (first | omega | (simp <;> omega)))))
      have C9 := Cls.below (l := [(w.heap.size, 0, .int .i64 (n : Int)), (w.heap.size, 1, .slice Ai t.init.length ci), (w.heap.size, 2, .slice Ag t.goal.length cg), (w.heap.size, 3, .slice Ao t.ops.length co), (w2.heap.size, 0, .int .i64 0), (w2.heap.size, 1, .int .i64 0), (w3.heap.size, 0, .int .i64 0), (w3.heap.size, 1, .int .i64 0), (w4.heap.size, 0, .int .i64 0), (w4.heap.size, 1, .int .i64 0), (w5.heap.size, 0, .int .i64 0), (w5.heap.size, 1, .int .i64 0)]) hB9 (by simp [Cls, go_sem, F8, y8w0, y8wp1, y8wp2, y8w20, y8w2p1, y8w2p2, y8w30, y8w3p1, y8w3p2, y8w40, y8w4p1, y8w4p2, y8w50, y8w5p1, y8w5p2])
      have F9 := C9
      simp only [Cls, and_true] at F9
      have y9w0 : w.heap.size < w9.heap.size := C9.blk (b := w.heap.size) (k := 0) (v := .int .i64 (n : Int)) (by simp)
      have y9wp1 : w.heap.size < w9.heap.size + 1 := (by omega)
      have y9wp2 : w.heap.size < w9.heap.size + 1 + 1 := (by omega)
      have y9w20 : w2.heap.size < w9.heap.size := C9.blk (b := w2.heap.size) (k := 0) (v := .int .i64 0) (by simp)
      have y9w2p1 : w2.heap.size < w9.heap.size + 1 := (by omega)
      have y9w2p2 : w2.heap.size < w9.heap.size + 1 + 1 := (by omega)
      have y9w30 : w3.heap.size < w9.heap.size := C9.blk (b := w3.heap.size) (k := 0) (v := .int .i64 0) (by simp)
      have y9w3p1 : w3.heap.size < w9.heap.size + 1 := (by omega)
      have y9w3p2 : w3.heap.size < w9.heap.size + 1 + 1 := (by omega)
      have y9w40 : w4.heap.size < w9.heap.size := C9.blk (b := w4.heap.size) (k := 0) (v := .int .i64 0) (by simp)
      have y9w4p1 : w4.heap.size < w9.heap.size + 1 := (by omega)
      have y9w4p2 : w4.heap.size < w9.heap.size + 1 + 1 := (by omega)
      have y9w50 : w5.heap.size < w9.heap.size := C9.blk (b := w5.heap.size) (k := 0) (v := .int .i64 0) (by simp)
      have y9w5p1 : w5.heap.size < w9.heap.size + 1 := (by omega)
      have y9w5p2 : w5.heap.size < w9.heap.size + 1 + 1 := (by omega)
      go_wp2_with fail
      refine (rpairs_any _ t Ai Ag Ao ci cg co (hT.below (by repeat (first | with_reducible exact D9 | with_reducible apply bdrew | with_reducible apply bdrewN | with_reducible apply balloc | ((with_reducible refine bset ?_ ?_ _); rotate_left; (first | omega | (simp <;> omega)))))) _ _ _ (hS.below (by repeat (first | with_reducible exact D9 | with_reducible apply bdrew | with_reducible apply bdrewN | with_reducible apply balloc | ((with_reducible refine bset ?_ ?_ _); rotate_left; (first | omega | (simp <;> omega)))))) hls n hn24 HSR.out HOPS.out HSETS.out (hR.ops.below (by repeat (first | with_reducible exact D9 | with_reducible apply bdrew | with_reducible apply bdrewN | with_reducible apply balloc | ((with_reducible refine bset ?_ ?_ _); rotate_left; (first | omega | (simp <;> omega)))))) h40).mono ?_
      rintro e w10 ⟨U, A10, c10, rfl, hL10, Hb10, hB10⟩
      have D10 := dstep w hB10 (by repeat (first | with_reducible exact D9 | with_reducible apply bdrew | with_reducible apply bdrewN | with_reducible apply balloc | ((with_reducible refine bset ?_ ?_ _); rotate_left; (first | omega | (simp <;> omega)))))
      have d10s := D10.size
      have Ew2_10 := dstep w2 hB10 (by repeat (first | with_reducible exact Ew2_9 | with_reducible apply bdrew | with_reducible apply bdrewN | with_reducible apply balloc | ((with_reducible refine bset ?_ ?_ _); rotate_left; (first | omega | (simp <;> omega)))))
      have C10 := Cls.below (l := [(w.heap.size, 0, .int .i64 (n : Int)), (w.heap.size, 1, .slice Ai t.init.length ci), (w.heap.size, 2, .slice Ag t.goal.length cg), (w.heap.size, 3, .slice Ao t.ops.length co), (w2.heap.size, 0, .int .i64 0), (w2.heap.size, 1, .int .i64 0), (w3.heap.size, 0, .int .i64 0), (w3.heap.size, 1, .int .i64 0), (w4.heap.size, 0, .int .i64 0), (w4.heap.size, 1, .int .i64 0), (w5.heap.size, 0, .int .i64 0), (w5.heap.size, 1, .int .i64 0)]) hB10 (by simp [Cls, go_sem, F9, y9w0, y9wp1, y9wp2, y9w20, y9w2p1, y9w2p2, y9w30, y9w3p1, y9w3p2, y9w40, y9w4p1, y9w4p2, y9w50, y9w5p1, y9w5p2])
      have F10 := C10
      simp only [Cls, and_true] at F10
      have y10w0 : w.heap.size < w10.heap.size := C10.blk (b := w.heap.size) (k := 0) (v := .int .i64 (n : Int)) (by simp)
      have y10wp1 : w.heap.size < w10.heap.size + 1 := (by omega)
      have y10wp2 : w.heap.size < w10.heap.size + 1 + 1 := (by omega)
      have y10w20 : w2.heap.size < w10.heap.size := C10.blk (b := w2.heap.size) (k := 0) (v := .int .i64 0) (by simp)
      have y10w2p1 : w2.heap.size < w10.heap.size + 1 := (by omega)
      have y10w2p2 : w2.heap.size < w10.heap.size + 1 + 1 := (by omega)
      have y10w30 : w3.heap.size < w10.heap.size := C10.blk (b := w3.heap.size) (k := 0) (v := .int .i64 0) (by simp)
      have y10w3p1 : w3.heap.size < w10.heap.size + 1 := (by omega)
      have y10w3p2 : w3.heap.size < w10.heap.size + 1 + 1 := (by omega)
      have y10w40 : w4.heap.size < w10.heap.size := C10.blk (b := w4.heap.size) (k := 0) (v := .int .i64 0) (by simp)
      have y10w4p1 : w4.heap.size < w10.heap.size + 1 := (by omega)
      have y10w4p2 : w4.heap.size < w10.heap.size + 1 + 1 := (by omega)
      have y10w50 : w5.heap.size < w10.heap.size := C10.blk (b := w5.heap.size) (k := 0) (v := .int .i64 0) (by simp)
      have y10w5p1 : w5.heap.size < w10.heap.size + 1 := (by omega)
      have y10w5p2 : w5.heap.size < w10.heap.size + 1 + 1 := (by omega)
      rw [tabR_same Hb2.out Hb10.out] at hL2
      have hUG := Lib.hid (show valP U t.goal = vg by rw [← hvg.out]; exact valP_eq (fun p hp q hq => Hb10.out.same Hb3.out (HGO.out p hp) (HGO.out q hq)))
      go_wp2_with fail
      refine (tables_any _ (some ⟨g2, 0, none⟩) A10 n n c10 U (hL2.below (by repeat (first | with_reducible exact Ew2_10 | with_reducible apply bdrew | with_reducible apply bdrewN | with_reducible apply balloc | ((with_reducible refine bset ?_ ?_ _); rotate_left; (first | omega | (simp <;> omega)))))) (hL10.below (by repeat (first | with_reducible exact Below.refl _ _ | with_reducible apply bdrew | with_reducible apply bdrewN | with_reducible apply balloc | ((with_reducible refine bset ?_ ?_ _); rotate_left; (first | omega | (simp <;> omega)))))) (by omega)).mono ?_
      rintro e w11 ⟨rfl, hB11⟩
      have D11 := dstep w hB11 (by repeat (first | with_reducible exact D10 | with_reducible apply bdrew | with_reducible apply bdrewN | with_reducible apply balloc | ((with_reducible refine bset ?_ ?_ _); rotate_left; (first | omega | (simp <;> omega)))))
      have d11s := D11.size
      have Ew2_11 := dstep w2 hB11 (by repeat (first | with_reducible exact Ew2_10 | with_reducible apply bdrew | with_reducible apply bdrewN | with_reducible apply balloc | ((with_reducible refine bset ?_ ?_ _); rotate_left; (first | omega | (simp <;> omega)))))
      have Ew10_11 := dstep w10 hB11 (by repeat (first | with_reducible exact Below.refl _ _ | with_reducible apply bdrew | with_reducible apply bdrewN | with_reducible apply balloc | ((with_reducible refine bset ?_ ?_ _); rotate_left; (first | omega | (simp <;> omega)))))
      have C11 := Cls.below (l := [(w.heap.size, 0, .int .i64 (n : Int)), (w.heap.size, 1, .slice Ai t.init.length ci), (w.heap.size, 2, .slice Ag t.goal.length cg), (w.heap.size, 3, .slice Ao t.ops.length co), (w2.heap.size, 0, .int .i64 0), (w2.heap.size, 1, .int .i64 0), (w3.heap.size, 0, .int .i64 0), (w3.heap.size, 1, .int .i64 0), (w4.heap.size, 0, .int .i64 0), (w4.heap.size, 1, .int .i64 0), (w5.heap.size, 0, .int .i64 0), (w5.heap.size, 1, .int .i64 0)]) hB11 (by simp [Cls, go_sem, F10, y10w0, y10wp1, y10wp2, y10w20, y10w2p1, y10w2p2, y10w30, y10w3p1, y10w3p2, y10w40, y10w4p1, y10w4p2, y10w50, y10w5p1, y10w5p2])
      have F11 := C11
      simp only [Cls, and_true] at F11
      have y11w0 : w.heap.size < w11.heap.size := C11.blk (b := w.heap.size) (k := 0) (v := .int .i64 (n : Int)) (by simp)
      have y11wp1 : w.heap.size < w11.heap.size + 1 := (by omega)
      have y11wp2 : w.heap.size < w11.heap.size + 1 + 1 := (by omega)
      have y11w20 : w2.heap.size < w11.heap.size := C11.blk (b := w2.heap.size) (k := 0) (v := .int .i64 0) (by simp)
      have y11w2p1 : w2.heap.size < w11.heap.size + 1 := (by omega)
      have y11w2p2 : w2.heap.size < w11.heap.size + 1 + 1 := (by omega)
      have y11w30 : w3.heap.size < w11.heap.size := C11.blk (b := w3.heap.size) (k := 0) (v := .int .i64 0) (by simp)
      have y11w3p1 : w3.heap.size < w11.heap.size + 1 := (by omega)
      have y11w3p2 : w3.heap.size < w11.heap.size + 1 + 1 := (by omega)
      have y11w40 : w4.heap.size < w11.heap.size := C11.blk (b := w4.heap.size) (k := 0) (v := .int .i64 0) (by simp)
      have y11w4p1 : w4.heap.size < w11.heap.size + 1 := (by omega)
      have y11w4p2 : w4.heap.size < w11.heap.size + 1 + 1 := (by omega)
      have y11w50 : w5.heap.size < w11.heap.size := C11.blk (b := w5.heap.size) (k := 0) (v := .int .i64 0) (by simp)
      have y11w5p1 : w5.heap.size < w11.heap.size + 1 := (by omega)
      have y11w5p2 : w5.heap.size < w11.heap.size + 1 + 1 := (by omega)
      go_wp2_with fail
      refine (rpgoal_anyn _ t Ai Ag Ao ci cg co (hT.below (by repeat (first | with_reducible exact D11 | with_reducible apply bdrew | with_reducible apply bdrewN | with_reducible apply balloc | ((with_reducible refine bset ?_ ?_ _); rotate_left; (first | omega | (simp <;> omega)))))) A10 n c10 U (hL10.below (by repeat (first | with_reducible exact Ew10_11 | with_reducible apply bdrew | with_reducible apply bdrewN | with_reducible apply balloc | ((with_reducible refine bset ?_ ?_ _); rotate_left; (first | omega | (simp <;> omega)))))) hlg (by omega) HGO.out HN.out).mono ?_
      rintro e w12 ⟨he, hB12⟩
      rw [hUG.out] at he
      subst he
      have D12 := dstep w hB12 (by repeat (first | with_reducible exact D11 | with_reducible apply bdrew | with_reducible apply bdrewN | with_reducible apply balloc | ((with_reducible refine bset ?_ ?_ _); rotate_left; (first | omega | (simp <;> omega)))))
      have d12s := D12.size
      have Ew2_12 := dstep w2 hB12 (by repeat (first | with_reducible exact Ew2_11 | with_reducible apply bdrew | with_reducible apply bdrewN | with_reducible apply balloc | ((with_reducible refine bset ?_ ?_ _); rotate_left; (first | omega | (simp <;> omega)))))
      have Ew10_12 := dstep w10 hB12 (by repeat (first | with_reducible exact Ew10_11 | with_reducible apply bdrew | with_reducible apply bdrewN | with_reducible apply balloc | ((with_reducible refine bset ?_ ?_ _); rotate_left; (first | omega | (simp <;> omega)))))
      have C12 := Cls.below (l := [(w.heap.size, 0, .int .i64 (n : Int)), (w.heap.size, 1, .slice Ai t.init.length ci), (w.heap.size, 2, .slice Ag t.goal.length cg), (w.heap.size, 3, .slice Ao t.ops.length co), (w2.heap.size, 0, .int .i64 0), (w2.heap.size, 1, .int .i64 0), (w3.heap.size, 0, .int .i64 0), (w3.heap.size, 1, .int .i64 0), (w4.heap.size, 0, .int .i64 0), (w4.heap.size, 1, .int .i64 0), (w5.heap.size, 0, .int .i64 0), (w5.heap.size, 1, .int .i64 0)]) hB12 (by simp [Cls, go_sem, F11, y11w0, y11wp1, y11wp2, y11w20, y11w2p1, y11w2p2, y11w30, y11w3p1, y11w3p2, y11w40, y11w4p1, y11w4p2, y11w50, y11w5p1, y11w5p2])
      have F12 := C12
      simp only [Cls, and_true] at F12
      have y12w0 : w.heap.size < w12.heap.size := C12.blk (b := w.heap.size) (k := 0) (v := .int .i64 (n : Int)) (by simp)
      have y12wp1 : w.heap.size < w12.heap.size + 1 := (by omega)
      have y12wp2 : w.heap.size < w12.heap.size + 1 + 1 := (by omega)
      have y12w20 : w2.heap.size < w12.heap.size := C12.blk (b := w2.heap.size) (k := 0) (v := .int .i64 0) (by simp)
      have y12w2p1 : w2.heap.size < w12.heap.size + 1 := (by omega)
      have y12w2p2 : w2.heap.size < w12.heap.size + 1 + 1 := (by omega)
      have y12w30 : w3.heap.size < w12.heap.size := C12.blk (b := w3.heap.size) (k := 0) (v := .int .i64 0) (by simp)
      have y12w3p1 : w3.heap.size < w12.heap.size + 1 := (by omega)
      have y12w3p2 : w3.heap.size < w12.heap.size + 1 + 1 := (by omega)
      have y12w40 : w4.heap.size < w12.heap.size := C12.blk (b := w4.heap.size) (k := 0) (v := .int .i64 0) (by simp)
      have y12w4p1 : w4.heap.size < w12.heap.size + 1 := (by omega)
      have y12w4p2 : w4.heap.size < w12.heap.size + 1 + 1 := (by omega)
      have y12w50 : w5.heap.size < w12.heap.size := C12.blk (b := w5.heap.size) (k := 0) (v := .int .i64 0) (by simp)
      have y12w5p1 : w5.heap.size < w12.heap.size + 1 := (by omega)
      have y12w5p2 : w5.heap.size < w12.heap.size + 1 + 1 := (by omega)
      go_wp2
      go_ret
      exact ⟨by simp, by repeat (first | with_reducible exact D12 | with_reducible apply bdrew | with_reducible apply bdrewN | with_reducible apply balloc | ((with_reducible refine bset ?_ ?_ _); rotate_left; (first | omega | (simp <;> omega))))⟩

set_option maxRecDepth 100000 in
set_option maxHeartbeats 4000000 in
theorem walk_pvs_bad (w : World) (t : TaskV) (Ai Ag Ao : Option Addr) (ci cg co : Nat) (hR : TaskRead w Ai Ag Ao ci cg co t) (S : Option Addr) (cs : Nat) (st : List Int) (hS : Ints w S st) (hSn : NilOk S st cs) (n : Nat) (hn : t.facts = n) (hv : Valid t) (h2 : ¬ SetP st t.facts) :
    Calls Try.prog 3 #[.agg #[.int .i64 t.facts, .slice Ai t.init.length ci, .slice Ag t.goal.length cg, .slice Ao t.ops.length co], .slice S st.length cs] w fun e w' => e = .returned (.bool true) ∧ Below w.heap.size w w' := by
  have hT := hR.mem
  have hls : lenOk st.length := Nat.le_trans hSn.2.1 hSn.2.2
  have hn24 : n ≤ 24 := by have := hv.f1; omega
  have HT0 := Lib.hid (tfault_valid hv)
  have HN := Lib.hid hn
  have HV := Lib.hid hv
  have h40 := hv.nops
  have hli : lenOk t.init.length := hT.linit
  have hlg : t.goal.length ≤ 1000000 := by have := SetP.length hv.goal hv.f0; omega
  have HGO := Lib.hid (goal_in hv hn)
  have HIR := Lib.hid (fun q hq => by have := hv.init.1 q hq; rw [hn] at this; exact this : ∀ q ∈ t.init, Rng n q)
  have HOPS := Lib.hid (pops_in hv hn)
  have HSETS := Lib.hid (fun o ho => by have := (hv.ops o ho).1.1; rw [hn] at this; exact this : ∀ o ∈ t.ops, SetP o.pre (n : Int))
  have HSZ := Lib.hid (sfault_no (tfault_zero.2 hv) h2)
  have hs : ¬ (sfault t st).1 = 0 := by rw [HSZ.out]; decide
  rw [hn]
  clear hv hn h2
  go_enter Try.func3, Try.ntmps3
  go_wp2_with fail
  refine (pexample_any _).mono ?_
  rintro e w1 ⟨rfl, hB1⟩
  have D1 := dstep w hB1 (by repeat (first | with_reducible exact Below.refl _ _ | with_reducible apply bdrew | with_reducible apply bdrewN | with_reducible apply balloc | ((with_reducible refine bset ?_ ?_ _); rotate_left; (first | omega | (simp <;> omega)))))
  have d1s := D1.size
  have C1 := Cls.below (l := [(w.heap.size, 0, .int .i64 (n : Int)), (w.heap.size, 1, .slice Ai t.init.length ci), (w.heap.size, 2, .slice Ag t.goal.length cg), (w.heap.size, 3, .slice Ao t.ops.length co)]) hB1 (by simp [Cls, go_sem])
  have F1 := C1
  simp only [Cls, and_true] at F1
  have y1w0 : w.heap.size < w1.heap.size := C1.blk (b := w.heap.size) (k := 0) (v := .int .i64 (n : Int)) (by simp)
  have y1wp1 : w.heap.size < w1.heap.size + 1 := (by omega)
  have y1wp2 : w.heap.size < w1.heap.size + 1 + 1 := (by omega)
  go_wp2_with fail
  refine (pvalues_1n _ t Ai Ag Ao ci cg co (hT.below (by repeat (first | with_reducible exact D1 | with_reducible apply bdrew | with_reducible apply bdrewN | with_reducible apply balloc | ((with_reducible refine bset ?_ ?_ _); rotate_left; (first | omega | (simp <;> omega)))))) _ _ _ (hS.below (by repeat (first | with_reducible exact D1 | with_reducible apply bdrew | with_reducible apply bdrewN | with_reducible apply balloc | ((with_reducible refine bset ?_ ?_ _); rotate_left; (first | omega | (simp <;> omega)))))) hls n HN.out hs).mono ?_
  rintro e w2 ⟨he, hB2⟩
  rw [HSZ.out] at he
  subst he
  have D2 := dstep w hB2 (by repeat (first | with_reducible exact D1 | with_reducible apply bdrew | with_reducible apply bdrewN | with_reducible apply balloc | ((with_reducible refine bset ?_ ?_ _); rotate_left; (first | omega | (simp <;> omega)))))
  have d2s := D2.size
  have C2 := Cls.below (l := [(w.heap.size, 0, .int .i64 (n : Int)), (w.heap.size, 1, .slice Ai t.init.length ci), (w.heap.size, 2, .slice Ag t.goal.length cg), (w.heap.size, 3, .slice Ao t.ops.length co)]) hB2 (by simp [Cls, go_sem, F1, y1w0, y1wp1, y1wp2])
  have F2 := C2
  simp only [Cls, and_true] at F2
  have y2w0 : w.heap.size < w2.heap.size := C2.blk (b := w.heap.size) (k := 0) (v := .int .i64 (n : Int)) (by simp)
  have y2wp1 : w.heap.size < w2.heap.size + 1 := (by omega)
  have y2wp2 : w.heap.size < w2.heap.size + 1 + 1 := (by omega)
  go_wp2_with fail
  refine (pgoal_1n _ t Ai Ag Ao ci cg co (hT.below (by repeat (first | with_reducible exact D2 | with_reducible apply bdrew | with_reducible apply bdrewN | with_reducible apply balloc | ((with_reducible refine bset ?_ ?_ _); rotate_left; (first | omega | (simp <;> omega)))))) _ _ _ (hS.below (by repeat (first | with_reducible exact D2 | with_reducible apply bdrew | with_reducible apply bdrewN | with_reducible apply balloc | ((with_reducible refine bset ?_ ?_ _); rotate_left; (first | omega | (simp <;> omega)))))) hls n HN.out hs).mono ?_
  rintro e w3 ⟨he, hB3⟩
  rw [HSZ.out] at he
  subst he
  have D3 := dstep w hB3 (by repeat (first | with_reducible exact D2 | with_reducible apply bdrew | with_reducible apply bdrewN | with_reducible apply balloc | ((with_reducible refine bset ?_ ?_ _); rotate_left; (first | omega | (simp <;> omega)))))
  have d3s := D3.size
  have C3 := Cls.below (l := [(w.heap.size, 0, .int .i64 (n : Int)), (w.heap.size, 1, .slice Ai t.init.length ci), (w.heap.size, 2, .slice Ag t.goal.length cg), (w.heap.size, 3, .slice Ao t.ops.length co), (w2.heap.size, 0, .int .i64 5), (w2.heap.size, 1, .int .i64 (-4))]) hB3 (by simp [Cls, go_sem, F2, y2w0, y2wp1, y2wp2])
  have F3 := C3
  simp only [Cls, and_true] at F3
  have y3w0 : w.heap.size < w3.heap.size := C3.blk (b := w.heap.size) (k := 0) (v := .int .i64 (n : Int)) (by simp)
  have y3wp1 : w.heap.size < w3.heap.size + 1 := (by omega)
  have y3wp2 : w.heap.size < w3.heap.size + 1 + 1 := (by omega)
  have y3w20 : w2.heap.size < w3.heap.size := C3.blk (b := w2.heap.size) (k := 0) (v := .int .i64 5) (by simp)
  have y3w2p1 : w2.heap.size < w3.heap.size + 1 := (by omega)
  have y3w2p2 : w2.heap.size < w3.heap.size + 1 + 1 := (by omega)
  go_wp2_with fail
  refine (pexcl_2n _ t Ai Ag Ao ci cg co (hT.below (by repeat (first | with_reducible exact D3 | with_reducible apply bdrew | with_reducible apply bdrewN | with_reducible apply balloc | ((with_reducible refine bset ?_ ?_ _); rotate_left; (first | omega | (simp <;> omega)))))) (hR.ops.below (by repeat (first | with_reducible exact D3 | with_reducible apply bdrew | with_reducible apply bdrewN | with_reducible apply balloc | ((with_reducible refine bset ?_ ?_ _); rotate_left; (first | omega | (simp <;> omega)))))) n HN.out HV.out).mono ?_
  rintro e w4 ⟨v4, V4, rfl, ⟨B4, hB4', ho4⟩, hb4, hB4⟩
  have D4 := dstep w hB4 (by repeat (first | with_reducible exact D3 | with_reducible apply bdrew | with_reducible apply bdrewN | with_reducible apply balloc | ((with_reducible refine bset ?_ ?_ _); rotate_left; (first | omega | (simp <;> omega)))))
  have d4s := D4.size
  have C4 := Cls.below (l := [(w.heap.size, 0, .int .i64 (n : Int)), (w.heap.size, 1, .slice Ai t.init.length ci), (w.heap.size, 2, .slice Ag t.goal.length cg), (w.heap.size, 3, .slice Ao t.ops.length co), (w2.heap.size, 0, .int .i64 5), (w2.heap.size, 1, .int .i64 (-4)), (w3.heap.size, 0, .int .i64 5), (w3.heap.size, 1, .int .i64 (-4))]) hB4 (by simp [Cls, go_sem, F3, y3w0, y3wp1, y3wp2, y3w20, y3w2p1, y3w2p2])
  have F4 := C4
  simp only [Cls, and_true] at F4
  have y4w0 : w.heap.size < w4.heap.size := C4.blk (b := w.heap.size) (k := 0) (v := .int .i64 (n : Int)) (by simp)
  have y4wp1 : w.heap.size < w4.heap.size + 1 := (by omega)
  have y4wp2 : w.heap.size < w4.heap.size + 1 + 1 := (by omega)
  have y4w20 : w2.heap.size < w4.heap.size := C4.blk (b := w2.heap.size) (k := 0) (v := .int .i64 5) (by simp)
  have y4w2p1 : w2.heap.size < w4.heap.size + 1 := (by omega)
  have y4w2p2 : w2.heap.size < w4.heap.size + 1 + 1 := (by omega)
  have y4w30 : w3.heap.size < w4.heap.size := C4.blk (b := w3.heap.size) (k := 0) (v := .int .i64 5) (by simp)
  have y4w3p1 : w3.heap.size < w4.heap.size + 1 := (by omega)
  have y4w3p2 : w3.heap.size < w4.heap.size + 1 + 1 := (by omega)
  have Hb4 := Lib.hid hb4
  clear hb4 hB4'
  go_wp2_with fail
  refine (taskfault_anyn _ t Ai Ag Ao ci cg co (hT.below (by repeat (first | with_reducible exact D4 | with_reducible apply bdrew | with_reducible apply bdrewN | with_reducible apply balloc | ((with_reducible refine bset ?_ ?_ _); rotate_left; (first | omega | (simp <;> omega)))))) n HN.out).mono ?_
  rintro e w5 ⟨he, hB5⟩
  rw [HT0.out] at he
  subst he
  have D5 := dstep w hB5 (by repeat (first | with_reducible exact D4 | with_reducible apply bdrew | with_reducible apply bdrewN | with_reducible apply balloc | ((with_reducible refine bset ?_ ?_ _); rotate_left; (first | omega | (simp <;> omega)))))
  have d5s := D5.size
  have Ew4_5 := dstep w4 hB5 (by repeat (first | with_reducible exact Below.refl _ _ | with_reducible apply bdrew | with_reducible apply bdrewN | with_reducible apply balloc | ((with_reducible refine bset ?_ ?_ _); rotate_left; (first | omega | (simp <;> omega)))))
  have C5 := Cls.below (l := [(w.heap.size, 0, .int .i64 (n : Int)), (w.heap.size, 1, .slice Ai t.init.length ci), (w.heap.size, 2, .slice Ag t.goal.length cg), (w.heap.size, 3, .slice Ao t.ops.length co), (w2.heap.size, 0, .int .i64 5), (w2.heap.size, 1, .int .i64 (-4)), (w3.heap.size, 0, .int .i64 5), (w3.heap.size, 1, .int .i64 (-4)), (w4.heap.size, 0, .int .i64 0), (w4.heap.size, 1, .int .i64 0)]) hB5 (by simp [Cls, go_sem, F4, y4w0, y4wp1, y4wp2, y4w20, y4w2p1, y4w2p2, y4w30, y4w3p1, y4w3p2])
  have F5 := C5
  simp only [Cls, and_true] at F5
  have y5w0 : w.heap.size < w5.heap.size := C5.blk (b := w.heap.size) (k := 0) (v := .int .i64 (n : Int)) (by simp)
  have y5wp1 : w.heap.size < w5.heap.size + 1 := (by omega)
  have y5wp2 : w.heap.size < w5.heap.size + 1 + 1 := (by omega)
  have y5w20 : w2.heap.size < w5.heap.size := C5.blk (b := w2.heap.size) (k := 0) (v := .int .i64 5) (by simp)
  have y5w2p1 : w2.heap.size < w5.heap.size + 1 := (by omega)
  have y5w2p2 : w2.heap.size < w5.heap.size + 1 + 1 := (by omega)
  have y5w30 : w3.heap.size < w5.heap.size := C5.blk (b := w3.heap.size) (k := 0) (v := .int .i64 5) (by simp)
  have y5w3p1 : w3.heap.size < w5.heap.size + 1 := (by omega)
  have y5w3p2 : w3.heap.size < w5.heap.size + 1 + 1 := (by omega)
  have y5w40 : w4.heap.size < w5.heap.size := C5.blk (b := w4.heap.size) (k := 0) (v := .int .i64 0) (by simp)
  have y5w4p1 : w4.heap.size < w5.heap.size + 1 := (by omega)
  have y5w4p2 : w4.heap.size < w5.heap.size + 1 + 1 := (by omega)
  go_wp2_with fail
  refine (rpairs_any _ t Ai Ag Ao ci cg co (hT.below (by repeat (first | with_reducible exact D5 | with_reducible apply bdrew | with_reducible apply bdrewN | with_reducible apply balloc | ((with_reducible refine bset ?_ ?_ _); rotate_left; (first | omega | (simp <;> omega)))))) _ _ _ (hT.init.below (by repeat (first | with_reducible exact D5 | with_reducible apply bdrew | with_reducible apply bdrewN | with_reducible apply balloc | ((with_reducible refine bset ?_ ?_ _); rotate_left; (first | omega | (simp <;> omega)))))) hli n hn24 HIR.out HOPS.out HSETS.out (hR.ops.below (by repeat (first | with_reducible exact D5 | with_reducible apply bdrew | with_reducible apply bdrewN | with_reducible apply balloc | ((with_reducible refine bset ?_ ?_ _); rotate_left; (first | omega | (simp <;> omega)))))) h40).mono ?_
  rintro e w6 ⟨V, A6, c6, rfl, hL6, Hb6, hB6⟩
  have D6 := dstep w hB6 (by repeat (first | with_reducible exact D5 | with_reducible apply bdrew | with_reducible apply bdrewN | with_reducible apply balloc | ((with_reducible refine bset ?_ ?_ _); rotate_left; (first | omega | (simp <;> omega)))))
  have d6s := D6.size
  have Ew4_6 := dstep w4 hB6 (by repeat (first | with_reducible exact Ew4_5 | with_reducible apply bdrew | with_reducible apply bdrewN | with_reducible apply balloc | ((with_reducible refine bset ?_ ?_ _); rotate_left; (first | omega | (simp <;> omega)))))
  have C6 := Cls.below (l := [(w.heap.size, 0, .int .i64 (n : Int)), (w.heap.size, 1, .slice Ai t.init.length ci), (w.heap.size, 2, .slice Ag t.goal.length cg), (w.heap.size, 3, .slice Ao t.ops.length co), (w2.heap.size, 0, .int .i64 5), (w2.heap.size, 1, .int .i64 (-4)), (w3.heap.size, 0, .int .i64 5), (w3.heap.size, 1, .int .i64 (-4)), (w4.heap.size, 0, .int .i64 0), (w4.heap.size, 1, .int .i64 0), (w5.heap.size, 0, .int .i64 0), (w5.heap.size, 1, .int .i64 0)]) hB6 (by simp [Cls, go_sem, F5, y5w0, y5wp1, y5wp2, y5w20, y5w2p1, y5w2p2, y5w30, y5w3p1, y5w3p2, y5w40, y5w4p1, y5w4p2])
  have F6 := C6
  simp only [Cls, and_true] at F6
  have y6w0 : w.heap.size < w6.heap.size := C6.blk (b := w.heap.size) (k := 0) (v := .int .i64 (n : Int)) (by simp)
  have y6wp1 : w.heap.size < w6.heap.size + 1 := (by omega)
  have y6wp2 : w.heap.size < w6.heap.size + 1 + 1 := (by omega)
  have y6w20 : w2.heap.size < w6.heap.size := C6.blk (b := w2.heap.size) (k := 0) (v := .int .i64 5) (by simp)
  have y6w2p1 : w2.heap.size < w6.heap.size + 1 := (by omega)
  have y6w2p2 : w2.heap.size < w6.heap.size + 1 + 1 := (by omega)
  have y6w30 : w3.heap.size < w6.heap.size := C6.blk (b := w3.heap.size) (k := 0) (v := .int .i64 5) (by simp)
  have y6w3p1 : w3.heap.size < w6.heap.size + 1 := (by omega)
  have y6w3p2 : w3.heap.size < w6.heap.size + 1 + 1 := (by omega)
  have y6w40 : w4.heap.size < w6.heap.size := C6.blk (b := w4.heap.size) (k := 0) (v := .int .i64 0) (by simp)
  have y6w4p1 : w4.heap.size < w6.heap.size + 1 := (by omega)
  have y6w4p2 : w4.heap.size < w6.heap.size + 1 + 1 := (by omega)
  have y6w50 : w5.heap.size < w6.heap.size := C6.blk (b := w5.heap.size) (k := 0) (v := .int .i64 0) (by simp)
  have y6w5p1 : w5.heap.size < w6.heap.size + 1 := (by omega)
  have y6w5p2 : w5.heap.size < w6.heap.size + 1 + 1 := (by omega)
  rw [exTo_same Hb4.out Hb6.out] at ho4
  go_wp2_with fail
  go_loopw [13, 14] (fun v i wr => ∃ k : Nat, k ≤ n ∧ i = .int .i64 k ∧ OwnPP w6.heap.size wr v (exTo n V k) ∧ Below w6.heap.size w6 wr ∧ Cls wr [(w.heap.size, 0, .int .i64 (n : Int)), (w.heap.size, 1, .slice Ai t.init.length ci), (w.heap.size, 2, .slice Ag t.goal.length cg), (w.heap.size, 3, .slice Ao t.ops.length co), (w2.heap.size, 0, .int .i64 5), (w2.heap.size, 1, .int .i64 (-4)), (w3.heap.size, 0, .int .i64 5), (w3.heap.size, 1, .int .i64 (-4)), (w4.heap.size, 0, .int .i64 0), (w4.heap.size, 1, .int .i64 0), (w5.heap.size, 0, .int .i64 0), (w5.heap.size, 1, .int .i64 0)]) (fun _ i _ => n - (intOf i).toNat)
  case atStart => exact ⟨0, Nat.zero_le _, rfl, OwnEs.nil _ _, (by repeat (first | with_reducible exact Below.refl _ _ | with_reducible apply bdrew | with_reducible apply bdrewN | with_reducible apply balloc | ((with_reducible refine bset ?_ ?_ _); rotate_left; (first | omega | (simp <;> omega))))), (by simp [Cls, go_sem, F6, y6w0, y6wp1, y6wp2, y6w20, y6w2p1, y6w2p2, y6w30, y6w3p1, y6w3p2, y6w40, y6w4p1, y6w4p2, y6w50, y6w5p1, y6w5p2])⟩
  case round =>
    obtain ⟨k, hk, rfl, hown, hBr, hCr⟩ := hrel
    obtain ⟨w7, rfl⟩ : ∃ wo : World, wo = wr := ⟨_, rfl⟩
    have drs := hBr.size
    have Fr := hCr
    simp only [Cls, and_true] at Fr
    have yrw0 : w.heap.size < w7.heap.size := hCr.blk (b := w.heap.size) (k := 0) (v := .int .i64 (n : Int)) (by simp)
    have yrwp1 : w.heap.size < w7.heap.size + 1 := (by omega)
    have yrwp2 : w.heap.size < w7.heap.size + 1 + 1 := (by omega)
    have yrw20 : w2.heap.size < w7.heap.size := hCr.blk (b := w2.heap.size) (k := 0) (v := .int .i64 5) (by simp)
    have yrw2p1 : w2.heap.size < w7.heap.size + 1 := (by omega)
    have yrw2p2 : w2.heap.size < w7.heap.size + 1 + 1 := (by omega)
    have yrw30 : w3.heap.size < w7.heap.size := hCr.blk (b := w3.heap.size) (k := 0) (v := .int .i64 5) (by simp)
    have yrw3p1 : w3.heap.size < w7.heap.size + 1 := (by omega)
    have yrw3p2 : w3.heap.size < w7.heap.size + 1 + 1 := (by omega)
    have yrw40 : w4.heap.size < w7.heap.size := hCr.blk (b := w4.heap.size) (k := 0) (v := .int .i64 0) (by simp)
    have yrw4p1 : w4.heap.size < w7.heap.size + 1 := (by omega)
    have yrw4p2 : w4.heap.size < w7.heap.size + 1 + 1 := (by omega)
    have yrw50 : w5.heap.size < w7.heap.size := hCr.blk (b := w5.heap.size) (k := 0) (v := .int .i64 0) (by simp)
    have yrw5p1 : w5.heap.size < w7.heap.size + 1 := (by omega)
    have yrw5p2 : w5.heap.size < w7.heap.size + 1 + 1 := (by omega)
    by_cases hlt : k < n
    · have HK0 : Hid (OwnPP w6.heap.size w7 u13 (exTo n V k ++ exPart V k (k + 1))) := Lib.hid (by rw [exPart_zero, List.append_nil]; exact hown)
      go_wp2_with fail
      go_loopw [13, 15] (fun v i wr => ∃ j : Nat, k < j ∧ j ≤ n ∧ i = .int .i64 j ∧ OwnPP w6.heap.size wr v (exTo n V k ++ exPart V k j) ∧ Below w6.heap.size w6 wr ∧ Cls wr [(w.heap.size, 0, .int .i64 (n : Int)), (w.heap.size, 1, .slice Ai t.init.length ci), (w.heap.size, 2, .slice Ag t.goal.length cg), (w.heap.size, 3, .slice Ao t.ops.length co), (w2.heap.size, 0, .int .i64 5), (w2.heap.size, 1, .int .i64 (-4)), (w3.heap.size, 0, .int .i64 5), (w3.heap.size, 1, .int .i64 (-4)), (w4.heap.size, 0, .int .i64 0), (w4.heap.size, 1, .int .i64 0), (w5.heap.size, 0, .int .i64 0), (w5.heap.size, 1, .int .i64 0)]) (fun _ i _ => n - (intOf i).toNat)
      case atStart => exact ⟨k + 1, by omega, by omega, by go_num, HK0.out, (by repeat (first | with_reducible exact hBr | with_reducible apply bdrew | with_reducible apply bdrewN | with_reducible apply balloc | ((with_reducible refine bset ?_ ?_ _); rotate_left; (first | omega | (simp <;> omega))))), (by simp [Cls, go_sem, Fr, yrw0, yrwp1, yrwp2, yrw20, yrw2p1, yrw2p2, yrw30, yrw3p1, yrw3p2, yrw40, yrw4p1, yrw4p2, yrw50, yrw5p1, yrw5p2])⟩
      case round =>
        obtain ⟨j, hkj, hj, rfl, ho8, hBs, hCs⟩ := hrel
        obtain ⟨w8, rfl⟩ : ∃ wo : World, wo = wr := ⟨_, rfl⟩
        have dss := hBs.size
        have Fs := hCs
        simp only [Cls, and_true] at Fs
        have ysw0 : w.heap.size < w8.heap.size := hCs.blk (b := w.heap.size) (k := 0) (v := .int .i64 (n : Int)) (by simp)
        have yswp1 : w.heap.size < w8.heap.size + 1 := (by omega)
        have yswp2 : w.heap.size < w8.heap.size + 1 + 1 := (by omega)
        have ysw20 : w2.heap.size < w8.heap.size := hCs.blk (b := w2.heap.size) (k := 0) (v := .int .i64 5) (by simp)
        have ysw2p1 : w2.heap.size < w8.heap.size + 1 := (by omega)
        have ysw2p2 : w2.heap.size < w8.heap.size + 1 + 1 := (by omega)
        have ysw30 : w3.heap.size < w8.heap.size := hCs.blk (b := w3.heap.size) (k := 0) (v := .int .i64 5) (by simp)
        have ysw3p1 : w3.heap.size < w8.heap.size + 1 := (by omega)
        have ysw3p2 : w3.heap.size < w8.heap.size + 1 + 1 := (by omega)
        have ysw40 : w4.heap.size < w8.heap.size := hCs.blk (b := w4.heap.size) (k := 0) (v := .int .i64 0) (by simp)
        have ysw4p1 : w4.heap.size < w8.heap.size + 1 := (by omega)
        have ysw4p2 : w4.heap.size < w8.heap.size + 1 + 1 := (by omega)
        have ysw50 : w5.heap.size < w8.heap.size := hCs.blk (b := w5.heap.size) (k := 0) (v := .int .i64 0) (by simp)
        have ysw5p1 : w5.heap.size < w8.heap.size + 1 := (by omega)
        have ysw5p2 : w5.heap.size < w8.heap.size + 1 + 1 := (by omega)
        by_cases hjl : j < n
        · have hkI : (0 : Int) ≤ (k : Int) ∧ (k : Int) < (n : Int) := by omega
          have hjI : (0 : Int) ≤ (j : Int) ∧ (j : Int) < (n : Int) := by omega
          obtain ⟨ad, bd, cr, rfl, hgc, hcv, -⟩ := tab_at (hL6.below hBs) hkI hjI
          rw [Int.toNat_natCast] at hgc hcv
          obtain ⟨hk0, hk1⟩ := hkI
          obtain ⟨hj0, hj1⟩ := hjI
          have hlen : (exTo n V k ++ exPart V k j).length < 1000000000000 := by
            rw [List.length_append]
            have h1 := exTo_len n V k
            have h2 := exPart_len V k j
            have h3 := Nat.mul_le_mul (show k ≤ 24 by omega) hn24
            omega
          by_cases he : V (k : Int) (j : Int) = 1000000000
          · have HP := Lib.hid (exPart_yes (V := V) hkj he)
            rw [he] at hcv
            clear he
            go_wp2_with (at_builtin; go_must (refine wpList_el ppair_stable 34 16 (.agg #[.int .i64 0, .int .i64 0]) Try.underlying34 info_pair rfl (by decide) (by decide) rfl (.tmp 90) (.tmp 94) rfl w6 [(w.heap.size, 0, .int .i64 (n : Int)), (w.heap.size, 1, .slice Ai t.init.length ci), (w.heap.size, 2, .slice Ag t.goal.length cg), (w.heap.size, 3, .slice Ao t.ops.length co), (w2.heap.size, 0, .int .i64 5), (w2.heap.size, 1, .int .i64 (-4)), (w3.heap.size, 0, .int .i64 5), (w3.heap.size, 1, .int .i64 (-4)), (w4.heap.size, 0, .int .i64 0), (w4.heap.size, 1, .int .i64 0), (w5.heap.size, 0, .int .i64 0), (w5.heap.size, 1, .int .i64 0)] rfl (OwnPP.below ho8 ?p1) ⟨w8.heap.size, 0, none⟩ 1 rfl [.int .i64 (k : Int), .int .i64 (j : Int)] ((k : Int), (j : Int)) rfl (cells_two ?p2 ?p10) ?p8 rfl hlen ?p3 (Nat.le_refl _) ?p5 ?p6 ?p7 ?_; (case p1 => repeat (first | with_reducible exact Below.refl _ _ | with_reducible apply bdrew | with_reducible apply bdrewN | with_reducible apply balloc | ((with_reducible refine bset ?_ ?_ _); rotate_left; (first | omega | (simp <;> omega))))); (case p2 => simp [go_sem]); (case p10 => simp [go_sem]); (case p3 => (simp <;> omega)); (case p5 => repeat (first | with_reducible exact hBs | with_reducible apply bdrew | with_reducible apply bdrewN | with_reducible apply balloc | ((with_reducible refine bset ?_ ?_ _); rotate_left; (first | omega | (simp <;> omega))))); (case p6 => simp [Cls, go_sem, Fs, ysw0, yswp1, yswp2, ysw20, ysw2p1, ysw2p2, ysw30, ysw3p1, ysw3p2, ysw40, ysw4p1, ysw4p2, ysw50, ysw5p1, ysw5p2]); (case p7 => (simp <;> omega)); (case p8 => intro u hu; simp at hu; rcases hu with rfl | rfl <;> rfl); intro v9 w9 o9 D9 C9 sz9 G9 at9; clear G9 at9))
            go_roundw
            case rel => exact ⟨j + 1, by omega, by omega, by go_num, by rw [← HP.out, ← List.append_assoc]; exact o9, D9, C9⟩
            case measure => simp [intOf]; omega
          · have HP := Lib.hid (exPart_no (V := V) he)
            obtain ⟨vv, hvv⟩ : ∃ vv, Hid (V (k : Int) (j : Int) = vv) := ⟨_, Lib.hid rfl⟩
            rw [hvv.out] at hcv he
            have hne : (vv == 1000000000) = false := by simpa using he
            clear he
            go_wp2
            go_roundw
            case rel => exact ⟨j + 1, by omega, by omega, by go_num, by rw [HP.out]; exact ho8, (by repeat (first | with_reducible exact hBs | with_reducible apply bdrew | with_reducible apply bdrewN | with_reducible apply balloc | ((with_reducible refine bset ?_ ?_ _); rotate_left; (first | omega | (simp <;> omega))))), (by simp [Cls, go_sem, Fs, ysw0, yswp1, yswp2, ysw20, ysw2p1, ysw2p2, ysw30, ysw3p1, ysw3p2, ysw40, ysw4p1, ysw4p2, ysw50, ysw5p1, ysw5p2])⟩
            case measure => simp [intOf]; omega
        · obtain rfl : n = j := by omega
          have HP := Lib.hid (exTo_succ n V k)
          go_wp2
          go_roundw
          case rel => exact ⟨k + 1, by omega, by go_num, by rw [← HP.out]; exact ho8, (by repeat (first | with_reducible exact hBs | with_reducible apply bdrew | with_reducible apply bdrewN | with_reducible apply balloc | ((with_reducible refine bset ?_ ?_ _); rotate_left; (first | omega | (simp <;> omega))))), (by simp [Cls, go_sem, Fs, ysw0, yswp1, yswp2, ysw20, ysw2p1, ysw2p2, ysw30, ysw3p1, ysw3p2, ysw40, ysw4p1, ysw4p2, ysw50, ysw5p1, ysw5p2])⟩
          case measure => simp [intOf]; omega
    · obtain rfl : n = k := by omega
      have DR := D6.trans (hBr.mono D6.size)
      obtain ⟨ps, hps⟩ : ∃ ps, Hid (exTo n V n = ps) := ⟨_, Lib.hid rfl⟩
      have hpl : ps.length ≤ 9223372036854775807 := by
        rw [← hps.out]
        have h1 := exTo_len n V n
        have h3 := Nat.mul_le_mul hn24 hn24
        omega
      rw [hps.out] at hown ho4
      obtain ⟨A4, c4, rfl⟩ := OwnEs.form ho4
      obtain ⟨A7, c7, rfl⟩ := OwnEs.form hown
      have hX4 := OwnPP.below (OwnPP.below ho4 (by repeat (first | with_reducible exact Ew4_6 | with_reducible apply bdrew | with_reducible apply bdrewN | with_reducible apply balloc | ((with_reducible refine bset ?_ ?_ _); rotate_left; (first | omega | (simp <;> omega)))))) hBr
      clear ho4
      go_wp2_with fail
      refine (couples_yes _ A4 A7 B4 w6.heap.size c4 c7 ps (OwnPP.below hX4 (by repeat (first | with_reducible exact Below.refl _ _ | with_reducible apply bdrew | with_reducible apply bdrewN | with_reducible apply balloc | ((with_reducible refine bset ?_ ?_ _); rotate_left; (first | omega | (simp <;> omega)))))) (OwnPP.below hown (by repeat (first | with_reducible exact Below.refl _ _ | with_reducible apply bdrew | with_reducible apply bdrewN | with_reducible apply balloc | ((with_reducible refine bset ?_ ?_ _); rotate_left; (first | omega | (simp <;> omega)))))) hpl).mono ?_
      rintro e w8 ⟨rfl, hB8⟩
      have D8 := dstep w hB8 (by repeat (first | with_reducible exact DR | with_reducible apply bdrew | with_reducible apply bdrewN | with_reducible apply balloc | ((with_reducible refine bset ?_ ?_ _); rotate_left; (first | omega | (simp <;> omega)))))
      have d8s := D8.size
      have C8 := Cls.below (l := [(w.heap.size, 0, .int .i64 (n : Int)), (w.heap.size, 1, .slice Ai t.init.length ci), (w.heap.size, 2, .slice Ag t.goal.length cg), (w.heap.size, 3, .slice Ao t.ops.length co), (w2.heap.size, 0, .int .i64 5), (w2.heap.size, 1, .int .i64 (-4)), (w3.heap.size, 0, .int .i64 5), (w3.heap.size, 1, .int .i64 (-4)), (w4.heap.size, 0, .int .i64 0), (w4.heap.size, 1, .int .i64 0), (w5.heap.size, 0, .int .i64 0), (w5.heap.size, 1, .int .i64 0)]) hB8 (by simp [Cls, go_sem, Fr, yrw0, yrwp1, yrwp2, yrw20, yrw2p1, yrw2p2, yrw30, yrw3p1, yrw3p2, yrw40, yrw4p1, yrw4p2, yrw50, yrw5p1, yrw5p2])
      have F8 := C8
      simp only [Cls, and_true] at F8
      have y8w0 : w.heap.size < w8.heap.size := C8.blk (b := w.heap.size) (k := 0) (v := .int .i64 (n : Int)) (by simp)
      have y8wp1 : w.heap.size < w8.heap.size + 1 := (by omega)
      have y8wp2 : w.heap.size < w8.heap.size + 1 + 1 := (by omega)
      have y8w20 : w2.heap.size < w8.heap.size := C8.blk (b := w2.heap.size) (k := 0) (v := .int .i64 5) (by simp)
      have y8w2p1 : w2.heap.size < w8.heap.size + 1 := (by omega)
      have y8w2p2 : w2.heap.size < w8.heap.size + 1 + 1 := (by omega)
      have y8w30 : w3.heap.size < w8.heap.size := C8.blk (b := w3.heap.size) (k := 0) (v := .int .i64 5) (by simp)
      have y8w3p1 : w3.heap.size < w8.heap.size + 1 := (by omega)
      have y8w3p2 : w3.heap.size < w8.heap.size + 1 + 1 := (by omega)
      have y8w40 : w4.heap.size < w8.heap.size := C8.blk (b := w4.heap.size) (k := 0) (v := .int .i64 0) (by simp)
      have y8w4p1 : w4.heap.size < w8.heap.size + 1 := (by omega)
      have y8w4p2 : w4.heap.size < w8.heap.size + 1 + 1 := (by omega)
      have y8w50 : w5.heap.size < w8.heap.size := C8.blk (b := w5.heap.size) (k := 0) (v := .int .i64 0) (by simp)
      have y8w5p1 : w5.heap.size < w8.heap.size + 1 := (by omega)
      have y8w5p2 : w5.heap.size < w8.heap.size + 1 + 1 := (by omega)
      go_wp2_with fail
      refine (rstatefault_anyn _ t Ai Ag Ao ci cg co (hT.below (by repeat (first | with_reducible exact D8 | with_reducible apply bdrew | with_reducible apply bdrewN | with_reducible apply balloc | ((with_reducible refine bset ?_ ?_ _); rotate_left; (first | omega | (simp <;> omega)))))) _ _ _ (hS.below (by repeat (first | with_reducible exact D8 | with_reducible apply bdrew | with_reducible apply bdrewN | with_reducible apply balloc | ((with_reducible refine bset ?_ ?_ _); rotate_left; (first | omega | (simp <;> omega)))))) hls n HN.out).mono ?_
      rintro e w9 ⟨he, hB9⟩
      rw [HSZ.out] at he
      subst he
      have D9 := dstep w hB9 (by repeat (first | with_reducible exact D8 | with_reducible apply bdrew | with_reducible apply bdrewN | with_reducible apply balloc | ((with_reducible refine bset ?_ ?_ _); rotate_left; (first | omega | (simp <;> omega)))))
      have d9s := D9.size
      have C9 := Cls.below (l := [(w.heap.size, 0, .int .i64 (n : Int)), (w.heap.size, 1, .slice Ai t.init.length ci), (w.heap.size, 2, .slice Ag t.goal.length cg), (w.heap.size, 3, .slice Ao t.ops.length co), (w2.heap.size, 0, .int .i64 5), (w2.heap.size, 1, .int .i64 (-4)), (w3.heap.size, 0, .int .i64 5), (w3.heap.size, 1, .int .i64 (-4)), (w4.heap.size, 0, .int .i64 0), (w4.heap.size, 1, .int .i64 0), (w5.heap.size, 0, .int .i64 0), (w5.heap.size, 1, .int .i64 0)]) hB9 (by simp [Cls, go_sem, F8, y8w0, y8wp1, y8wp2, y8w20, y8w2p1, y8w2p2, y8w30, y8w3p1, y8w3p2, y8w40, y8w4p1, y8w4p2, y8w50, y8w5p1, y8w5p2])
      have F9 := C9
      simp only [Cls, and_true] at F9
      have y9w0 : w.heap.size < w9.heap.size := C9.blk (b := w.heap.size) (k := 0) (v := .int .i64 (n : Int)) (by simp)
      have y9wp1 : w.heap.size < w9.heap.size + 1 := (by omega)
      have y9wp2 : w.heap.size < w9.heap.size + 1 + 1 := (by omega)
      have y9w20 : w2.heap.size < w9.heap.size := C9.blk (b := w2.heap.size) (k := 0) (v := .int .i64 5) (by simp)
      have y9w2p1 : w2.heap.size < w9.heap.size + 1 := (by omega)
      have y9w2p2 : w2.heap.size < w9.heap.size + 1 + 1 := (by omega)
      have y9w30 : w3.heap.size < w9.heap.size := C9.blk (b := w3.heap.size) (k := 0) (v := .int .i64 5) (by simp)
      have y9w3p1 : w3.heap.size < w9.heap.size + 1 := (by omega)
      have y9w3p2 : w3.heap.size < w9.heap.size + 1 + 1 := (by omega)
      have y9w40 : w4.heap.size < w9.heap.size := C9.blk (b := w4.heap.size) (k := 0) (v := .int .i64 0) (by simp)
      have y9w4p1 : w4.heap.size < w9.heap.size + 1 := (by omega)
      have y9w4p2 : w4.heap.size < w9.heap.size + 1 + 1 := (by omega)
      have y9w50 : w5.heap.size < w9.heap.size := C9.blk (b := w5.heap.size) (k := 0) (v := .int .i64 0) (by simp)
      have y9w5p1 : w5.heap.size < w9.heap.size + 1 := (by omega)
      have y9w5p2 : w5.heap.size < w9.heap.size + 1 + 1 := (by omega)
      go_wp2
      go_ret
      exact ⟨by simp, by repeat (first | with_reducible exact D9 | with_reducible apply bdrew | with_reducible apply bdrewN | with_reducible apply balloc | ((with_reducible refine bset ?_ ?_ _); rotate_left; (first | omega | (simp <;> omega))))⟩

theorem walk_pvs (w : World) (t : TaskV) (Ai Ag Ao : Option Addr) (ci cg co : Nat) (hR : TaskRead w Ai Ag Ao ci cg co t) (S : Option Addr) (cs : Nat) (st : List Int) (hS : Ints w S st) (hSn : NilOk S st cs) :
    Calls Try.prog 3 #[.agg #[.int .i64 t.facts, .slice Ai t.init.length ci, .slice Ag t.goal.length cg, .slice Ao t.ops.length co], .slice S st.length cs] w fun e w' => e = .returned (.bool true) ∧ Below w.heap.size w w' := by
  by_cases h : (tfault t).1 = 0
  · have hv := tfault_zero.1 h
    obtain ⟨n, hn⟩ := Int.eq_ofNat_of_zero_le hv.f0
    by_cases h2 : SetP st t.facts
    · exact walk_pvs_good w t Ai Ag Ao ci cg co hR S cs st hS hSn n hn hv h2
    · exact walk_pvs_bad w t Ai Ag Ao ci cg co hR S cs st hS hSn n hn hv h2
  · exact walk_pvs_1 w t Ai Ag Ao ci cg co hR S cs st hS hSn h

end Go.Proofs.Ytihkgdlanfemcaa
