/-
  relaxed.Max, Add and Reachable return the specified results for every task and state.
-/
import Derived.Test.YthnhhohnjiigcaaTrel11
import Derived.Test.YthnhhohnjiigcaaTrel10
import Derived.Test.YthnhhohnjiigcaaTrel5
import Derived.Test.YthnhhohnjiigcaaBlaw
import Derived.Test.YthnhhohnjiigcaaOpen
namespace Go.Proofs.Ythnhhohnjiigcaa
open Go.RowKit
set_option linter.unusedVariables false
set_option linter.unusedSimpArgs false

theorem bools_drew {w : World} {A : Option Addr} {bs : List Bool} (h : Bools w A bs) : Bools w.drew A bs := h
set_option maxRecDepth 100000 in
theorem factvalues_at (w : World) (t : TaskV) (Ai Ag Ao : Option Addr) (ci cg co : Nat) (hT : TaskMem w Ai Ag Ao t) (n : Nat) (hn : t.facts = n) (hn24 : n ≤ 1000000000) (S : Option Addr) (cs : Nat) (st : List Int) (hS : Ints w S st) (hls : lenOk st.length) (hst : ∀ p ∈ st, 0 ≤ p ∧ p < (n : Int)) (C : Option Addr) (cc m : Nat) (cost : List Int) (hC : Ints w C cost) (hm : m = t.ops.length) (hlc : cost.length = t.ops.length) (hcv : AllV cost) (hops : ∀ o ∈ t.ops, (∀ p ∈ o.pre, 0 ≤ p ∧ p < (n : Int)) ∧ ∀ p ∈ o.add, 0 ≤ p ∧ p < (n : Int)) (s : Bool) :
    Calls Try.prog 34 #[.agg #[.int .i64 t.facts, .slice Ai t.init.length ci, .slice Ag t.goal.length cg, .slice Ao t.ops.length co], .slice S st.length cs, .slice C m cc, .bool s] w fun e w' => ∃ v, e = .returned v ∧ OwnI w.heap.size w' v (valuesV s n st t.ops cost) ∧ Best s n st t.ops cost (valuesV s n st t.ops cost) ∧ Below w.heap.size w w' := by
  obtain rfl : m = cost.length := by rw [hm, hlc]
  exact factvalues_any w t Ai Ag Ao ci cg co hT n hn hn24 S cs st hS hls hst C cc cost hC hlc hcv hops s
set_option maxRecDepth 100000 in
set_option maxHeartbeats 1000000 in
theorem walk_maxspec_1 (w : World) (t : TaskV) (Ai Ag Ao : Option Addr) (ci cg co : Nat) (hR : TaskRead w Ai Ag Ao ci cg co t) (S : Option Addr) (cs : Nat) (st : List Int) (hS : Ints w S st) (hSn : NilOk S st cs) (h : ¬ (sfault t st).1 = 0) :
    Calls Try.prog 6 #[.agg #[.int .i64 t.facts, .slice Ai t.init.length ci, .slice Ag t.goal.length cg, .slice Ao t.ops.length co], .slice S st.length cs] w fun e w' => e = .returned (.bool true) ∧ Below w.heap.size w w' := by
  have N := bb_no h
  have N' := bn_yes h
  have hT := hR.mem
  have hls : lenOk st.length := Nat.le_trans hSn.2.1 hSn.2.2
  go_enter Try.func6, Try.ntmps6
  go_wp2_with fail
  refine (rexample_any _).mono ?_
  rintro e w1 ⟨rfl, hB1⟩
  have D1 := dstep w hB1 (by repeat (first | with_reducible exact Below.refl _ _ | with_reducible apply bdrew | with_reducible apply bdrewN | with_reducible apply balloc | ((with_reducible refine bset ?_ ?_ _); rotate_left; (first | omega | (simp <;> omega)))))
  have d1s := D1.size
  have C1 := Cls.below (l := [(w.heap.size, 0, .int .i64 t.facts), (w.heap.size, 1, .slice Ai t.init.length ci), (w.heap.size, 2, .slice Ag t.goal.length cg), (w.heap.size, 3, .slice Ao t.ops.length co)]) hB1 (by simp [Cls, go_sem])
  have F1 := C1
  simp only [Cls, and_true] at F1
  have y1w0 : w.heap.size < w1.heap.size := C1.blk (b := w.heap.size) (k := 0) (v := .int .i64 t.facts) (by simp)
  have y1wp1 : w.heap.size < w1.heap.size + 1 := (by omega)
  have y1wp2 : w.heap.size < w1.heap.size + 1 + 1 := (by omega)
  go_wp2_with fail
  refine (max_1 _ _ _ _ _ _ _ _ (hT.below (by repeat (first | with_reducible exact D1 | with_reducible apply bdrew | with_reducible apply bdrewN | with_reducible apply balloc | ((with_reducible refine bset ?_ ?_ _); rotate_left; (first | omega | (simp <;> omega)))))) _ _ _ (hS.below (by repeat (first | with_reducible exact D1 | with_reducible apply bdrew | with_reducible apply bdrewN | with_reducible apply balloc | ((with_reducible refine bset ?_ ?_ _); rotate_left; (first | omega | (simp <;> omega)))))) hls h).mono ?_
  rintro e w2 ⟨rfl, hB2⟩
  have D2 := dstep w hB2 (by repeat (first | with_reducible exact D1 | with_reducible apply bdrew | with_reducible apply bdrewN | with_reducible apply balloc | ((with_reducible refine bset ?_ ?_ _); rotate_left; (first | omega | (simp <;> omega)))))
  have d2s := D2.size
  have C2 := Cls.below (l := [(w.heap.size, 0, .int .i64 t.facts), (w.heap.size, 1, .slice Ai t.init.length ci), (w.heap.size, 2, .slice Ag t.goal.length cg), (w.heap.size, 3, .slice Ao t.ops.length co)]) hB2 (by simp [Cls, go_sem, F1, y1w0, y1wp1, y1wp2])
  have F2 := C2
  simp only [Cls, and_true] at F2
  have y2w0 : w.heap.size < w2.heap.size := C2.blk (b := w.heap.size) (k := 0) (v := .int .i64 t.facts) (by simp)
  have y2wp1 : w.heap.size < w2.heap.size + 1 := (by omega)
  have y2wp2 : w.heap.size < w2.heap.size + 1 + 1 := (by omega)
  go_wp2_with fail
  refine (add_1 _ _ _ _ _ _ _ _ (hT.below (by repeat (first | with_reducible exact D2 | with_reducible apply bdrew | with_reducible apply bdrewN | with_reducible apply balloc | ((with_reducible refine bset ?_ ?_ _); rotate_left; (first | omega | (simp <;> omega)))))) _ _ _ (hS.below (by repeat (first | with_reducible exact D2 | with_reducible apply bdrew | with_reducible apply bdrewN | with_reducible apply balloc | ((with_reducible refine bset ?_ ?_ _); rotate_left; (first | omega | (simp <;> omega)))))) hls h).mono ?_
  rintro e w3 ⟨rfl, hB3⟩
  have D3 := dstep w hB3 (by repeat (first | with_reducible exact D2 | with_reducible apply bdrew | with_reducible apply bdrewN | with_reducible apply balloc | ((with_reducible refine bset ?_ ?_ _); rotate_left; (first | omega | (simp <;> omega)))))
  have d3s := D3.size
  have C3 := Cls.below (l := [(w.heap.size, 0, .int .i64 t.facts), (w.heap.size, 1, .slice Ai t.init.length ci), (w.heap.size, 2, .slice Ag t.goal.length cg), (w.heap.size, 3, .slice Ao t.ops.length co), (w2.heap.size, 0, .int .i64 (sfault t st).1), (w2.heap.size, 1, .int .i64 (sfault t st).2)]) hB3 (by simp [Cls, go_sem, F2, y2w0, y2wp1, y2wp2])
  have F3 := C3
  simp only [Cls, and_true] at F3
  have y3w0 : w.heap.size < w3.heap.size := C3.blk (b := w.heap.size) (k := 0) (v := .int .i64 t.facts) (by simp)
  have y3wp1 : w.heap.size < w3.heap.size + 1 := (by omega)
  have y3wp2 : w.heap.size < w3.heap.size + 1 + 1 := (by omega)
  have y3w20 : w2.heap.size < w3.heap.size := C3.blk (b := w2.heap.size) (k := 0) (v := .int .i64 (sfault t st).1) (by simp)
  have y3w2p1 : w2.heap.size < w3.heap.size + 1 := (by omega)
  have y3w2p2 : w2.heap.size < w3.heap.size + 1 + 1 := (by omega)
  go_wp2_with fail
  refine (reachable_1 _ _ _ _ _ _ _ _ (hT.below (by repeat (first | with_reducible exact D3 | with_reducible apply bdrew | with_reducible apply bdrewN | with_reducible apply balloc | ((with_reducible refine bset ?_ ?_ _); rotate_left; (first | omega | (simp <;> omega)))))) _ _ _ (hS.below (by repeat (first | with_reducible exact D3 | with_reducible apply bdrew | with_reducible apply bdrewN | with_reducible apply balloc | ((with_reducible refine bset ?_ ?_ _); rotate_left; (first | omega | (simp <;> omega)))))) hls h).mono ?_
  rintro e w4 ⟨rfl, hB4⟩
  have D4 := dstep w hB4 (by repeat (first | with_reducible exact D3 | with_reducible apply bdrew | with_reducible apply bdrewN | with_reducible apply balloc | ((with_reducible refine bset ?_ ?_ _); rotate_left; (first | omega | (simp <;> omega)))))
  have d4s := D4.size
  have C4 := Cls.below (l := [(w.heap.size, 0, .int .i64 t.facts), (w.heap.size, 1, .slice Ai t.init.length ci), (w.heap.size, 2, .slice Ag t.goal.length cg), (w.heap.size, 3, .slice Ao t.ops.length co), (w2.heap.size, 0, .int .i64 (sfault t st).1), (w2.heap.size, 1, .int .i64 (sfault t st).2), (w3.heap.size, 0, .int .i64 (sfault t st).1), (w3.heap.size, 1, .int .i64 (sfault t st).2)]) hB4 (by simp [Cls, go_sem, F3, y3w0, y3wp1, y3wp2, y3w20, y3w2p1, y3w2p2])
  have F4 := C4
  simp only [Cls, and_true] at F4
  have y4w0 : w.heap.size < w4.heap.size := C4.blk (b := w.heap.size) (k := 0) (v := .int .i64 t.facts) (by simp)
  have y4wp1 : w.heap.size < w4.heap.size + 1 := (by omega)
  have y4wp2 : w.heap.size < w4.heap.size + 1 + 1 := (by omega)
  have y4w20 : w2.heap.size < w4.heap.size := C4.blk (b := w2.heap.size) (k := 0) (v := .int .i64 (sfault t st).1) (by simp)
  have y4w2p1 : w2.heap.size < w4.heap.size + 1 := (by omega)
  have y4w2p2 : w2.heap.size < w4.heap.size + 1 + 1 := (by omega)
  have y4w30 : w3.heap.size < w4.heap.size := C4.blk (b := w3.heap.size) (k := 0) (v := .int .i64 (sfault t st).1) (by simp)
  have y4w3p1 : w3.heap.size < w4.heap.size + 1 := (by omega)
  have y4w3p2 : w3.heap.size < w4.heap.size + 1 + 1 := (by omega)
  go_wp2_with fail
  refine (rstatefault_any _ _ _ _ _ _ _ _ (hT.below (by repeat (first | with_reducible exact D4 | with_reducible apply bdrew | with_reducible apply bdrewN | with_reducible apply balloc | ((with_reducible refine bset ?_ ?_ _); rotate_left; (first | omega | (simp <;> omega)))))) _ _ _ (hS.below (by repeat (first | with_reducible exact D4 | with_reducible apply bdrew | with_reducible apply bdrewN | with_reducible apply balloc | ((with_reducible refine bset ?_ ?_ _); rotate_left; (first | omega | (simp <;> omega)))))) hls).mono ?_
  rintro e w5 ⟨rfl, hB5⟩
  have D5 := dstep w hB5 (by repeat (first | with_reducible exact D4 | with_reducible apply bdrew | with_reducible apply bdrewN | with_reducible apply balloc | ((with_reducible refine bset ?_ ?_ _); rotate_left; (first | omega | (simp <;> omega)))))
  have d5s := D5.size
  have C5 := Cls.below (l := [(w.heap.size, 0, .int .i64 t.facts), (w.heap.size, 1, .slice Ai t.init.length ci), (w.heap.size, 2, .slice Ag t.goal.length cg), (w.heap.size, 3, .slice Ao t.ops.length co), (w2.heap.size, 0, .int .i64 (sfault t st).1), (w2.heap.size, 1, .int .i64 (sfault t st).2), (w3.heap.size, 0, .int .i64 (sfault t st).1), (w3.heap.size, 1, .int .i64 (sfault t st).2), (w4.heap.size, 0, .int .i64 (sfault t st).1), (w4.heap.size, 1, .int .i64 (sfault t st).2)]) hB5 (by simp [Cls, go_sem, F4, y4w0, y4wp1, y4wp2, y4w20, y4w2p1, y4w2p2, y4w30, y4w3p1, y4w3p2])
  have F5 := C5
  simp only [Cls, and_true] at F5
  have y5w0 : w.heap.size < w5.heap.size := C5.blk (b := w.heap.size) (k := 0) (v := .int .i64 t.facts) (by simp)
  have y5wp1 : w.heap.size < w5.heap.size + 1 := (by omega)
  have y5wp2 : w.heap.size < w5.heap.size + 1 + 1 := (by omega)
  have y5w20 : w2.heap.size < w5.heap.size := C5.blk (b := w2.heap.size) (k := 0) (v := .int .i64 (sfault t st).1) (by simp)
  have y5w2p1 : w2.heap.size < w5.heap.size + 1 := (by omega)
  have y5w2p2 : w2.heap.size < w5.heap.size + 1 + 1 := (by omega)
  have y5w30 : w3.heap.size < w5.heap.size := C5.blk (b := w3.heap.size) (k := 0) (v := .int .i64 (sfault t st).1) (by simp)
  have y5w3p1 : w3.heap.size < w5.heap.size + 1 := (by omega)
  have y5w3p2 : w3.heap.size < w5.heap.size + 1 + 1 := (by omega)
  have y5w40 : w4.heap.size < w5.heap.size := C5.blk (b := w4.heap.size) (k := 0) (v := .int .i64 (sfault t st).1) (by simp)
  have y5w4p1 : w4.heap.size < w5.heap.size + 1 := (by omega)
  have y5w4p2 : w4.heap.size < w5.heap.size + 1 + 1 := (by omega)
  go_wp2
  go_ret
  exact ⟨by simp, by repeat (first | with_reducible exact D5 | with_reducible apply bdrew | with_reducible apply bdrewN | with_reducible apply balloc | ((with_reducible refine bset ?_ ?_ _); rotate_left; (first | omega | (simp <;> omega))))⟩

set_option maxRecDepth 100000 in
set_option maxHeartbeats 4000000 in
theorem walk_maxspec_2 (w : World) (t : TaskV) (Ai Ag Ao : Option Addr) (ci cg co : Nat) (hR : TaskRead w Ai Ag Ao ci cg co t) (S : Option Addr) (cs : Nat) (st : List Int) (hS : Ints w S st) (hSn : NilOk S st cs) (n : Nat) (hn : t.facts = n) (hv : Valid t) (h2 : SetP st t.facts) :
    Calls Try.prog 6 #[.agg #[.int .i64 t.facts, .slice Ai t.init.length ci, .slice Ag t.goal.length cg, .slice Ao t.ops.length co], .slice S st.length cs] w fun e w' => e = .returned (.bool true) ∧ Below w.heap.size w w' := by
  have hT := hR.mem
  have hls : lenOk st.length := Nat.le_trans hSn.2.1 hSn.2.2
  have hn24 : n ≤ 24 := by have := hv.f1; omega
  have hm40 := hv.nops
  have hn9 : n ≤ 1000000000 := by omega
  have hmk := make_bools t.ops.length (by omega)
  have HC := Lib.hid (costs_in hv)
  have HN := Lib.hid hn
  have HV := Lib.hid hv
  have H2 := Lib.hid h2
  have HSN := Lib.hid hSn
  have HST := Lib.hid (fun p hp => by have := h2.1 p hp; rw [hn] at this; exact this : ∀ p ∈ st, 0 ≤ p ∧ p < (n : Int))
  have HSET := Lib.hid (show SetP st (n : Int) by rw [← hn]; exact h2)
  have HOPS := Lib.hid (ops_in hv hn)
  have HGOAL := Lib.hid (goal_in hv hn)
  have HLC := Lib.hid (show (t.ops.map (·.cost)).length = t.ops.length by simp)
  clear hv h2 hn hSn
  go_enter Try.func6, Try.ntmps6
  go_wp2_with fail
  refine (rexample_any _).mono ?_
  rintro e w1 ⟨rfl, hB1⟩
  have D1 := dstep w hB1 (by repeat (first | with_reducible exact Below.refl _ _ | with_reducible apply bdrew | with_reducible apply bdrewN | with_reducible apply balloc | ((with_reducible refine bset ?_ ?_ _); rotate_left; (first | omega | (simp <;> omega)))))
  have d1s := D1.size
  have C1 := Cls.below (l := [(w.heap.size, 0, .int .i64 t.facts), (w.heap.size, 1, .slice Ai t.init.length ci), (w.heap.size, 2, .slice Ag t.goal.length cg), (w.heap.size, 3, .slice Ao t.ops.length co)]) hB1 (by simp [Cls, go_sem])
  have F1 := C1
  simp only [Cls, and_true] at F1
  have y1w0 : w.heap.size < w1.heap.size := C1.blk (b := w.heap.size) (k := 0) (v := .int .i64 t.facts) (by simp)
  have y1wp1 : w.heap.size < w1.heap.size + 1 := (by omega)
  have y1wp2 : w.heap.size < w1.heap.size + 1 + 1 := (by omega)
  go_wp2_with fail
  refine (max_2 _ _ _ _ _ _ _ _ (hT.below (by repeat (first | with_reducible exact D1 | with_reducible apply bdrew | with_reducible apply bdrewN | with_reducible apply balloc | ((with_reducible refine bset ?_ ?_ _); rotate_left; (first | omega | (simp <;> omega)))))) _ _ _ (hS.below (by repeat (first | with_reducible exact D1 | with_reducible apply bdrew | with_reducible apply bdrewN | with_reducible apply balloc | ((with_reducible refine bset ?_ ?_ _); rotate_left; (first | omega | (simp <;> omega)))))) hls n HN.out HV.out H2.out).mono ?_
  rintro e w2 ⟨g2, rfl, hg2, hA2, hb2, hB2⟩
  have D2 := dstep w hB2 (by repeat (first | with_reducible exact D1 | with_reducible apply bdrew | with_reducible apply bdrewN | with_reducible apply balloc | ((with_reducible refine bset ?_ ?_ _); rotate_left; (first | omega | (simp <;> omega)))))
  have d2s := D2.size
  have C2 := Cls.below (l := [(w.heap.size, 0, .int .i64 t.facts), (w.heap.size, 1, .slice Ai t.init.length ci), (w.heap.size, 2, .slice Ag t.goal.length cg), (w.heap.size, 3, .slice Ao t.ops.length co)]) hB2 (by simp [Cls, go_sem, F1, y1w0, y1wp1, y1wp2])
  have F2 := C2
  simp only [Cls, and_true] at F2
  have y2w0 : w.heap.size < w2.heap.size := C2.blk (b := w.heap.size) (k := 0) (v := .int .i64 t.facts) (by simp)
  have y2wp1 : w.heap.size < w2.heap.size + 1 := (by omega)
  have y2wp2 : w.heap.size < w2.heap.size + 1 + 1 := (by omega)
  have Hb2 := Lib.hid hb2
  clear hb2
  go_wp2_with fail
  refine (add_2 _ _ _ _ _ _ _ _ (hT.below (by repeat (first | with_reducible exact D2 | with_reducible apply bdrew | with_reducible apply bdrewN | with_reducible apply balloc | ((with_reducible refine bset ?_ ?_ _); rotate_left; (first | omega | (simp <;> omega)))))) _ _ _ (hS.below (by repeat (first | with_reducible exact D2 | with_reducible apply bdrew | with_reducible apply bdrewN | with_reducible apply balloc | ((with_reducible refine bset ?_ ?_ _); rotate_left; (first | omega | (simp <;> omega)))))) hls n HN.out HV.out H2.out).mono ?_
  rintro e w3 ⟨g3, rfl, hg3, hA3, hb3, hB3⟩
  have D3 := dstep w hB3 (by repeat (first | with_reducible exact D2 | with_reducible apply bdrew | with_reducible apply bdrewN | with_reducible apply balloc | ((with_reducible refine bset ?_ ?_ _); rotate_left; (first | omega | (simp <;> omega)))))
  have d3s := D3.size
  have Ew2_3 := dstep w2 hB3 (by repeat (first | with_reducible exact Below.refl _ _ | with_reducible apply bdrew | with_reducible apply bdrewN | with_reducible apply balloc | ((with_reducible refine bset ?_ ?_ _); rotate_left; (first | omega | (simp <;> omega)))))
  have C3 := Cls.below (l := [(w.heap.size, 0, .int .i64 t.facts), (w.heap.size, 1, .slice Ai t.init.length ci), (w.heap.size, 2, .slice Ag t.goal.length cg), (w.heap.size, 3, .slice Ao t.ops.length co), (w2.heap.size, 0, .int .i64 0), (w2.heap.size, 1, .int .i64 0)]) hB3 (by simp [Cls, go_sem, F2, y2w0, y2wp1, y2wp2])
  have F3 := C3
  simp only [Cls, and_true] at F3
  have y3w0 : w.heap.size < w3.heap.size := C3.blk (b := w.heap.size) (k := 0) (v := .int .i64 t.facts) (by simp)
  have y3wp1 : w.heap.size < w3.heap.size + 1 := (by omega)
  have y3wp2 : w.heap.size < w3.heap.size + 1 + 1 := (by omega)
  have y3w20 : w2.heap.size < w3.heap.size := C3.blk (b := w2.heap.size) (k := 0) (v := .int .i64 0) (by simp)
  have y3w2p1 : w2.heap.size < w3.heap.size + 1 := (by omega)
  have y3w2p2 : w2.heap.size < w3.heap.size + 1 + 1 := (by omega)
  have Hb3 := Lib.hid hb3
  clear hb3
  go_wp2_with fail
  refine (reachable_2 _ _ _ _ _ _ _ _ (hT.below (by repeat (first | with_reducible exact D3 | with_reducible apply bdrew | with_reducible apply bdrewN | with_reducible apply balloc | ((with_reducible refine bset ?_ ?_ _); rotate_left; (first | omega | (simp <;> omega)))))) _ _ _ (hS.below (by repeat (first | with_reducible exact D3 | with_reducible apply bdrew | with_reducible apply bdrewN | with_reducible apply balloc | ((with_reducible refine bset ?_ ?_ _); rotate_left; (first | omega | (simp <;> omega)))))) hls n HN.out HV.out H2.out).mono ?_
  rintro e w4 ⟨v4, rfl, ho4, hB4⟩
  have D4 := dstep w hB4 (by repeat (first | with_reducible exact D3 | with_reducible apply bdrew | with_reducible apply bdrewN | with_reducible apply balloc | ((with_reducible refine bset ?_ ?_ _); rotate_left; (first | omega | (simp <;> omega)))))
  have d4s := D4.size
  have Ew2_4 := dstep w2 hB4 (by repeat (first | with_reducible exact Ew2_3 | with_reducible apply bdrew | with_reducible apply bdrewN | with_reducible apply balloc | ((with_reducible refine bset ?_ ?_ _); rotate_left; (first | omega | (simp <;> omega)))))
  have Ew3_4 := dstep w3 hB4 (by repeat (first | with_reducible exact Below.refl _ _ | with_reducible apply bdrew | with_reducible apply bdrewN | with_reducible apply balloc | ((with_reducible refine bset ?_ ?_ _); rotate_left; (first | omega | (simp <;> omega)))))
  have C4 := Cls.below (l := [(w.heap.size, 0, .int .i64 t.facts), (w.heap.size, 1, .slice Ai t.init.length ci), (w.heap.size, 2, .slice Ag t.goal.length cg), (w.heap.size, 3, .slice Ao t.ops.length co), (w2.heap.size, 0, .int .i64 0), (w2.heap.size, 1, .int .i64 0), (w3.heap.size, 0, .int .i64 0), (w3.heap.size, 1, .int .i64 0)]) hB4 (by simp [Cls, go_sem, F3, y3w0, y3wp1, y3wp2, y3w20, y3w2p1, y3w2p2])
  have F4 := C4
  simp only [Cls, and_true] at F4
  have y4w0 : w.heap.size < w4.heap.size := C4.blk (b := w.heap.size) (k := 0) (v := .int .i64 t.facts) (by simp)
  have y4wp1 : w.heap.size < w4.heap.size + 1 := (by omega)
  have y4wp2 : w.heap.size < w4.heap.size + 1 + 1 := (by omega)
  have y4w20 : w2.heap.size < w4.heap.size := C4.blk (b := w2.heap.size) (k := 0) (v := .int .i64 0) (by simp)
  have y4w2p1 : w2.heap.size < w4.heap.size + 1 := (by omega)
  have y4w2p2 : w2.heap.size < w4.heap.size + 1 + 1 := (by omega)
  have y4w30 : w3.heap.size < w4.heap.size := C4.blk (b := w3.heap.size) (k := 0) (v := .int .i64 0) (by simp)
  have y4w3p1 : w3.heap.size < w4.heap.size + 1 := (by omega)
  have y4w3p2 : w3.heap.size < w4.heap.size + 1 + 1 := (by omega)
  obtain ⟨A4, c4, rfl, hnil4, hI4⟩ := ho4.form
  clear hnil4 ho4
  go_wp2_with fail
  refine (rstatefault_3 _ _ _ _ _ _ _ _ (hT.below (by repeat (first | with_reducible exact D4 | with_reducible apply bdrew | with_reducible apply bdrewN | with_reducible apply balloc | ((with_reducible refine bset ?_ ?_ _); rotate_left; (first | omega | (simp <;> omega)))))) _ _ _ (hS.below (by repeat (first | with_reducible exact D4 | with_reducible apply bdrew | with_reducible apply bdrewN | with_reducible apply balloc | ((with_reducible refine bset ?_ ?_ _); rotate_left; (first | omega | (simp <;> omega)))))) hls HV.out H2.out).mono ?_
  rintro e w5 ⟨rfl, hB5⟩
  have D5 := dstep w hB5 (by repeat (first | with_reducible exact D4 | with_reducible apply bdrew | with_reducible apply bdrewN | with_reducible apply balloc | ((with_reducible refine bset ?_ ?_ _); rotate_left; (first | omega | (simp <;> omega)))))
  have d5s := D5.size
  have Ew2_5 := dstep w2 hB5 (by repeat (first | with_reducible exact Ew2_4 | with_reducible apply bdrew | with_reducible apply bdrewN | with_reducible apply balloc | ((with_reducible refine bset ?_ ?_ _); rotate_left; (first | omega | (simp <;> omega)))))
  have Ew3_5 := dstep w3 hB5 (by repeat (first | with_reducible exact Ew3_4 | with_reducible apply bdrew | with_reducible apply bdrewN | with_reducible apply balloc | ((with_reducible refine bset ?_ ?_ _); rotate_left; (first | omega | (simp <;> omega)))))
  have Ew4_5 := dstep w4 hB5 (by repeat (first | with_reducible exact Below.refl _ _ | with_reducible apply bdrew | with_reducible apply bdrewN | with_reducible apply balloc | ((with_reducible refine bset ?_ ?_ _); rotate_left; (first | omega | (simp <;> omega)))))
  have C5 := Cls.below (l := [(w.heap.size, 0, .int .i64 t.facts), (w.heap.size, 1, .slice Ai t.init.length ci), (w.heap.size, 2, .slice Ag t.goal.length cg), (w.heap.size, 3, .slice Ao t.ops.length co), (w2.heap.size, 0, .int .i64 0), (w2.heap.size, 1, .int .i64 0), (w3.heap.size, 0, .int .i64 0), (w3.heap.size, 1, .int .i64 0), (w4.heap.size, 0, .int .i64 0), (w4.heap.size, 1, .int .i64 0)]) hB5 (by simp [Cls, go_sem, F4, y4w0, y4wp1, y4wp2, y4w20, y4w2p1, y4w2p2, y4w30, y4w3p1, y4w3p2])
  have F5 := C5
  simp only [Cls, and_true] at F5
  have y5w0 : w.heap.size < w5.heap.size := C5.blk (b := w.heap.size) (k := 0) (v := .int .i64 t.facts) (by simp)
  have y5wp1 : w.heap.size < w5.heap.size + 1 := (by omega)
  have y5wp2 : w.heap.size < w5.heap.size + 1 + 1 := (by omega)
  have y5w20 : w2.heap.size < w5.heap.size := C5.blk (b := w2.heap.size) (k := 0) (v := .int .i64 0) (by simp)
  have y5w2p1 : w2.heap.size < w5.heap.size + 1 := (by omega)
  have y5w2p2 : w2.heap.size < w5.heap.size + 1 + 1 := (by omega)
  have y5w30 : w3.heap.size < w5.heap.size := C5.blk (b := w3.heap.size) (k := 0) (v := .int .i64 0) (by simp)
  have y5w3p1 : w3.heap.size < w5.heap.size + 1 := (by omega)
  have y5w3p2 : w3.heap.size < w5.heap.size + 1 + 1 := (by omega)
  have y5w40 : w4.heap.size < w5.heap.size := C5.blk (b := w4.heap.size) (k := 0) (v := .int .i64 0) (by simp)
  have y5w4p1 : w4.heap.size < w5.heap.size + 1 := (by omega)
  have y5w4p2 : w4.heap.size < w5.heap.size + 1 + 1 := (by omega)
  go_upto_region 9 with (fail)
  go_cut [14, 15] (fun s14 s15 wx => ∃ A5 c5 A6 c6, s14 = .slice A5 n c5 ∧ s15 = .slice A6 n c6 ∧ Ints wx A5 (valuesV false n st t.ops (t.ops.map (·.cost))) ∧ Ints wx A6 (valuesV true n st t.ops (t.ops.map (·.cost))) ∧ Below w5.heap.size w5 wx ∧ Below w.heap.size w wx ∧ Cls wx [(w.heap.size, 0, .int .i64 t.facts), (w.heap.size, 1, .slice Ai t.init.length ci), (w.heap.size, 2, .slice Ag t.goal.length cg), (w.heap.size, 3, .slice Ao t.ops.length co), (w2.heap.size, 0, .int .i64 0), (w2.heap.size, 1, .int .i64 0), (w3.heap.size, 0, .int .i64 0), (w3.heap.size, 1, .int .i64 0), (w4.heap.size, 0, .int .i64 0), (w4.heap.size, 1, .int .i64 0), (w5.heap.size, 0, .int .i64 0), (w5.heap.size, 1, .int .i64 0)])
  case first =>
    have HB := D5
    have HE := Below.refl w5.heap.size w5
    have HCL := True.intro
    have LA := Lib.hid Hb2.out.fix.shape.len
    have LB := Lib.hid Hb3.out.fix.shape.len
    go_region_held3 (fun W => W.cell? ⟨w.heap.size, 0, none⟩ = some (.int .i64 t.facts) ∧ W.cell? ⟨w.heap.size, 1, none⟩ = some (.slice Ai t.init.length ci) ∧ W.cell? ⟨w.heap.size, 2, none⟩ = some (.slice Ag t.goal.length cg) ∧ W.cell? ⟨w.heap.size, 3, none⟩ = some (.slice Ao t.ops.length co)) (first | exact hK | go_keep) (first | (go_at_call 35; refine (owncosts_any _ _ _ _ _ _ _ _ (hT.below (by repeat (first | with_reducible exact HB | with_reducible apply bdrew | with_reducible apply bdrewN | with_reducible apply balloc | ((with_reducible refine bset ?_ ?_ _); rotate_left; (first | omega | (simp <;> omega)))))) hm40).mono ?_; rintro e wx ⟨v, rfl, ho, hB⟩; have HB' := dstep w hB (by repeat (first | with_reducible exact HB | with_reducible apply bdrew | with_reducible apply bdrewN | with_reducible apply balloc | ((with_reducible refine bset ?_ ?_ _); rotate_left; (first | omega | (simp <;> omega))))); clear HB; have HB := HB'; clear HB'; have HE' := dstep w5 hB (by repeat (first | with_reducible exact HE | with_reducible apply bdrew | with_reducible apply bdrewN | with_reducible apply balloc | ((with_reducible refine bset ?_ ?_ _); rotate_left; (first | omega | (simp <;> omega))))); clear HE; have HE := HE'; clear HE'; have HC' : Cls wx [(w.heap.size, 0, .int .i64 t.facts), (w.heap.size, 1, .slice Ai t.init.length ci), (w.heap.size, 2, .slice Ag t.goal.length cg), (w.heap.size, 3, .slice Ao t.ops.length co), (w2.heap.size, 0, .int .i64 0), (w2.heap.size, 1, .int .i64 0), (w3.heap.size, 0, .int .i64 0), (w3.heap.size, 1, .int .i64 0), (w4.heap.size, 0, .int .i64 0), (w4.heap.size, 1, .int .i64 0), (w5.heap.size, 0, .int .i64 0), (w5.heap.size, 1, .int .i64 0)] := (by first | exact HCL.below hB | exact Cls.below hB (by simp [Cls, go_sem, F5, y5w0, y5wp1, y5wp2, y5w20, y5w2p1, y5w2p2, y5w30, y5w3p1, y5w3p2, y5w40, y5w4p1, y5w4p2])); clear HCL; have HCL := HC'; clear HC'; (first | (replace hIa := hIa.below hB) | skip); (first | (replace hIb := hIb.below hB) | skip); (first | (replace hFa := hFa.below hB) | skip); (first | (replace hFb := hFb.below hB) | skip); have hK : wx.cell? ⟨w.heap.size, 0, none⟩ = some (.int .i64 t.facts) ∧ wx.cell? ⟨w.heap.size, 1, none⟩ = some (.slice Ai t.init.length ci) ∧ wx.cell? ⟨w.heap.size, 2, none⟩ = some (.slice Ag t.goal.length cg) ∧ wx.cell? ⟨w.heap.size, 3, none⟩ = some (.slice Ao t.ops.length co) := (by have q := HCL; simp only [Cls, and_true] at q; simp [q]); clear hB; first | (have hIb := hIa; clear hIa; obtain ⟨Aa, ca, rfl, hnila, hIa⟩ := ho.form; clear hnila ho) | (obtain ⟨Aa, ca, rfl, hnila, hIa⟩ := ho.form; clear hnila ho)) | (go_at_call 34; refine (factvalues_at _ _ _ _ _ _ _ _ (hT.below (by repeat (first | with_reducible exact HB | with_reducible apply bdrew | with_reducible apply bdrewN | with_reducible apply balloc | ((with_reducible refine bset ?_ ?_ _); rotate_left; (first | omega | (simp <;> omega)))))) n HN.out hn9 _ _ _ (hS.below (by repeat (first | with_reducible exact HB | with_reducible apply bdrew | with_reducible apply bdrewN | with_reducible apply balloc | ((with_reducible refine bset ?_ ?_ _); rotate_left; (first | omega | (simp <;> omega)))))) hls HST.out _ _ _ _ (by first | with_reducible exact hIa | with_reducible exact hIb) rfl HLC.out HC.out HOPS.out _).mono ?_; rintro e wx ⟨v, rfl, ho, hbest, hB⟩; have HB' := dstep w hB (by repeat (first | with_reducible exact HB | with_reducible apply bdrew | with_reducible apply bdrewN | with_reducible apply balloc | ((with_reducible refine bset ?_ ?_ _); rotate_left; (first | omega | (simp <;> omega))))); clear HB; have HB := HB'; clear HB'; have HE' := dstep w5 hB (by repeat (first | with_reducible exact HE | with_reducible apply bdrew | with_reducible apply bdrewN | with_reducible apply balloc | ((with_reducible refine bset ?_ ?_ _); rotate_left; (first | omega | (simp <;> omega))))); clear HE; have HE := HE'; clear HE'; have HC' : Cls wx [(w.heap.size, 0, .int .i64 t.facts), (w.heap.size, 1, .slice Ai t.init.length ci), (w.heap.size, 2, .slice Ag t.goal.length cg), (w.heap.size, 3, .slice Ao t.ops.length co), (w2.heap.size, 0, .int .i64 0), (w2.heap.size, 1, .int .i64 0), (w3.heap.size, 0, .int .i64 0), (w3.heap.size, 1, .int .i64 0), (w4.heap.size, 0, .int .i64 0), (w4.heap.size, 1, .int .i64 0), (w5.heap.size, 0, .int .i64 0), (w5.heap.size, 1, .int .i64 0)] := (by first | exact HCL.below hB | exact Cls.below hB (by simp [Cls, go_sem, F5, y5w0, y5wp1, y5wp2, y5w20, y5w2p1, y5w2p2, y5w30, y5w3p1, y5w3p2, y5w40, y5w4p1, y5w4p2])); clear HCL; have HCL := HC'; clear HC'; (first | (replace hIa := hIa.below hB) | skip); (first | (replace hIb := hIb.below hB) | skip); (first | (replace hFa := hFa.below hB) | skip); (first | (replace hFb := hFb.below hB) | skip); have hK : wx.cell? ⟨w.heap.size, 0, none⟩ = some (.int .i64 t.facts) ∧ wx.cell? ⟨w.heap.size, 1, none⟩ = some (.slice Ai t.init.length ci) ∧ wx.cell? ⟨w.heap.size, 2, none⟩ = some (.slice Ag t.goal.length cg) ∧ wx.cell? ⟨w.heap.size, 3, none⟩ = some (.slice Ao t.ops.length co) := (by have q := HCL; simp only [Cls, and_true] at q; simp [q]); clear hB; first | (have hq : OwnI _ wx v (valuesV false n st t.ops (t.ops.map (·.cost))) := (by with_reducible exact ho); obtain ⟨Af, cf, rfl, hnilf⟩ := hq.form_at LA.out; have hFa := OwnI.ints_at hq; clear hnilf hq ho hbest) | (obtain ⟨Ag', cg', rfl, hnilg⟩ := ho.form_at LB.out; have hFb := OwnI.ints_at ho; clear hnilg ho hbest)))
    all_goals (go_wp2_with fail; go_meet; exact ⟨Af, cf, Ag', cg', rfl, rfl, hFa, hFb, HE, HB, HCL⟩)
  case rest =>
    obtain ⟨w6, rfl⟩ : ∃ wo : World, wo = wc := ⟨_, rfl⟩
    obtain ⟨A5, c5, A6, c6, rfl, rfl, hx5, hx6, hE6, hB6, hC6⟩ := hcut
    have E2x := hA2.below (by repeat (first | with_reducible exact Ew2_5 | with_reducible apply bdrew | with_reducible apply bdrewN | with_reducible apply balloc | ((with_reducible refine bset ?_ ?_ _); rotate_left; (first | omega | (simp <;> omega)))))
    have E3x := hA3.below (by repeat (first | with_reducible exact Ew3_5 | with_reducible apply bdrew | with_reducible apply bdrewN | with_reducible apply balloc | ((with_reducible refine bset ?_ ?_ _); rotate_left; (first | omega | (simp <;> omega)))))
    have E4x := hI4.below (by repeat (first | with_reducible exact Ew4_5 | with_reducible apply bdrew | with_reducible apply bdrewN | with_reducible apply balloc | ((with_reducible refine bset ?_ ?_ _); rotate_left; (first | omega | (simp <;> omega)))))
    have d6s := hB6.size
    have F6 := hC6
    simp only [Cls, and_true] at F6
    have y6w0 : w.heap.size < w6.heap.size := hC6.blk (b := w.heap.size) (k := 0) (v := .int .i64 t.facts) (by simp)
    have y6wp1 : w.heap.size < w6.heap.size + 1 := (by omega)
    have y6wp2 : w.heap.size < w6.heap.size + 1 + 1 := (by omega)
    have y6w20 : w2.heap.size < w6.heap.size := hC6.blk (b := w2.heap.size) (k := 0) (v := .int .i64 0) (by simp)
    have y6w2p1 : w2.heap.size < w6.heap.size + 1 := (by omega)
    have y6w2p2 : w2.heap.size < w6.heap.size + 1 + 1 := (by omega)
    have y6w30 : w3.heap.size < w6.heap.size := hC6.blk (b := w3.heap.size) (k := 0) (v := .int .i64 0) (by simp)
    have y6w3p1 : w3.heap.size < w6.heap.size + 1 := (by omega)
    have y6w3p2 : w3.heap.size < w6.heap.size + 1 + 1 := (by omega)
    have y6w40 : w4.heap.size < w6.heap.size := hC6.blk (b := w4.heap.size) (k := 0) (v := .int .i64 0) (by simp)
    have y6w4p1 : w4.heap.size < w6.heap.size + 1 := (by omega)
    have y6w4p2 : w4.heap.size < w6.heap.size + 1 + 1 := (by omega)
    have y6w50 : w5.heap.size < w6.heap.size := hC6.blk (b := w5.heap.size) (k := 0) (v := .int .i64 0) (by simp)
    have y6w5p1 : w5.heap.size < w6.heap.size + 1 := (by omega)
    have y6w5p2 : w5.heap.size < w6.heap.size + 1 + 1 := (by omega)
    have hX2 := (E2x.below (by repeat (first | with_reducible exact hE6 | with_reducible apply bdrew | with_reducible apply bdrewN | with_reducible apply balloc | ((with_reducible refine bset ?_ ?_ _); rotate_left; (first | omega | (simp <;> omega)))))).ints
    have hX3 := (E3x.below (by repeat (first | with_reducible exact hE6 | with_reducible apply bdrew | with_reducible apply bdrewN | with_reducible apply balloc | ((with_reducible refine bset ?_ ?_ _); rotate_left; (first | omega | (simp <;> omega)))))).ints
    have hX4 := E4x.below (by repeat (first | with_reducible exact hE6 | with_reducible apply bdrew | with_reducible apply bdrewN | with_reducible apply balloc | ((with_reducible refine bset ?_ ?_ _); rotate_left; (first | omega | (simp <;> omega)))))
    have LA := Lib.hid Hb2.out.fix.shape.len
    have LB := Lib.hid Hb3.out.fix.shape.len
    have HA2 := Lib.hid Hb2.out.fix.shape.all
    have HA3 := Lib.hid Hb3.out.fix.shape.all
    have hn10 : n ≤ 1000000000000 := by omega
    go_wp2_with fail
    refine (ints_at _ _ _ _ n _ _ _ (hX2.below (by repeat (first | with_reducible exact Below.refl _ _ | with_reducible apply bdrew | with_reducible apply bdrewN | with_reducible apply balloc | ((with_reducible refine bset ?_ ?_ _); rotate_left; (first | omega | (simp <;> omega)))))) (hx5.below (by repeat (first | with_reducible exact Below.refl _ _ | with_reducible apply bdrew | with_reducible apply bdrewN | with_reducible apply balloc | ((with_reducible refine bset ?_ ?_ _); rotate_left; (first | omega | (simp <;> omega)))))) LA.out LA.out hn10 true (by simp)).mono ?_
    rintro e w7 ⟨rfl, hB7⟩
    have D7 := dstep w hB7 (by repeat (first | with_reducible exact hB6 | with_reducible apply bdrew | with_reducible apply bdrewN | with_reducible apply balloc | ((with_reducible refine bset ?_ ?_ _); rotate_left; (first | omega | (simp <;> omega)))))
    have d7s := D7.size
    have Ew6_7 := dstep w6 hB7 (by repeat (first | with_reducible exact Below.refl _ _ | with_reducible apply bdrew | with_reducible apply bdrewN | with_reducible apply balloc | ((with_reducible refine bset ?_ ?_ _); rotate_left; (first | omega | (simp <;> omega)))))
    have C7 := Cls.below (l := [(w.heap.size, 0, .int .i64 t.facts), (w.heap.size, 1, .slice Ai t.init.length ci), (w.heap.size, 2, .slice Ag t.goal.length cg), (w.heap.size, 3, .slice Ao t.ops.length co), (w2.heap.size, 0, .int .i64 0), (w2.heap.size, 1, .int .i64 0), (w3.heap.size, 0, .int .i64 0), (w3.heap.size, 1, .int .i64 0), (w4.heap.size, 0, .int .i64 0), (w4.heap.size, 1, .int .i64 0), (w5.heap.size, 0, .int .i64 0), (w5.heap.size, 1, .int .i64 0)]) hB7 (by simp [Cls, go_sem, F6, y6w0, y6wp1, y6wp2, y6w20, y6w2p1, y6w2p2, y6w30, y6w3p1, y6w3p2, y6w40, y6w4p1, y6w4p2, y6w50, y6w5p1, y6w5p2])
    have F7 := C7
    simp only [Cls, and_true] at F7
    have y7w0 : w.heap.size < w7.heap.size := C7.blk (b := w.heap.size) (k := 0) (v := .int .i64 t.facts) (by simp)
    have y7wp1 : w.heap.size < w7.heap.size + 1 := (by omega)
    have y7wp2 : w.heap.size < w7.heap.size + 1 + 1 := (by omega)
    have y7w20 : w2.heap.size < w7.heap.size := C7.blk (b := w2.heap.size) (k := 0) (v := .int .i64 0) (by simp)
    have y7w2p1 : w2.heap.size < w7.heap.size + 1 := (by omega)
    have y7w2p2 : w2.heap.size < w7.heap.size + 1 + 1 := (by omega)
    have y7w30 : w3.heap.size < w7.heap.size := C7.blk (b := w3.heap.size) (k := 0) (v := .int .i64 0) (by simp)
    have y7w3p1 : w3.heap.size < w7.heap.size + 1 := (by omega)
    have y7w3p2 : w3.heap.size < w7.heap.size + 1 + 1 := (by omega)
    have y7w40 : w4.heap.size < w7.heap.size := C7.blk (b := w4.heap.size) (k := 0) (v := .int .i64 0) (by simp)
    have y7w4p1 : w4.heap.size < w7.heap.size + 1 := (by omega)
    have y7w4p2 : w4.heap.size < w7.heap.size + 1 + 1 := (by omega)
    have y7w50 : w5.heap.size < w7.heap.size := C7.blk (b := w5.heap.size) (k := 0) (v := .int .i64 0) (by simp)
    have y7w5p1 : w5.heap.size < w7.heap.size + 1 := (by omega)
    have y7w5p2 : w5.heap.size < w7.heap.size + 1 + 1 := (by omega)
    go_wp2_with fail
    refine (ints_at _ _ _ _ n _ _ _ (hX3.below (by repeat (first | with_reducible exact Ew6_7 | with_reducible apply bdrew | with_reducible apply bdrewN | with_reducible apply balloc | ((with_reducible refine bset ?_ ?_ _); rotate_left; (first | omega | (simp <;> omega)))))) (hx6.below (by repeat (first | with_reducible exact Ew6_7 | with_reducible apply bdrew | with_reducible apply bdrewN | with_reducible apply balloc | ((with_reducible refine bset ?_ ?_ _); rotate_left; (first | omega | (simp <;> omega)))))) LB.out LB.out hn10 true (by simp)).mono ?_
    rintro e w8 ⟨rfl, hB8⟩
    have D8 := dstep w hB8 (by repeat (first | with_reducible exact D7 | with_reducible apply bdrew | with_reducible apply bdrewN | with_reducible apply balloc | ((with_reducible refine bset ?_ ?_ _); rotate_left; (first | omega | (simp <;> omega)))))
    have d8s := D8.size
    have Ew6_8 := dstep w6 hB8 (by repeat (first | with_reducible exact Ew6_7 | with_reducible apply bdrew | with_reducible apply bdrewN | with_reducible apply balloc | ((with_reducible refine bset ?_ ?_ _); rotate_left; (first | omega | (simp <;> omega)))))
    have C8 := Cls.below (l := [(w.heap.size, 0, .int .i64 t.facts), (w.heap.size, 1, .slice Ai t.init.length ci), (w.heap.size, 2, .slice Ag t.goal.length cg), (w.heap.size, 3, .slice Ao t.ops.length co), (w2.heap.size, 0, .int .i64 0), (w2.heap.size, 1, .int .i64 0), (w3.heap.size, 0, .int .i64 0), (w3.heap.size, 1, .int .i64 0), (w4.heap.size, 0, .int .i64 0), (w4.heap.size, 1, .int .i64 0), (w5.heap.size, 0, .int .i64 0), (w5.heap.size, 1, .int .i64 0)]) hB8 (by simp [Cls, go_sem, F7, y7w0, y7wp1, y7wp2, y7w20, y7w2p1, y7w2p2, y7w30, y7w3p1, y7w3p2, y7w40, y7w4p1, y7w4p2, y7w50, y7w5p1, y7w5p2])
    have F8 := C8
    simp only [Cls, and_true] at F8
    have y8w0 : w.heap.size < w8.heap.size := C8.blk (b := w.heap.size) (k := 0) (v := .int .i64 t.facts) (by simp)
    have y8wp1 : w.heap.size < w8.heap.size + 1 := (by omega)
    have y8wp2 : w.heap.size < w8.heap.size + 1 + 1 := (by omega)
    have y8w20 : w2.heap.size < w8.heap.size := C8.blk (b := w2.heap.size) (k := 0) (v := .int .i64 0) (by simp)
    have y8w2p1 : w2.heap.size < w8.heap.size + 1 := (by omega)
    have y8w2p2 : w2.heap.size < w8.heap.size + 1 + 1 := (by omega)
    have y8w30 : w3.heap.size < w8.heap.size := C8.blk (b := w3.heap.size) (k := 0) (v := .int .i64 0) (by simp)
    have y8w3p1 : w3.heap.size < w8.heap.size + 1 := (by omega)
    have y8w3p2 : w3.heap.size < w8.heap.size + 1 + 1 := (by omega)
    have y8w40 : w4.heap.size < w8.heap.size := C8.blk (b := w4.heap.size) (k := 0) (v := .int .i64 0) (by simp)
    have y8w4p1 : w4.heap.size < w8.heap.size + 1 := (by omega)
    have y8w4p2 : w4.heap.size < w8.heap.size + 1 + 1 := (by omega)
    have y8w50 : w5.heap.size < w8.heap.size := C8.blk (b := w5.heap.size) (k := 0) (v := .int .i64 0) (by simp)
    have y8w5p1 : w5.heap.size < w8.heap.size + 1 := (by omega)
    have y8w5p2 : w5.heap.size < w8.heap.size + 1 + 1 := (by omega)
    go_wp2_with fail
    refine (goalvalue_any _ _ _ _ _ _ _ _ (hT.below (by repeat (first | with_reducible exact D8 | with_reducible apply bdrew | with_reducible apply bdrewN | with_reducible apply balloc | ((with_reducible refine bset ?_ ?_ _); rotate_left; (first | omega | (simp <;> omega)))))) _ _ n _ (hx5.below (by repeat (first | with_reducible exact Ew6_8 | with_reducible apply bdrew | with_reducible apply bdrewN | with_reducible apply balloc | ((with_reducible refine bset ?_ ?_ _); rotate_left; (first | omega | (simp <;> omega)))))) LA.out hn10 HGOAL.out HA2.out false).mono ?_
    rintro e w9 ⟨rfl, hB9⟩
    have D9 := dstep w hB9 (by repeat (first | with_reducible exact D8 | with_reducible apply bdrew | with_reducible apply bdrewN | with_reducible apply balloc | ((with_reducible refine bset ?_ ?_ _); rotate_left; (first | omega | (simp <;> omega)))))
    have d9s := D9.size
    have Ew6_9 := dstep w6 hB9 (by repeat (first | with_reducible exact Ew6_8 | with_reducible apply bdrew | with_reducible apply bdrewN | with_reducible apply balloc | ((with_reducible refine bset ?_ ?_ _); rotate_left; (first | omega | (simp <;> omega)))))
    have C9 := Cls.below (l := [(w.heap.size, 0, .int .i64 t.facts), (w.heap.size, 1, .slice Ai t.init.length ci), (w.heap.size, 2, .slice Ag t.goal.length cg), (w.heap.size, 3, .slice Ao t.ops.length co), (w2.heap.size, 0, .int .i64 0), (w2.heap.size, 1, .int .i64 0), (w3.heap.size, 0, .int .i64 0), (w3.heap.size, 1, .int .i64 0), (w4.heap.size, 0, .int .i64 0), (w4.heap.size, 1, .int .i64 0), (w5.heap.size, 0, .int .i64 0), (w5.heap.size, 1, .int .i64 0)]) hB9 (by simp [Cls, go_sem, F8, y8w0, y8wp1, y8wp2, y8w20, y8w2p1, y8w2p2, y8w30, y8w3p1, y8w3p2, y8w40, y8w4p1, y8w4p2, y8w50, y8w5p1, y8w5p2])
    have F9 := C9
    simp only [Cls, and_true] at F9
    have y9w0 : w.heap.size < w9.heap.size := C9.blk (b := w.heap.size) (k := 0) (v := .int .i64 t.facts) (by simp)
    have y9wp1 : w.heap.size < w9.heap.size + 1 := (by omega)
    have y9wp2 : w.heap.size < w9.heap.size + 1 + 1 := (by omega)
    have y9w20 : w2.heap.size < w9.heap.size := C9.blk (b := w2.heap.size) (k := 0) (v := .int .i64 0) (by simp)
    have y9w2p1 : w2.heap.size < w9.heap.size + 1 := (by omega)
    have y9w2p2 : w2.heap.size < w9.heap.size + 1 + 1 := (by omega)
    have y9w30 : w3.heap.size < w9.heap.size := C9.blk (b := w3.heap.size) (k := 0) (v := .int .i64 0) (by simp)
    have y9w3p1 : w3.heap.size < w9.heap.size + 1 := (by omega)
    have y9w3p2 : w3.heap.size < w9.heap.size + 1 + 1 := (by omega)
    have y9w40 : w4.heap.size < w9.heap.size := C9.blk (b := w4.heap.size) (k := 0) (v := .int .i64 0) (by simp)
    have y9w4p1 : w4.heap.size < w9.heap.size + 1 := (by omega)
    have y9w4p2 : w4.heap.size < w9.heap.size + 1 + 1 := (by omega)
    have y9w50 : w5.heap.size < w9.heap.size := C9.blk (b := w5.heap.size) (k := 0) (v := .int .i64 0) (by simp)
    have y9w5p1 : w5.heap.size < w9.heap.size + 1 := (by omega)
    have y9w5p2 : w5.heap.size < w9.heap.size + 1 + 1 := (by omega)
    go_wp2_with fail
    refine (goalvalue_any _ _ _ _ _ _ _ _ (hT.below (by repeat (first | with_reducible exact D9 | with_reducible apply bdrew | with_reducible apply bdrewN | with_reducible apply balloc | ((with_reducible refine bset ?_ ?_ _); rotate_left; (first | omega | (simp <;> omega)))))) _ _ n _ (hx6.below (by repeat (first | with_reducible exact Ew6_9 | with_reducible apply bdrew | with_reducible apply bdrewN | with_reducible apply balloc | ((with_reducible refine bset ?_ ?_ _); rotate_left; (first | omega | (simp <;> omega)))))) LB.out hn10 HGOAL.out HA3.out true).mono ?_
    rintro e w10 ⟨rfl, hB10⟩
    have D10 := dstep w hB10 (by repeat (first | with_reducible exact D9 | with_reducible apply bdrew | with_reducible apply bdrewN | with_reducible apply balloc | ((with_reducible refine bset ?_ ?_ _); rotate_left; (first | omega | (simp <;> omega)))))
    have d10s := D10.size
    have Ew6_10 := dstep w6 hB10 (by repeat (first | with_reducible exact Ew6_9 | with_reducible apply bdrew | with_reducible apply bdrewN | with_reducible apply balloc | ((with_reducible refine bset ?_ ?_ _); rotate_left; (first | omega | (simp <;> omega)))))
    have C10 := Cls.below (l := [(w.heap.size, 0, .int .i64 t.facts), (w.heap.size, 1, .slice Ai t.init.length ci), (w.heap.size, 2, .slice Ag t.goal.length cg), (w.heap.size, 3, .slice Ao t.ops.length co), (w2.heap.size, 0, .int .i64 0), (w2.heap.size, 1, .int .i64 0), (w3.heap.size, 0, .int .i64 0), (w3.heap.size, 1, .int .i64 0), (w4.heap.size, 0, .int .i64 0), (w4.heap.size, 1, .int .i64 0), (w5.heap.size, 0, .int .i64 0), (w5.heap.size, 1, .int .i64 0)]) hB10 (by simp [Cls, go_sem, F9, y9w0, y9wp1, y9wp2, y9w20, y9w2p1, y9w2p2, y9w30, y9w3p1, y9w3p2, y9w40, y9w4p1, y9w4p2, y9w50, y9w5p1, y9w5p2])
    have F10 := C10
    simp only [Cls, and_true] at F10
    have y10w0 : w.heap.size < w10.heap.size := C10.blk (b := w.heap.size) (k := 0) (v := .int .i64 t.facts) (by simp)
    have y10wp1 : w.heap.size < w10.heap.size + 1 := (by omega)
    have y10wp2 : w.heap.size < w10.heap.size + 1 + 1 := (by omega)
    have y10w20 : w2.heap.size < w10.heap.size := C10.blk (b := w2.heap.size) (k := 0) (v := .int .i64 0) (by simp)
    have y10w2p1 : w2.heap.size < w10.heap.size + 1 := (by omega)
    have y10w2p2 : w2.heap.size < w10.heap.size + 1 + 1 := (by omega)
    have y10w30 : w3.heap.size < w10.heap.size := C10.blk (b := w3.heap.size) (k := 0) (v := .int .i64 0) (by simp)
    have y10w3p1 : w3.heap.size < w10.heap.size + 1 := (by omega)
    have y10w3p2 : w3.heap.size < w10.heap.size + 1 + 1 := (by omega)
    have y10w40 : w4.heap.size < w10.heap.size := C10.blk (b := w4.heap.size) (k := 0) (v := .int .i64 0) (by simp)
    have y10w4p1 : w4.heap.size < w10.heap.size + 1 := (by omega)
    have y10w4p2 : w4.heap.size < w10.heap.size + 1 + 1 := (by omega)
    have y10w50 : w5.heap.size < w10.heap.size := C10.blk (b := w5.heap.size) (k := 0) (v := .int .i64 0) (by simp)
    have y10w5p1 : w5.heap.size < w10.heap.size + 1 := (by omega)
    have y10w5p2 : w5.heap.size < w10.heap.size + 1 + 1 := (by omega)
    have HB := D10
    have FX := F10
    have HE := Ew6_10
    go_wp2_with fail
    go_region_held3 (fun W => W.cell? ⟨w.heap.size, 0, none⟩ = some (.int .i64 t.facts) ∧ W.cell? ⟨w.heap.size, 1, none⟩ = some (.slice Ai t.init.length ci) ∧ W.cell? ⟨w.heap.size, 2, none⟩ = some (.slice Ag t.goal.length cg) ∧ W.cell? ⟨w.heap.size, 3, none⟩ = some (.slice Ao t.ops.length co)) (first | exact hK | go_keep) (first | (go_at_call 37; refine (within_any _ _ _ _ _ _ _ _ (hT.below (by repeat (first | with_reducible exact HB | with_reducible apply bdrew | with_reducible apply bdrewN | with_reducible apply balloc | ((with_reducible refine bset ?_ ?_ _); rotate_left; (first | omega | (simp <;> omega)))))) n HN.out hn9 _ _ _ (hS.below (by repeat (first | with_reducible exact HB | with_reducible apply bdrew | with_reducible apply bdrewN | with_reducible apply balloc | ((with_reducible refine bset ?_ ?_ _); rotate_left; (first | omega | (simp <;> omega)))))) HSET.out HSN.out.1 HOPS.out _ _ _ (List.replicate t.ops.length false) (by first | exact bools_drew (BArr.made _ _ _ rfl).bools | exact (BArr.made _ _ _ rfl).bools) ⟨by simp, rfl⟩ (fun _ => true) (by intro k d h; have := List.mem_of_getElem? h; rw [List.mem_replicate] at this; rw [this.2]; rfl)).mono ?_; rintro e wx ⟨v11, rfl, ho11, hB⟩; have HB' := dstep w hB (by repeat (first | with_reducible exact HB | with_reducible apply bdrew | with_reducible apply bdrewN | with_reducible apply balloc | ((with_reducible refine bset ?_ ?_ _); rotate_left; (first | omega | (simp <;> omega))))); clear HB; have HB := HB'; clear HB'; have HE' := dstep w6 hB (by repeat (first | with_reducible exact HE | with_reducible apply bdrew | with_reducible apply bdrewN | with_reducible apply balloc | ((with_reducible refine bset ?_ ?_ _); rotate_left; (first | omega | (simp <;> omega))))); clear HE; have HE := HE'; clear HE'; have CX := Cls.below (l := [(w.heap.size, 0, .int .i64 t.facts), (w.heap.size, 1, .slice Ai t.init.length ci), (w.heap.size, 2, .slice Ag t.goal.length cg), (w.heap.size, 3, .slice Ao t.ops.length co), (w2.heap.size, 0, .int .i64 0), (w2.heap.size, 1, .int .i64 0), (w3.heap.size, 0, .int .i64 0), (w3.heap.size, 1, .int .i64 0), (w4.heap.size, 0, .int .i64 0), (w4.heap.size, 1, .int .i64 0), (w5.heap.size, 0, .int .i64 0), (w5.heap.size, 1, .int .i64 0)]) hB (by simp [Cls, go_sem, FX, y10w0, y10wp1, y10wp2, y10w20, y10w2p1, y10w2p2, y10w30, y10w3p1, y10w3p2, y10w40, y10w4p1, y10w4p2, y10w50, y10w5p1, y10w5p2]); have FX := CX; simp only [Cls, and_true] at FX; have hK : wx.cell? ⟨w.heap.size, 0, none⟩ = some (.int .i64 t.facts) ∧ wx.cell? ⟨w.heap.size, 1, none⟩ = some (.slice Ai t.init.length ci) ∧ wx.cell? ⟨w.heap.size, 2, none⟩ = some (.slice Ag t.goal.length cg) ∧ wx.cell? ⟨w.heap.size, 3, none⟩ = some (.slice Ao t.ops.length co) := (by simp [FX]); clear hB; obtain ⟨A11, c11, rfl, hnil11, hI11⟩ := ho11.form; clear hnil11 ho11) | (go_at_call 21; refine (ints_at _ _ _ _ (withinV n st t.ops fun _ => true).length _ _ _ (hX4.below (by repeat (first | with_reducible exact HE | with_reducible apply bdrew | with_reducible apply bdrewN | with_reducible apply balloc | ((with_reducible refine bset ?_ ?_ _); rotate_left; (first | omega | (simp <;> omega)))))) hI11 rfl rfl (Nat.le_trans withinV_len hn10) true (by simp)).mono ?_; rintro e wx ⟨rfl, hB⟩; have HB' := dstep w hB (by repeat (first | with_reducible exact HB | with_reducible apply bdrew | with_reducible apply bdrewN | with_reducible apply balloc | ((with_reducible refine bset ?_ ?_ _); rotate_left; (first | omega | (simp <;> omega))))); clear HB; have HB := HB'; clear HB'; have HE' := dstep w6 hB (by repeat (first | with_reducible exact HE | with_reducible apply bdrew | with_reducible apply bdrewN | with_reducible apply balloc | ((with_reducible refine bset ?_ ?_ _); rotate_left; (first | omega | (simp <;> omega))))); clear HE; have HE := HE'; clear HE'; have CX := Cls.below (l := [(w.heap.size, 0, .int .i64 t.facts), (w.heap.size, 1, .slice Ai t.init.length ci), (w.heap.size, 2, .slice Ag t.goal.length cg), (w.heap.size, 3, .slice Ao t.ops.length co), (w2.heap.size, 0, .int .i64 0), (w2.heap.size, 1, .int .i64 0), (w3.heap.size, 0, .int .i64 0), (w3.heap.size, 1, .int .i64 0), (w4.heap.size, 0, .int .i64 0), (w4.heap.size, 1, .int .i64 0), (w5.heap.size, 0, .int .i64 0), (w5.heap.size, 1, .int .i64 0)]) hB (by simp [Cls, go_sem, FX, y10w0, y10wp1, y10wp2, y10w20, y10w2p1, y10w2p2, y10w30, y10w3p1, y10w3p2, y10w40, y10w4p1, y10w4p2, y10w50, y10w5p1, y10w5p2]); have FX := CX; simp only [Cls, and_true] at FX; have hK : wx.cell? ⟨w.heap.size, 0, none⟩ = some (.int .i64 t.facts) ∧ wx.cell? ⟨w.heap.size, 1, none⟩ = some (.slice Ai t.init.length ci) ∧ wx.cell? ⟨w.heap.size, 2, none⟩ = some (.slice Ag t.goal.length cg) ∧ wx.cell? ⟨w.heap.size, 3, none⟩ = some (.slice Ao t.ops.length co) := (by simp [FX]); clear hB; skip))
    all_goals
      go_wp2
      go_ret
      exact ⟨rfl, HB⟩

theorem walk_maxspec (w : World) (t : TaskV) (Ai Ag Ao : Option Addr) (ci cg co : Nat) (hR : TaskRead w Ai Ag Ao ci cg co t) (S : Option Addr) (cs : Nat) (st : List Int) (hS : Ints w S st) (hSn : NilOk S st cs) :
    Calls Try.prog 6 #[.agg #[.int .i64 t.facts, .slice Ai t.init.length ci, .slice Ag t.goal.length cg, .slice Ao t.ops.length co], .slice S st.length cs] w fun e w' => e = .returned (.bool true) ∧ Below w.heap.size w w' := by
  by_cases h : (sfault t st).1 = 0
  · obtain ⟨hv, h2⟩ := sfault_zero.1 h
    obtain ⟨n, hn⟩ := Int.eq_ofNat_of_zero_le hv.f0
    exact walk_maxspec_2 w t Ai Ag Ao ci cg co hR S cs st hS hSn n hn hv h2
  · exact walk_maxspec_1 w t Ai Ag Ao ci cg co hR S cs st hS hSn h

namespace relaxedMaxMatchesSpec
open Go.ChangeShapes Go.WideShapes Go.ChangeAt Go.RowKit

set_option maxRecDepth 100000 in
theorem lifted (os : Os) (started : os.Started) (H : Type) (enc : TypeId × Value → H) :
    ReturnsInHanded {} Try.checked os 6 .any (Rows.relaxedMaxMatchesSpecSpec.pre6 enc Try.prog Try.f6 Rows.relaxedMaxMatchesSpecRow.domain false) (Rows.relaxedMaxMatchesSpecSpec.post enc Try.prog Try.f6 false true false false) := by
  refine returnsInHanded_of_change (C := Try.checked) own_knob started (by kernel_rfl) Try.func6
    (ChangeSpec.witness6 (enc := enc) (C := Try.checked) false ⟨#[], #[.agg #[.int .i64 0, .slice none 0 0, .slice none 0 0, .slice none 0 0], .slice none 0 0], []⟩ 8 (by kernel_rfl) (by kernel_rfl) (by kernel_rfl) (by kernel_rfl)) ?_
  intro W base args ds gs before hval0 hW _ hsz
  have hval : ∀ (j : Nat) t v, Try.f6.params[j]? = some t → args[j]? = some v → Value.okWide Try.prog W .any base t v := hval0
  have hpost := fun (W' : World) (hfn : gs = [] → Rows.relaxedMaxMatchesSpecSpec.fn H (ds ++ gs) = { results := [.lit (.bool true)], args := ds }) (hb : Below W.heap.size W W') => law_post (f := Try.f6) (tb := 4) laid_out_B Try.underlying4 rfl (by kernel_rfl) rfl hfn hW hb
  obtain ⟨p, q, hA0, hV, hpq, hfz, hnd⟩ := hW
  have hA : DataW.TrodAll enc Try.prog W 0 (fun _ => true) true Try.f6.params.toList args.toList ds p := hA0
  rw [Try.params6] at hA hval
  obtain ⟨v0, vs0, d0, ds0, p0, q0, hargs, rfl, hp0, h0, r0⟩ := trodAll_cons hA
  obtain ⟨v1, vs1, d1, ds1, p1, q1, rfl, rfl, hp1, h1, r1⟩ := trodAll_cons r0
  obtain ⟨rfl, rfl, hpn⟩ := trodAll_nil r1
  obtain rfl : args = #[v0, v1] := by cases args; simp_all
  obtain ⟨t, Ai, Ag, Ao, ci, cg, co, rfl, hR⟩ := open_taskW (hval 0 25 v0 rfl rfl) h0
  obtain ⟨S, cs, st, rfl, hSc, hSl, hSnn, hS, hSi⟩ := open_intsW (hval 1 22 v1 rfl rfl) h1
  refine (walk_maxspec W t Ai Ag Ao ci cg co hR S cs st hS ⟨hSnn, hSc, hSl⟩).mono fun e W' ⟨he, hb⟩ => ?_
  subst he
  exact ⟨_, rfl, hpost W' (fun hg => by subst hg; rfl) hb⟩

theorem proved : Rows.RelaxedMaxMatchesSpecSaid :=
  OpenClaim.holds_of_wide 6 Try.f6 rfl rfl rfl rfl rfl rfl rfl ⟨rfl, rfl, rfl, rfl, rfl⟩ rfl rfl rfl rfl rfl (by kernel_rfl) Try.func6 (by kernel_rfl)
    (of_decide_eq_true (by kernel_rfl)) (by unfold Func.isWrapper; first | (rw [if_pos (by decide +kernel)]; kernel_rfl) | (rw [if_neg (by decide +kernel)]; exact ⟨rfl, rfl⟩))
    (fun os started H enc _ => lifted os started H enc)
#print axioms proved
end relaxedMaxMatchesSpec

end Go.Proofs.Ythnhhohnjiigcaa
