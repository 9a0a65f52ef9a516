/-
  strips.Apply: what it returns.
-/
import Derived.Test.YtiaokmofoaeifaaSt3
import Derived.Test.YtiaokmofoaeifaaME
namespace Go.Proofs.Ytiaokmofoaeifaa
open Go.RowKit
set_option linter.unusedVariables false
set_option linter.unusedSimpArgs false

set_option maxRecDepth 100000 in
set_option maxHeartbeats 400000 in
theorem apply_1 (w : World) (t : TaskV) (Ai Ag Ao : Option Addr) (ci cg co : Nat) (hT : TaskMem w Ai Ag Ao t) (S : Option Addr) (cs : Nat) (st : List Int) (hS : Ints w S st) (hls : lenOk st.length) (op : Int) (h : ¬ (sfault t st).1 = 0) :
    Calls Try.prog 38 #[.agg #[.int .i64 t.facts, .slice Ai t.init.length ci, .slice Ag t.goal.length cg, .slice Ao t.ops.length co], .slice S st.length cs, .int .i64 op] w fun e w' => e = .returned (.tuple #[.slice none 0 0, .agg #[.int .i64 (sfault t st).1, .int .i64 (sfault t st).2]]) ∧ Below w.heap.size w w' := by
  have N := bb_no h
  have N' := bn_yes h
  go_enter Try.func38, Try.ntmps38
  go_wp2_with fail
  refine (statefault_any _ t Ai Ag Ao ci cg co (hT.below (by repeat (first | with_reducible exact Below.refl _ _ | with_reducible apply bdrew | with_reducible apply bdrewN | with_reducible apply balloc | ((with_reducible refine bset ?_ ?_ _); rotate_left; (first | omega | (simp <;> omega)))))) _ _ _ (hS.below (by repeat (first | with_reducible exact Below.refl _ _ | with_reducible apply bdrew | with_reducible apply bdrewN | with_reducible apply balloc | ((with_reducible refine bset ?_ ?_ _); rotate_left; (first | omega | (simp <;> omega)))))) hls).mono ?_
  rintro e w1 ⟨rfl, hB1⟩
  have D1 := dstep w hB1 (by repeat (first | with_reducible exact Below.refl _ _ | with_reducible apply bdrew | with_reducible apply bdrewN | with_reducible apply balloc | ((with_reducible refine bset ?_ ?_ _); rotate_left; (first | omega | (simp <;> omega)))))
  have d1s := D1.size
  have C1 := Cls.below (l := [(w.heap.size, 0, .int .i64 t.facts), (w.heap.size, 1, .slice Ai t.init.length ci), (w.heap.size, 2, .slice Ag t.goal.length cg), (w.heap.size, 3, .slice Ao t.ops.length co), (w.heap.size + 1, 0, .int .i64 0), (w.heap.size + 1, 1, .int .i64 0)]) hB1 (by simp [Cls, go_sem])
  have F1 := C1
  simp only [Cls, and_true] at F1
  have y1w1 : w.heap.size + 1 < w1.heap.size := C1.blk (b := w.heap.size + 1) (k := 0) (v := .int .i64 0) (by simp)
  have y1w0 : w.heap.size < w1.heap.size := (by omega)
  have y1wp1 : w.heap.size < w1.heap.size + 1 := (by omega)
  have y1wp2 : w.heap.size < w1.heap.size + 1 + 1 := (by omega)
  go_wp2_with fail
  refine region_still_tail 2 (by kernel_rfl) (by kernel_rfl) ?_
  simp only [List.take_succ_cons, List.take_zero, List.drop_succ_cons, List.drop_zero]
  repeat still_step
  refine wpStill_nil ?_
  go_wp2
  refine bodyPost_ret (v := .tuple #[.slice none 0 0, .agg #[.int .i64 (sfault t st).1, .int .i64 (sfault t st).2]]) ?_ rfl ⟨rfl, by repeat (first | with_reducible exact D1 | with_reducible apply bdrew | with_reducible apply bdrewN | with_reducible apply balloc | ((with_reducible refine bset ?_ ?_ _); rotate_left; (first | omega | (simp <;> omega))))⟩
  simp [results, Try.results38, go_sem, F1, y1w1, y1w0, y1wp1, y1wp2]

set_option maxRecDepth 100000 in
set_option maxHeartbeats 400000 in
theorem apply_2 (w : World) (t : TaskV) (Ai Ag Ao : Option Addr) (ci cg co : Nat) (hT : TaskMem w Ai Ag Ao t) (S : Option Addr) (cs : Nat) (st : List Int) (hS : Ints w S st) (hls : lenOk st.length) (op : Int) (n : Nat) (hn : t.facts = n) (hv : Valid t) (h2 : SetP st t.facts) (hop : op < 0) :
    Calls Try.prog 38 #[.agg #[.int .i64 t.facts, .slice Ai t.init.length ci, .slice Ag t.goal.length cg, .slice Ao t.ops.length co], .slice S st.length cs, .int .i64 op] w fun e w' => e = .returned (.tuple #[.slice none 0 0, .agg #[.int .i64 3, .int .i64 (-6)]]) ∧ Below w.heap.size w w' := by
  have HV := Lib.hid hv
  have H2 := Lib.hid h2
  have HN := Lib.hid hn
  have h40 := hv.nops
  clear hv h2 hn
  go_enter Try.func38, Try.ntmps38
  go_wp2_with fail
  refine (statefault_3 _ t Ai Ag Ao ci cg co (hT.below (by repeat (first | with_reducible exact Below.refl _ _ | with_reducible apply bdrew | with_reducible apply bdrewN | with_reducible apply balloc | ((with_reducible refine bset ?_ ?_ _); rotate_left; (first | omega | (simp <;> omega)))))) _ _ _ (hS.below (by repeat (first | with_reducible exact Below.refl _ _ | with_reducible apply bdrew | with_reducible apply bdrewN | with_reducible apply balloc | ((with_reducible refine bset ?_ ?_ _); rotate_left; (first | omega | (simp <;> omega)))))) hls HV.out H2.out).mono ?_
  rintro e w1 ⟨rfl, hB1⟩
  have D1 := dstep w hB1 (by repeat (first | with_reducible exact Below.refl _ _ | with_reducible apply bdrew | with_reducible apply bdrewN | with_reducible apply balloc | ((with_reducible refine bset ?_ ?_ _); rotate_left; (first | omega | (simp <;> omega)))))
  have d1s := D1.size
  have C1 := Cls.below (l := [(w.heap.size, 0, .int .i64 t.facts), (w.heap.size, 1, .slice Ai t.init.length ci), (w.heap.size, 2, .slice Ag t.goal.length cg), (w.heap.size, 3, .slice Ao t.ops.length co), (w.heap.size + 1, 0, .int .i64 0), (w.heap.size + 1, 1, .int .i64 0)]) hB1 (by simp [Cls, go_sem])
  have F1 := C1
  simp only [Cls, and_true] at F1
  have y1w1 : w.heap.size + 1 < w1.heap.size := C1.blk (b := w.heap.size + 1) (k := 0) (v := .int .i64 0) (by simp)
  have y1w0 : w.heap.size < w1.heap.size := (by omega)
  have y1wp1 : w.heap.size < w1.heap.size + 1 := (by omega)
  have y1wp2 : w.heap.size < w1.heap.size + 1 + 1 := (by omega)
  go_wp2
  refine bodyPost_ret (v := .tuple #[.slice none 0 0, .agg #[.int .i64 3, .int .i64 (-6)]]) ?_ rfl ⟨rfl, by repeat (first | with_reducible exact D1 | with_reducible apply bdrew | with_reducible apply bdrewN | with_reducible apply balloc | ((with_reducible refine bset ?_ ?_ _); rotate_left; (first | omega | (simp <;> omega))))⟩
  simp [results, Try.results38, go_sem, F1, y1w1, y1w0, y1wp1, y1wp2]

set_option maxRecDepth 100000 in
set_option maxHeartbeats 400000 in
theorem apply_3 (w : World) (t : TaskV) (Ai Ag Ao : Option Addr) (ci cg co : Nat) (hT : TaskMem w Ai Ag Ao t) (S : Option Addr) (cs : Nat) (st : List Int) (hS : Ints w S st) (hls : lenOk st.length) (op : Int) (n : Nat) (hn : t.facts = n) (hv : Valid t) (h2 : SetP st t.facts) (hop0 : ¬ op < 0) (hop : (t.ops.length : Int) ≤ op) :
    Calls Try.prog 38 #[.agg #[.int .i64 t.facts, .slice Ai t.init.length ci, .slice Ag t.goal.length cg, .slice Ao t.ops.length co], .slice S st.length cs, .int .i64 op] w fun e w' => e = .returned (.tuple #[.slice none 0 0, .agg #[.int .i64 3, .int .i64 (-6)]]) ∧ Below w.heap.size w w' := by
  have HV := Lib.hid hv
  have H2 := Lib.hid h2
  have HN := Lib.hid hn
  have h40 := hv.nops
  clear hv h2 hn
  go_enter Try.func38, Try.ntmps38
  go_wp2_with fail
  refine (statefault_3 _ t Ai Ag Ao ci cg co (hT.below (by repeat (first | with_reducible exact Below.refl _ _ | with_reducible apply bdrew | with_reducible apply bdrewN | with_reducible apply balloc | ((with_reducible refine bset ?_ ?_ _); rotate_left; (first | omega | (simp <;> omega)))))) _ _ _ (hS.below (by repeat (first | with_reducible exact Below.refl _ _ | with_reducible apply bdrew | with_reducible apply bdrewN | with_reducible apply balloc | ((with_reducible refine bset ?_ ?_ _); rotate_left; (first | omega | (simp <;> omega)))))) hls HV.out H2.out).mono ?_
  rintro e w1 ⟨rfl, hB1⟩
  have D1 := dstep w hB1 (by repeat (first | with_reducible exact Below.refl _ _ | with_reducible apply bdrew | with_reducible apply bdrewN | with_reducible apply balloc | ((with_reducible refine bset ?_ ?_ _); rotate_left; (first | omega | (simp <;> omega)))))
  have d1s := D1.size
  have C1 := Cls.below (l := [(w.heap.size, 0, .int .i64 t.facts), (w.heap.size, 1, .slice Ai t.init.length ci), (w.heap.size, 2, .slice Ag t.goal.length cg), (w.heap.size, 3, .slice Ao t.ops.length co), (w.heap.size + 1, 0, .int .i64 0), (w.heap.size + 1, 1, .int .i64 0)]) hB1 (by simp [Cls, go_sem])
  have F1 := C1
  simp only [Cls, and_true] at F1
  have y1w1 : w.heap.size + 1 < w1.heap.size := C1.blk (b := w.heap.size + 1) (k := 0) (v := .int .i64 0) (by simp)
  have y1w0 : w.heap.size < w1.heap.size := (by omega)
  have y1wp1 : w.heap.size < w1.heap.size + 1 := (by omega)
  have y1wp2 : w.heap.size < w1.heap.size + 1 + 1 := (by omega)
  go_wp2
  refine bodyPost_ret (v := .tuple #[.slice none 0 0, .agg #[.int .i64 3, .int .i64 (-6)]]) ?_ rfl ⟨rfl, by repeat (first | with_reducible exact D1 | with_reducible apply bdrew | with_reducible apply bdrewN | with_reducible apply balloc | ((with_reducible refine bset ?_ ?_ _); rotate_left; (first | omega | (simp <;> omega))))⟩
  simp [results, Try.results38, go_sem, F1, y1w1, y1w0, y1wp1, y1wp2]

set_option maxRecDepth 100000 in
set_option maxHeartbeats 400000 in
theorem apply_4 (w : World) (t : TaskV) (Ai Ag Ao : Option Addr) (ci cg co : Nat) (hT : TaskMem w Ai Ag Ao t) (S : Option Addr) (cs : Nat) (st : List Int) (hS : Ints w S st) (hls : lenOk st.length) (k : Nat) (hlt : k < t.ops.length) (n : Nat) (hn : t.facts = n) (hv : Valid t) (h2 : SetP st t.facts) (hc : ¬ CanV t.ops st (k : Int)) :
    Calls Try.prog 38 #[.agg #[.int .i64 t.facts, .slice Ai t.init.length ci, .slice Ag t.goal.length cg, .slice Ao t.ops.length co], .slice S st.length cs, .int .i64 (k : Int)] w fun e w' => e = .returned (.tuple #[.slice none 0 0, .agg #[.int .i64 11, .int .i64 (k : Int)]]) ∧ Below w.heap.size w w' := by
  have HV := Lib.hid hv
  have H2 := Lib.hid h2
  have HN := Lib.hid hn
  have h40 := hv.nops
  clear hv h2 hn
  have HC := Lib.hid hc
  clear hc
  have hk0 : (0 : Int) ≤ (k : Int) := by omega
  have hk1 : (k : Int) < (t.ops.length : Int) := by omega
  go_enter Try.func38, Try.ntmps38
  go_wp2_with fail
  refine (statefault_3 _ t Ai Ag Ao ci cg co (hT.below (by repeat (first | with_reducible exact Below.refl _ _ | with_reducible apply bdrew | with_reducible apply bdrewN | with_reducible apply balloc | ((with_reducible refine bset ?_ ?_ _); rotate_left; (first | omega | (simp <;> omega)))))) _ _ _ (hS.below (by repeat (first | with_reducible exact Below.refl _ _ | with_reducible apply bdrew | with_reducible apply bdrewN | with_reducible apply balloc | ((with_reducible refine bset ?_ ?_ _); rotate_left; (first | omega | (simp <;> omega)))))) hls HV.out H2.out).mono ?_
  rintro e w1 ⟨rfl, hB1⟩
  have D1 := dstep w hB1 (by repeat (first | with_reducible exact Below.refl _ _ | with_reducible apply bdrew | with_reducible apply bdrewN | with_reducible apply balloc | ((with_reducible refine bset ?_ ?_ _); rotate_left; (first | omega | (simp <;> omega)))))
  have d1s := D1.size
  have C1 := Cls.below (l := [(w.heap.size, 0, .int .i64 t.facts), (w.heap.size, 1, .slice Ai t.init.length ci), (w.heap.size, 2, .slice Ag t.goal.length cg), (w.heap.size, 3, .slice Ao t.ops.length co), (w.heap.size + 1, 0, .int .i64 0), (w.heap.size + 1, 1, .int .i64 0)]) hB1 (by simp [Cls, go_sem])
  have F1 := C1
  simp only [Cls, and_true] at F1
  have y1w1 : w.heap.size + 1 < w1.heap.size := C1.blk (b := w.heap.size + 1) (k := 0) (v := .int .i64 0) (by simp)
  have y1w0 : w.heap.size < w1.heap.size := (by omega)
  have y1wp1 : w.heap.size < w1.heap.size + 1 := (by omega)
  have y1wp2 : w.heap.size < w1.heap.size + 1 + 1 := (by omega)
  go_wp2_with fail
  refine (can_any _ t Ai Ag Ao ci cg co (hT.below (by repeat (first | with_reducible exact D1 | with_reducible apply bdrew | with_reducible apply bdrewN | with_reducible apply balloc | ((with_reducible refine bset ?_ ?_ _); rotate_left; (first | omega | (simp <;> omega)))))) _ _ _ (hS.below (by repeat (first | with_reducible exact D1 | with_reducible apply bdrew | with_reducible apply bdrewN | with_reducible apply balloc | ((with_reducible refine bset ?_ ?_ _); rotate_left; (first | omega | (simp <;> omega)))))) H2.out HV.out k hlt false ⟨fun h => absurd h HC.out, fun h => by cases h⟩).mono ?_
  rintro e w2 ⟨rfl, hB2⟩
  have D2 := dstep w hB2 (by repeat (first | with_reducible exact D1 | with_reducible apply bdrew | with_reducible apply bdrewN | with_reducible apply balloc | ((with_reducible refine bset ?_ ?_ _); rotate_left; (first | omega | (simp <;> omega)))))
  have d2s := D2.size
  have C2 := Cls.below (l := [(w.heap.size, 0, .int .i64 t.facts), (w.heap.size, 1, .slice Ai t.init.length ci), (w.heap.size, 2, .slice Ag t.goal.length cg), (w.heap.size, 3, .slice Ao t.ops.length co), (w.heap.size + 1, 0, .int .i64 0), (w.heap.size + 1, 1, .int .i64 0), (w1.heap.size, 0, .int .i64 0), (w1.heap.size, 1, .int .i64 0)]) hB2 (by simp [Cls, go_sem, F1, y1w1, y1w0, y1wp1, y1wp2])
  have F2 := C2
  simp only [Cls, and_true] at F2
  have y2w1 : w.heap.size + 1 < w2.heap.size := C2.blk (b := w.heap.size + 1) (k := 0) (v := .int .i64 0) (by simp)
  have y2w0 : w.heap.size < w2.heap.size := (by omega)
  have y2wp1 : w.heap.size < w2.heap.size + 1 := (by omega)
  have y2wp2 : w.heap.size < w2.heap.size + 1 + 1 := (by omega)
  have y2w10 : w1.heap.size < w2.heap.size := C2.blk (b := w1.heap.size) (k := 0) (v := .int .i64 0) (by simp)
  have y2w1p1 : w1.heap.size < w2.heap.size + 1 := (by omega)
  have y2w1p2 : w1.heap.size < w2.heap.size + 1 + 1 := (by omega)
  go_wp2
  refine bodyPost_ret (v := .tuple #[.slice none 0 0, .agg #[.int .i64 11, .int .i64 (k : Int)]]) ?_ rfl ⟨rfl, by repeat (first | with_reducible exact D2 | with_reducible apply bdrew | with_reducible apply bdrewN | with_reducible apply balloc | ((with_reducible refine bset ?_ ?_ _); rotate_left; (first | omega | (simp <;> omega))))⟩
  simp [results, Try.results38, go_sem, F2, y2w1, y2w0, y2wp1, y2wp2, y2w10, y2w1p1, y2w1p2]

set_option maxRecDepth 100000 in
set_option maxHeartbeats 400000 in
theorem apply_5 (w : World) (t : TaskV) (Ai Ag Ao : Option Addr) (ci cg co : Nat) (hT : TaskMem w Ai Ag Ao t) (hR : OpsRead w Ao t.ops) (S : Option Addr) (cs : Nat) (st : List Int) (hS : Ints w S st) (hls : lenOk st.length) (k : Nat) (hlt : k < t.ops.length) (n : Nat) (hn : t.facts = n) (hv : Valid t) (h2 : SetP st t.facts) (hc : CanV t.ops st (k : Int)) :
    Calls Try.prog 38 #[.agg #[.int .i64 t.facts, .slice Ai t.init.length ci, .slice Ag t.goal.length cg, .slice Ao t.ops.length co], .slice S st.length cs, .int .i64 (k : Int)] w fun e w' => ∃ v, e = .returned (.tuple #[v, .agg #[.int .i64 0, .int .i64 0]]) ∧ OwnI w.heap.size w' v (nextV n st (opAt t.ops (k : Int))) ∧ Below w.heap.size w w' := by
  have HV := Lib.hid hv
  have H2 := Lib.hid h2
  have HN := Lib.hid hn
  have h40 := hv.nops
  clear hv h2 hn
  have HC := Lib.hid hc
  clear hc
  have hk0 : (0 : Int) ≤ (k : Int) := by omega
  have hk1 : (k : Int) < (t.ops.length : Int) := by omega
  go_enter Try.func38, Try.ntmps38
  go_wp2_with fail
  refine (statefault_3 _ t Ai Ag Ao ci cg co (hT.below (by repeat (first | with_reducible exact Below.refl _ _ | with_reducible apply bdrew | with_reducible apply bdrewN | with_reducible apply balloc | ((with_reducible refine bset ?_ ?_ _); rotate_left; (first | omega | (simp <;> omega)))))) _ _ _ (hS.below (by repeat (first | with_reducible exact Below.refl _ _ | with_reducible apply bdrew | with_reducible apply bdrewN | with_reducible apply balloc | ((with_reducible refine bset ?_ ?_ _); rotate_left; (first | omega | (simp <;> omega)))))) hls HV.out H2.out).mono ?_
  rintro e w1 ⟨rfl, hB1⟩
  have D1 := dstep w hB1 (by repeat (first | with_reducible exact Below.refl _ _ | with_reducible apply bdrew | with_reducible apply bdrewN | with_reducible apply balloc | ((with_reducible refine bset ?_ ?_ _); rotate_left; (first | omega | (simp <;> omega)))))
  have d1s := D1.size
  have C1 := Cls.below (l := [(w.heap.size, 0, .int .i64 t.facts), (w.heap.size, 1, .slice Ai t.init.length ci), (w.heap.size, 2, .slice Ag t.goal.length cg), (w.heap.size, 3, .slice Ao t.ops.length co), (w.heap.size + 1, 0, .int .i64 0), (w.heap.size + 1, 1, .int .i64 0)]) hB1 (by simp [Cls, go_sem])
  have F1 := C1
  simp only [Cls, and_true] at F1
  have y1w1 : w.heap.size + 1 < w1.heap.size := C1.blk (b := w.heap.size + 1) (k := 0) (v := .int .i64 0) (by simp)
  have y1w0 : w.heap.size < w1.heap.size := (by omega)
  have y1wp1 : w.heap.size < w1.heap.size + 1 := (by omega)
  have y1wp2 : w.heap.size < w1.heap.size + 1 + 1 := (by omega)
  go_wp2_with fail
  refine (can_any _ t Ai Ag Ao ci cg co (hT.below (by repeat (first | with_reducible exact D1 | with_reducible apply bdrew | with_reducible apply bdrewN | with_reducible apply balloc | ((with_reducible refine bset ?_ ?_ _); rotate_left; (first | omega | (simp <;> omega)))))) _ _ _ (hS.below (by repeat (first | with_reducible exact D1 | with_reducible apply bdrew | with_reducible apply bdrewN | with_reducible apply balloc | ((with_reducible refine bset ?_ ?_ _); rotate_left; (first | omega | (simp <;> omega)))))) H2.out HV.out k hlt true ⟨fun _ => rfl, fun _ => HC.out⟩).mono ?_
  rintro e w2 ⟨rfl, hB2⟩
  have D2 := dstep w hB2 (by repeat (first | with_reducible exact D1 | with_reducible apply bdrew | with_reducible apply bdrewN | with_reducible apply balloc | ((with_reducible refine bset ?_ ?_ _); rotate_left; (first | omega | (simp <;> omega)))))
  have d2s := D2.size
  have C2 := Cls.below (l := [(w.heap.size, 0, .int .i64 t.facts), (w.heap.size, 1, .slice Ai t.init.length ci), (w.heap.size, 2, .slice Ag t.goal.length cg), (w.heap.size, 3, .slice Ao t.ops.length co), (w.heap.size + 1, 0, .int .i64 0), (w.heap.size + 1, 1, .int .i64 0), (w1.heap.size, 0, .int .i64 0), (w1.heap.size, 1, .int .i64 0)]) hB2 (by simp [Cls, go_sem, F1, y1w1, y1w0, y1wp1, y1wp2])
  have F2 := C2
  simp only [Cls, and_true] at F2
  have y2w1 : w.heap.size + 1 < w2.heap.size := C2.blk (b := w.heap.size + 1) (k := 0) (v := .int .i64 0) (by simp)
  have y2w0 : w.heap.size < w2.heap.size := (by omega)
  have y2wp1 : w.heap.size < w2.heap.size + 1 := (by omega)
  have y2wp2 : w.heap.size < w2.heap.size + 1 + 1 := (by omega)
  have y2w10 : w1.heap.size < w2.heap.size := C2.blk (b := w1.heap.size) (k := 0) (v := .int .i64 0) (by simp)
  have y2w1p1 : w1.heap.size < w2.heap.size + 1 := (by omega)
  have y2w1p2 : w1.heap.size < w2.heap.size + 1 + 1 := (by omega)
  go_wp2_with fail
  refine (next_any _ t Ai Ag Ao ci cg co (hR.below (by repeat (first | with_reducible exact D2 | with_reducible apply bdrew | with_reducible apply bdrewN | with_reducible apply balloc | ((with_reducible refine bset ?_ ?_ _); rotate_left; (first | omega | (simp <;> omega)))))) _ _ _ (hS.below (by repeat (first | with_reducible exact D2 | with_reducible apply bdrew | with_reducible apply bdrewN | with_reducible apply balloc | ((with_reducible refine bset ?_ ?_ _); rotate_left; (first | omega | (simp <;> omega)))))) H2.out n HN.out HV.out k hlt).mono ?_
  rintro e w3 ⟨v3, rfl, ho3, hB3⟩
  have D3 := dstep w hB3 (by repeat (first | with_reducible exact D2 | with_reducible apply bdrew | with_reducible apply bdrewN | with_reducible apply balloc | ((with_reducible refine bset ?_ ?_ _); rotate_left; (first | omega | (simp <;> omega)))))
  have d3s := D3.size
  have C3 := Cls.below (l := [(w.heap.size, 0, .int .i64 t.facts), (w.heap.size, 1, .slice Ai t.init.length ci), (w.heap.size, 2, .slice Ag t.goal.length cg), (w.heap.size, 3, .slice Ao t.ops.length co), (w.heap.size + 1, 0, .int .i64 0), (w.heap.size + 1, 1, .int .i64 0), (w1.heap.size, 0, .int .i64 0), (w1.heap.size, 1, .int .i64 0)]) hB3 (by simp [Cls, go_sem, F2, y2w1, y2w0, y2wp1, y2wp2, y2w10, y2w1p1, y2w1p2])
  have F3 := C3
  simp only [Cls, and_true] at F3
  have y3w1 : w.heap.size + 1 < w3.heap.size := C3.blk (b := w.heap.size + 1) (k := 0) (v := .int .i64 0) (by simp)
  have y3w0 : w.heap.size < w3.heap.size := (by omega)
  have y3wp1 : w.heap.size < w3.heap.size + 1 := (by omega)
  have y3wp2 : w.heap.size < w3.heap.size + 1 + 1 := (by omega)
  have y3w10 : w1.heap.size < w3.heap.size := C3.blk (b := w1.heap.size) (k := 0) (v := .int .i64 0) (by simp)
  have y3w1p1 : w1.heap.size < w3.heap.size + 1 := (by omega)
  have y3w1p2 : w1.heap.size < w3.heap.size + 1 + 1 := (by omega)
  have ho3' := OwnI.mono (base' := w2.heap.size) ho3 (by simp)
  go_wp2
  refine bodyPost_ret (v := .tuple #[v3, .agg #[.int .i64 0, .int .i64 0]]) ?_ rfl ⟨v3, rfl, ?_, by repeat (first | with_reducible exact D3 | with_reducible apply bdrew | with_reducible apply bdrewN | with_reducible apply balloc | ((with_reducible refine bset ?_ ?_ _); rotate_left; (first | omega | (simp <;> omega))))⟩
  · simp [results, Try.results38, go_sem, F3, y3w1, y3w0, y3wp1, y3wp2, y3w10, y3w1p1, y3w1p2]
  · refine OwnI.mono (base := w2.heap.size) ?_ (by omega)
    repeat (first | with_reducible exact ho3' | (with_reducible refine OwnI.far ?_ ?_ _; rotate_left; (first | omega | (simp; omega))))

/-- Where it returns a fault. -/
theorem apply_no (w : World) (t : TaskV) (Ai Ag Ao : Option Addr) (ci cg co : Nat) (hT : TaskMem w Ai Ag Ao t) (S : Option Addr) (cs : Nat) (st : List Int) (hS : Ints w S st) (hls : lenOk st.length) (op : Int) (h : ¬ ((sfault t st).1 = 0 ∧ 0 ≤ op ∧ op < (t.ops.length : Int) ∧ CanV t.ops st op)) :
    Calls Try.prog 38 #[.agg #[.int .i64 t.facts, .slice Ai t.init.length ci, .slice Ag t.goal.length cg, .slice Ao t.ops.length co], .slice S st.length cs, .int .i64 op] w fun e w' => ∃ c d, e = .returned (.tuple #[.slice none 0 0, .agg #[.int .i64 c, .int .i64 d]]) ∧ Hid (¬ c = 0) ∧ Below w.heap.size w w' := by
  by_cases h1 : (sfault t st).1 = 0
  · obtain ⟨hv, h2⟩ := sfault_zero.1 h1
    obtain ⟨n, hn⟩ := Int.eq_ofNat_of_zero_le hv.f0
    by_cases h3 : op < 0
    · exact (apply_2 w t Ai Ag Ao ci cg co hT S cs st hS hls op n hn hv h2 h3).mono fun e w' ⟨a, b⟩ => ⟨_, _, a, Lib.hid (by decide), b⟩
    · by_cases h4 : (t.ops.length : Int) ≤ op
      · exact (apply_3 w t Ai Ag Ao ci cg co hT S cs st hS hls op n hn hv h2 h3 h4).mono fun e w' ⟨a, b⟩ => ⟨_, _, a, Lib.hid (by decide), b⟩
      · obtain ⟨k, rfl⟩ : ∃ k : Nat, op = (k : Int) := ⟨op.toNat, by omega⟩
        exact (apply_4 w t Ai Ag Ao ci cg co hT S cs st hS hls k (by omega) n hn hv h2 (fun hc => h ⟨h1, by omega, by omega, hc⟩)).mono fun e w' ⟨a, b⟩ => ⟨_, _, a, Lib.hid (by decide), b⟩
  · exact (apply_1 w t Ai Ag Ao ci cg co hT S cs st hS hls op h1).mono fun e w' ⟨a, b⟩ => ⟨_, _, a, Lib.hid h1, b⟩

end Go.Proofs.Ytiaokmofoaeifaa
