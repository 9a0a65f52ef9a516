/-
  relaxplan.Supporters, Plan: what they return.
-/
import Derived.Test.YtihkgdlanfemcaaPl1
import Derived.Test.YtihkgdlanfemcaaME
namespace Go.Proofs.Ytihkgdlanfemcaa
open Go.RowKit
set_option linter.unusedVariables false
set_option linter.unusedSimpArgs false

set_option maxRecDepth 100000 in
set_option maxHeartbeats 400000 in
theorem supps_1 (w : World) (t : TaskV) (Ai Ag Ao : Option Addr) (ci cg co : Nat) (hT : TaskMem w Ai Ag Ao t) (S : Option Addr) (cs : Nat) (st : List Int) (hS : Ints w S st) (hls : lenOk st.length) (h : ¬ (sfault t st).1 = 0) :
    Calls Try.prog 28 #[.agg #[.int .i64 t.facts, .slice Ai t.init.length ci, .slice Ag t.goal.length cg, .slice Ao t.ops.length co], .slice S st.length cs] w fun e w' => e = .returned (.tuple #[.slice none 0 0, .agg #[.int .i64 (sfault t st).1, .int .i64 (sfault t st).2]]) ∧ Below w.heap.size w w' := by
  have N := bb_no h
  have N' := bn_yes h
  go_enter Try.func28, Try.ntmps28
  go_wp2_with fail
  refine (statefault_any _ _ _ _ _ _ _ _ (hT.below (by repeat (first | with_reducible exact Below.refl _ _ | with_reducible apply bdrew | with_reducible apply bdrewN | with_reducible apply balloc | ((with_reducible refine bset ?_ ?_ _); rotate_left; (first | omega | (simp <;> omega)))))) _ _ _ (hS.below (by repeat (first | with_reducible exact Below.refl _ _ | with_reducible apply bdrew | with_reducible apply bdrewN | with_reducible apply balloc | ((with_reducible refine bset ?_ ?_ _); rotate_left; (first | omega | (simp <;> omega)))))) hls).mono ?_
  rintro e w1 ⟨rfl, hB1⟩
  have D1 := dstep w hB1 (by repeat (first | with_reducible exact Below.refl _ _ | with_reducible apply bdrew | with_reducible apply bdrewN | with_reducible apply balloc | ((with_reducible refine bset ?_ ?_ _); rotate_left; (first | omega | (simp <;> omega)))))
  have d1s := D1.size
  have C1 := Cls.below (l := [(w.heap.size, 0, .int .i64 t.facts), (w.heap.size, 1, .slice Ai t.init.length ci), (w.heap.size, 2, .slice Ag t.goal.length cg), (w.heap.size, 3, .slice Ao t.ops.length co), (w.heap.size + 1, 0, .int .i64 0), (w.heap.size + 1, 1, .int .i64 0)]) hB1 (by simp [Cls, go_sem])
  have F1 := C1
  simp only [Cls, and_true] at F1
  have y1w1 : w.heap.size + 1 < w1.heap.size := C1.blk (b := w.heap.size + 1) (k := 0) (v := .int .i64 0) (by simp)
  have y1w0 : w.heap.size < w1.heap.size := (by omega)
  have y1wp1 : w.heap.size < w1.heap.size + 1 := (by omega)
  have y1wp2 : w.heap.size < w1.heap.size + 1 + 1 := (by omega)
  go_wp2_with fail
  refine region_still_tail 2 (by kernel_rfl) (by kernel_rfl) ?_
  simp only [List.take_succ_cons, List.take_zero, List.drop_succ_cons, List.drop_zero]
  repeat still_step
  refine wpStill_nil ?_
  go_wp2
  refine bodyPost_ret (v := .tuple #[.slice none 0 0, .agg #[.int .i64 (sfault t st).1, .int .i64 (sfault t st).2]]) ?_ rfl ⟨rfl, by repeat (first | with_reducible exact D1 | with_reducible apply bdrew | with_reducible apply bdrewN | with_reducible apply balloc | ((with_reducible refine bset ?_ ?_ _); rotate_left; (first | omega | (simp <;> omega))))⟩
  simp [results, Try.results28, go_sem, F1, y1w1, y1w0, y1wp1, y1wp2]

set_option maxRecDepth 100000 in
set_option maxHeartbeats 1000000 in
theorem supps_2 (w : World) (t : TaskV) (Ai Ag Ao : Option Addr) (ci cg co : Nat) (hT : TaskMem w Ai Ag Ao t) (S : Option Addr) (cs : Nat) (st : List Int) (hS : Ints w S st) (hls : lenOk st.length) (n : Nat) (hn : t.facts = n) (hv : Valid t) (h2 : SetP st t.facts) :
    Calls Try.prog 28 #[.agg #[.int .i64 t.facts, .slice Ai t.init.length ci, .slice Ag t.goal.length cg, .slice Ao t.ops.length co], .slice S st.length cs] w fun e w' => ∃ g, e = .returned (.tuple #[.slice (some ⟨g, 0, none⟩) n n, .agg #[.int .i64 0, .int .i64 0]]) ∧ w.heap.size ≤ g ∧ IArr w' g (supL n (levV n st t.ops) t.ops) ∧ Levs n st t.ops (levV n st t.ops) ∧ Below w.heap.size w w' := by
  have HN := Lib.hid hn
  have HV := Lib.hid hv
  have H2 := Lib.hid h2
  clear hv h2 hn
  go_enter Try.func28, Try.ntmps28
  go_wp2_with fail
  refine (statefault_3 _ _ _ _ _ _ _ _ (hT.below (by repeat (first | with_reducible exact Below.refl _ _ | with_reducible apply bdrew | with_reducible apply bdrewN | with_reducible apply balloc | ((with_reducible refine bset ?_ ?_ _); rotate_left; (first | omega | (simp <;> omega)))))) _ _ _ (hS.below (by repeat (first | with_reducible exact Below.refl _ _ | with_reducible apply bdrew | with_reducible apply bdrewN | with_reducible apply balloc | ((with_reducible refine bset ?_ ?_ _); rotate_left; (first | omega | (simp <;> omega)))))) hls HV.out H2.out).mono ?_
  rintro e w1 ⟨rfl, hB1⟩
  have D1 := dstep w hB1 (by repeat (first | with_reducible exact Below.refl _ _ | with_reducible apply bdrew | with_reducible apply bdrewN | with_reducible apply balloc | ((with_reducible refine bset ?_ ?_ _); rotate_left; (first | omega | (simp <;> omega)))))
  have d1s := D1.size
  have C1 := Cls.below (l := [(w.heap.size, 0, .int .i64 t.facts), (w.heap.size, 1, .slice Ai t.init.length ci), (w.heap.size, 2, .slice Ag t.goal.length cg), (w.heap.size, 3, .slice Ao t.ops.length co), (w.heap.size + 1, 0, .int .i64 0), (w.heap.size + 1, 1, .int .i64 0)]) hB1 (by simp [Cls, go_sem])
  have F1 := C1
  simp only [Cls, and_true] at F1
  have y1w1 : w.heap.size + 1 < w1.heap.size := C1.blk (b := w.heap.size + 1) (k := 0) (v := .int .i64 0) (by simp)
  have y1w0 : w.heap.size < w1.heap.size := (by omega)
  have y1wp1 : w.heap.size < w1.heap.size + 1 := (by omega)
  have y1wp2 : w.heap.size < w1.heap.size + 1 + 1 := (by omega)
  go_wp2_with fail
  refine (supporters_any _ t Ai Ag Ao ci cg co (hT.below (by repeat (first | with_reducible exact D1 | with_reducible apply bdrew | with_reducible apply bdrewN | with_reducible apply balloc | ((with_reducible refine bset ?_ ?_ _); rotate_left; (first | omega | (simp <;> omega)))))) _ _ _ (hS.below (by repeat (first | with_reducible exact D1 | with_reducible apply bdrew | with_reducible apply bdrewN | with_reducible apply balloc | ((with_reducible refine bset ?_ ?_ _); rotate_left; (first | omega | (simp <;> omega)))))) hls n HN.out HV.out H2.out).mono ?_
  rintro e w2 ⟨g2, rfl, hg2, hA2, hV2, hB2⟩
  have D2 := dstep w hB2 (by repeat (first | with_reducible exact D1 | with_reducible apply bdrew | with_reducible apply bdrewN | with_reducible apply balloc | ((with_reducible refine bset ?_ ?_ _); rotate_left; (first | omega | (simp <;> omega)))))
  have d2s := D2.size
  have C2 := Cls.below (l := [(w.heap.size, 0, .int .i64 t.facts), (w.heap.size, 1, .slice Ai t.init.length ci), (w.heap.size, 2, .slice Ag t.goal.length cg), (w.heap.size, 3, .slice Ao t.ops.length co), (w.heap.size + 1, 0, .int .i64 0), (w.heap.size + 1, 1, .int .i64 0)]) hB2 (by simp [Cls, go_sem, F1, y1w1, y1w0, y1wp1, y1wp2])
  have F2 := C2
  simp only [Cls, and_true] at F2
  have y2w1 : w.heap.size + 1 < w2.heap.size := C2.blk (b := w.heap.size + 1) (k := 0) (v := .int .i64 0) (by simp)
  have y2w0 : w.heap.size < w2.heap.size := (by omega)
  have y2wp1 : w.heap.size < w2.heap.size + 1 := (by omega)
  have y2wp2 : w.heap.size < w2.heap.size + 1 + 1 := (by omega)
  have HV2 := Lib.hid hV2
  clear hV2
  go_wp2
  refine bodyPost_ret (v := .tuple #[.slice (some ⟨g2, 0, none⟩) n n, .agg #[.int .i64 0, .int .i64 0]]) ?_ rfl ⟨g2, rfl, by simp at hg2; omega, ?_, HV2.out, by repeat (first | with_reducible exact D2 | with_reducible apply bdrew | with_reducible apply bdrewN | with_reducible apply balloc | ((with_reducible refine bset ?_ ?_ _); rotate_left; (first | omega | (simp <;> omega))))⟩
  · simp [results, Try.results28, go_sem, F2, y2w1, y2w0, y2wp1, y2wp2]
  · simp at hg2
    repeat (first | with_reducible exact hA2 | (with_reducible refine IArr.far ?_ ?_ _; rotate_left; (first | omega | (simp; omega))))

set_option maxRecDepth 100000 in
set_option maxHeartbeats 400000 in
theorem plan_1 (w : World) (t : TaskV) (Ai Ag Ao : Option Addr) (ci cg co : Nat) (hT : TaskMem w Ai Ag Ao t) (S : Option Addr) (cs : Nat) (st : List Int) (hS : Ints w S st) (hls : lenOk st.length) (h : ¬ (sfault t st).1 = 0) :
    Calls Try.prog 29 #[.agg #[.int .i64 t.facts, .slice Ai t.init.length ci, .slice Ag t.goal.length cg, .slice Ao t.ops.length co], .slice S st.length cs] w fun e w' => e = .returned (.tuple #[.slice none 0 0, .bool false, .agg #[.int .i64 (sfault t st).1, .int .i64 (sfault t st).2]]) ∧ Below w.heap.size w w' := by
  have N := bb_no h
  have N' := bn_yes h
  go_enter Try.func29, Try.ntmps29
  go_wp2_with fail
  refine (statefault_any _ _ _ _ _ _ _ _ (hT.below (by repeat (first | with_reducible exact Below.refl _ _ | with_reducible apply bdrew | with_reducible apply bdrewN | with_reducible apply balloc | ((with_reducible refine bset ?_ ?_ _); rotate_left; (first | omega | (simp <;> omega)))))) _ _ _ (hS.below (by repeat (first | with_reducible exact Below.refl _ _ | with_reducible apply bdrew | with_reducible apply bdrewN | with_reducible apply balloc | ((with_reducible refine bset ?_ ?_ _); rotate_left; (first | omega | (simp <;> omega)))))) hls).mono ?_
  rintro e w1 ⟨rfl, hB1⟩
  have D1 := dstep w hB1 (by repeat (first | with_reducible exact Below.refl _ _ | with_reducible apply bdrew | with_reducible apply bdrewN | with_reducible apply balloc | ((with_reducible refine bset ?_ ?_ _); rotate_left; (first | omega | (simp <;> omega)))))
  have d1s := D1.size
  have C1 := Cls.below (l := [(w.heap.size, 0, .int .i64 t.facts), (w.heap.size, 1, .slice Ai t.init.length ci), (w.heap.size, 2, .slice Ag t.goal.length cg), (w.heap.size, 3, .slice Ao t.ops.length co), (w.heap.size + 1, 0, .int .i64 0), (w.heap.size + 1, 1, .int .i64 0)]) hB1 (by simp [Cls, go_sem])
  have F1 := C1
  simp only [Cls, and_true] at F1
  have y1w1 : w.heap.size + 1 < w1.heap.size := C1.blk (b := w.heap.size + 1) (k := 0) (v := .int .i64 0) (by simp)
  have y1w0 : w.heap.size < w1.heap.size := (by omega)
  have y1wp1 : w.heap.size < w1.heap.size + 1 := (by omega)
  have y1wp2 : w.heap.size < w1.heap.size + 1 + 1 := (by omega)
  go_wp2_with fail
  refine region_still_tail 3 (by kernel_rfl) (by kernel_rfl) ?_
  simp only [List.take_succ_cons, List.take_zero, List.drop_succ_cons, List.drop_zero]
  repeat still_step
  refine wpStill_nil ?_
  go_wp2
  refine bodyPost_ret (v := .tuple #[.slice none 0 0, .bool false, .agg #[.int .i64 (sfault t st).1, .int .i64 (sfault t st).2]]) ?_ rfl ⟨rfl, by repeat (first | with_reducible exact D1 | with_reducible apply bdrew | with_reducible apply bdrewN | with_reducible apply balloc | ((with_reducible refine bset ?_ ?_ _); rotate_left; (first | omega | (simp <;> omega))))⟩
  simp [results, Try.results29, go_sem, F1, y1w1, y1w0, y1wp1, y1wp2]

theorem statefault_3n (w : World) (t : TaskV) (Ai Ag Ao : Option Addr) (ci cg co : Nat) (hT : TaskMem w Ai Ag Ao t) (S : Option Addr) (cs : Nat) (st : List Int) (hS : Ints w S st) (hls : lenOk st.length) (n : Nat) (hn : t.facts = n) (hv : Valid t) (h2 : SetP st t.facts) :
    Calls Try.prog 58 #[.agg #[.int .i64 (n : Int), .slice Ai t.init.length ci, .slice Ag t.goal.length cg, .slice Ao t.ops.length co], .slice S st.length cs] w fun e w' => e = .returned (.agg #[.int .i64 0, .int .i64 0]) ∧ Below w.heap.size w w' := by
  have h := statefault_3 w t Ai Ag Ao ci cg co hT S cs st hS hls hv h2
  rwa [hn] at h
theorem supporters_anyn (w : World) (t : TaskV) (Ai Ag Ao : Option Addr) (ci cg co : Nat) (hT : TaskMem w Ai Ag Ao t) (S : Option Addr) (cs : Nat) (st : List Int) (hS : Ints w S st) (hls : lenOk st.length) (n : Nat) (hn : t.facts = n) (hv : Valid t) (h2 : SetP st t.facts) :
    Calls Try.prog 68 #[.agg #[.int .i64 (n : Int), .slice Ai t.init.length ci, .slice Ag t.goal.length cg, .slice Ao t.ops.length co], .slice S st.length cs] w fun e w' => ∃ g, e = .returned (.slice (some ⟨g, 0, none⟩) n n) ∧ w.heap.size ≤ g ∧ IArr w' g (supL n (levV n st t.ops) t.ops) ∧ Levs n st t.ops (levV n st t.ops) ∧ Below w.heap.size w w' := by
  have h := supporters_any w t Ai Ag Ao ci cg co hT S cs st hS hls n hn hv h2
  rwa [hn] at h
set_option maxRecDepth 100000 in
set_option maxHeartbeats 2000000 in
theorem plan_2 (w : World) (t : TaskV) (Ai Ag Ao : Option Addr) (ci cg co : Nat) (hT : TaskMem w Ai Ag Ao t) (S : Option Addr) (cs : Nat) (st : List Int) (hS : Ints w S st) (hls : lenOk st.length) (n : Nat) (hn : t.facts = n) (hv : Valid t) (h2 : SetP st t.facts) :
    Calls Try.prog 29 #[.agg #[.int .i64 t.facts, .slice Ai t.init.length ci, .slice Ag t.goal.length cg, .slice Ao t.ops.length co], .slice S st.length cs] w fun e w' => ∃ v ok, e = .returned (.tuple #[v, .bool ok, .agg #[.int .i64 0, .int .i64 0]]) ∧ (ok = true ↔ ∀ q ∈ t.goal, 0 ≤ valAt (levV n st t.ops) q) ∧ OwnI w.heap.size w' v (if ok then planTo (levV n st t.ops) t.ops n t.goal else []) ∧ Below w.heap.size w w' := by
  have HN := Lib.hid hn
  have HV := Lib.hid hv
  have H2 := Lib.hid h2
  have hn24 : n ≤ 24 := by have := hv.f1; omega
  have h40 : t.ops.length ≤ 40 := hv.nops
  have HOPS := Lib.hid (ops_in hv hn)
  have HGO := Lib.hid (goal_in hv hn)
  have hgl := hT.lgoal.le
  have hlo := hT.lops.le
  have hmk := make_bools t.ops.length (by omega)
  rw [hn]
  clear hv h2 hn
  go_enter Try.func29, Try.ntmps29
  go_wp2_with fail
  refine (statefault_3n _ t Ai Ag Ao ci cg co (hT.below (by repeat (first | with_reducible exact Below.refl _ _ | with_reducible apply bdrew | with_reducible apply bdrewN | with_reducible apply balloc | ((with_reducible refine bset ?_ ?_ _); rotate_left; (first | omega | (simp <;> omega)))))) _ _ _ (hS.below (by repeat (first | with_reducible exact Below.refl _ _ | with_reducible apply bdrew | with_reducible apply bdrewN | with_reducible apply balloc | ((with_reducible refine bset ?_ ?_ _); rotate_left; (first | omega | (simp <;> omega)))))) hls n HN.out HV.out H2.out).mono ?_
  rintro e w1 ⟨rfl, hB1⟩
  have D1 := dstep w hB1 (by repeat (first | with_reducible exact Below.refl _ _ | with_reducible apply bdrew | with_reducible apply bdrewN | with_reducible apply balloc | ((with_reducible refine bset ?_ ?_ _); rotate_left; (first | omega | (simp <;> omega)))))
  have d1s := D1.size
  have C1 := Cls.below (l := [(w.heap.size, 0, .int .i64 (n : Int)), (w.heap.size, 1, .slice Ai t.init.length ci), (w.heap.size, 2, .slice Ag t.goal.length cg), (w.heap.size, 3, .slice Ao t.ops.length co), (w.heap.size + 1, 0, .int .i64 0), (w.heap.size + 1, 1, .int .i64 0)]) hB1 (by simp [Cls, go_sem])
  have F1 := C1
  simp only [Cls, and_true] at F1
  have y1w1 : w.heap.size + 1 < w1.heap.size := C1.blk (b := w.heap.size + 1) (k := 0) (v := .int .i64 0) (by simp)
  have y1w0 : w.heap.size < w1.heap.size := (by omega)
  have y1wp1 : w.heap.size < w1.heap.size + 1 := (by omega)
  have y1wp2 : w.heap.size < w1.heap.size + 1 + 1 := (by omega)
  go_wp2_with fail
  have D2 : Below w.heap.size w ((w1.alloc (.cells #[.int .i64 0, .int .i64 0] 29))) := by repeat (first | with_reducible exact D1 | with_reducible apply bdrew | with_reducible apply bdrewN | with_reducible apply balloc | ((with_reducible refine bset ?_ ?_ _); rotate_left; (first | omega | (simp <;> omega))))
  have C2 : Cls ((w1.alloc (.cells #[.int .i64 0, .int .i64 0] 29))) [(w.heap.size, 0, .int .i64 (n : Int)), (w.heap.size, 1, .slice Ai t.init.length ci), (w.heap.size, 2, .slice Ag t.goal.length cg), (w.heap.size, 3, .slice Ao t.ops.length co), (w.heap.size + 1, 0, .int .i64 0), (w.heap.size + 1, 1, .int .i64 0)] := by simp [Cls, go_sem, F1, y1w1, y1w0, y1wp1, y1wp2]
  have sz2 : w.heap.size + 1 + 1 ≤ ((w1.alloc (.cells #[.int .i64 0, .int .i64 0] 29))).heap.size := by simp; omega
  generalize (w1.alloc (.cells #[.int .i64 0, .int .i64 0] 29)) = w2 at D2 C2 sz2 ⊢
  clear C1 F1
  go_cut [8, 9] (fun s8 s9 wx => ∃ bl bs gl gs, s8 = .pointer (some ⟨bl, 0, none⟩) ∧ s9 = .pointer (some ⟨bs, 0, none⟩) ∧ w.heap.size + 1 + 1 ≤ bl ∧ bl < wx.heap.size ∧ w.heap.size + 1 + 1 ≤ bs ∧ bs < wx.heap.size ∧ w.heap.size + 1 + 1 ≤ gl ∧ gl < wx.heap.size ∧ w.heap.size + 1 + 1 ≤ gs ∧ gs < wx.heap.size ∧ IArr wx gl (levV n st t.ops) ∧ IArr wx gs (supL n (levV n st t.ops) t.ops) ∧ Hid (Levs n st t.ops (levV n st t.ops)) ∧ Below w.heap.size w wx ∧ Cls wx [(w.heap.size, 0, .int .i64 (n : Int)), (w.heap.size, 1, .slice Ai t.init.length ci), (w.heap.size, 2, .slice Ag t.goal.length cg), (w.heap.size, 3, .slice Ao t.ops.length co), (w.heap.size + 1, 0, .int .i64 0), (w.heap.size + 1, 1, .int .i64 0)] ∧ Cls wx [(bl, 0, .slice (some ⟨gl, 0, none⟩) n n), (bs, 0, .slice (some ⟨gs, 0, none⟩) n n)])
  case first =>
    have F2 := C2
    simp only [Cls, and_true] at F2
    have y2w1 : w.heap.size + 1 < w2.heap.size := C2.blk (b := w.heap.size + 1) (k := 0) (v := .int .i64 0) (by simp)
    have y2w0 : w.heap.size < w2.heap.size := (by omega)
    have y2wp1 : w.heap.size < w2.heap.size + 1 := (by omega)
    have y2wp2 : w.heap.size < w2.heap.size + 1 + 1 := (by omega)
    refine wp_region_held_drew (S := fun W => W.cell? ⟨w.heap.size, 0, none⟩ = some (.int .i64 (n : Int)) ∧ W.cell? ⟨w.heap.size, 1, none⟩ = some (.slice Ai t.init.length ci) ∧ W.cell? ⟨w.heap.size, 2, none⟩ = some (.slice Ag t.goal.length cg) ∧ W.cell? ⟨w.heap.size, 3, none⟩ = some (.slice Ao t.ops.length co)) (by kernel_rfl) (by simp [go_sem, F2, y2w1, y2w0, y2wp1, y2wp2]) (fun hHeld => ?_)
    refine wpAnyH_take (i := 0) (v := ?vo10) rfl (by kernel_rfl) (by kernel_rfl) (by kernel_rfl) (fun _ _ _ h => h) (Or.inl ⟨by rfl, ?ho10⟩) (by assumption) ?ro10
    case ho10 => (intro w hSw; (try dsimp only at hSw); go_simp; (try with_reducible rfl))
    try simp only [Act.put, List.getElem_toArray, List.getElem_cons_succ, List.getElem_cons_zero, List.setIfInBounds_toArray, List.set_cons_zero, List.set_cons_succ]
    refine wpAnyH_take (i := 1) (v := ?vo11) rfl (by kernel_rfl) (by kernel_rfl) (by kernel_rfl) (fun _ _ _ h => h) (Or.inl ⟨by rfl, ?ho11⟩) (by assumption) ?ro11
    case ho11 => (intro w hSw; (try dsimp only at hSw); go_simp; (try with_reducible rfl))
    try simp only [Act.put, List.getElem_toArray, List.getElem_cons_succ, List.getElem_cons_zero, List.setIfInBounds_toArray, List.set_cons_zero, List.set_cons_succ]
    refine wpAnyH_take (i := 3) (v := ?vo13) rfl (by kernel_rfl) (by kernel_rfl) (by kernel_rfl) (fun _ _ _ h => h) (Or.inl ⟨by rfl, ?ho13⟩) (by assumption) ?ro13
    case ho13 => (intro w hSw; (try dsimp only at hSw); go_simp; (try with_reducible rfl))
    try simp only [Act.put, List.getElem_toArray, List.getElem_cons_succ, List.getElem_cons_zero, List.setIfInBounds_toArray, List.set_cons_zero, List.set_cons_succ]
    refine wpAnyH_take (i := 4) (v := ?vo14) rfl (by kernel_rfl) (by kernel_rfl) (by kernel_rfl) (fun _ _ _ h => h) (Or.inl ⟨by rfl, ?ho14⟩) (by assumption) ?ro14
    case ho14 => (intro w hSw; (try dsimp only at hSw); go_simp; (try with_reducible rfl))
    try simp only [Act.put, List.getElem_toArray, List.getElem_cons_succ, List.getElem_cons_zero, List.setIfInBounds_toArray, List.set_cons_zero, List.set_cons_succ]
    refine wpAnyH_ready (rs := [2, 6, 7]) (by kernel_rfl) (by simp) ?_
    refine (AllReadyH.cons rfl (fun K hK => ?bo11x2) (AllReadyH.cons rfl (fun K hK => ?bo11x6) (AllReadyH.cons rfl (fun K hK => ?bo11x7) AllReadyH.nil)))
    case bo11x2 =>
      go_simp
      go_at_call 69
      refine (levels_anyn _ t Ai Ag Ao ci cg co (hT.below (by repeat (first | with_reducible exact D2 | with_reducible apply bdrew | with_reducible apply bdrewN | with_reducible apply balloc | ((with_reducible refine bset ?_ ?_ _); rotate_left; (first | omega | (simp <;> omega)))))) _ _ _ (hS.below (by repeat (first | with_reducible exact D2 | with_reducible apply bdrew | with_reducible apply bdrewN | with_reducible apply balloc | ((with_reducible refine bset ?_ ?_ _); rotate_left; (first | omega | (simp <;> omega)))))) hls n HN.out HV.out H2.out).mono ?_
      rintro e w3 ⟨gl, rfl, hgl, hAl, hVl, hB3⟩
      have D3 := dstep w hB3 (by repeat (first | with_reducible exact D2 | with_reducible apply bdrew | with_reducible apply bdrewN | with_reducible apply balloc | ((with_reducible refine bset ?_ ?_ _); rotate_left; (first | omega | (simp <;> omega)))))
      have d3s := D3.size
      have C3 := Cls.below (l := [(w.heap.size, 0, .int .i64 (n : Int)), (w.heap.size, 1, .slice Ai t.init.length ci), (w.heap.size, 2, .slice Ag t.goal.length cg), (w.heap.size, 3, .slice Ao t.ops.length co), (w.heap.size + 1, 0, .int .i64 0), (w.heap.size + 1, 1, .int .i64 0)]) hB3 (by simp [Cls, go_sem, F2, y2w1, y2w0, y2wp1, y2wp2])
      have F3 := C3
      simp only [Cls, and_true] at F3
      have y3w1 : w.heap.size + 1 < w3.heap.size := C3.blk (b := w.heap.size + 1) (k := 0) (v := .int .i64 0) (by simp)
      have y3w0 : w.heap.size < w3.heap.size := (by omega)
      have y3wp1 : w.heap.size < w3.heap.size + 1 := (by omega)
      have y3wp2 : w.heap.size < w3.heap.size + 1 + 1 := (by omega)
      have HLl := Lib.hid hVl
      clear hVl
      have hzl := Arr.lt hAl
      (first | simp at hgl | skip)
      have hbsl := hB3.size
      (first | simp at hbsl | skip)
      have hSS : w3.cell? ⟨w.heap.size, 0, none⟩ = some (.int .i64 (n : Int)) ∧ w3.cell? ⟨w.heap.size, 1, none⟩ = some (.slice Ai t.init.length ci) ∧ w3.cell? ⟨w.heap.size, 2, none⟩ = some (.slice Ag t.goal.length cg) ∧ w3.cell? ⟨w.heap.size, 3, none⟩ = some (.slice Ao t.ops.length co) := (by have q := C3; simp only [Cls, and_true] at q; simp [q])
      go_wp2_with fail
      refine hK.out _ _ hSS (fun hHeld => ?_)
      clear hK K
      try simp only [Act.put, List.getElem_toArray, List.getElem_cons_succ, List.getElem_cons_zero, List.setIfInBounds_toArray, List.set_cons_zero, List.set_cons_succ]
      refine wpAnyH_ready (rs := [5, 6, 7]) (by kernel_rfl) (by simp) ?_
      refine (AllReadyH.cons rfl (fun K hK => ?bo12x5) (AllReadyH.cons rfl (fun K hK => ?bo12x6) (AllReadyH.cons rfl (fun K hK => ?bo12x7) AllReadyH.nil)))
      case bo12x5 =>
        go_simp
        go_at_call 68
        refine (supporters_anyn _ t Ai Ag Ao ci cg co (hT.below (by repeat (first | with_reducible exact D3 | with_reducible apply bdrew | with_reducible apply bdrewN | with_reducible apply balloc | ((with_reducible refine bset ?_ ?_ _); rotate_left; (first | omega | (simp <;> omega)))))) _ _ _ (hS.below (by repeat (first | with_reducible exact D3 | with_reducible apply bdrew | with_reducible apply bdrewN | with_reducible apply balloc | ((with_reducible refine bset ?_ ?_ _); rotate_left; (first | omega | (simp <;> omega)))))) hls n HN.out HV.out H2.out).mono ?_
        rintro e w4 ⟨gs, rfl, hgs, hAs, hVs, hB4⟩
        have D4 := dstep w hB4 (by repeat (first | with_reducible exact D3 | with_reducible apply bdrew | with_reducible apply bdrewN | with_reducible apply balloc | ((with_reducible refine bset ?_ ?_ _); rotate_left; (first | omega | (simp <;> omega)))))
        have d4s := D4.size
        have Ew3_4 := dstep w3 hB4 (by repeat (first | with_reducible exact Below.refl _ _ | with_reducible apply bdrew | with_reducible apply bdrewN | with_reducible apply balloc | ((with_reducible refine bset ?_ ?_ _); rotate_left; (first | omega | (simp <;> omega)))))
        have C4 := Cls.below (l := [(w.heap.size, 0, .int .i64 (n : Int)), (w.heap.size, 1, .slice Ai t.init.length ci), (w.heap.size, 2, .slice Ag t.goal.length cg), (w.heap.size, 3, .slice Ao t.ops.length co), (w.heap.size + 1, 0, .int .i64 0), (w.heap.size + 1, 1, .int .i64 0)]) hB4 (by simp [Cls, go_sem, F3, y3w1, y3w0, y3wp1, y3wp2])
        have F4 := C4
        simp only [Cls, and_true] at F4
        have y4w1 : w.heap.size + 1 < w4.heap.size := C4.blk (b := w.heap.size + 1) (k := 0) (v := .int .i64 0) (by simp)
        have y4w0 : w.heap.size < w4.heap.size := (by omega)
        have y4wp1 : w.heap.size < w4.heap.size + 1 := (by omega)
        have y4wp2 : w.heap.size < w4.heap.size + 1 + 1 := (by omega)
        have HLs := Lib.hid hVs
        clear hVs
        have hzs := Arr.lt hAs
        (first | simp at hgs | skip)
        have hbss := hB4.size
        (first | simp at hbss | skip)
        have hSS : w4.cell? ⟨w.heap.size, 0, none⟩ = some (.int .i64 (n : Int)) ∧ w4.cell? ⟨w.heap.size, 1, none⟩ = some (.slice Ai t.init.length ci) ∧ w4.cell? ⟨w.heap.size, 2, none⟩ = some (.slice Ag t.goal.length cg) ∧ w4.cell? ⟨w.heap.size, 3, none⟩ = some (.slice Ao t.ops.length co) := (by have q := C4; simp only [Cls, and_true] at q; simp [q])
        go_wp2_with fail
        refine hK.out _ _ hSS (fun hHeld => ?_)
        clear hK K
        try simp only [Act.put, List.getElem_toArray, List.getElem_cons_succ, List.getElem_cons_zero, List.setIfInBounds_toArray, List.set_cons_zero, List.set_cons_succ]
        refine wpAnyH_ready (rs := [6, 7]) (by kernel_rfl) (by simp) ?_
        refine (AllReadyH.cons rfl (fun K hK => ?bo13x6) (AllReadyH.cons rfl (fun K hK => ?bo13x7) AllReadyH.nil))
        case bo13x6 =>
          go_simp
          have hSS : (w4.alloc (.cells #[.slice none 0 0] 22)).cell? ⟨w.heap.size, 0, none⟩ = some (.int .i64 (n : Int)) ∧ (w4.alloc (.cells #[.slice none 0 0] 22)).cell? ⟨w.heap.size, 1, none⟩ = some (.slice Ai t.init.length ci) ∧ (w4.alloc (.cells #[.slice none 0 0] 22)).cell? ⟨w.heap.size, 2, none⟩ = some (.slice Ag t.goal.length cg) ∧ (w4.alloc (.cells #[.slice none 0 0] 22)).cell? ⟨w.heap.size, 3, none⟩ = some (.slice Ao t.ops.length co) := (by simp [go_sem, F4, y4w1, y4w0, y4wp1, y4wp2])
          go_wp2_with fail
          refine hK.out _ _ hSS (fun hHeld => ?_)
          clear hK K
          try simp only [Act.put, List.getElem_toArray, List.getElem_cons_succ, List.getElem_cons_zero, List.setIfInBounds_toArray, List.set_cons_zero, List.set_cons_succ]
          refine wpAnyH_ready (rs := [7]) (by kernel_rfl) (by simp) ?_
          refine (AllReadyH.cons rfl (fun K hK => ?bo14x7) AllReadyH.nil)
          case bo14x7 =>
            go_simp
            have hSS : ((w4.alloc (.cells #[.slice none 0 0] 22)).alloc (.cells #[.slice none 0 0] 22)).cell? ⟨w.heap.size, 0, none⟩ = some (.int .i64 (n : Int)) ∧ ((w4.alloc (.cells #[.slice none 0 0] 22)).alloc (.cells #[.slice none 0 0] 22)).cell? ⟨w.heap.size, 1, none⟩ = some (.slice Ai t.init.length ci) ∧ ((w4.alloc (.cells #[.slice none 0 0] 22)).alloc (.cells #[.slice none 0 0] 22)).cell? ⟨w.heap.size, 2, none⟩ = some (.slice Ag t.goal.length cg) ∧ ((w4.alloc (.cells #[.slice none 0 0] 22)).alloc (.cells #[.slice none 0 0] 22)).cell? ⟨w.heap.size, 3, none⟩ = some (.slice Ao t.ops.length co) := (by simp [go_sem, F4, y4w1, y4w0, y4wp1, y4wp2])
            go_wp2_with fail
            refine hK.out _ _ hSS (fun hHeld => ?_)
            clear hK K
            try simp only [Act.put, List.getElem_toArray, List.getElem_cons_succ, List.getElem_cons_zero, List.setIfInBounds_toArray, List.set_cons_zero, List.set_cons_succ]
            refine wpAnyH_ready (rs := [8]) (by kernel_rfl) (by simp) ?_
            refine AllReadyH.cons rfl (fun K hK => ?_) AllReadyH.nil
            go_simp
            have hnl0 : ¬ w4.heap.size = w.heap.size := (by omega)
            have hnl1 : ¬ w4.heap.size = w.heap.size + 1 := (by omega)
            have hnl2 : ¬ w.heap.size = w4.heap.size := (by omega)
            have hnl3 : ¬ w.heap.size + 1 = w4.heap.size := (by omega)
            have hns0 : ¬ w4.heap.size + 1 = w.heap.size := (by omega)
            have hns1 : ¬ w4.heap.size + 1 = w.heap.size + 1 := (by omega)
            have hns2 : ¬ w.heap.size = w4.heap.size + 1 := (by omega)
            have hns3 : ¬ w.heap.size + 1 = w4.heap.size + 1 := (by omega)
            have hnx : ¬ w4.heap.size = w4.heap.size + 1 := (by omega)
            have hny : ¬ w4.heap.size + 1 = w4.heap.size := (by omega)
            go_wp2_with fail
            refine hK.out _ _ (by simp [go_sem, F4, y4w1, y4w0, y4wp1, y4wp2, hnl0, hnl1, hnl2, hnl3, hns0, hns1, hns2, hns3, hnx, hny]) (fun hHeld => ?_)
            clear hK K
            try simp only [Act.put, List.getElem_toArray, List.getElem_cons_succ, List.getElem_cons_zero, List.setIfInBounds_toArray, List.set_cons_zero, List.set_cons_succ]
            refine wpAnyH_ready (rs := [9]) (by kernel_rfl) (by simp) ?_
            refine AllReadyH.cons rfl (fun K hK => ?_) AllReadyH.nil
            go_simp
            go_wp2_with fail
            refine hK.out _ _ (by simp [go_sem, F4, y4w1, y4w0, y4wp1, y4wp2, hnl0, hnl1, hnl2, hnl3, hns0, hns1, hns2, hns3, hnx, hny]) (fun hHeld => ?_)
            clear hK K
            try simp only [Act.put, List.getElem_toArray, List.getElem_cons_succ, List.getElem_cons_zero, List.setIfInBounds_toArray, List.set_cons_zero, List.set_cons_succ]
            refine wpAnyH_done (by kernel_rfl) ?_ _
            go_wp2_with fail
            go_meet
            exact ⟨w4.heap.size, w4.heap.size + 1, gl, gs, rfl, rfl, (by omega), (by (first | omega | (simp <;> omega))), (by omega), (by (first | omega | (simp <;> omega))), (by omega), (by (first | omega | (simp <;> omega))), (by omega), (by (first | omega | (simp <;> omega))), (by repeat (first | with_reducible exact (hAl.below (Ew3_4)) | (with_reducible refine IArr.far ?_ ?_ _; rotate_left; (first | omega | (simp <;> omega))) | (with_reducible refine IArr.below ?_ (balloc (Below.refl _ _))))), (by repeat (first | with_reducible exact (hAs.below (Below.refl _ _)) | (with_reducible refine IArr.far ?_ ?_ _; rotate_left; (first | omega | (simp <;> omega))) | (with_reducible refine IArr.below ?_ (balloc (Below.refl _ _))))), HLl, (by repeat (first | with_reducible exact D4 | with_reducible apply bdrew | with_reducible apply bdrewN | with_reducible apply balloc | ((with_reducible refine bset ?_ ?_ _); rotate_left; (first | omega | (simp <;> omega))))), (by simp [Cls, go_sem, F4, y4w1, y4w0, y4wp1, y4wp2, hnl0, hnl1, hnl2, hnl3, hns0, hns1, hns2, hns3, hnx, hny]), (by simp [Cls, go_sem, F4, y4w1, y4w0, y4wp1, y4wp2, hnl0, hnl1, hnl2, hnl3, hns0, hns1, hns2, hns3, hnx, hny])⟩
        case bo13x7 =>
          go_simp
          have hSS : (w4.alloc (.cells #[.slice none 0 0] 22)).cell? ⟨w.heap.size, 0, none⟩ = some (.int .i64 (n : Int)) ∧ (w4.alloc (.cells #[.slice none 0 0] 22)).cell? ⟨w.heap.size, 1, none⟩ = some (.slice Ai t.init.length ci) ∧ (w4.alloc (.cells #[.slice none 0 0] 22)).cell? ⟨w.heap.size, 2, none⟩ = some (.slice Ag t.goal.length cg) ∧ (w4.alloc (.cells #[.slice none 0 0] 22)).cell? ⟨w.heap.size, 3, none⟩ = some (.slice Ao t.ops.length co) := (by simp [go_sem, F4, y4w1, y4w0, y4wp1, y4wp2])
          go_wp2_with fail
          refine hK.out _ _ hSS (fun hHeld => ?_)
          clear hK K
          try simp only [Act.put, List.getElem_toArray, List.getElem_cons_succ, List.getElem_cons_zero, List.setIfInBounds_toArray, List.set_cons_zero, List.set_cons_succ]
          refine wpAnyH_ready (rs := [6]) (by kernel_rfl) (by simp) ?_
          refine (AllReadyH.cons rfl (fun K hK => ?bo17x6) AllReadyH.nil)
          case bo17x6 =>
            go_simp
            have hSS : ((w4.alloc (.cells #[.slice none 0 0] 22)).alloc (.cells #[.slice none 0 0] 22)).cell? ⟨w.heap.size, 0, none⟩ = some (.int .i64 (n : Int)) ∧ ((w4.alloc (.cells #[.slice none 0 0] 22)).alloc (.cells #[.slice none 0 0] 22)).cell? ⟨w.heap.size, 1, none⟩ = some (.slice Ai t.init.length ci) ∧ ((w4.alloc (.cells #[.slice none 0 0] 22)).alloc (.cells #[.slice none 0 0] 22)).cell? ⟨w.heap.size, 2, none⟩ = some (.slice Ag t.goal.length cg) ∧ ((w4.alloc (.cells #[.slice none 0 0] 22)).alloc (.cells #[.slice none 0 0] 22)).cell? ⟨w.heap.size, 3, none⟩ = some (.slice Ao t.ops.length co) := (by simp [go_sem, F4, y4w1, y4w0, y4wp1, y4wp2])
            go_wp2_with fail
            refine hK.out _ _ hSS (fun hHeld => ?_)
            clear hK K
            try simp only [Act.put, List.getElem_toArray, List.getElem_cons_succ, List.getElem_cons_zero, List.setIfInBounds_toArray, List.set_cons_zero, List.set_cons_succ]
            refine wpAnyH_ready (rs := [8]) (by kernel_rfl) (by simp) ?_
            refine AllReadyH.cons rfl (fun K hK => ?_) AllReadyH.nil
            go_simp
            have hnl0 : ¬ w4.heap.size + 1 = w.heap.size := (by omega)
            have hnl1 : ¬ w4.heap.size + 1 = w.heap.size + 1 := (by omega)
            have hnl2 : ¬ w.heap.size = w4.heap.size + 1 := (by omega)
            have hnl3 : ¬ w.heap.size + 1 = w4.heap.size + 1 := (by omega)
            have hns0 : ¬ w4.heap.size = w.heap.size := (by omega)
            have hns1 : ¬ w4.heap.size = w.heap.size + 1 := (by omega)
            have hns2 : ¬ w.heap.size = w4.heap.size := (by omega)
            have hns3 : ¬ w.heap.size + 1 = w4.heap.size := (by omega)
            have hnx : ¬ w4.heap.size + 1 = w4.heap.size := (by omega)
            have hny : ¬ w4.heap.size = w4.heap.size + 1 := (by omega)
            go_wp2_with fail
            refine hK.out _ _ (by simp [go_sem, F4, y4w1, y4w0, y4wp1, y4wp2, hnl0, hnl1, hnl2, hnl3, hns0, hns1, hns2, hns3, hnx, hny]) (fun hHeld => ?_)
            clear hK K
            try simp only [Act.put, List.getElem_toArray, List.getElem_cons_succ, List.getElem_cons_zero, List.setIfInBounds_toArray, List.set_cons_zero, List.set_cons_succ]
            refine wpAnyH_ready (rs := [9]) (by kernel_rfl) (by simp) ?_
            refine AllReadyH.cons rfl (fun K hK => ?_) AllReadyH.nil
            go_simp
            go_wp2_with fail
            refine hK.out _ _ (by simp [go_sem, F4, y4w1, y4w0, y4wp1, y4wp2, hnl0, hnl1, hnl2, hnl3, hns0, hns1, hns2, hns3, hnx, hny]) (fun hHeld => ?_)
            clear hK K
            try simp only [Act.put, List.getElem_toArray, List.getElem_cons_succ, List.getElem_cons_zero, List.setIfInBounds_toArray, List.set_cons_zero, List.set_cons_succ]
            refine wpAnyH_done (by kernel_rfl) ?_ _
            go_wp2_with fail
            go_meet
            exact ⟨w4.heap.size + 1, w4.heap.size, gl, gs, rfl, rfl, (by omega), (by (first | omega | (simp <;> omega))), (by omega), (by (first | omega | (simp <;> omega))), (by omega), (by (first | omega | (simp <;> omega))), (by omega), (by (first | omega | (simp <;> omega))), (by repeat (first | with_reducible exact (hAl.below (Ew3_4)) | (with_reducible refine IArr.far ?_ ?_ _; rotate_left; (first | omega | (simp <;> omega))) | (with_reducible refine IArr.below ?_ (balloc (Below.refl _ _))))), (by repeat (first | with_reducible exact (hAs.below (Below.refl _ _)) | (with_reducible refine IArr.far ?_ ?_ _; rotate_left; (first | omega | (simp <;> omega))) | (with_reducible refine IArr.below ?_ (balloc (Below.refl _ _))))), HLl, (by repeat (first | with_reducible exact D4 | with_reducible apply bdrew | with_reducible apply bdrewN | with_reducible apply balloc | ((with_reducible refine bset ?_ ?_ _); rotate_left; (first | omega | (simp <;> omega))))), (by simp [Cls, go_sem, F4, y4w1, y4w0, y4wp1, y4wp2, hnl0, hnl1, hnl2, hnl3, hns0, hns1, hns2, hns3, hnx, hny]), (by simp [Cls, go_sem, F4, y4w1, y4w0, y4wp1, y4wp2, hnl0, hnl1, hnl2, hnl3, hns0, hns1, hns2, hns3, hnx, hny])⟩
      case bo12x6 =>
        go_simp
        have hSS : (w3.alloc (.cells #[.slice none 0 0] 22)).cell? ⟨w.heap.size, 0, none⟩ = some (.int .i64 (n : Int)) ∧ (w3.alloc (.cells #[.slice none 0 0] 22)).cell? ⟨w.heap.size, 1, none⟩ = some (.slice Ai t.init.length ci) ∧ (w3.alloc (.cells #[.slice none 0 0] 22)).cell? ⟨w.heap.size, 2, none⟩ = some (.slice Ag t.goal.length cg) ∧ (w3.alloc (.cells #[.slice none 0 0] 22)).cell? ⟨w.heap.size, 3, none⟩ = some (.slice Ao t.ops.length co) := (by simp [go_sem, F3, y3w1, y3w0, y3wp1, y3wp2])
        go_wp2_with fail
        refine hK.out _ _ hSS (fun hHeld => ?_)
        clear hK K
        try simp only [Act.put, List.getElem_toArray, List.getElem_cons_succ, List.getElem_cons_zero, List.setIfInBounds_toArray, List.set_cons_zero, List.set_cons_succ]
        refine wpAnyH_ready (rs := [5, 7]) (by kernel_rfl) (by simp) ?_
        refine (AllReadyH.cons rfl (fun K hK => ?bo110x5) (AllReadyH.cons rfl (fun K hK => ?bo110x7) AllReadyH.nil))
        case bo110x5 =>
          go_simp
          go_at_call 68
          refine (supporters_anyn _ t Ai Ag Ao ci cg co (hT.below (by repeat (first | with_reducible exact D3 | with_reducible apply bdrew | with_reducible apply bdrewN | with_reducible apply balloc | ((with_reducible refine bset ?_ ?_ _); rotate_left; (first | omega | (simp <;> omega)))))) _ _ _ (hS.below (by repeat (first | with_reducible exact D3 | with_reducible apply bdrew | with_reducible apply bdrewN | with_reducible apply balloc | ((with_reducible refine bset ?_ ?_ _); rotate_left; (first | omega | (simp <;> omega)))))) hls n HN.out HV.out H2.out).mono ?_
          rintro e w4 ⟨gs, rfl, hgs, hAs, hVs, hB4⟩
          have D4 := dstep w hB4 (by repeat (first | with_reducible exact D3 | with_reducible apply bdrew | with_reducible apply bdrewN | with_reducible apply balloc | ((with_reducible refine bset ?_ ?_ _); rotate_left; (first | omega | (simp <;> omega)))))
          have d4s := D4.size
          have Ew3_4 := dstep w3 hB4 (by repeat (first | with_reducible exact Below.refl _ _ | with_reducible apply bdrew | with_reducible apply bdrewN | with_reducible apply balloc | ((with_reducible refine bset ?_ ?_ _); rotate_left; (first | omega | (simp <;> omega)))))
          have C4 := Cls.below (l := [(w.heap.size, 0, .int .i64 (n : Int)), (w.heap.size, 1, .slice Ai t.init.length ci), (w.heap.size, 2, .slice Ag t.goal.length cg), (w.heap.size, 3, .slice Ao t.ops.length co), (w.heap.size + 1, 0, .int .i64 0), (w.heap.size + 1, 1, .int .i64 0), (w3.heap.size, 0, .slice none 0 0)]) hB4 (by simp [Cls, go_sem, F3, y3w1, y3w0, y3wp1, y3wp2])
          have F4 := C4
          simp only [Cls, and_true] at F4
          have y4w1 : w.heap.size + 1 < w4.heap.size := C4.blk (b := w.heap.size + 1) (k := 0) (v := .int .i64 0) (by simp)
          have y4w0 : w.heap.size < w4.heap.size := (by omega)
          have y4wp1 : w.heap.size < w4.heap.size + 1 := (by omega)
          have y4wp2 : w.heap.size < w4.heap.size + 1 + 1 := (by omega)
          have y4w30 : w3.heap.size < w4.heap.size := C4.blk (b := w3.heap.size) (k := 0) (v := .slice none 0 0) (by simp)
          have y4w3p1 : w3.heap.size < w4.heap.size + 1 := (by omega)
          have y4w3p2 : w3.heap.size < w4.heap.size + 1 + 1 := (by omega)
          have HLs := Lib.hid hVs
          clear hVs
          have hzs := Arr.lt hAs
          (first | simp at hgs | skip)
          have hbss := hB4.size
          (first | simp at hbss | skip)
          have hSS : w4.cell? ⟨w.heap.size, 0, none⟩ = some (.int .i64 (n : Int)) ∧ w4.cell? ⟨w.heap.size, 1, none⟩ = some (.slice Ai t.init.length ci) ∧ w4.cell? ⟨w.heap.size, 2, none⟩ = some (.slice Ag t.goal.length cg) ∧ w4.cell? ⟨w.heap.size, 3, none⟩ = some (.slice Ao t.ops.length co) := (by have q := C4; simp only [Cls, and_true] at q; simp [q])
          go_wp2_with fail
          refine hK.out _ _ hSS (fun hHeld => ?_)
          clear hK K
          try simp only [Act.put, List.getElem_toArray, List.getElem_cons_succ, List.getElem_cons_zero, List.setIfInBounds_toArray, List.set_cons_zero, List.set_cons_succ]
          refine wpAnyH_ready (rs := [7]) (by kernel_rfl) (by simp) ?_
          refine (AllReadyH.cons rfl (fun K hK => ?bo111x7) AllReadyH.nil)
          case bo111x7 =>
            go_simp
            have hSS : (w4.alloc (.cells #[.slice none 0 0] 22)).cell? ⟨w.heap.size, 0, none⟩ = some (.int .i64 (n : Int)) ∧ (w4.alloc (.cells #[.slice none 0 0] 22)).cell? ⟨w.heap.size, 1, none⟩ = some (.slice Ai t.init.length ci) ∧ (w4.alloc (.cells #[.slice none 0 0] 22)).cell? ⟨w.heap.size, 2, none⟩ = some (.slice Ag t.goal.length cg) ∧ (w4.alloc (.cells #[.slice none 0 0] 22)).cell? ⟨w.heap.size, 3, none⟩ = some (.slice Ao t.ops.length co) := (by simp [go_sem, F4, y4w1, y4w0, y4wp1, y4wp2, y4w30, y4w3p1, y4w3p2])
            go_wp2_with fail
            refine hK.out _ _ hSS (fun hHeld => ?_)
            clear hK K
            try simp only [Act.put, List.getElem_toArray, List.getElem_cons_succ, List.getElem_cons_zero, List.setIfInBounds_toArray, List.set_cons_zero, List.set_cons_succ]
            refine wpAnyH_ready (rs := [8]) (by kernel_rfl) (by simp) ?_
            refine AllReadyH.cons rfl (fun K hK => ?_) AllReadyH.nil
            go_simp
            have hnl0 : ¬ w3.heap.size = w.heap.size := (by omega)
            have hnl1 : ¬ w3.heap.size = w.heap.size + 1 := (by omega)
            have hnl2 : ¬ w.heap.size = w3.heap.size := (by omega)
            have hnl3 : ¬ w.heap.size + 1 = w3.heap.size := (by omega)
            have hns0 : ¬ w4.heap.size = w.heap.size := (by omega)
            have hns1 : ¬ w4.heap.size = w.heap.size + 1 := (by omega)
            have hns2 : ¬ w.heap.size = w4.heap.size := (by omega)
            have hns3 : ¬ w.heap.size + 1 = w4.heap.size := (by omega)
            have hnx : ¬ w3.heap.size = w4.heap.size := (by omega)
            have hny : ¬ w4.heap.size = w3.heap.size := (by omega)
            go_wp2_with fail
            refine hK.out _ _ (by simp [go_sem, F4, y4w1, y4w0, y4wp1, y4wp2, y4w30, y4w3p1, y4w3p2, hnl0, hnl1, hnl2, hnl3, hns0, hns1, hns2, hns3, hnx, hny]) (fun hHeld => ?_)
            clear hK K
            try simp only [Act.put, List.getElem_toArray, List.getElem_cons_succ, List.getElem_cons_zero, List.setIfInBounds_toArray, List.set_cons_zero, List.set_cons_succ]
            refine wpAnyH_ready (rs := [9]) (by kernel_rfl) (by simp) ?_
            refine AllReadyH.cons rfl (fun K hK => ?_) AllReadyH.nil
            go_simp
            go_wp2_with fail
            refine hK.out _ _ (by simp [go_sem, F4, y4w1, y4w0, y4wp1, y4wp2, y4w30, y4w3p1, y4w3p2, hnl0, hnl1, hnl2, hnl3, hns0, hns1, hns2, hns3, hnx, hny]) (fun hHeld => ?_)
            clear hK K
            try simp only [Act.put, List.getElem_toArray, List.getElem_cons_succ, List.getElem_cons_zero, List.setIfInBounds_toArray, List.set_cons_zero, List.set_cons_succ]
            refine wpAnyH_done (by kernel_rfl) ?_ _
            go_wp2_with fail
            go_meet
            exact ⟨w3.heap.size, w4.heap.size, gl, gs, rfl, rfl, (by omega), (by (first | omega | (simp <;> omega))), (by omega), (by (first | omega | (simp <;> omega))), (by omega), (by (first | omega | (simp <;> omega))), (by omega), (by (first | omega | (simp <;> omega))), (by repeat (first | with_reducible exact (hAl.below (Ew3_4)) | (with_reducible refine IArr.far ?_ ?_ _; rotate_left; (first | omega | (simp <;> omega))) | (with_reducible refine IArr.below ?_ (balloc (Below.refl _ _))))), (by repeat (first | with_reducible exact (hAs.below (Below.refl _ _)) | (with_reducible refine IArr.far ?_ ?_ _; rotate_left; (first | omega | (simp <;> omega))) | (with_reducible refine IArr.below ?_ (balloc (Below.refl _ _))))), HLl, (by repeat (first | with_reducible exact D4 | with_reducible apply bdrew | with_reducible apply bdrewN | with_reducible apply balloc | ((with_reducible refine bset ?_ ?_ _); rotate_left; (first | omega | (simp <;> omega))))), (by simp [Cls, go_sem, F4, y4w1, y4w0, y4wp1, y4wp2, y4w30, y4w3p1, y4w3p2, hnl0, hnl1, hnl2, hnl3, hns0, hns1, hns2, hns3, hnx, hny]), (by simp [Cls, go_sem, F4, y4w1, y4w0, y4wp1, y4wp2, y4w30, y4w3p1, y4w3p2, hnl0, hnl1, hnl2, hnl3, hns0, hns1, hns2, hns3, hnx, hny])⟩
        case bo110x7 =>
          go_simp
          have hSS : ((w3.alloc (.cells #[.slice none 0 0] 22)).alloc (.cells #[.slice none 0 0] 22)).cell? ⟨w.heap.size, 0, none⟩ = some (.int .i64 (n : Int)) ∧ ((w3.alloc (.cells #[.slice none 0 0] 22)).alloc (.cells #[.slice none 0 0] 22)).cell? ⟨w.heap.size, 1, none⟩ = some (.slice Ai t.init.length ci) ∧ ((w3.alloc (.cells #[.slice none 0 0] 22)).alloc (.cells #[.slice none 0 0] 22)).cell? ⟨w.heap.size, 2, none⟩ = some (.slice Ag t.goal.length cg) ∧ ((w3.alloc (.cells #[.slice none 0 0] 22)).alloc (.cells #[.slice none 0 0] 22)).cell? ⟨w.heap.size, 3, none⟩ = some (.slice Ao t.ops.length co) := (by simp [go_sem, F3, y3w1, y3w0, y3wp1, y3wp2])
          go_wp2_with fail
          refine hK.out _ _ hSS (fun hHeld => ?_)
          clear hK K
          try simp only [Act.put, List.getElem_toArray, List.getElem_cons_succ, List.getElem_cons_zero, List.setIfInBounds_toArray, List.set_cons_zero, List.set_cons_succ]
          refine wpAnyH_ready (rs := [5]) (by kernel_rfl) (by simp) ?_
          refine (AllReadyH.cons rfl (fun K hK => ?bo114x5) AllReadyH.nil)
          case bo114x5 =>
            go_simp
            go_at_call 68
            refine (supporters_anyn _ t Ai Ag Ao ci cg co (hT.below (by repeat (first | with_reducible exact D3 | with_reducible apply bdrew | with_reducible apply bdrewN | with_reducible apply balloc | ((with_reducible refine bset ?_ ?_ _); rotate_left; (first | omega | (simp <;> omega)))))) _ _ _ (hS.below (by repeat (first | with_reducible exact D3 | with_reducible apply bdrew | with_reducible apply bdrewN | with_reducible apply balloc | ((with_reducible refine bset ?_ ?_ _); rotate_left; (first | omega | (simp <;> omega)))))) hls n HN.out HV.out H2.out).mono ?_
            rintro e w4 ⟨gs, rfl, hgs, hAs, hVs, hB4⟩
            have D4 := dstep w hB4 (by repeat (first | with_reducible exact D3 | with_reducible apply bdrew | with_reducible apply bdrewN | with_reducible apply balloc | ((with_reducible refine bset ?_ ?_ _); rotate_left; (first | omega | (simp <;> omega)))))
            have d4s := D4.size
            have Ew3_4 := dstep w3 hB4 (by repeat (first | with_reducible exact Below.refl _ _ | with_reducible apply bdrew | with_reducible apply bdrewN | with_reducible apply balloc | ((with_reducible refine bset ?_ ?_ _); rotate_left; (first | omega | (simp <;> omega)))))
            have C4 := Cls.below (l := [(w.heap.size, 0, .int .i64 (n : Int)), (w.heap.size, 1, .slice Ai t.init.length ci), (w.heap.size, 2, .slice Ag t.goal.length cg), (w.heap.size, 3, .slice Ao t.ops.length co), (w.heap.size + 1, 0, .int .i64 0), (w.heap.size + 1, 1, .int .i64 0), (w3.heap.size, 0, .slice none 0 0), (w3.heap.size + 1, 0, .slice none 0 0)]) hB4 (by simp [Cls, go_sem, F3, y3w1, y3w0, y3wp1, y3wp2])
            have F4 := C4
            simp only [Cls, and_true] at F4
            have y4w1 : w.heap.size + 1 < w4.heap.size := C4.blk (b := w.heap.size + 1) (k := 0) (v := .int .i64 0) (by simp)
            have y4w0 : w.heap.size < w4.heap.size := (by omega)
            have y4wp1 : w.heap.size < w4.heap.size + 1 := (by omega)
            have y4wp2 : w.heap.size < w4.heap.size + 1 + 1 := (by omega)
            have y4w31 : w3.heap.size + 1 < w4.heap.size := C4.blk (b := w3.heap.size + 1) (k := 0) (v := .slice none 0 0) (by simp)
            have y4w30 : w3.heap.size < w4.heap.size := (by omega)
            have y4w3p1 : w3.heap.size < w4.heap.size + 1 := (by omega)
            have y4w3p2 : w3.heap.size < w4.heap.size + 1 + 1 := (by omega)
            have HLs := Lib.hid hVs
            clear hVs
            have hzs := Arr.lt hAs
            (first | simp at hgs | skip)
            have hbss := hB4.size
            (first | simp at hbss | skip)
            have hSS : w4.cell? ⟨w.heap.size, 0, none⟩ = some (.int .i64 (n : Int)) ∧ w4.cell? ⟨w.heap.size, 1, none⟩ = some (.slice Ai t.init.length ci) ∧ w4.cell? ⟨w.heap.size, 2, none⟩ = some (.slice Ag t.goal.length cg) ∧ w4.cell? ⟨w.heap.size, 3, none⟩ = some (.slice Ao t.ops.length co) := (by have q := C4; simp only [Cls, and_true] at q; simp [q])
            go_wp2_with fail
            refine hK.out _ _ hSS (fun hHeld => ?_)
            clear hK K
            try simp only [Act.put, List.getElem_toArray, List.getElem_cons_succ, List.getElem_cons_zero, List.setIfInBounds_toArray, List.set_cons_zero, List.set_cons_succ]
            refine wpAnyH_ready (rs := [8]) (by kernel_rfl) (by simp) ?_
            refine AllReadyH.cons rfl (fun K hK => ?_) AllReadyH.nil
            go_simp
            have hnl0 : ¬ w3.heap.size = w.heap.size := (by omega)
            have hnl1 : ¬ w3.heap.size = w.heap.size + 1 := (by omega)
            have hnl2 : ¬ w.heap.size = w3.heap.size := (by omega)
            have hnl3 : ¬ w.heap.size + 1 = w3.heap.size := (by omega)
            have hns0 : ¬ w3.heap.size + 1 = w.heap.size := (by omega)
            have hns1 : ¬ w3.heap.size + 1 = w.heap.size + 1 := (by omega)
            have hns2 : ¬ w.heap.size = w3.heap.size + 1 := (by omega)
            have hns3 : ¬ w.heap.size + 1 = w3.heap.size + 1 := (by omega)
            have hnx : ¬ w3.heap.size = w3.heap.size + 1 := (by omega)
            have hny : ¬ w3.heap.size + 1 = w3.heap.size := (by omega)
            go_wp2_with fail
            refine hK.out _ _ (by simp [go_sem, F4, y4w1, y4w0, y4wp1, y4wp2, y4w31, y4w30, y4w3p1, y4w3p2, hnl0, hnl1, hnl2, hnl3, hns0, hns1, hns2, hns3, hnx, hny]) (fun hHeld => ?_)
            clear hK K
            try simp only [Act.put, List.getElem_toArray, List.getElem_cons_succ, List.getElem_cons_zero, List.setIfInBounds_toArray, List.set_cons_zero, List.set_cons_succ]
            refine wpAnyH_ready (rs := [9]) (by kernel_rfl) (by simp) ?_
            refine AllReadyH.cons rfl (fun K hK => ?_) AllReadyH.nil
            go_simp
            go_wp2_with fail
            refine hK.out _ _ (by simp [go_sem, F4, y4w1, y4w0, y4wp1, y4wp2, y4w31, y4w30, y4w3p1, y4w3p2, hnl0, hnl1, hnl2, hnl3, hns0, hns1, hns2, hns3, hnx, hny]) (fun hHeld => ?_)
            clear hK K
            try simp only [Act.put, List.getElem_toArray, List.getElem_cons_succ, List.getElem_cons_zero, List.setIfInBounds_toArray, List.set_cons_zero, List.set_cons_succ]
            refine wpAnyH_done (by kernel_rfl) ?_ _
            go_wp2_with fail
            go_meet
            exact ⟨w3.heap.size, w3.heap.size + 1, gl, gs, rfl, rfl, (by omega), (by (first | omega | (simp <;> omega))), (by omega), (by (first | omega | (simp <;> omega))), (by omega), (by (first | omega | (simp <;> omega))), (by omega), (by (first | omega | (simp <;> omega))), (by repeat (first | with_reducible exact (hAl.below (Ew3_4)) | (with_reducible refine IArr.far ?_ ?_ _; rotate_left; (first | omega | (simp <;> omega))) | (with_reducible refine IArr.below ?_ (balloc (Below.refl _ _))))), (by repeat (first | with_reducible exact (hAs.below (Below.refl _ _)) | (with_reducible refine IArr.far ?_ ?_ _; rotate_left; (first | omega | (simp <;> omega))) | (with_reducible refine IArr.below ?_ (balloc (Below.refl _ _))))), HLl, (by repeat (first | with_reducible exact D4 | with_reducible apply bdrew | with_reducible apply bdrewN | with_reducible apply balloc | ((with_reducible refine bset ?_ ?_ _); rotate_left; (first | omega | (simp <;> omega))))), (by simp [Cls, go_sem, F4, y4w1, y4w0, y4wp1, y4wp2, y4w31, y4w30, y4w3p1, y4w3p2, hnl0, hnl1, hnl2, hnl3, hns0, hns1, hns2, hns3, hnx, hny]), (by simp [Cls, go_sem, F4, y4w1, y4w0, y4wp1, y4wp2, y4w31, y4w30, y4w3p1, y4w3p2, hnl0, hnl1, hnl2, hnl3, hns0, hns1, hns2, hns3, hnx, hny])⟩
      case bo12x7 =>
        go_simp
        have hSS : (w3.alloc (.cells #[.slice none 0 0] 22)).cell? ⟨w.heap.size, 0, none⟩ = some (.int .i64 (n : Int)) ∧ (w3.alloc (.cells #[.slice none 0 0] 22)).cell? ⟨w.heap.size, 1, none⟩ = some (.slice Ai t.init.length ci) ∧ (w3.alloc (.cells #[.slice none 0 0] 22)).cell? ⟨w.heap.size, 2, none⟩ = some (.slice Ag t.goal.length cg) ∧ (w3.alloc (.cells #[.slice none 0 0] 22)).cell? ⟨w.heap.size, 3, none⟩ = some (.slice Ao t.ops.length co) := (by simp [go_sem, F3, y3w1, y3w0, y3wp1, y3wp2])
        go_wp2_with fail
        refine hK.out _ _ hSS (fun hHeld => ?_)
        clear hK K
        try simp only [Act.put, List.getElem_toArray, List.getElem_cons_succ, List.getElem_cons_zero, List.setIfInBounds_toArray, List.set_cons_zero, List.set_cons_succ]
        refine wpAnyH_ready (rs := [5, 6]) (by kernel_rfl) (by simp) ?_
        refine (AllReadyH.cons rfl (fun K hK => ?bo117x5) (AllReadyH.cons rfl (fun K hK => ?bo117x6) AllReadyH.nil))
        case bo117x5 =>
          go_simp
          go_at_call 68
          refine (supporters_anyn _ t Ai Ag Ao ci cg co (hT.below (by repeat (first | with_reducible exact D3 | with_reducible apply bdrew | with_reducible apply bdrewN | with_reducible apply balloc | ((with_reducible refine bset ?_ ?_ _); rotate_left; (first | omega | (simp <;> omega)))))) _ _ _ (hS.below (by repeat (first | with_reducible exact D3 | with_reducible apply bdrew | with_reducible apply bdrewN | with_reducible apply balloc | ((with_reducible refine bset ?_ ?_ _); rotate_left; (first | omega | (simp <;> omega)))))) hls n HN.out HV.out H2.out).mono ?_
          rintro e w4 ⟨gs, rfl, hgs, hAs, hVs, hB4⟩
          have D4 := dstep w hB4 (by repeat (first | with_reducible exact D3 | with_reducible apply bdrew | with_reducible apply bdrewN | with_reducible apply balloc | ((with_reducible refine bset ?_ ?_ _); rotate_left; (first | omega | (simp <;> omega)))))
          have d4s := D4.size
          have Ew3_4 := dstep w3 hB4 (by repeat (first | with_reducible exact Below.refl _ _ | with_reducible apply bdrew | with_reducible apply bdrewN | with_reducible apply balloc | ((with_reducible refine bset ?_ ?_ _); rotate_left; (first | omega | (simp <;> omega)))))
          have C4 := Cls.below (l := [(w.heap.size, 0, .int .i64 (n : Int)), (w.heap.size, 1, .slice Ai t.init.length ci), (w.heap.size, 2, .slice Ag t.goal.length cg), (w.heap.size, 3, .slice Ao t.ops.length co), (w.heap.size + 1, 0, .int .i64 0), (w.heap.size + 1, 1, .int .i64 0), (w3.heap.size, 0, .slice none 0 0)]) hB4 (by simp [Cls, go_sem, F3, y3w1, y3w0, y3wp1, y3wp2])
          have F4 := C4
          simp only [Cls, and_true] at F4
          have y4w1 : w.heap.size + 1 < w4.heap.size := C4.blk (b := w.heap.size + 1) (k := 0) (v := .int .i64 0) (by simp)
          have y4w0 : w.heap.size < w4.heap.size := (by omega)
          have y4wp1 : w.heap.size < w4.heap.size + 1 := (by omega)
          have y4wp2 : w.heap.size < w4.heap.size + 1 + 1 := (by omega)
          have y4w30 : w3.heap.size < w4.heap.size := C4.blk (b := w3.heap.size) (k := 0) (v := .slice none 0 0) (by simp)
          have y4w3p1 : w3.heap.size < w4.heap.size + 1 := (by omega)
          have y4w3p2 : w3.heap.size < w4.heap.size + 1 + 1 := (by omega)
          have HLs := Lib.hid hVs
          clear hVs
          have hzs := Arr.lt hAs
          (first | simp at hgs | skip)
          have hbss := hB4.size
          (first | simp at hbss | skip)
          have hSS : w4.cell? ⟨w.heap.size, 0, none⟩ = some (.int .i64 (n : Int)) ∧ w4.cell? ⟨w.heap.size, 1, none⟩ = some (.slice Ai t.init.length ci) ∧ w4.cell? ⟨w.heap.size, 2, none⟩ = some (.slice Ag t.goal.length cg) ∧ w4.cell? ⟨w.heap.size, 3, none⟩ = some (.slice Ao t.ops.length co) := (by have q := C4; simp only [Cls, and_true] at q; simp [q])
          go_wp2_with fail
          refine hK.out _ _ hSS (fun hHeld => ?_)
          clear hK K
          try simp only [Act.put, List.getElem_toArray, List.getElem_cons_succ, List.getElem_cons_zero, List.setIfInBounds_toArray, List.set_cons_zero, List.set_cons_succ]
          refine wpAnyH_ready (rs := [6]) (by kernel_rfl) (by simp) ?_
          refine (AllReadyH.cons rfl (fun K hK => ?bo118x6) AllReadyH.nil)
          case bo118x6 =>
            go_simp
            have hSS : (w4.alloc (.cells #[.slice none 0 0] 22)).cell? ⟨w.heap.size, 0, none⟩ = some (.int .i64 (n : Int)) ∧ (w4.alloc (.cells #[.slice none 0 0] 22)).cell? ⟨w.heap.size, 1, none⟩ = some (.slice Ai t.init.length ci) ∧ (w4.alloc (.cells #[.slice none 0 0] 22)).cell? ⟨w.heap.size, 2, none⟩ = some (.slice Ag t.goal.length cg) ∧ (w4.alloc (.cells #[.slice none 0 0] 22)).cell? ⟨w.heap.size, 3, none⟩ = some (.slice Ao t.ops.length co) := (by simp [go_sem, F4, y4w1, y4w0, y4wp1, y4wp2, y4w30, y4w3p1, y4w3p2])
            go_wp2_with fail
            refine hK.out _ _ hSS (fun hHeld => ?_)
            clear hK K
            try simp only [Act.put, List.getElem_toArray, List.getElem_cons_succ, List.getElem_cons_zero, List.setIfInBounds_toArray, List.set_cons_zero, List.set_cons_succ]
            refine wpAnyH_ready (rs := [8]) (by kernel_rfl) (by simp) ?_
            refine AllReadyH.cons rfl (fun K hK => ?_) AllReadyH.nil
            go_simp
            have hnl0 : ¬ w4.heap.size = w.heap.size := (by omega)
            have hnl1 : ¬ w4.heap.size = w.heap.size + 1 := (by omega)
            have hnl2 : ¬ w.heap.size = w4.heap.size := (by omega)
            have hnl3 : ¬ w.heap.size + 1 = w4.heap.size := (by omega)
            have hns0 : ¬ w3.heap.size = w.heap.size := (by omega)
            have hns1 : ¬ w3.heap.size = w.heap.size + 1 := (by omega)
            have hns2 : ¬ w.heap.size = w3.heap.size := (by omega)
            have hns3 : ¬ w.heap.size + 1 = w3.heap.size := (by omega)
            have hnx : ¬ w4.heap.size = w3.heap.size := (by omega)
            have hny : ¬ w3.heap.size = w4.heap.size := (by omega)
            go_wp2_with fail
            refine hK.out _ _ (by simp [go_sem, F4, y4w1, y4w0, y4wp1, y4wp2, y4w30, y4w3p1, y4w3p2, hnl0, hnl1, hnl2, hnl3, hns0, hns1, hns2, hns3, hnx, hny]) (fun hHeld => ?_)
            clear hK K
            try simp only [Act.put, List.getElem_toArray, List.getElem_cons_succ, List.getElem_cons_zero, List.setIfInBounds_toArray, List.set_cons_zero, List.set_cons_succ]
            refine wpAnyH_ready (rs := [9]) (by kernel_rfl) (by simp) ?_
            refine AllReadyH.cons rfl (fun K hK => ?_) AllReadyH.nil
            go_simp
            go_wp2_with fail
            refine hK.out _ _ (by simp [go_sem, F4, y4w1, y4w0, y4wp1, y4wp2, y4w30, y4w3p1, y4w3p2, hnl0, hnl1, hnl2, hnl3, hns0, hns1, hns2, hns3, hnx, hny]) (fun hHeld => ?_)
            clear hK K
            try simp only [Act.put, List.getElem_toArray, List.getElem_cons_succ, List.getElem_cons_zero, List.setIfInBounds_toArray, List.set_cons_zero, List.set_cons_succ]
            refine wpAnyH_done (by kernel_rfl) ?_ _
            go_wp2_with fail
            go_meet
            exact ⟨w4.heap.size, w3.heap.size, gl, gs, rfl, rfl, (by omega), (by (first | omega | (simp <;> omega))), (by omega), (by (first | omega | (simp <;> omega))), (by omega), (by (first | omega | (simp <;> omega))), (by omega), (by (first | omega | (simp <;> omega))), (by repeat (first | with_reducible exact (hAl.below (Ew3_4)) | (with_reducible refine IArr.far ?_ ?_ _; rotate_left; (first | omega | (simp <;> omega))) | (with_reducible refine IArr.below ?_ (balloc (Below.refl _ _))))), (by repeat (first | with_reducible exact (hAs.below (Below.refl _ _)) | (with_reducible refine IArr.far ?_ ?_ _; rotate_left; (first | omega | (simp <;> omega))) | (with_reducible refine IArr.below ?_ (balloc (Below.refl _ _))))), HLl, (by repeat (first | with_reducible exact D4 | with_reducible apply bdrew | with_reducible apply bdrewN | with_reducible apply balloc | ((with_reducible refine bset ?_ ?_ _); rotate_left; (first | omega | (simp <;> omega))))), (by simp [Cls, go_sem, F4, y4w1, y4w0, y4wp1, y4wp2, y4w30, y4w3p1, y4w3p2, hnl0, hnl1, hnl2, hnl3, hns0, hns1, hns2, hns3, hnx, hny]), (by simp [Cls, go_sem, F4, y4w1, y4w0, y4wp1, y4wp2, y4w30, y4w3p1, y4w3p2, hnl0, hnl1, hnl2, hnl3, hns0, hns1, hns2, hns3, hnx, hny])⟩
        case bo117x6 =>
          go_simp
          have hSS : ((w3.alloc (.cells #[.slice none 0 0] 22)).alloc (.cells #[.slice none 0 0] 22)).cell? ⟨w.heap.size, 0, none⟩ = some (.int .i64 (n : Int)) ∧ ((w3.alloc (.cells #[.slice none 0 0] 22)).alloc (.cells #[.slice none 0 0] 22)).cell? ⟨w.heap.size, 1, none⟩ = some (.slice Ai t.init.length ci) ∧ ((w3.alloc (.cells #[.slice none 0 0] 22)).alloc (.cells #[.slice none 0 0] 22)).cell? ⟨w.heap.size, 2, none⟩ = some (.slice Ag t.goal.length cg) ∧ ((w3.alloc (.cells #[.slice none 0 0] 22)).alloc (.cells #[.slice none 0 0] 22)).cell? ⟨w.heap.size, 3, none⟩ = some (.slice Ao t.ops.length co) := (by simp [go_sem, F3, y3w1, y3w0, y3wp1, y3wp2])
          go_wp2_with fail
          refine hK.out _ _ hSS (fun hHeld => ?_)
          clear hK K
          try simp only [Act.put, List.getElem_toArray, List.getElem_cons_succ, List.getElem_cons_zero, List.setIfInBounds_toArray, List.set_cons_zero, List.set_cons_succ]
          refine wpAnyH_ready (rs := [5]) (by kernel_rfl) (by simp) ?_
          refine (AllReadyH.cons rfl (fun K hK => ?bo121x5) AllReadyH.nil)
          case bo121x5 =>
            go_simp
            go_at_call 68
            refine (supporters_anyn _ t Ai Ag Ao ci cg co (hT.below (by repeat (first | with_reducible exact D3 | with_reducible apply bdrew | with_reducible apply bdrewN | with_reducible apply balloc | ((with_reducible refine bset ?_ ?_ _); rotate_left; (first | omega | (simp <;> omega)))))) _ _ _ (hS.below (by repeat (first | with_reducible exact D3 | with_reducible apply bdrew | with_reducible apply bdrewN | with_reducible apply balloc | ((with_reducible refine bset ?_ ?_ _); rotate_left; (first | omega | (simp <;> omega)))))) hls n HN.out HV.out H2.out).mono ?_
            rintro e w4 ⟨gs, rfl, hgs, hAs, hVs, hB4⟩
            have D4 := dstep w hB4 (by repeat (first | with_reducible exact D3 | with_reducible apply bdrew | with_reducible apply bdrewN | with_reducible apply balloc | ((with_reducible refine bset ?_ ?_ _); rotate_left; (first | omega | (simp <;> omega)))))
            have d4s := D4.size
            have Ew3_4 := dstep w3 hB4 (by repeat (first | with_reducible exact Below.refl _ _ | with_reducible apply bdrew | with_reducible apply bdrewN | with_reducible apply balloc | ((with_reducible refine bset ?_ ?_ _); rotate_left; (first | omega | (simp <;> omega)))))
            have C4 := Cls.below (l := [(w.heap.size, 0, .int .i64 (n : Int)), (w.heap.size, 1, .slice Ai t.init.length ci), (w.heap.size, 2, .slice Ag t.goal.length cg), (w.heap.size, 3, .slice Ao t.ops.length co), (w.heap.size + 1, 0, .int .i64 0), (w.heap.size + 1, 1, .int .i64 0), (w3.heap.size, 0, .slice none 0 0), (w3.heap.size + 1, 0, .slice none 0 0)]) hB4 (by simp [Cls, go_sem, F3, y3w1, y3w0, y3wp1, y3wp2])
            have F4 := C4
            simp only [Cls, and_true] at F4
            have y4w1 : w.heap.size + 1 < w4.heap.size := C4.blk (b := w.heap.size + 1) (k := 0) (v := .int .i64 0) (by simp)
            have y4w0 : w.heap.size < w4.heap.size := (by omega)
            have y4wp1 : w.heap.size < w4.heap.size + 1 := (by omega)
            have y4wp2 : w.heap.size < w4.heap.size + 1 + 1 := (by omega)
            have y4w31 : w3.heap.size + 1 < w4.heap.size := C4.blk (b := w3.heap.size + 1) (k := 0) (v := .slice none 0 0) (by simp)
            have y4w30 : w3.heap.size < w4.heap.size := (by omega)
            have y4w3p1 : w3.heap.size < w4.heap.size + 1 := (by omega)
            have y4w3p2 : w3.heap.size < w4.heap.size + 1 + 1 := (by omega)
            have HLs := Lib.hid hVs
            clear hVs
            have hzs := Arr.lt hAs
            (first | simp at hgs | skip)
            have hbss := hB4.size
            (first | simp at hbss | skip)
            have hSS : w4.cell? ⟨w.heap.size, 0, none⟩ = some (.int .i64 (n : Int)) ∧ w4.cell? ⟨w.heap.size, 1, none⟩ = some (.slice Ai t.init.length ci) ∧ w4.cell? ⟨w.heap.size, 2, none⟩ = some (.slice Ag t.goal.length cg) ∧ w4.cell? ⟨w.heap.size, 3, none⟩ = some (.slice Ao t.ops.length co) := (by have q := C4; simp only [Cls, and_true] at q; simp [q])
            go_wp2_with fail
            refine hK.out _ _ hSS (fun hHeld => ?_)
            clear hK K
            try simp only [Act.put, List.getElem_toArray, List.getElem_cons_succ, List.getElem_cons_zero, List.setIfInBounds_toArray, List.set_cons_zero, List.set_cons_succ]
            refine wpAnyH_ready (rs := [8]) (by kernel_rfl) (by simp) ?_
            refine AllReadyH.cons rfl (fun K hK => ?_) AllReadyH.nil
            go_simp
            have hnl0 : ¬ w3.heap.size + 1 = w.heap.size := (by omega)
            have hnl1 : ¬ w3.heap.size + 1 = w.heap.size + 1 := (by omega)
            have hnl2 : ¬ w.heap.size = w3.heap.size + 1 := (by omega)
            have hnl3 : ¬ w.heap.size + 1 = w3.heap.size + 1 := (by omega)
            have hns0 : ¬ w3.heap.size = w.heap.size := (by omega)
            have hns1 : ¬ w3.heap.size = w.heap.size + 1 := (by omega)
            have hns2 : ¬ w.heap.size = w3.heap.size := (by omega)
            have hns3 : ¬ w.heap.size + 1 = w3.heap.size := (by omega)
            have hnx : ¬ w3.heap.size + 1 = w3.heap.size := (by omega)
            have hny : ¬ w3.heap.size = w3.heap.size + 1 := (by omega)
            go_wp2_with fail
            refine hK.out _ _ (by simp [go_sem, F4, y4w1, y4w0, y4wp1, y4wp2, y4w31, y4w30, y4w3p1, y4w3p2, hnl0, hnl1, hnl2, hnl3, hns0, hns1, hns2, hns3, hnx, hny]) (fun hHeld => ?_)
            clear hK K
            try simp only [Act.put, List.getElem_toArray, List.getElem_cons_succ, List.getElem_cons_zero, List.setIfInBounds_toArray, List.set_cons_zero, List.set_cons_succ]
            refine wpAnyH_ready (rs := [9]) (by kernel_rfl) (by simp) ?_
            refine AllReadyH.cons rfl (fun K hK => ?_) AllReadyH.nil
            go_simp
            go_wp2_with fail
            refine hK.out _ _ (by simp [go_sem, F4, y4w1, y4w0, y4wp1, y4wp2, y4w31, y4w30, y4w3p1, y4w3p2, hnl0, hnl1, hnl2, hnl3, hns0, hns1, hns2, hns3, hnx, hny]) (fun hHeld => ?_)
            clear hK K
            try simp only [Act.put, List.getElem_toArray, List.getElem_cons_succ, List.getElem_cons_zero, List.setIfInBounds_toArray, List.set_cons_zero, List.set_cons_succ]
            refine wpAnyH_done (by kernel_rfl) ?_ _
            go_wp2_with fail
            go_meet
            exact ⟨w3.heap.size + 1, w3.heap.size, gl, gs, rfl, rfl, (by omega), (by (first | omega | (simp <;> omega))), (by omega), (by (first | omega | (simp <;> omega))), (by omega), (by (first | omega | (simp <;> omega))), (by omega), (by (first | omega | (simp <;> omega))), (by repeat (first | with_reducible exact (hAl.below (Ew3_4)) | (with_reducible refine IArr.far ?_ ?_ _; rotate_left; (first | omega | (simp <;> omega))) | (with_reducible refine IArr.below ?_ (balloc (Below.refl _ _))))), (by repeat (first | with_reducible exact (hAs.below (Below.refl _ _)) | (with_reducible refine IArr.far ?_ ?_ _; rotate_left; (first | omega | (simp <;> omega))) | (with_reducible refine IArr.below ?_ (balloc (Below.refl _ _))))), HLl, (by repeat (first | with_reducible exact D4 | with_reducible apply bdrew | with_reducible apply bdrewN | with_reducible apply balloc | ((with_reducible refine bset ?_ ?_ _); rotate_left; (first | omega | (simp <;> omega))))), (by simp [Cls, go_sem, F4, y4w1, y4w0, y4wp1, y4wp2, y4w31, y4w30, y4w3p1, y4w3p2, hnl0, hnl1, hnl2, hnl3, hns0, hns1, hns2, hns3, hnx, hny]), (by simp [Cls, go_sem, F4, y4w1, y4w0, y4wp1, y4wp2, y4w31, y4w30, y4w3p1, y4w3p2, hnl0, hnl1, hnl2, hnl3, hns0, hns1, hns2, hns3, hnx, hny])⟩
    case bo11x6 =>
      go_simp
      have hSS : (w2.alloc (.cells #[.slice none 0 0] 22)).cell? ⟨w.heap.size, 0, none⟩ = some (.int .i64 (n : Int)) ∧ (w2.alloc (.cells #[.slice none 0 0] 22)).cell? ⟨w.heap.size, 1, none⟩ = some (.slice Ai t.init.length ci) ∧ (w2.alloc (.cells #[.slice none 0 0] 22)).cell? ⟨w.heap.size, 2, none⟩ = some (.slice Ag t.goal.length cg) ∧ (w2.alloc (.cells #[.slice none 0 0] 22)).cell? ⟨w.heap.size, 3, none⟩ = some (.slice Ao t.ops.length co) := (by simp [go_sem, F2, y2w1, y2w0, y2wp1, y2wp2])
      go_wp2_with fail
      refine hK.out _ _ hSS (fun hHeld => ?_)
      clear hK K
      try simp only [Act.put, List.getElem_toArray, List.getElem_cons_succ, List.getElem_cons_zero, List.setIfInBounds_toArray, List.set_cons_zero, List.set_cons_succ]
      refine wpAnyH_ready (rs := [2, 7]) (by kernel_rfl) (by simp) ?_
      refine (AllReadyH.cons rfl (fun K hK => ?bo124x2) (AllReadyH.cons rfl (fun K hK => ?bo124x7) AllReadyH.nil))
      case bo124x2 =>
        go_simp
        go_at_call 69
        refine (levels_anyn _ t Ai Ag Ao ci cg co (hT.below (by repeat (first | with_reducible exact D2 | with_reducible apply bdrew | with_reducible apply bdrewN | with_reducible apply balloc | ((with_reducible refine bset ?_ ?_ _); rotate_left; (first | omega | (simp <;> omega)))))) _ _ _ (hS.below (by repeat (first | with_reducible exact D2 | with_reducible apply bdrew | with_reducible apply bdrewN | with_reducible apply balloc | ((with_reducible refine bset ?_ ?_ _); rotate_left; (first | omega | (simp <;> omega)))))) hls n HN.out HV.out H2.out).mono ?_
        rintro e w3 ⟨gl, rfl, hgl, hAl, hVl, hB3⟩
        have D3 := dstep w hB3 (by repeat (first | with_reducible exact D2 | with_reducible apply bdrew | with_reducible apply bdrewN | with_reducible apply balloc | ((with_reducible refine bset ?_ ?_ _); rotate_left; (first | omega | (simp <;> omega)))))
        have d3s := D3.size
        have C3 := Cls.below (l := [(w.heap.size, 0, .int .i64 (n : Int)), (w.heap.size, 1, .slice Ai t.init.length ci), (w.heap.size, 2, .slice Ag t.goal.length cg), (w.heap.size, 3, .slice Ao t.ops.length co), (w.heap.size + 1, 0, .int .i64 0), (w.heap.size + 1, 1, .int .i64 0), (w2.heap.size, 0, .slice none 0 0)]) hB3 (by simp [Cls, go_sem, F2, y2w1, y2w0, y2wp1, y2wp2])
        have F3 := C3
        simp only [Cls, and_true] at F3
        have y3w1 : w.heap.size + 1 < w3.heap.size := C3.blk (b := w.heap.size + 1) (k := 0) (v := .int .i64 0) (by simp)
        have y3w0 : w.heap.size < w3.heap.size := (by omega)
        have y3wp1 : w.heap.size < w3.heap.size + 1 := (by omega)
        have y3wp2 : w.heap.size < w3.heap.size + 1 + 1 := (by omega)
        have y3w20 : w2.heap.size < w3.heap.size := C3.blk (b := w2.heap.size) (k := 0) (v := .slice none 0 0) (by simp)
        have y3w2p1 : w2.heap.size < w3.heap.size + 1 := (by omega)
        have y3w2p2 : w2.heap.size < w3.heap.size + 1 + 1 := (by omega)
        have HLl := Lib.hid hVl
        clear hVl
        have hzl := Arr.lt hAl
        (first | simp at hgl | skip)
        have hbsl := hB3.size
        (first | simp at hbsl | skip)
        have hSS : w3.cell? ⟨w.heap.size, 0, none⟩ = some (.int .i64 (n : Int)) ∧ w3.cell? ⟨w.heap.size, 1, none⟩ = some (.slice Ai t.init.length ci) ∧ w3.cell? ⟨w.heap.size, 2, none⟩ = some (.slice Ag t.goal.length cg) ∧ w3.cell? ⟨w.heap.size, 3, none⟩ = some (.slice Ao t.ops.length co) := (by have q := C3; simp only [Cls, and_true] at q; simp [q])
        go_wp2_with fail
        refine hK.out _ _ hSS (fun hHeld => ?_)
        clear hK K
        try simp only [Act.put, List.getElem_toArray, List.getElem_cons_succ, List.getElem_cons_zero, List.setIfInBounds_toArray, List.set_cons_zero, List.set_cons_succ]
        refine wpAnyH_ready (rs := [5, 7]) (by kernel_rfl) (by simp) ?_
        refine (AllReadyH.cons rfl (fun K hK => ?bo125x5) (AllReadyH.cons rfl (fun K hK => ?bo125x7) AllReadyH.nil))
        case bo125x5 =>
          go_simp
          go_at_call 68
          refine (supporters_anyn _ t Ai Ag Ao ci cg co (hT.below (by repeat (first | with_reducible exact D3 | with_reducible apply bdrew | with_reducible apply bdrewN | with_reducible apply balloc | ((with_reducible refine bset ?_ ?_ _); rotate_left; (first | omega | (simp <;> omega)))))) _ _ _ (hS.below (by repeat (first | with_reducible exact D3 | with_reducible apply bdrew | with_reducible apply bdrewN | with_reducible apply balloc | ((with_reducible refine bset ?_ ?_ _); rotate_left; (first | omega | (simp <;> omega)))))) hls n HN.out HV.out H2.out).mono ?_
          rintro e w4 ⟨gs, rfl, hgs, hAs, hVs, hB4⟩
          have D4 := dstep w hB4 (by repeat (first | with_reducible exact D3 | with_reducible apply bdrew | with_reducible apply bdrewN | with_reducible apply balloc | ((with_reducible refine bset ?_ ?_ _); rotate_left; (first | omega | (simp <;> omega)))))
          have d4s := D4.size
          have Ew3_4 := dstep w3 hB4 (by repeat (first | with_reducible exact Below.refl _ _ | with_reducible apply bdrew | with_reducible apply bdrewN | with_reducible apply balloc | ((with_reducible refine bset ?_ ?_ _); rotate_left; (first | omega | (simp <;> omega)))))
          have C4 := Cls.below (l := [(w.heap.size, 0, .int .i64 (n : Int)), (w.heap.size, 1, .slice Ai t.init.length ci), (w.heap.size, 2, .slice Ag t.goal.length cg), (w.heap.size, 3, .slice Ao t.ops.length co), (w.heap.size + 1, 0, .int .i64 0), (w.heap.size + 1, 1, .int .i64 0), (w2.heap.size, 0, .slice none 0 0)]) hB4 (by simp [Cls, go_sem, F3, y3w1, y3w0, y3wp1, y3wp2, y3w20, y3w2p1, y3w2p2])
          have F4 := C4
          simp only [Cls, and_true] at F4
          have y4w1 : w.heap.size + 1 < w4.heap.size := C4.blk (b := w.heap.size + 1) (k := 0) (v := .int .i64 0) (by simp)
          have y4w0 : w.heap.size < w4.heap.size := (by omega)
          have y4wp1 : w.heap.size < w4.heap.size + 1 := (by omega)
          have y4wp2 : w.heap.size < w4.heap.size + 1 + 1 := (by omega)
          have y4w20 : w2.heap.size < w4.heap.size := C4.blk (b := w2.heap.size) (k := 0) (v := .slice none 0 0) (by simp)
          have y4w2p1 : w2.heap.size < w4.heap.size + 1 := (by omega)
          have y4w2p2 : w2.heap.size < w4.heap.size + 1 + 1 := (by omega)
          have HLs := Lib.hid hVs
          clear hVs
          have hzs := Arr.lt hAs
          (first | simp at hgs | skip)
          have hbss := hB4.size
          (first | simp at hbss | skip)
          have hSS : w4.cell? ⟨w.heap.size, 0, none⟩ = some (.int .i64 (n : Int)) ∧ w4.cell? ⟨w.heap.size, 1, none⟩ = some (.slice Ai t.init.length ci) ∧ w4.cell? ⟨w.heap.size, 2, none⟩ = some (.slice Ag t.goal.length cg) ∧ w4.cell? ⟨w.heap.size, 3, none⟩ = some (.slice Ao t.ops.length co) := (by have q := C4; simp only [Cls, and_true] at q; simp [q])
          go_wp2_with fail
          refine hK.out _ _ hSS (fun hHeld => ?_)
          clear hK K
          try simp only [Act.put, List.getElem_toArray, List.getElem_cons_succ, List.getElem_cons_zero, List.setIfInBounds_toArray, List.set_cons_zero, List.set_cons_succ]
          refine wpAnyH_ready (rs := [7]) (by kernel_rfl) (by simp) ?_
          refine (AllReadyH.cons rfl (fun K hK => ?bo126x7) AllReadyH.nil)
          case bo126x7 =>
            go_simp
            have hSS : (w4.alloc (.cells #[.slice none 0 0] 22)).cell? ⟨w.heap.size, 0, none⟩ = some (.int .i64 (n : Int)) ∧ (w4.alloc (.cells #[.slice none 0 0] 22)).cell? ⟨w.heap.size, 1, none⟩ = some (.slice Ai t.init.length ci) ∧ (w4.alloc (.cells #[.slice none 0 0] 22)).cell? ⟨w.heap.size, 2, none⟩ = some (.slice Ag t.goal.length cg) ∧ (w4.alloc (.cells #[.slice none 0 0] 22)).cell? ⟨w.heap.size, 3, none⟩ = some (.slice Ao t.ops.length co) := (by simp [go_sem, F4, y4w1, y4w0, y4wp1, y4wp2, y4w20, y4w2p1, y4w2p2])
            go_wp2_with fail
            refine hK.out _ _ hSS (fun hHeld => ?_)
            clear hK K
            try simp only [Act.put, List.getElem_toArray, List.getElem_cons_succ, List.getElem_cons_zero, List.setIfInBounds_toArray, List.set_cons_zero, List.set_cons_succ]
            refine wpAnyH_ready (rs := [8]) (by kernel_rfl) (by simp) ?_
            refine AllReadyH.cons rfl (fun K hK => ?_) AllReadyH.nil
            go_simp
            have hnl0 : ¬ w2.heap.size = w.heap.size := (by omega)
            have hnl1 : ¬ w2.heap.size = w.heap.size + 1 := (by omega)
            have hnl2 : ¬ w.heap.size = w2.heap.size := (by omega)
            have hnl3 : ¬ w.heap.size + 1 = w2.heap.size := (by omega)
            have hns0 : ¬ w4.heap.size = w.heap.size := (by omega)
            have hns1 : ¬ w4.heap.size = w.heap.size + 1 := (by omega)
            have hns2 : ¬ w.heap.size = w4.heap.size := (by omega)
            have hns3 : ¬ w.heap.size + 1 = w4.heap.size := (by omega)
            have hnx : ¬ w2.heap.size = w4.heap.size := (by omega)
            have hny : ¬ w4.heap.size = w2.heap.size := (by omega)
            go_wp2_with fail
            refine hK.out _ _ (by simp [go_sem, F4, y4w1, y4w0, y4wp1, y4wp2, y4w20, y4w2p1, y4w2p2, hnl0, hnl1, hnl2, hnl3, hns0, hns1, hns2, hns3, hnx, hny]) (fun hHeld => ?_)
            clear hK K
            try simp only [Act.put, List.getElem_toArray, List.getElem_cons_succ, List.getElem_cons_zero, List.setIfInBounds_toArray, List.set_cons_zero, List.set_cons_succ]
            refine wpAnyH_ready (rs := [9]) (by kernel_rfl) (by simp) ?_
            refine AllReadyH.cons rfl (fun K hK => ?_) AllReadyH.nil
            go_simp
            go_wp2_with fail
            refine hK.out _ _ (by simp [go_sem, F4, y4w1, y4w0, y4wp1, y4wp2, y4w20, y4w2p1, y4w2p2, hnl0, hnl1, hnl2, hnl3, hns0, hns1, hns2, hns3, hnx, hny]) (fun hHeld => ?_)
            clear hK K
            try simp only [Act.put, List.getElem_toArray, List.getElem_cons_succ, List.getElem_cons_zero, List.setIfInBounds_toArray, List.set_cons_zero, List.set_cons_succ]
            refine wpAnyH_done (by kernel_rfl) ?_ _
            go_wp2_with fail
            go_meet
            exact ⟨w2.heap.size, w4.heap.size, gl, gs, rfl, rfl, (by omega), (by (first | omega | (simp <;> omega))), (by omega), (by (first | omega | (simp <;> omega))), (by omega), (by (first | omega | (simp <;> omega))), (by omega), (by (first | omega | (simp <;> omega))), (by repeat (first | with_reducible exact (hAl.below (Ew3_4)) | (with_reducible refine IArr.far ?_ ?_ _; rotate_left; (first | omega | (simp <;> omega))) | (with_reducible refine IArr.below ?_ (balloc (Below.refl _ _))))), (by repeat (first | with_reducible exact (hAs.below (Below.refl _ _)) | (with_reducible refine IArr.far ?_ ?_ _; rotate_left; (first | omega | (simp <;> omega))) | (with_reducible refine IArr.below ?_ (balloc (Below.refl _ _))))), HLl, (by repeat (first | with_reducible exact D4 | with_reducible apply bdrew | with_reducible apply bdrewN | with_reducible apply balloc | ((with_reducible refine bset ?_ ?_ _); rotate_left; (first | omega | (simp <;> omega))))), (by simp [Cls, go_sem, F4, y4w1, y4w0, y4wp1, y4wp2, y4w20, y4w2p1, y4w2p2, hnl0, hnl1, hnl2, hnl3, hns0, hns1, hns2, hns3, hnx, hny]), (by simp [Cls, go_sem, F4, y4w1, y4w0, y4wp1, y4wp2, y4w20, y4w2p1, y4w2p2, hnl0, hnl1, hnl2, hnl3, hns0, hns1, hns2, hns3, hnx, hny])⟩
        case bo125x7 =>
          go_simp
          have hSS : (w3.alloc (.cells #[.slice none 0 0] 22)).cell? ⟨w.heap.size, 0, none⟩ = some (.int .i64 (n : Int)) ∧ (w3.alloc (.cells #[.slice none 0 0] 22)).cell? ⟨w.heap.size, 1, none⟩ = some (.slice Ai t.init.length ci) ∧ (w3.alloc (.cells #[.slice none 0 0] 22)).cell? ⟨w.heap.size, 2, none⟩ = some (.slice Ag t.goal.length cg) ∧ (w3.alloc (.cells #[.slice none 0 0] 22)).cell? ⟨w.heap.size, 3, none⟩ = some (.slice Ao t.ops.length co) := (by simp [go_sem, F3, y3w1, y3w0, y3wp1, y3wp2, y3w20, y3w2p1, y3w2p2])
          go_wp2_with fail
          refine hK.out _ _ hSS (fun hHeld => ?_)
          clear hK K
          try simp only [Act.put, List.getElem_toArray, List.getElem_cons_succ, List.getElem_cons_zero, List.setIfInBounds_toArray, List.set_cons_zero, List.set_cons_succ]
          refine wpAnyH_ready (rs := [5]) (by kernel_rfl) (by simp) ?_
          refine (AllReadyH.cons rfl (fun K hK => ?bo129x5) AllReadyH.nil)
          case bo129x5 =>
            go_simp
            go_at_call 68
            refine (supporters_anyn _ t Ai Ag Ao ci cg co (hT.below (by repeat (first | with_reducible exact D3 | with_reducible apply bdrew | with_reducible apply bdrewN | with_reducible apply balloc | ((with_reducible refine bset ?_ ?_ _); rotate_left; (first | omega | (simp <;> omega)))))) _ _ _ (hS.below (by repeat (first | with_reducible exact D3 | with_reducible apply bdrew | with_reducible apply bdrewN | with_reducible apply balloc | ((with_reducible refine bset ?_ ?_ _); rotate_left; (first | omega | (simp <;> omega)))))) hls n HN.out HV.out H2.out).mono ?_
            rintro e w4 ⟨gs, rfl, hgs, hAs, hVs, hB4⟩
            have D4 := dstep w hB4 (by repeat (first | with_reducible exact D3 | with_reducible apply bdrew | with_reducible apply bdrewN | with_reducible apply balloc | ((with_reducible refine bset ?_ ?_ _); rotate_left; (first | omega | (simp <;> omega)))))
            have d4s := D4.size
            have Ew3_4 := dstep w3 hB4 (by repeat (first | with_reducible exact Below.refl _ _ | with_reducible apply bdrew | with_reducible apply bdrewN | with_reducible apply balloc | ((with_reducible refine bset ?_ ?_ _); rotate_left; (first | omega | (simp <;> omega)))))
            have C4 := Cls.below (l := [(w.heap.size, 0, .int .i64 (n : Int)), (w.heap.size, 1, .slice Ai t.init.length ci), (w.heap.size, 2, .slice Ag t.goal.length cg), (w.heap.size, 3, .slice Ao t.ops.length co), (w.heap.size + 1, 0, .int .i64 0), (w.heap.size + 1, 1, .int .i64 0), (w2.heap.size, 0, .slice none 0 0), (w3.heap.size, 0, .slice none 0 0)]) hB4 (by simp [Cls, go_sem, F3, y3w1, y3w0, y3wp1, y3wp2, y3w20, y3w2p1, y3w2p2])
            have F4 := C4
            simp only [Cls, and_true] at F4
            have y4w1 : w.heap.size + 1 < w4.heap.size := C4.blk (b := w.heap.size + 1) (k := 0) (v := .int .i64 0) (by simp)
            have y4w0 : w.heap.size < w4.heap.size := (by omega)
            have y4wp1 : w.heap.size < w4.heap.size + 1 := (by omega)
            have y4wp2 : w.heap.size < w4.heap.size + 1 + 1 := (by omega)
            have y4w20 : w2.heap.size < w4.heap.size := C4.blk (b := w2.heap.size) (k := 0) (v := .slice none 0 0) (by simp)
            have y4w2p1 : w2.heap.size < w4.heap.size + 1 := (by omega)
            have y4w2p2 : w2.heap.size < w4.heap.size + 1 + 1 := (by omega)
            have y4w30 : w3.heap.size < w4.heap.size := C4.blk (b := w3.heap.size) (k := 0) (v := .slice none 0 0) (by simp)
            have y4w3p1 : w3.heap.size < w4.heap.size + 1 := (by omega)
            have y4w3p2 : w3.heap.size < w4.heap.size + 1 + 1 := (by omega)
            have HLs := Lib.hid hVs
            clear hVs
            have hzs := Arr.lt hAs
            (first | simp at hgs | skip)
            have hbss := hB4.size
            (first | simp at hbss | skip)
            have hSS : w4.cell? ⟨w.heap.size, 0, none⟩ = some (.int .i64 (n : Int)) ∧ w4.cell? ⟨w.heap.size, 1, none⟩ = some (.slice Ai t.init.length ci) ∧ w4.cell? ⟨w.heap.size, 2, none⟩ = some (.slice Ag t.goal.length cg) ∧ w4.cell? ⟨w.heap.size, 3, none⟩ = some (.slice Ao t.ops.length co) := (by have q := C4; simp only [Cls, and_true] at q; simp [q])
            go_wp2_with fail
            refine hK.out _ _ hSS (fun hHeld => ?_)
            clear hK K
            try simp only [Act.put, List.getElem_toArray, List.getElem_cons_succ, List.getElem_cons_zero, List.setIfInBounds_toArray, List.set_cons_zero, List.set_cons_succ]
            refine wpAnyH_ready (rs := [8]) (by kernel_rfl) (by simp) ?_
            refine AllReadyH.cons rfl (fun K hK => ?_) AllReadyH.nil
            go_simp
            have hnl0 : ¬ w2.heap.size = w.heap.size := (by omega)
            have hnl1 : ¬ w2.heap.size = w.heap.size + 1 := (by omega)
            have hnl2 : ¬ w.heap.size = w2.heap.size := (by omega)
            have hnl3 : ¬ w.heap.size + 1 = w2.heap.size := (by omega)
            have hns0 : ¬ w3.heap.size = w.heap.size := (by omega)
            have hns1 : ¬ w3.heap.size = w.heap.size + 1 := (by omega)
            have hns2 : ¬ w.heap.size = w3.heap.size := (by omega)
            have hns3 : ¬ w.heap.size + 1 = w3.heap.size := (by omega)
            have hnx : ¬ w2.heap.size = w3.heap.size := (by omega)
            have hny : ¬ w3.heap.size = w2.heap.size := (by omega)
            go_wp2_with fail
            refine hK.out _ _ (by simp [go_sem, F4, y4w1, y4w0, y4wp1, y4wp2, y4w20, y4w2p1, y4w2p2, y4w30, y4w3p1, y4w3p2, hnl0, hnl1, hnl2, hnl3, hns0, hns1, hns2, hns3, hnx, hny]) (fun hHeld => ?_)
            clear hK K
            try simp only [Act.put, List.getElem_toArray, List.getElem_cons_succ, List.getElem_cons_zero, List.setIfInBounds_toArray, List.set_cons_zero, List.set_cons_succ]
            refine wpAnyH_ready (rs := [9]) (by kernel_rfl) (by simp) ?_
            refine AllReadyH.cons rfl (fun K hK => ?_) AllReadyH.nil
            go_simp
            go_wp2_with fail
            refine hK.out _ _ (by simp [go_sem, F4, y4w1, y4w0, y4wp1, y4wp2, y4w20, y4w2p1, y4w2p2, y4w30, y4w3p1, y4w3p2, hnl0, hnl1, hnl2, hnl3, hns0, hns1, hns2, hns3, hnx, hny]) (fun hHeld => ?_)
            clear hK K
            try simp only [Act.put, List.getElem_toArray, List.getElem_cons_succ, List.getElem_cons_zero, List.setIfInBounds_toArray, List.set_cons_zero, List.set_cons_succ]
            refine wpAnyH_done (by kernel_rfl) ?_ _
            go_wp2_with fail
            go_meet
            exact ⟨w2.heap.size, w3.heap.size, gl, gs, rfl, rfl, (by omega), (by (first | omega | (simp <;> omega))), (by omega), (by (first | omega | (simp <;> omega))), (by omega), (by (first | omega | (simp <;> omega))), (by omega), (by (first | omega | (simp <;> omega))), (by repeat (first | with_reducible exact (hAl.below (Ew3_4)) | (with_reducible refine IArr.far ?_ ?_ _; rotate_left; (first | omega | (simp <;> omega))) | (with_reducible refine IArr.below ?_ (balloc (Below.refl _ _))))), (by repeat (first | with_reducible exact (hAs.below (Below.refl _ _)) | (with_reducible refine IArr.far ?_ ?_ _; rotate_left; (first | omega | (simp <;> omega))) | (with_reducible refine IArr.below ?_ (balloc (Below.refl _ _))))), HLl, (by repeat (first | with_reducible exact D4 | with_reducible apply bdrew | with_reducible apply bdrewN | with_reducible apply balloc | ((with_reducible refine bset ?_ ?_ _); rotate_left; (first | omega | (simp <;> omega))))), (by simp [Cls, go_sem, F4, y4w1, y4w0, y4wp1, y4wp2, y4w20, y4w2p1, y4w2p2, y4w30, y4w3p1, y4w3p2, hnl0, hnl1, hnl2, hnl3, hns0, hns1, hns2, hns3, hnx, hny]), (by simp [Cls, go_sem, F4, y4w1, y4w0, y4wp1, y4wp2, y4w20, y4w2p1, y4w2p2, y4w30, y4w3p1, y4w3p2, hnl0, hnl1, hnl2, hnl3, hns0, hns1, hns2, hns3, hnx, hny])⟩
      case bo124x7 =>
        go_simp
        have hSS : ((w2.alloc (.cells #[.slice none 0 0] 22)).alloc (.cells #[.slice none 0 0] 22)).cell? ⟨w.heap.size, 0, none⟩ = some (.int .i64 (n : Int)) ∧ ((w2.alloc (.cells #[.slice none 0 0] 22)).alloc (.cells #[.slice none 0 0] 22)).cell? ⟨w.heap.size, 1, none⟩ = some (.slice Ai t.init.length ci) ∧ ((w2.alloc (.cells #[.slice none 0 0] 22)).alloc (.cells #[.slice none 0 0] 22)).cell? ⟨w.heap.size, 2, none⟩ = some (.slice Ag t.goal.length cg) ∧ ((w2.alloc (.cells #[.slice none 0 0] 22)).alloc (.cells #[.slice none 0 0] 22)).cell? ⟨w.heap.size, 3, none⟩ = some (.slice Ao t.ops.length co) := (by simp [go_sem, F2, y2w1, y2w0, y2wp1, y2wp2])
        go_wp2_with fail
        refine hK.out _ _ hSS (fun hHeld => ?_)
        clear hK K
        try simp only [Act.put, List.getElem_toArray, List.getElem_cons_succ, List.getElem_cons_zero, List.setIfInBounds_toArray, List.set_cons_zero, List.set_cons_succ]
        refine wpAnyH_ready (rs := [2]) (by kernel_rfl) (by simp) ?_
        refine (AllReadyH.cons rfl (fun K hK => ?bo132x2) AllReadyH.nil)
        case bo132x2 =>
          go_simp
          go_at_call 69
          refine (levels_anyn _ t Ai Ag Ao ci cg co (hT.below (by repeat (first | with_reducible exact D2 | with_reducible apply bdrew | with_reducible apply bdrewN | with_reducible apply balloc | ((with_reducible refine bset ?_ ?_ _); rotate_left; (first | omega | (simp <;> omega)))))) _ _ _ (hS.below (by repeat (first | with_reducible exact D2 | with_reducible apply bdrew | with_reducible apply bdrewN | with_reducible apply balloc | ((with_reducible refine bset ?_ ?_ _); rotate_left; (first | omega | (simp <;> omega)))))) hls n HN.out HV.out H2.out).mono ?_
          rintro e w3 ⟨gl, rfl, hgl, hAl, hVl, hB3⟩
          have D3 := dstep w hB3 (by repeat (first | with_reducible exact D2 | with_reducible apply bdrew | with_reducible apply bdrewN | with_reducible apply balloc | ((with_reducible refine bset ?_ ?_ _); rotate_left; (first | omega | (simp <;> omega)))))
          have d3s := D3.size
          have C3 := Cls.below (l := [(w.heap.size, 0, .int .i64 (n : Int)), (w.heap.size, 1, .slice Ai t.init.length ci), (w.heap.size, 2, .slice Ag t.goal.length cg), (w.heap.size, 3, .slice Ao t.ops.length co), (w.heap.size + 1, 0, .int .i64 0), (w.heap.size + 1, 1, .int .i64 0), (w2.heap.size, 0, .slice none 0 0), (w2.heap.size + 1, 0, .slice none 0 0)]) hB3 (by simp [Cls, go_sem, F2, y2w1, y2w0, y2wp1, y2wp2])
          have F3 := C3
          simp only [Cls, and_true] at F3
          have y3w1 : w.heap.size + 1 < w3.heap.size := C3.blk (b := w.heap.size + 1) (k := 0) (v := .int .i64 0) (by simp)
          have y3w0 : w.heap.size < w3.heap.size := (by omega)
          have y3wp1 : w.heap.size < w3.heap.size + 1 := (by omega)
          have y3wp2 : w.heap.size < w3.heap.size + 1 + 1 := (by omega)
          have y3w21 : w2.heap.size + 1 < w3.heap.size := C3.blk (b := w2.heap.size + 1) (k := 0) (v := .slice none 0 0) (by simp)
          have y3w20 : w2.heap.size < w3.heap.size := (by omega)
          have y3w2p1 : w2.heap.size < w3.heap.size + 1 := (by omega)
          have y3w2p2 : w2.heap.size < w3.heap.size + 1 + 1 := (by omega)
          have HLl := Lib.hid hVl
          clear hVl
          have hzl := Arr.lt hAl
          (first | simp at hgl | skip)
          have hbsl := hB3.size
          (first | simp at hbsl | skip)
          have hSS : w3.cell? ⟨w.heap.size, 0, none⟩ = some (.int .i64 (n : Int)) ∧ w3.cell? ⟨w.heap.size, 1, none⟩ = some (.slice Ai t.init.length ci) ∧ w3.cell? ⟨w.heap.size, 2, none⟩ = some (.slice Ag t.goal.length cg) ∧ w3.cell? ⟨w.heap.size, 3, none⟩ = some (.slice Ao t.ops.length co) := (by have q := C3; simp only [Cls, and_true] at q; simp [q])
          go_wp2_with fail
          refine hK.out _ _ hSS (fun hHeld => ?_)
          clear hK K
          try simp only [Act.put, List.getElem_toArray, List.getElem_cons_succ, List.getElem_cons_zero, List.setIfInBounds_toArray, List.set_cons_zero, List.set_cons_succ]
          refine wpAnyH_ready (rs := [5]) (by kernel_rfl) (by simp) ?_
          refine (AllReadyH.cons rfl (fun K hK => ?bo133x5) AllReadyH.nil)
          case bo133x5 =>
            go_simp
            go_at_call 68
            refine (supporters_anyn _ t Ai Ag Ao ci cg co (hT.below (by repeat (first | with_reducible exact D3 | with_reducible apply bdrew | with_reducible apply bdrewN | with_reducible apply balloc | ((with_reducible refine bset ?_ ?_ _); rotate_left; (first | omega | (simp <;> omega)))))) _ _ _ (hS.below (by repeat (first | with_reducible exact D3 | with_reducible apply bdrew | with_reducible apply bdrewN | with_reducible apply balloc | ((with_reducible refine bset ?_ ?_ _); rotate_left; (first | omega | (simp <;> omega)))))) hls n HN.out HV.out H2.out).mono ?_
            rintro e w4 ⟨gs, rfl, hgs, hAs, hVs, hB4⟩
            have D4 := dstep w hB4 (by repeat (first | with_reducible exact D3 | with_reducible apply bdrew | with_reducible apply bdrewN | with_reducible apply balloc | ((with_reducible refine bset ?_ ?_ _); rotate_left; (first | omega | (simp <;> omega)))))
            have d4s := D4.size
            have Ew3_4 := dstep w3 hB4 (by repeat (first | with_reducible exact Below.refl _ _ | with_reducible apply bdrew | with_reducible apply bdrewN | with_reducible apply balloc | ((with_reducible refine bset ?_ ?_ _); rotate_left; (first | omega | (simp <;> omega)))))
            have C4 := Cls.below (l := [(w.heap.size, 0, .int .i64 (n : Int)), (w.heap.size, 1, .slice Ai t.init.length ci), (w.heap.size, 2, .slice Ag t.goal.length cg), (w.heap.size, 3, .slice Ao t.ops.length co), (w.heap.size + 1, 0, .int .i64 0), (w.heap.size + 1, 1, .int .i64 0), (w2.heap.size, 0, .slice none 0 0), (w2.heap.size + 1, 0, .slice none 0 0)]) hB4 (by simp [Cls, go_sem, F3, y3w1, y3w0, y3wp1, y3wp2, y3w21, y3w20, y3w2p1, y3w2p2])
            have F4 := C4
            simp only [Cls, and_true] at F4
            have y4w1 : w.heap.size + 1 < w4.heap.size := C4.blk (b := w.heap.size + 1) (k := 0) (v := .int .i64 0) (by simp)
            have y4w0 : w.heap.size < w4.heap.size := (by omega)
            have y4wp1 : w.heap.size < w4.heap.size + 1 := (by omega)
            have y4wp2 : w.heap.size < w4.heap.size + 1 + 1 := (by omega)
            have y4w21 : w2.heap.size + 1 < w4.heap.size := C4.blk (b := w2.heap.size + 1) (k := 0) (v := .slice none 0 0) (by simp)
            have y4w20 : w2.heap.size < w4.heap.size := (by omega)
            have y4w2p1 : w2.heap.size < w4.heap.size + 1 := (by omega)
            have y4w2p2 : w2.heap.size < w4.heap.size + 1 + 1 := (by omega)
            have HLs := Lib.hid hVs
            clear hVs
            have hzs := Arr.lt hAs
            (first | simp at hgs | skip)
            have hbss := hB4.size
            (first | simp at hbss | skip)
            have hSS : w4.cell? ⟨w.heap.size, 0, none⟩ = some (.int .i64 (n : Int)) ∧ w4.cell? ⟨w.heap.size, 1, none⟩ = some (.slice Ai t.init.length ci) ∧ w4.cell? ⟨w.heap.size, 2, none⟩ = some (.slice Ag t.goal.length cg) ∧ w4.cell? ⟨w.heap.size, 3, none⟩ = some (.slice Ao t.ops.length co) := (by have q := C4; simp only [Cls, and_true] at q; simp [q])
            go_wp2_with fail
            refine hK.out _ _ hSS (fun hHeld => ?_)
            clear hK K
            try simp only [Act.put, List.getElem_toArray, List.getElem_cons_succ, List.getElem_cons_zero, List.setIfInBounds_toArray, List.set_cons_zero, List.set_cons_succ]
            refine wpAnyH_ready (rs := [8]) (by kernel_rfl) (by simp) ?_
            refine AllReadyH.cons rfl (fun K hK => ?_) AllReadyH.nil
            go_simp
            have hnl0 : ¬ w2.heap.size = w.heap.size := (by omega)
            have hnl1 : ¬ w2.heap.size = w.heap.size + 1 := (by omega)
            have hnl2 : ¬ w.heap.size = w2.heap.size := (by omega)
            have hnl3 : ¬ w.heap.size + 1 = w2.heap.size := (by omega)
            have hns0 : ¬ w2.heap.size + 1 = w.heap.size := (by omega)
            have hns1 : ¬ w2.heap.size + 1 = w.heap.size + 1 := (by omega)
            have hns2 : ¬ w.heap.size = w2.heap.size + 1 := (by omega)
            have hns3 : ¬ w.heap.size + 1 = w2.heap.size + 1 := (by omega)
            have hnx : ¬ w2.heap.size = w2.heap.size + 1 := (by omega)
            have hny : ¬ w2.heap.size + 1 = w2.heap.size := (by omega)
            go_wp2_with fail
            refine hK.out _ _ (by simp [go_sem, F4, y4w1, y4w0, y4wp1, y4wp2, y4w21, y4w20, y4w2p1, y4w2p2, hnl0, hnl1, hnl2, hnl3, hns0, hns1, hns2, hns3, hnx, hny]) (fun hHeld => ?_)
            clear hK K
            try simp only [Act.put, List.getElem_toArray, List.getElem_cons_succ, List.getElem_cons_zero, List.setIfInBounds_toArray, List.set_cons_zero, List.set_cons_succ]
            refine wpAnyH_ready (rs := [9]) (by kernel_rfl) (by simp) ?_
            refine AllReadyH.cons rfl (fun K hK => ?_) AllReadyH.nil
            go_simp
            go_wp2_with fail
            refine hK.out _ _ (by simp [go_sem, F4, y4w1, y4w0, y4wp1, y4wp2, y4w21, y4w20, y4w2p1, y4w2p2, hnl0, hnl1, hnl2, hnl3, hns0, hns1, hns2, hns3, hnx, hny]) (fun hHeld => ?_)
            clear hK K
            try simp only [Act.put, List.getElem_toArray, List.getElem_cons_succ, List.getElem_cons_zero, List.setIfInBounds_toArray, List.set_cons_zero, List.set_cons_succ]
            refine wpAnyH_done (by kernel_rfl) ?_ _
            go_wp2_with fail
            go_meet
            exact ⟨w2.heap.size, w2.heap.size + 1, gl, gs, rfl, rfl, (by omega), (by (first | omega | (simp <;> omega))), (by omega), (by (first | omega | (simp <;> omega))), (by omega), (by (first | omega | (simp <;> omega))), (by omega), (by (first | omega | (simp <;> omega))), (by repeat (first | with_reducible exact (hAl.below (Ew3_4)) | (with_reducible refine IArr.far ?_ ?_ _; rotate_left; (first | omega | (simp <;> omega))) | (with_reducible refine IArr.below ?_ (balloc (Below.refl _ _))))), (by repeat (first | with_reducible exact (hAs.below (Below.refl _ _)) | (with_reducible refine IArr.far ?_ ?_ _; rotate_left; (first | omega | (simp <;> omega))) | (with_reducible refine IArr.below ?_ (balloc (Below.refl _ _))))), HLl, (by repeat (first | with_reducible exact D4 | with_reducible apply bdrew | with_reducible apply bdrewN | with_reducible apply balloc | ((with_reducible refine bset ?_ ?_ _); rotate_left; (first | omega | (simp <;> omega))))), (by simp [Cls, go_sem, F4, y4w1, y4w0, y4wp1, y4wp2, y4w21, y4w20, y4w2p1, y4w2p2, hnl0, hnl1, hnl2, hnl3, hns0, hns1, hns2, hns3, hnx, hny]), (by simp [Cls, go_sem, F4, y4w1, y4w0, y4wp1, y4wp2, y4w21, y4w20, y4w2p1, y4w2p2, hnl0, hnl1, hnl2, hnl3, hns0, hns1, hns2, hns3, hnx, hny])⟩
    case bo11x7 =>
      go_simp
      have hSS : (w2.alloc (.cells #[.slice none 0 0] 22)).cell? ⟨w.heap.size, 0, none⟩ = some (.int .i64 (n : Int)) ∧ (w2.alloc (.cells #[.slice none 0 0] 22)).cell? ⟨w.heap.size, 1, none⟩ = some (.slice Ai t.init.length ci) ∧ (w2.alloc (.cells #[.slice none 0 0] 22)).cell? ⟨w.heap.size, 2, none⟩ = some (.slice Ag t.goal.length cg) ∧ (w2.alloc (.cells #[.slice none 0 0] 22)).cell? ⟨w.heap.size, 3, none⟩ = some (.slice Ao t.ops.length co) := (by simp [go_sem, F2, y2w1, y2w0, y2wp1, y2wp2])
      go_wp2_with fail
      refine hK.out _ _ hSS (fun hHeld => ?_)
      clear hK K
      try simp only [Act.put, List.getElem_toArray, List.getElem_cons_succ, List.getElem_cons_zero, List.setIfInBounds_toArray, List.set_cons_zero, List.set_cons_succ]
      refine wpAnyH_ready (rs := [2, 6]) (by kernel_rfl) (by simp) ?_
      refine (AllReadyH.cons rfl (fun K hK => ?bo136x2) (AllReadyH.cons rfl (fun K hK => ?bo136x6) AllReadyH.nil))
      case bo136x2 =>
        go_simp
        go_at_call 69
        refine (levels_anyn _ t Ai Ag Ao ci cg co (hT.below (by repeat (first | with_reducible exact D2 | with_reducible apply bdrew | with_reducible apply bdrewN | with_reducible apply balloc | ((with_reducible refine bset ?_ ?_ _); rotate_left; (first | omega | (simp <;> omega)))))) _ _ _ (hS.below (by repeat (first | with_reducible exact D2 | with_reducible apply bdrew | with_reducible apply bdrewN | with_reducible apply balloc | ((with_reducible refine bset ?_ ?_ _); rotate_left; (first | omega | (simp <;> omega)))))) hls n HN.out HV.out H2.out).mono ?_
        rintro e w3 ⟨gl, rfl, hgl, hAl, hVl, hB3⟩
        have D3 := dstep w hB3 (by repeat (first | with_reducible exact D2 | with_reducible apply bdrew | with_reducible apply bdrewN | with_reducible apply balloc | ((with_reducible refine bset ?_ ?_ _); rotate_left; (first | omega | (simp <;> omega)))))
        have d3s := D3.size
        have C3 := Cls.below (l := [(w.heap.size, 0, .int .i64 (n : Int)), (w.heap.size, 1, .slice Ai t.init.length ci), (w.heap.size, 2, .slice Ag t.goal.length cg), (w.heap.size, 3, .slice Ao t.ops.length co), (w.heap.size + 1, 0, .int .i64 0), (w.heap.size + 1, 1, .int .i64 0), (w2.heap.size, 0, .slice none 0 0)]) hB3 (by simp [Cls, go_sem, F2, y2w1, y2w0, y2wp1, y2wp2])
        have F3 := C3
        simp only [Cls, and_true] at F3
        have y3w1 : w.heap.size + 1 < w3.heap.size := C3.blk (b := w.heap.size + 1) (k := 0) (v := .int .i64 0) (by simp)
        have y3w0 : w.heap.size < w3.heap.size := (by omega)
        have y3wp1 : w.heap.size < w3.heap.size + 1 := (by omega)
        have y3wp2 : w.heap.size < w3.heap.size + 1 + 1 := (by omega)
        have y3w20 : w2.heap.size < w3.heap.size := C3.blk (b := w2.heap.size) (k := 0) (v := .slice none 0 0) (by simp)
        have y3w2p1 : w2.heap.size < w3.heap.size + 1 := (by omega)
        have y3w2p2 : w2.heap.size < w3.heap.size + 1 + 1 := (by omega)
        have HLl := Lib.hid hVl
        clear hVl
        have hzl := Arr.lt hAl
        (first | simp at hgl | skip)
        have hbsl := hB3.size
        (first | simp at hbsl | skip)
        have hSS : w3.cell? ⟨w.heap.size, 0, none⟩ = some (.int .i64 (n : Int)) ∧ w3.cell? ⟨w.heap.size, 1, none⟩ = some (.slice Ai t.init.length ci) ∧ w3.cell? ⟨w.heap.size, 2, none⟩ = some (.slice Ag t.goal.length cg) ∧ w3.cell? ⟨w.heap.size, 3, none⟩ = some (.slice Ao t.ops.length co) := (by have q := C3; simp only [Cls, and_true] at q; simp [q])
        go_wp2_with fail
        refine hK.out _ _ hSS (fun hHeld => ?_)
        clear hK K
        try simp only [Act.put, List.getElem_toArray, List.getElem_cons_succ, List.getElem_cons_zero, List.setIfInBounds_toArray, List.set_cons_zero, List.set_cons_succ]
        refine wpAnyH_ready (rs := [5, 6]) (by kernel_rfl) (by simp) ?_
        refine (AllReadyH.cons rfl (fun K hK => ?bo137x5) (AllReadyH.cons rfl (fun K hK => ?bo137x6) AllReadyH.nil))
        case bo137x5 =>
          go_simp
          go_at_call 68
          refine (supporters_anyn _ t Ai Ag Ao ci cg co (hT.below (by repeat (first | with_reducible exact D3 | with_reducible apply bdrew | with_reducible apply bdrewN | with_reducible apply balloc | ((with_reducible refine bset ?_ ?_ _); rotate_left; (first | omega | (simp <;> omega)))))) _ _ _ (hS.below (by repeat (first | with_reducible exact D3 | with_reducible apply bdrew | with_reducible apply bdrewN | with_reducible apply balloc | ((with_reducible refine bset ?_ ?_ _); rotate_left; (first | omega | (simp <;> omega)))))) hls n HN.out HV.out H2.out).mono ?_
          rintro e w4 ⟨gs, rfl, hgs, hAs, hVs, hB4⟩
          have D4 := dstep w hB4 (by repeat (first | with_reducible exact D3 | with_reducible apply bdrew | with_reducible apply bdrewN | with_reducible apply balloc | ((with_reducible refine bset ?_ ?_ _); rotate_left; (first | omega | (simp <;> omega)))))
          have d4s := D4.size
          have Ew3_4 := dstep w3 hB4 (by repeat (first | with_reducible exact Below.refl _ _ | with_reducible apply bdrew | with_reducible apply bdrewN | with_reducible apply balloc | ((with_reducible refine bset ?_ ?_ _); rotate_left; (first | omega | (simp <;> omega)))))
          have C4 := Cls.below (l := [(w.heap.size, 0, .int .i64 (n : Int)), (w.heap.size, 1, .slice Ai t.init.length ci), (w.heap.size, 2, .slice Ag t.goal.length cg), (w.heap.size, 3, .slice Ao t.ops.length co), (w.heap.size + 1, 0, .int .i64 0), (w.heap.size + 1, 1, .int .i64 0), (w2.heap.size, 0, .slice none 0 0)]) hB4 (by simp [Cls, go_sem, F3, y3w1, y3w0, y3wp1, y3wp2, y3w20, y3w2p1, y3w2p2])
          have F4 := C4
          simp only [Cls, and_true] at F4
          have y4w1 : w.heap.size + 1 < w4.heap.size := C4.blk (b := w.heap.size + 1) (k := 0) (v := .int .i64 0) (by simp)
          have y4w0 : w.heap.size < w4.heap.size := (by omega)
          have y4wp1 : w.heap.size < w4.heap.size + 1 := (by omega)
          have y4wp2 : w.heap.size < w4.heap.size + 1 + 1 := (by omega)
          have y4w20 : w2.heap.size < w4.heap.size := C4.blk (b := w2.heap.size) (k := 0) (v := .slice none 0 0) (by simp)
          have y4w2p1 : w2.heap.size < w4.heap.size + 1 := (by omega)
          have y4w2p2 : w2.heap.size < w4.heap.size + 1 + 1 := (by omega)
          have HLs := Lib.hid hVs
          clear hVs
          have hzs := Arr.lt hAs
          (first | simp at hgs | skip)
          have hbss := hB4.size
          (first | simp at hbss | skip)
          have hSS : w4.cell? ⟨w.heap.size, 0, none⟩ = some (.int .i64 (n : Int)) ∧ w4.cell? ⟨w.heap.size, 1, none⟩ = some (.slice Ai t.init.length ci) ∧ w4.cell? ⟨w.heap.size, 2, none⟩ = some (.slice Ag t.goal.length cg) ∧ w4.cell? ⟨w.heap.size, 3, none⟩ = some (.slice Ao t.ops.length co) := (by have q := C4; simp only [Cls, and_true] at q; simp [q])
          go_wp2_with fail
          refine hK.out _ _ hSS (fun hHeld => ?_)
          clear hK K
          try simp only [Act.put, List.getElem_toArray, List.getElem_cons_succ, List.getElem_cons_zero, List.setIfInBounds_toArray, List.set_cons_zero, List.set_cons_succ]
          refine wpAnyH_ready (rs := [6]) (by kernel_rfl) (by simp) ?_
          refine (AllReadyH.cons rfl (fun K hK => ?bo138x6) AllReadyH.nil)
          case bo138x6 =>
            go_simp
            have hSS : (w4.alloc (.cells #[.slice none 0 0] 22)).cell? ⟨w.heap.size, 0, none⟩ = some (.int .i64 (n : Int)) ∧ (w4.alloc (.cells #[.slice none 0 0] 22)).cell? ⟨w.heap.size, 1, none⟩ = some (.slice Ai t.init.length ci) ∧ (w4.alloc (.cells #[.slice none 0 0] 22)).cell? ⟨w.heap.size, 2, none⟩ = some (.slice Ag t.goal.length cg) ∧ (w4.alloc (.cells #[.slice none 0 0] 22)).cell? ⟨w.heap.size, 3, none⟩ = some (.slice Ao t.ops.length co) := (by simp [go_sem, F4, y4w1, y4w0, y4wp1, y4wp2, y4w20, y4w2p1, y4w2p2])
            go_wp2_with fail
            refine hK.out _ _ hSS (fun hHeld => ?_)
            clear hK K
            try simp only [Act.put, List.getElem_toArray, List.getElem_cons_succ, List.getElem_cons_zero, List.setIfInBounds_toArray, List.set_cons_zero, List.set_cons_succ]
            refine wpAnyH_ready (rs := [8]) (by kernel_rfl) (by simp) ?_
            refine AllReadyH.cons rfl (fun K hK => ?_) AllReadyH.nil
            go_simp
            have hnl0 : ¬ w4.heap.size = w.heap.size := (by omega)
            have hnl1 : ¬ w4.heap.size = w.heap.size + 1 := (by omega)
            have hnl2 : ¬ w.heap.size = w4.heap.size := (by omega)
            have hnl3 : ¬ w.heap.size + 1 = w4.heap.size := (by omega)
            have hns0 : ¬ w2.heap.size = w.heap.size := (by omega)
            have hns1 : ¬ w2.heap.size = w.heap.size + 1 := (by omega)
            have hns2 : ¬ w.heap.size = w2.heap.size := (by omega)
            have hns3 : ¬ w.heap.size + 1 = w2.heap.size := (by omega)
            have hnx : ¬ w4.heap.size = w2.heap.size := (by omega)
            have hny : ¬ w2.heap.size = w4.heap.size := (by omega)
            go_wp2_with fail
            refine hK.out _ _ (by simp [go_sem, F4, y4w1, y4w0, y4wp1, y4wp2, y4w20, y4w2p1, y4w2p2, hnl0, hnl1, hnl2, hnl3, hns0, hns1, hns2, hns3, hnx, hny]) (fun hHeld => ?_)
            clear hK K
            try simp only [Act.put, List.getElem_toArray, List.getElem_cons_succ, List.getElem_cons_zero, List.setIfInBounds_toArray, List.set_cons_zero, List.set_cons_succ]
            refine wpAnyH_ready (rs := [9]) (by kernel_rfl) (by simp) ?_
            refine AllReadyH.cons rfl (fun K hK => ?_) AllReadyH.nil
            go_simp
            go_wp2_with fail
            refine hK.out _ _ (by simp [go_sem, F4, y4w1, y4w0, y4wp1, y4wp2, y4w20, y4w2p1, y4w2p2, hnl0, hnl1, hnl2, hnl3, hns0, hns1, hns2, hns3, hnx, hny]) (fun hHeld => ?_)
            clear hK K
            try simp only [Act.put, List.getElem_toArray, List.getElem_cons_succ, List.getElem_cons_zero, List.setIfInBounds_toArray, List.set_cons_zero, List.set_cons_succ]
            refine wpAnyH_done (by kernel_rfl) ?_ _
            go_wp2_with fail
            go_meet
            exact ⟨w4.heap.size, w2.heap.size, gl, gs, rfl, rfl, (by omega), (by (first | omega | (simp <;> omega))), (by omega), (by (first | omega | (simp <;> omega))), (by omega), (by (first | omega | (simp <;> omega))), (by omega), (by (first | omega | (simp <;> omega))), (by repeat (first | with_reducible exact (hAl.below (Ew3_4)) | (with_reducible refine IArr.far ?_ ?_ _; rotate_left; (first | omega | (simp <;> omega))) | (with_reducible refine IArr.below ?_ (balloc (Below.refl _ _))))), (by repeat (first | with_reducible exact (hAs.below (Below.refl _ _)) | (with_reducible refine IArr.far ?_ ?_ _; rotate_left; (first | omega | (simp <;> omega))) | (with_reducible refine IArr.below ?_ (balloc (Below.refl _ _))))), HLl, (by repeat (first | with_reducible exact D4 | with_reducible apply bdrew | with_reducible apply bdrewN | with_reducible apply balloc | ((with_reducible refine bset ?_ ?_ _); rotate_left; (first | omega | (simp <;> omega))))), (by simp [Cls, go_sem, F4, y4w1, y4w0, y4wp1, y4wp2, y4w20, y4w2p1, y4w2p2, hnl0, hnl1, hnl2, hnl3, hns0, hns1, hns2, hns3, hnx, hny]), (by simp [Cls, go_sem, F4, y4w1, y4w0, y4wp1, y4wp2, y4w20, y4w2p1, y4w2p2, hnl0, hnl1, hnl2, hnl3, hns0, hns1, hns2, hns3, hnx, hny])⟩
        case bo137x6 =>
          go_simp
          have hSS : (w3.alloc (.cells #[.slice none 0 0] 22)).cell? ⟨w.heap.size, 0, none⟩ = some (.int .i64 (n : Int)) ∧ (w3.alloc (.cells #[.slice none 0 0] 22)).cell? ⟨w.heap.size, 1, none⟩ = some (.slice Ai t.init.length ci) ∧ (w3.alloc (.cells #[.slice none 0 0] 22)).cell? ⟨w.heap.size, 2, none⟩ = some (.slice Ag t.goal.length cg) ∧ (w3.alloc (.cells #[.slice none 0 0] 22)).cell? ⟨w.heap.size, 3, none⟩ = some (.slice Ao t.ops.length co) := (by simp [go_sem, F3, y3w1, y3w0, y3wp1, y3wp2, y3w20, y3w2p1, y3w2p2])
          go_wp2_with fail
          refine hK.out _ _ hSS (fun hHeld => ?_)
          clear hK K
          try simp only [Act.put, List.getElem_toArray, List.getElem_cons_succ, List.getElem_cons_zero, List.setIfInBounds_toArray, List.set_cons_zero, List.set_cons_succ]
          refine wpAnyH_ready (rs := [5]) (by kernel_rfl) (by simp) ?_
          refine (AllReadyH.cons rfl (fun K hK => ?bo141x5) AllReadyH.nil)
          case bo141x5 =>
            go_simp
            go_at_call 68
            refine (supporters_anyn _ t Ai Ag Ao ci cg co (hT.below (by repeat (first | with_reducible exact D3 | with_reducible apply bdrew | with_reducible apply bdrewN | with_reducible apply balloc | ((with_reducible refine bset ?_ ?_ _); rotate_left; (first | omega | (simp <;> omega)))))) _ _ _ (hS.below (by repeat (first | with_reducible exact D3 | with_reducible apply bdrew | with_reducible apply bdrewN | with_reducible apply balloc | ((with_reducible refine bset ?_ ?_ _); rotate_left; (first | omega | (simp <;> omega)))))) hls n HN.out HV.out H2.out).mono ?_
            rintro e w4 ⟨gs, rfl, hgs, hAs, hVs, hB4⟩
            have D4 := dstep w hB4 (by repeat (first | with_reducible exact D3 | with_reducible apply bdrew | with_reducible apply bdrewN | with_reducible apply balloc | ((with_reducible refine bset ?_ ?_ _); rotate_left; (first | omega | (simp <;> omega)))))
            have d4s := D4.size
            have Ew3_4 := dstep w3 hB4 (by repeat (first | with_reducible exact Below.refl _ _ | with_reducible apply bdrew | with_reducible apply bdrewN | with_reducible apply balloc | ((with_reducible refine bset ?_ ?_ _); rotate_left; (first | omega | (simp <;> omega)))))
            have C4 := Cls.below (l := [(w.heap.size, 0, .int .i64 (n : Int)), (w.heap.size, 1, .slice Ai t.init.length ci), (w.heap.size, 2, .slice Ag t.goal.length cg), (w.heap.size, 3, .slice Ao t.ops.length co), (w.heap.size + 1, 0, .int .i64 0), (w.heap.size + 1, 1, .int .i64 0), (w2.heap.size, 0, .slice none 0 0), (w3.heap.size, 0, .slice none 0 0)]) hB4 (by simp [Cls, go_sem, F3, y3w1, y3w0, y3wp1, y3wp2, y3w20, y3w2p1, y3w2p2])
            have F4 := C4
            simp only [Cls, and_true] at F4
            have y4w1 : w.heap.size + 1 < w4.heap.size := C4.blk (b := w.heap.size + 1) (k := 0) (v := .int .i64 0) (by simp)
            have y4w0 : w.heap.size < w4.heap.size := (by omega)
            have y4wp1 : w.heap.size < w4.heap.size + 1 := (by omega)
            have y4wp2 : w.heap.size < w4.heap.size + 1 + 1 := (by omega)
            have y4w20 : w2.heap.size < w4.heap.size := C4.blk (b := w2.heap.size) (k := 0) (v := .slice none 0 0) (by simp)
            have y4w2p1 : w2.heap.size < w4.heap.size + 1 := (by omega)
            have y4w2p2 : w2.heap.size < w4.heap.size + 1 + 1 := (by omega)
            have y4w30 : w3.heap.size < w4.heap.size := C4.blk (b := w3.heap.size) (k := 0) (v := .slice none 0 0) (by simp)
            have y4w3p1 : w3.heap.size < w4.heap.size + 1 := (by omega)
            have y4w3p2 : w3.heap.size < w4.heap.size + 1 + 1 := (by omega)
            have HLs := Lib.hid hVs
            clear hVs
            have hzs := Arr.lt hAs
            (first | simp at hgs | skip)
            have hbss := hB4.size
            (first | simp at hbss | skip)
            have hSS : w4.cell? ⟨w.heap.size, 0, none⟩ = some (.int .i64 (n : Int)) ∧ w4.cell? ⟨w.heap.size, 1, none⟩ = some (.slice Ai t.init.length ci) ∧ w4.cell? ⟨w.heap.size, 2, none⟩ = some (.slice Ag t.goal.length cg) ∧ w4.cell? ⟨w.heap.size, 3, none⟩ = some (.slice Ao t.ops.length co) := (by have q := C4; simp only [Cls, and_true] at q; simp [q])
            go_wp2_with fail
            refine hK.out _ _ hSS (fun hHeld => ?_)
            clear hK K
            try simp only [Act.put, List.getElem_toArray, List.getElem_cons_succ, List.getElem_cons_zero, List.setIfInBounds_toArray, List.set_cons_zero, List.set_cons_succ]
            refine wpAnyH_ready (rs := [8]) (by kernel_rfl) (by simp) ?_
            refine AllReadyH.cons rfl (fun K hK => ?_) AllReadyH.nil
            go_simp
            have hnl0 : ¬ w3.heap.size = w.heap.size := (by omega)
            have hnl1 : ¬ w3.heap.size = w.heap.size + 1 := (by omega)
            have hnl2 : ¬ w.heap.size = w3.heap.size := (by omega)
            have hnl3 : ¬ w.heap.size + 1 = w3.heap.size := (by omega)
            have hns0 : ¬ w2.heap.size = w.heap.size := (by omega)
            have hns1 : ¬ w2.heap.size = w.heap.size + 1 := (by omega)
            have hns2 : ¬ w.heap.size = w2.heap.size := (by omega)
            have hns3 : ¬ w.heap.size + 1 = w2.heap.size := (by omega)
            have hnx : ¬ w3.heap.size = w2.heap.size := (by omega)
            have hny : ¬ w2.heap.size = w3.heap.size := (by omega)
            go_wp2_with fail
            refine hK.out _ _ (by simp [go_sem, F4, y4w1, y4w0, y4wp1, y4wp2, y4w20, y4w2p1, y4w2p2, y4w30, y4w3p1, y4w3p2, hnl0, hnl1, hnl2, hnl3, hns0, hns1, hns2, hns3, hnx, hny]) (fun hHeld => ?_)
            clear hK K
            try simp only [Act.put, List.getElem_toArray, List.getElem_cons_succ, List.getElem_cons_zero, List.setIfInBounds_toArray, List.set_cons_zero, List.set_cons_succ]
            refine wpAnyH_ready (rs := [9]) (by kernel_rfl) (by simp) ?_
            refine AllReadyH.cons rfl (fun K hK => ?_) AllReadyH.nil
            go_simp
            go_wp2_with fail
            refine hK.out _ _ (by simp [go_sem, F4, y4w1, y4w0, y4wp1, y4wp2, y4w20, y4w2p1, y4w2p2, y4w30, y4w3p1, y4w3p2, hnl0, hnl1, hnl2, hnl3, hns0, hns1, hns2, hns3, hnx, hny]) (fun hHeld => ?_)
            clear hK K
            try simp only [Act.put, List.getElem_toArray, List.getElem_cons_succ, List.getElem_cons_zero, List.setIfInBounds_toArray, List.set_cons_zero, List.set_cons_succ]
            refine wpAnyH_done (by kernel_rfl) ?_ _
            go_wp2_with fail
            go_meet
            exact ⟨w3.heap.size, w2.heap.size, gl, gs, rfl, rfl, (by omega), (by (first | omega | (simp <;> omega))), (by omega), (by (first | omega | (simp <;> omega))), (by omega), (by (first | omega | (simp <;> omega))), (by omega), (by (first | omega | (simp <;> omega))), (by repeat (first | with_reducible exact (hAl.below (Ew3_4)) | (with_reducible refine IArr.far ?_ ?_ _; rotate_left; (first | omega | (simp <;> omega))) | (with_reducible refine IArr.below ?_ (balloc (Below.refl _ _))))), (by repeat (first | with_reducible exact (hAs.below (Below.refl _ _)) | (with_reducible refine IArr.far ?_ ?_ _; rotate_left; (first | omega | (simp <;> omega))) | (with_reducible refine IArr.below ?_ (balloc (Below.refl _ _))))), HLl, (by repeat (first | with_reducible exact D4 | with_reducible apply bdrew | with_reducible apply bdrewN | with_reducible apply balloc | ((with_reducible refine bset ?_ ?_ _); rotate_left; (first | omega | (simp <;> omega))))), (by simp [Cls, go_sem, F4, y4w1, y4w0, y4wp1, y4wp2, y4w20, y4w2p1, y4w2p2, y4w30, y4w3p1, y4w3p2, hnl0, hnl1, hnl2, hnl3, hns0, hns1, hns2, hns3, hnx, hny]), (by simp [Cls, go_sem, F4, y4w1, y4w0, y4wp1, y4wp2, y4w20, y4w2p1, y4w2p2, y4w30, y4w3p1, y4w3p2, hnl0, hnl1, hnl2, hnl3, hns0, hns1, hns2, hns3, hnx, hny])⟩
      case bo136x6 =>
        go_simp
        have hSS : ((w2.alloc (.cells #[.slice none 0 0] 22)).alloc (.cells #[.slice none 0 0] 22)).cell? ⟨w.heap.size, 0, none⟩ = some (.int .i64 (n : Int)) ∧ ((w2.alloc (.cells #[.slice none 0 0] 22)).alloc (.cells #[.slice none 0 0] 22)).cell? ⟨w.heap.size, 1, none⟩ = some (.slice Ai t.init.length ci) ∧ ((w2.alloc (.cells #[.slice none 0 0] 22)).alloc (.cells #[.slice none 0 0] 22)).cell? ⟨w.heap.size, 2, none⟩ = some (.slice Ag t.goal.length cg) ∧ ((w2.alloc (.cells #[.slice none 0 0] 22)).alloc (.cells #[.slice none 0 0] 22)).cell? ⟨w.heap.size, 3, none⟩ = some (.slice Ao t.ops.length co) := (by simp [go_sem, F2, y2w1, y2w0, y2wp1, y2wp2])
        go_wp2_with fail
        refine hK.out _ _ hSS (fun hHeld => ?_)
        clear hK K
        try simp only [Act.put, List.getElem_toArray, List.getElem_cons_succ, List.getElem_cons_zero, List.setIfInBounds_toArray, List.set_cons_zero, List.set_cons_succ]
        refine wpAnyH_ready (rs := [2]) (by kernel_rfl) (by simp) ?_
        refine (AllReadyH.cons rfl (fun K hK => ?bo144x2) AllReadyH.nil)
        case bo144x2 =>
          go_simp
          go_at_call 69
          refine (levels_anyn _ t Ai Ag Ao ci cg co (hT.below (by repeat (first | with_reducible exact D2 | with_reducible apply bdrew | with_reducible apply bdrewN | with_reducible apply balloc | ((with_reducible refine bset ?_ ?_ _); rotate_left; (first | omega | (simp <;> omega)))))) _ _ _ (hS.below (by repeat (first | with_reducible exact D2 | with_reducible apply bdrew | with_reducible apply bdrewN | with_reducible apply balloc | ((with_reducible refine bset ?_ ?_ _); rotate_left; (first | omega | (simp <;> omega)))))) hls n HN.out HV.out H2.out).mono ?_
          rintro e w3 ⟨gl, rfl, hgl, hAl, hVl, hB3⟩
          have D3 := dstep w hB3 (by repeat (first | with_reducible exact D2 | with_reducible apply bdrew | with_reducible apply bdrewN | with_reducible apply balloc | ((with_reducible refine bset ?_ ?_ _); rotate_left; (first | omega | (simp <;> omega)))))
          have d3s := D3.size
          have C3 := Cls.below (l := [(w.heap.size, 0, .int .i64 (n : Int)), (w.heap.size, 1, .slice Ai t.init.length ci), (w.heap.size, 2, .slice Ag t.goal.length cg), (w.heap.size, 3, .slice Ao t.ops.length co), (w.heap.size + 1, 0, .int .i64 0), (w.heap.size + 1, 1, .int .i64 0), (w2.heap.size, 0, .slice none 0 0), (w2.heap.size + 1, 0, .slice none 0 0)]) hB3 (by simp [Cls, go_sem, F2, y2w1, y2w0, y2wp1, y2wp2])
          have F3 := C3
          simp only [Cls, and_true] at F3
          have y3w1 : w.heap.size + 1 < w3.heap.size := C3.blk (b := w.heap.size + 1) (k := 0) (v := .int .i64 0) (by simp)
          have y3w0 : w.heap.size < w3.heap.size := (by omega)
          have y3wp1 : w.heap.size < w3.heap.size + 1 := (by omega)
          have y3wp2 : w.heap.size < w3.heap.size + 1 + 1 := (by omega)
          have y3w21 : w2.heap.size + 1 < w3.heap.size := C3.blk (b := w2.heap.size + 1) (k := 0) (v := .slice none 0 0) (by simp)
          have y3w20 : w2.heap.size < w3.heap.size := (by omega)
          have y3w2p1 : w2.heap.size < w3.heap.size + 1 := (by omega)
          have y3w2p2 : w2.heap.size < w3.heap.size + 1 + 1 := (by omega)
          have HLl := Lib.hid hVl
          clear hVl
          have hzl := Arr.lt hAl
          (first | simp at hgl | skip)
          have hbsl := hB3.size
          (first | simp at hbsl | skip)
          have hSS : w3.cell? ⟨w.heap.size, 0, none⟩ = some (.int .i64 (n : Int)) ∧ w3.cell? ⟨w.heap.size, 1, none⟩ = some (.slice Ai t.init.length ci) ∧ w3.cell? ⟨w.heap.size, 2, none⟩ = some (.slice Ag t.goal.length cg) ∧ w3.cell? ⟨w.heap.size, 3, none⟩ = some (.slice Ao t.ops.length co) := (by have q := C3; simp only [Cls, and_true] at q; simp [q])
          go_wp2_with fail
          refine hK.out _ _ hSS (fun hHeld => ?_)
          clear hK K
          try simp only [Act.put, List.getElem_toArray, List.getElem_cons_succ, List.getElem_cons_zero, List.setIfInBounds_toArray, List.set_cons_zero, List.set_cons_succ]
          refine wpAnyH_ready (rs := [5]) (by kernel_rfl) (by simp) ?_
          refine (AllReadyH.cons rfl (fun K hK => ?bo145x5) AllReadyH.nil)
          case bo145x5 =>
            go_simp
            go_at_call 68
            refine (supporters_anyn _ t Ai Ag Ao ci cg co (hT.below (by repeat (first | with_reducible exact D3 | with_reducible apply bdrew | with_reducible apply bdrewN | with_reducible apply balloc | ((with_reducible refine bset ?_ ?_ _); rotate_left; (first | omega | (simp <;> omega)))))) _ _ _ (hS.below (by repeat (first | with_reducible exact D3 | with_reducible apply bdrew | with_reducible apply bdrewN | with_reducible apply balloc | ((with_reducible refine bset ?_ ?_ _); rotate_left; (first | omega | (simp <;> omega)))))) hls n HN.out HV.out H2.out).mono ?_
            rintro e w4 ⟨gs, rfl, hgs, hAs, hVs, hB4⟩
            have D4 := dstep w hB4 (by repeat (first | with_reducible exact D3 | with_reducible apply bdrew | with_reducible apply bdrewN | with_reducible apply balloc | ((with_reducible refine bset ?_ ?_ _); rotate_left; (first | omega | (simp <;> omega)))))
            have d4s := D4.size
            have Ew3_4 := dstep w3 hB4 (by repeat (first | with_reducible exact Below.refl _ _ | with_reducible apply bdrew | with_reducible apply bdrewN | with_reducible apply balloc | ((with_reducible refine bset ?_ ?_ _); rotate_left; (first | omega | (simp <;> omega)))))
            have C4 := Cls.below (l := [(w.heap.size, 0, .int .i64 (n : Int)), (w.heap.size, 1, .slice Ai t.init.length ci), (w.heap.size, 2, .slice Ag t.goal.length cg), (w.heap.size, 3, .slice Ao t.ops.length co), (w.heap.size + 1, 0, .int .i64 0), (w.heap.size + 1, 1, .int .i64 0), (w2.heap.size, 0, .slice none 0 0), (w2.heap.size + 1, 0, .slice none 0 0)]) hB4 (by simp [Cls, go_sem, F3, y3w1, y3w0, y3wp1, y3wp2, y3w21, y3w20, y3w2p1, y3w2p2])
            have F4 := C4
            simp only [Cls, and_true] at F4
            have y4w1 : w.heap.size + 1 < w4.heap.size := C4.blk (b := w.heap.size + 1) (k := 0) (v := .int .i64 0) (by simp)
            have y4w0 : w.heap.size < w4.heap.size := (by omega)
            have y4wp1 : w.heap.size < w4.heap.size + 1 := (by omega)
            have y4wp2 : w.heap.size < w4.heap.size + 1 + 1 := (by omega)
            have y4w21 : w2.heap.size + 1 < w4.heap.size := C4.blk (b := w2.heap.size + 1) (k := 0) (v := .slice none 0 0) (by simp)
            have y4w20 : w2.heap.size < w4.heap.size := (by omega)
            have y4w2p1 : w2.heap.size < w4.heap.size + 1 := (by omega)
            have y4w2p2 : w2.heap.size < w4.heap.size + 1 + 1 := (by omega)
            have HLs := Lib.hid hVs
            clear hVs
            have hzs := Arr.lt hAs
            (first | simp at hgs | skip)
            have hbss := hB4.size
            (first | simp at hbss | skip)
            have hSS : w4.cell? ⟨w.heap.size, 0, none⟩ = some (.int .i64 (n : Int)) ∧ w4.cell? ⟨w.heap.size, 1, none⟩ = some (.slice Ai t.init.length ci) ∧ w4.cell? ⟨w.heap.size, 2, none⟩ = some (.slice Ag t.goal.length cg) ∧ w4.cell? ⟨w.heap.size, 3, none⟩ = some (.slice Ao t.ops.length co) := (by have q := C4; simp only [Cls, and_true] at q; simp [q])
            go_wp2_with fail
            refine hK.out _ _ hSS (fun hHeld => ?_)
            clear hK K
            try simp only [Act.put, List.getElem_toArray, List.getElem_cons_succ, List.getElem_cons_zero, List.setIfInBounds_toArray, List.set_cons_zero, List.set_cons_succ]
            refine wpAnyH_ready (rs := [8]) (by kernel_rfl) (by simp) ?_
            refine AllReadyH.cons rfl (fun K hK => ?_) AllReadyH.nil
            go_simp
            have hnl0 : ¬ w2.heap.size + 1 = w.heap.size := (by omega)
            have hnl1 : ¬ w2.heap.size + 1 = w.heap.size + 1 := (by omega)
            have hnl2 : ¬ w.heap.size = w2.heap.size + 1 := (by omega)
            have hnl3 : ¬ w.heap.size + 1 = w2.heap.size + 1 := (by omega)
            have hns0 : ¬ w2.heap.size = w.heap.size := (by omega)
            have hns1 : ¬ w2.heap.size = w.heap.size + 1 := (by omega)
            have hns2 : ¬ w.heap.size = w2.heap.size := (by omega)
            have hns3 : ¬ w.heap.size + 1 = w2.heap.size := (by omega)
            have hnx : ¬ w2.heap.size + 1 = w2.heap.size := (by omega)
            have hny : ¬ w2.heap.size = w2.heap.size + 1 := (by omega)
            go_wp2_with fail
            refine hK.out _ _ (by simp [go_sem, F4, y4w1, y4w0, y4wp1, y4wp2, y4w21, y4w20, y4w2p1, y4w2p2, hnl0, hnl1, hnl2, hnl3, hns0, hns1, hns2, hns3, hnx, hny]) (fun hHeld => ?_)
            clear hK K
            try simp only [Act.put, List.getElem_toArray, List.getElem_cons_succ, List.getElem_cons_zero, List.setIfInBounds_toArray, List.set_cons_zero, List.set_cons_succ]
            refine wpAnyH_ready (rs := [9]) (by kernel_rfl) (by simp) ?_
            refine AllReadyH.cons rfl (fun K hK => ?_) AllReadyH.nil
            go_simp
            go_wp2_with fail
            refine hK.out _ _ (by simp [go_sem, F4, y4w1, y4w0, y4wp1, y4wp2, y4w21, y4w20, y4w2p1, y4w2p2, hnl0, hnl1, hnl2, hnl3, hns0, hns1, hns2, hns3, hnx, hny]) (fun hHeld => ?_)
            clear hK K
            try simp only [Act.put, List.getElem_toArray, List.getElem_cons_succ, List.getElem_cons_zero, List.setIfInBounds_toArray, List.set_cons_zero, List.set_cons_succ]
            refine wpAnyH_done (by kernel_rfl) ?_ _
            go_wp2_with fail
            go_meet
            exact ⟨w2.heap.size + 1, w2.heap.size, gl, gs, rfl, rfl, (by omega), (by (first | omega | (simp <;> omega))), (by omega), (by (first | omega | (simp <;> omega))), (by omega), (by (first | omega | (simp <;> omega))), (by omega), (by (first | omega | (simp <;> omega))), (by repeat (first | with_reducible exact (hAl.below (Ew3_4)) | (with_reducible refine IArr.far ?_ ?_ _; rotate_left; (first | omega | (simp <;> omega))) | (with_reducible refine IArr.below ?_ (balloc (Below.refl _ _))))), (by repeat (first | with_reducible exact (hAs.below (Below.refl _ _)) | (with_reducible refine IArr.far ?_ ?_ _; rotate_left; (first | omega | (simp <;> omega))) | (with_reducible refine IArr.below ?_ (balloc (Below.refl _ _))))), HLl, (by repeat (first | with_reducible exact D4 | with_reducible apply bdrew | with_reducible apply bdrewN | with_reducible apply balloc | ((with_reducible refine bset ?_ ?_ _); rotate_left; (first | omega | (simp <;> omega))))), (by simp [Cls, go_sem, F4, y4w1, y4w0, y4wp1, y4wp2, y4w21, y4w20, y4w2p1, y4w2p2, hnl0, hnl1, hnl2, hnl3, hns0, hns1, hns2, hns3, hnx, hny]), (by simp [Cls, go_sem, F4, y4w1, y4w0, y4wp1, y4wp2, y4w21, y4w20, y4w2p1, y4w2p2, hnl0, hnl1, hnl2, hnl3, hns0, hns1, hns2, hns3, hnx, hny])⟩
  case rest =>
    obtain ⟨bl, bs, gl, gs, rfl, rfl, l1, l2, l3, l4, l5, l6, l7, l8, hAl, hAs, HLV, hBc, hCa, hCb⟩ := hcut
    have hCc : Cls wc [(w.heap.size, 0, .int .i64 (n : Int)), (w.heap.size, 1, .slice Ai t.init.length ci), (w.heap.size, 2, .slice Ag t.goal.length cg), (w.heap.size, 3, .slice Ao t.ops.length co), (w.heap.size + 1, 0, .int .i64 0), (w.heap.size + 1, 1, .int .i64 0), (bl, 0, .slice (some ⟨gl, 0, none⟩) n n), (bs, 0, .slice (some ⟨gs, 0, none⟩) n n)] := (by simp only [Cls, and_true] at hCa hCb ⊢; simp [hCa, hCb])
    clear hCa hCb
    obtain ⟨V, hV⟩ : ∃ V, Hid ((levV n st t.ops) = V) := ⟨_, Lib.hid rfl⟩
    rw [hV.out] at hAl hAs HLV
    have HVP : Hid (∀ ok, (if ok = true then planTo (levV n st t.ops) t.ops n t.goal else []) = (if ok = true then planTo V t.ops n t.goal else [])) := Lib.hid (fun ok => by rw [hV.out])
    have hVl := HLV.out.len
    have dcs := hBc.size
    have Fc := hCc
    simp only [Cls, and_true] at Fc
    have ycbl0 : bl < wc.heap.size := hCc.blk (b := bl) (k := 0) (v := .slice (some ⟨gl, 0, none⟩) n n) (by simp)
    have ycblp1 : bl < wc.heap.size + 1 := (by omega)
    have ycblp2 : bl < wc.heap.size + 1 + 1 := (by omega)
    have ycbs0 : bs < wc.heap.size := hCc.blk (b := bs) (k := 0) (v := .slice (some ⟨gs, 0, none⟩) n n) (by simp)
    have ycbsp1 : bs < wc.heap.size + 1 := (by omega)
    have ycbsp2 : bs < wc.heap.size + 1 + 1 := (by omega)
    have ycw1 : w.heap.size + 1 < wc.heap.size := hCc.blk (b := w.heap.size + 1) (k := 0) (v := .int .i64 0) (by simp)
    have ycw0 : w.heap.size < wc.heap.size := (by omega)
    have ycwp1 : w.heap.size < wc.heap.size + 1 := (by omega)
    have ycwp2 : w.heap.size < wc.heap.size + 1 + 1 := (by omega)
    have HTS : Hid (Tests 71 (.pointer (some ⟨bl, 0, none⟩)) t.goal (fun x => decide (valAt V x < 0)) wc) := Lib.hid (by
      intro x hx wr hB
      obtain ⟨x0, x1⟩ := HGO.out x hx
      obtain ⟨x, rfl⟩ := Int.eq_ofNat_of_zero_le x0
      have hC' := Cls.below (w := wc) hB hCc
      simp only [Cls, and_true] at hC'
      obtain ⟨y, hy, hyc, hyf⟩ := (hAl.below hB).cell (i := x) (by rw [hVl]; omega)
      have hva : valAt V (x : Int) = y := valAt_of (by simpa using hy.out)
      have ho1 : wr.cell? ⟨bl, 0, none⟩ = some (.slice (some ⟨gl, 0, none⟩) n n) := by simp [hC']
      dsimp only
      rw [hva]
      by_cases e1 : y < 0
      · rw [decide_eq_true e1]; exact pln1_neg wr _ _ n x y (by omega) ho1 hyc e1
      · rw [decide_eq_false e1]; exact pln1_no wr _ _ n x y (by omega) ho1 hyc e1)
    by_cases hall : ∀ q ∈ t.goal, 0 ≤ valAt V q
    · have HD : Hid (decide (∃ x ∈ t.goal, decide (valAt V x < 0) = true) = false) := Lib.hid (decide_eq_false (fun ⟨x, hx, hd⟩ => by have := hall x hx; have := of_decide_eq_true hd; omega))
      have HAL := Lib.hid hall
      clear hall
      go_wp2_with fail
      refine (containsfunc_any _ _ _ 71 (.pointer (some ⟨bl, 0, none⟩)) (fun x => decide (valAt V x < 0)) _ (hT.goal.below (by repeat (first | with_reducible exact hBc | with_reducible apply bdrew | with_reducible apply bdrewN | with_reducible apply balloc | ((with_reducible refine bset ?_ ?_ _); rotate_left; (first | omega | (simp <;> omega)))))) hgl (fun args w => by kernel_rfl) HTS.out).mono ?_
      rintro e w10 ⟨he, hB10⟩
      rw [HD.out] at he
      subst he
      have D10 := dstep w hB10 (by repeat (first | with_reducible exact hBc | with_reducible apply bdrew | with_reducible apply bdrewN | with_reducible apply balloc | ((with_reducible refine bset ?_ ?_ _); rotate_left; (first | omega | (simp <;> omega)))))
      have d10s := D10.size
      have C10 := Cls.below (l := [(w.heap.size, 0, .int .i64 (n : Int)), (w.heap.size, 1, .slice Ai t.init.length ci), (w.heap.size, 2, .slice Ag t.goal.length cg), (w.heap.size, 3, .slice Ao t.ops.length co), (w.heap.size + 1, 0, .int .i64 0), (w.heap.size + 1, 1, .int .i64 0), (bl, 0, .slice (some ⟨gl, 0, none⟩) n n), (bs, 0, .slice (some ⟨gs, 0, none⟩) n n)]) hB10 (by simp [Cls, go_sem, Fc, ycbl0, ycblp1, ycblp2, ycbs0, ycbsp1, ycbsp2, ycw1, ycw0, ycwp1, ycwp2])
      have F10 := C10
      simp only [Cls, and_true] at F10
      have y10bl0 : bl < w10.heap.size := C10.blk (b := bl) (k := 0) (v := .slice (some ⟨gl, 0, none⟩) n n) (by simp)
      have y10blp1 : bl < w10.heap.size + 1 := (by omega)
      have y10blp2 : bl < w10.heap.size + 1 + 1 := (by omega)
      have y10bs0 : bs < w10.heap.size := C10.blk (b := bs) (k := 0) (v := .slice (some ⟨gs, 0, none⟩) n n) (by simp)
      have y10bsp1 : bs < w10.heap.size + 1 := (by omega)
      have y10bsp2 : bs < w10.heap.size + 1 + 1 := (by omega)
      have y10w1 : w.heap.size + 1 < w10.heap.size := C10.blk (b := w.heap.size + 1) (k := 0) (v := .int .i64 0) (by simp)
      have y10w0 : w.heap.size < w10.heap.size := (by omega)
      have y10wp1 : w.heap.size < w10.heap.size + 1 := (by omega)
      have y10wp2 : w.heap.size < w10.heap.size + 1 + 1 := (by omega)
      have hs10 := hB10.size
      have hAs10 := hAs.below hB10
      have hT10 := hT.below D10
      have hopl : t.ops.length ≤ 9223372036854775807 := by omega
      clear hAl hAs HTS HD
      have HLT : Hid (PLt w10 bs (w10.heap.size + 1 + 1) w.heap.size (w10.heap.size + 1 + 1 + 1) (w10.heap.size) gs (w10.heap.size + 1) (w10.heap.size + 1 + 1 + 1 + 1)) := Lib.hid (by unfold PLt; omega)
      have hst : ∀ w' a' fn ts cs m', (store a' (.func fn ts cs) m').run Try.prog w' = stored Try.prog w' a' (.func fn ts cs) m' := fun w' a' fn ts cs m' => run_store _ w' a' _ m' rfl
      have hE : ∀ (args : Array Value) (w : World), (callFunc 72 args).run Try.prog w = .ok (.enter 72 args) w := fun args w => by kernel_rfl
      go_wp2_with fail
      go_loopw [41] (fun i wr => ∃ (j : Nat) (D : List Bool) (v : Value), j ≤ t.goal.length ∧ i = .int .i64 j ∧ PSt w10 t Ai Ag Ao ci cg co n V bs (w10.heap.size + 1 + 1) w.heap.size (w10.heap.size + 1 + 1 + 1) w10.heap.size gs (w10.heap.size + 1) (w10.heap.size + 1 + 1 + 1 + 1) wr D v ((t.goal.take j).foldl (rpV V t.ops (n + 1)) []) ∧ Hid (D.length = t.ops.length ∧ ∀ i : Nat, i < t.ops.length → (D[i]? = some true ↔ (i : Int) ∈ (t.goal.take j).foldl (rpV V t.ops (n + 1)) [])) ∧ Hid (PlanIn t.ops ((t.goal.take j).foldl (rpV V t.ops (n + 1)) []))) (fun i _ => t.goal.length - (intOf i).toNat)
      case atStart =>
        refine ⟨0, List.replicate t.ops.length false, .slice none 0 0, Nat.zero_le _, rfl, ⟨by repeat (first | with_reducible exact Below.refl _ _ | with_reducible apply bdrew | with_reducible apply bdrewN | with_reducible apply balloc | ((with_reducible refine bset ?_ ?_ _); rotate_left; (first | omega | (simp <;> omega)))), ?_, ⟨by simp [go_sem, F10, y10bl0, y10blp1, y10blp2, y10bs0, y10bsp1, y10bsp2, y10w1, y10w0, y10wp1, y10wp2], by simp [go_sem, F10, y10bl0, y10blp1, y10blp2, y10bs0, y10bsp1, y10bsp2, y10w1, y10w0, y10wp1, y10wp2]⟩, ?_, ?_, OwnI.nil _ _, by simp⟩, Lib.hid ⟨by simp, fun i hi => ?_⟩, Lib.hid ⟨by simp, by simp⟩⟩
        · simp [Cls, go_sem, F10, y10bl0, y10blp1, y10blp2, y10bs0, y10bsp1, y10bsp2, y10w1, y10w0, y10wp1, y10wp2]
        · exact hAs10.below (by repeat (first | with_reducible exact Below.refl _ _ | with_reducible apply bdrew | with_reducible apply bdrewN | with_reducible apply balloc | ((with_reducible refine bset ?_ ?_ _); rotate_left; (first | omega | (simp <;> omega)))))
        · have h := BArr.made (w10.alloc (.cells #[.slice none 0 0] 22)) t.ops.length (w10.heap.size + 1) (by simp)
          exact BArr.below h (by repeat (first | with_reducible exact Below.refl _ _ | with_reducible apply bdrew | with_reducible apply bdrewN | with_reducible apply balloc | ((with_reducible refine bset ?_ ?_ _); rotate_left; (first | omega | (simp <;> omega)))))
        · simp [hi]
      case round =>
        obtain ⟨j, D, v, hj, rfl, hP, hd, hok⟩ := hrel
        obtain ⟨w11, rfl⟩ : ∃ wo : World, wo = wr := ⟨_, rfl⟩
        obtain ⟨pj, hpj⟩ : ∃ l, Hid ((t.goal.take j).foldl (rpV V t.ops (n + 1)) [] = l) := ⟨_, Lib.hid rfl⟩
        rw [hpj.out] at hP hd hok
        have HP := Lib.hid hP
        obtain ⟨jbel, jcls, ⟨jpl, jpf⟩, jsup, jdn, jown, jsiz⟩ := hP
        have FJ := jcls
        simp only [Cls, and_true] at FJ
        have DW := D10.trans (jbel.mono D10.size)
        by_cases hlt : j < t.goal.length
        · obtain ⟨qd, q, rfl, hq, hqc⟩ := (hT.goal.below DW).at_ hlt
          have hqm := List.mem_of_getElem? hq.out
          obtain ⟨q0, q1⟩ := HGO.out q hqm
          have HQ := Lib.hid (AchPost.pre (n := n) (V := V) (ops := t.ops) hd.out.1 hd.out.2 q)
          have hqk : valAt V q < ((n + 1 : Nat) : Int) := by have := (levs_rng HLV.out q).2; omega
          have HFS := Lib.hid (fold_succ (V := V) (ops := t.ops) (k := n + 1) (pl := []) hq.out)
          rw [hpj.out] at HFS
          have HOK2 : Hid (PlanIn t.ops (rpV V t.ops (n + 1) pj q)) := Lib.hid (by have h := ach_nodup (V := V) (ops := t.ops) (n + 1) pj q hqk hok.out.1 hok.out.2; exact ⟨h.1, h.2.1⟩)
          go_wp2_with fail
          refine (ach_any w10 t Ai (some qd) Ao ci cg co n V bs (w10.heap.size + 1 + 1) w.heap.size (w10.heap.size + 1 + 1 + 1) w10.heap.size gs (w10.heap.size + 1) (w10.heap.size + 1 + 1 + 1 + 1) hT10 HLT.out h40 HOPS.out (n + 1) q _ D v pj q0 q1 hqk HP.out HQ.out hok.out).mono ?_
          rintro e w12 ⟨rfl, D2, v2, hP2, hpost⟩
          have HD2 : Hid (D2.length = t.ops.length ∧ ∀ i : Nat, i < t.ops.length → (D2[i]? = some true ↔ (i : Int) ∈ rpV V t.ops (n + 1) pj q)) := Lib.hid ⟨hpost.1, fun i hi => by
            rw [hpost.2 i hi, hd.out.2 i hi]
            exact ⟨fun h => h.elim (rpV_mono _ _ _ _) id, .inr⟩⟩
          go_wp2
          go_roundw
          case rel => exact ⟨j + 1, D2, v2, by omega, by go_num, by rw [HFS.out]; exact hP2, by rw [HFS.out]; exact HD2, by rw [HFS.out]; exact HOK2⟩
          case measure => simp [intOf]; omega
        · have hje := Lib.hid (show planTo V t.ops n t.goal = pj by rw [← hpj.out, List.take_of_length_le (by omega)]; rfl)
          obtain ⟨A9, c9, rfl, hn9, hI9⟩ := jown.form
          have C11 := Cls.below (w := w10) jbel C10
          have F11 := C11
          simp only [Cls, and_true] at F11
          have d11s := DW.size
          have hz1 : w.heap.size + 1 < w11.heap.size := by have := jbel.size; omega
          have hz2 : w.heap.size < w11.heap.size := by omega
          clear hn9 hI9
          go_wp2
          refine bodyPost_ret (v := .tuple #[.slice A9 pj.length c9, .bool true, .agg #[.int .i64 0, .int .i64 0]]) ?_ rfl ⟨.slice A9 pj.length c9, true, rfl, ?_, ?_, by repeat (first | with_reducible exact DW | with_reducible apply bdrew | with_reducible apply bdrewN | with_reducible apply balloc | ((with_reducible refine bset ?_ ?_ _); rotate_left; (first | omega | (simp <;> omega))))⟩
          · simp [results, Try.results29, go_sem, F11, hz1, hz2]
          · rw [hV.out]; exact ⟨fun _ => HAL.out, fun _ => rfl⟩
          · rw [HVP.out true, if_pos rfl, hje.out]
            refine OwnI.mono (base := w10.heap.size + 1 + 1 + 1 + 1) ?_ (by omega)
            repeat (first | with_reducible exact jown | (with_reducible refine OwnI.far ?_ ?_ _; rotate_left; (first | omega | (simp <;> omega))))
    · have HD : Hid (decide (∃ x ∈ t.goal, decide (valAt V x < 0) = true) = true) := Lib.hid (decide_eq_true (Classical.byContradiction fun hn => hall fun q hq => Classical.byContradiction fun hc => hn ⟨q, hq, decide_eq_true (by omega)⟩))
      have HAL := Lib.hid hall
      clear hall
      go_wp2_with fail
      refine (containsfunc_any _ _ _ 71 (.pointer (some ⟨bl, 0, none⟩)) (fun x => decide (valAt V x < 0)) _ (hT.goal.below (by repeat (first | with_reducible exact hBc | with_reducible apply bdrew | with_reducible apply bdrewN | with_reducible apply balloc | ((with_reducible refine bset ?_ ?_ _); rotate_left; (first | omega | (simp <;> omega)))))) hgl (fun args w => by kernel_rfl) HTS.out).mono ?_
      rintro e w10 ⟨he, hB10⟩
      rw [HD.out] at he
      subst he
      have D10 := dstep w hB10 (by repeat (first | with_reducible exact hBc | with_reducible apply bdrew | with_reducible apply bdrewN | with_reducible apply balloc | ((with_reducible refine bset ?_ ?_ _); rotate_left; (first | omega | (simp <;> omega)))))
      have d10s := D10.size
      have C10 := Cls.below (l := [(w.heap.size, 0, .int .i64 (n : Int)), (w.heap.size, 1, .slice Ai t.init.length ci), (w.heap.size, 2, .slice Ag t.goal.length cg), (w.heap.size, 3, .slice Ao t.ops.length co), (w.heap.size + 1, 0, .int .i64 0), (w.heap.size + 1, 1, .int .i64 0), (bl, 0, .slice (some ⟨gl, 0, none⟩) n n), (bs, 0, .slice (some ⟨gs, 0, none⟩) n n)]) hB10 (by simp [Cls, go_sem, Fc, ycbl0, ycblp1, ycblp2, ycbs0, ycbsp1, ycbsp2, ycw1, ycw0, ycwp1, ycwp2])
      have F10 := C10
      simp only [Cls, and_true] at F10
      have y10bl0 : bl < w10.heap.size := C10.blk (b := bl) (k := 0) (v := .slice (some ⟨gl, 0, none⟩) n n) (by simp)
      have y10blp1 : bl < w10.heap.size + 1 := (by omega)
      have y10blp2 : bl < w10.heap.size + 1 + 1 := (by omega)
      have y10bs0 : bs < w10.heap.size := C10.blk (b := bs) (k := 0) (v := .slice (some ⟨gs, 0, none⟩) n n) (by simp)
      have y10bsp1 : bs < w10.heap.size + 1 := (by omega)
      have y10bsp2 : bs < w10.heap.size + 1 + 1 := (by omega)
      have y10w1 : w.heap.size + 1 < w10.heap.size := C10.blk (b := w.heap.size + 1) (k := 0) (v := .int .i64 0) (by simp)
      have y10w0 : w.heap.size < w10.heap.size := (by omega)
      have y10wp1 : w.heap.size < w10.heap.size + 1 := (by omega)
      have y10wp2 : w.heap.size < w10.heap.size + 1 + 1 := (by omega)
      go_wp2
      refine bodyPost_ret (v := .tuple #[.slice none 0 0, .bool false, .agg #[.int .i64 0, .int .i64 0]]) ?_ rfl ⟨.slice none 0 0, false, rfl, ?_, ?_, by repeat (first | with_reducible exact D10 | with_reducible apply bdrew | with_reducible apply bdrewN | with_reducible apply balloc | ((with_reducible refine bset ?_ ?_ _); rotate_left; (first | omega | (simp <;> omega))))⟩
      · simp [results, Try.results29, go_sem, F10, y10bl0, y10blp1, y10blp2, y10bs0, y10bsp1, y10bsp2, y10w1, y10w0, y10wp1, y10wp2]
      · exact ⟨(fun h => by cases h), fun h => absurd (by rw [hV.out] at h; exact h) HAL.out⟩
      · exact OwnI.nil _ _


end Go.Proofs.Ytihkgdlanfemcaa
