/-
  The estimates do not depend on what operators delete.
-/
import Derived.Test.YtiaokmofoaeifaaMF
import Derived.Test.YtiaokmofoaeifaaMC
import Derived.Test.YtiaokmofoaeifaaCp4
import Derived.Test.YtiaokmofoaeifaaBlaw
import Derived.Test.YtiaokmofoaeifaaMA
namespace Go.Proofs.Ytiaokmofoaeifaa
open Go.RowKit
set_option linter.unusedVariables false
set_option linter.unusedSimpArgs false

theorem closed_rx {s : Bool} {ops : List OpV} {cs : List Int} {k : Nat} {U : List Int} : ClosedTo s (ops.map rxO) cs k U ↔ ClosedTo s ops cs k U := by
  constructor
  · intro h i o c hi ho hc p hp
    exact h i (rxO o) c hi (by rw [List.getElem?_map, ho]; rfl) hc p hp
  · intro h i o c hi ho hc p hp
    rw [List.getElem?_map] at ho
    obtain ⟨o', h1, rfl⟩ := Option.map_eq_some_iff.1 ho
    exact h i o' c hi h1 hc p hp
theorem fix_rx {s : Bool} {n : Nat} {st : List Int} {ops : List OpV} {cs U : List Int} : Fix s n st (ops.map rxO) cs U ↔ Fix s n st ops cs U := by
  constructor
  · intro h
    have := h.closed
    rw [List.length_map] at this
    exact ⟨h.shape, closed_rx.1 this⟩
  · intro h
    exact ⟨h.shape, by rw [List.length_map]; exact closed_rx.2 h.closed⟩
theorem values_rx (s : Bool) (n : Nat) (st : List Int) (ops : List OpV) (cs : List Int) : valuesV s n st (ops.map rxO) cs = valuesV s n st ops cs := by
  unfold valuesV
  congr 1
  funext V
  refine propext ⟨fun h => ⟨fix_rx.1 h.fix, fun U hU => h.great U (fix_rx.2 hU)⟩, fun h => ⟨fix_rx.2 h.fix, fun U hU => h.great U (fix_rx.1 hU)⟩⟩
theorem costs_rx (ops : List OpV) : (ops.map rxO).map (·.cost) = ops.map (·.cost) := by
  rw [List.map_map]; rfl
theorem valid_rx {t : TaskV} (hv : Valid t) : Valid (rxT t) := ⟨hv.f0, hv.f1, hv.init, hv.goal, by simp [rxT]; exact hv.nops, fun o ho => by
  obtain ⟨p, hp, rfl⟩ := List.mem_map.1 ho
  obtain ⟨⟨h1, h2, h3, h4⟩, h5⟩ := hv.ops p hp
  exact ⟨⟨h1, h2, SetP.nil _, fun x hx h => by cases h⟩, h5⟩⟩
set_option maxRecDepth 100000 in
set_option maxHeartbeats 1000000 in
theorem walk_rid_1 (w : World) (t : TaskV) (Ai Ag Ao : Option Addr) (ci cg co : Nat) (hR : TaskRead w Ai Ag Ao ci cg co t) (S : Option Addr) (cs : Nat) (st : List Int) (hS : Ints w S st) (hSn : NilOk S st cs) (h0 : ¬ (tfault t).1 = 0) (h : ¬ (sfault t st).1 = 0) :
    Calls Try.prog 4 #[.agg #[.int .i64 t.facts, .slice Ai t.init.length ci, .slice Ag t.goal.length cg, .slice Ao t.ops.length co], .slice S st.length cs] w fun e w' => e = .returned (.bool true) ∧ Below w.heap.size w w' := by
  have N := bb_no h
  have N' := bn_yes h
  have M := bb_no h0
  have M' := bn_yes h0
  have hT := hR.mem
  have hls : lenOk st.length := Nat.le_trans hSn.2.1 hSn.2.2
  go_enter Try.func4, Try.ntmps4
  go_wp2_with fail
  refine (rexample_any _).mono ?_
  rintro e w1 ⟨rfl, hB1⟩
  have D1 := dstep w hB1 (by repeat (first | with_reducible exact Below.refl _ _ | with_reducible apply bdrew | with_reducible apply bdrewN | with_reducible apply balloc | ((with_reducible refine bset ?_ ?_ _); rotate_left; (first | omega | (simp <;> omega)))))
  have d1s := D1.size
  have C1 := Cls.below (l := [(w.heap.size, 0, .int .i64 t.facts), (w.heap.size, 1, .slice Ai t.init.length ci), (w.heap.size, 2, .slice Ag t.goal.length cg), (w.heap.size, 3, .slice Ao t.ops.length co)]) hB1 (by simp [Cls, go_sem])
  have F1 := C1
  simp only [Cls, and_true] at F1
  have y1w0 : w.heap.size < w1.heap.size := C1.blk (b := w.heap.size) (k := 0) (v := .int .i64 t.facts) (by simp)
  have y1wp1 : w.heap.size < w1.heap.size + 1 := (by omega)
  have y1wp2 : w.heap.size < w1.heap.size + 1 + 1 := (by omega)
  go_wp2_with fail
  refine (relax_1 _ t Ai Ag Ao ci cg co (hT.below (by repeat (first | with_reducible exact D1 | with_reducible apply bdrew | with_reducible apply bdrewN | with_reducible apply balloc | ((with_reducible refine bset ?_ ?_ _); rotate_left; (first | omega | (simp <;> omega)))))) h0).mono ?_
  rintro e w2 ⟨rfl, hB2⟩
  have D2 := dstep w hB2 (by repeat (first | with_reducible exact D1 | with_reducible apply bdrew | with_reducible apply bdrewN | with_reducible apply balloc | ((with_reducible refine bset ?_ ?_ _); rotate_left; (first | omega | (simp <;> omega)))))
  have d2s := D2.size
  have C2 := Cls.below (l := [(w.heap.size, 0, .int .i64 t.facts), (w.heap.size, 1, .slice Ai t.init.length ci), (w.heap.size, 2, .slice Ag t.goal.length cg), (w.heap.size, 3, .slice Ao t.ops.length co)]) hB2 (by simp [Cls, go_sem, F1, y1w0, y1wp1, y1wp2])
  have F2 := C2
  simp only [Cls, and_true] at F2
  have y2w0 : w.heap.size < w2.heap.size := C2.blk (b := w.heap.size) (k := 0) (v := .int .i64 t.facts) (by simp)
  have y2wp1 : w.heap.size < w2.heap.size + 1 := (by omega)
  have y2wp2 : w.heap.size < w2.heap.size + 1 + 1 := (by omega)
  go_wp2_with fail
  refine (max_1 _ t Ai Ag Ao ci cg co (hT.below (by repeat (first | with_reducible exact D2 | with_reducible apply bdrew | with_reducible apply bdrewN | with_reducible apply balloc | ((with_reducible refine bset ?_ ?_ _); rotate_left; (first | omega | (simp <;> omega)))))) _ _ _ (hS.below (by repeat (first | with_reducible exact D2 | with_reducible apply bdrew | with_reducible apply bdrewN | with_reducible apply balloc | ((with_reducible refine bset ?_ ?_ _); rotate_left; (first | omega | (simp <;> omega)))))) hls h).mono ?_
  rintro e w3 ⟨rfl, hB3⟩
  have D3 := dstep w hB3 (by repeat (first | with_reducible exact D2 | with_reducible apply bdrew | with_reducible apply bdrewN | with_reducible apply balloc | ((with_reducible refine bset ?_ ?_ _); rotate_left; (first | omega | (simp <;> omega)))))
  have d3s := D3.size
  have C3 := Cls.below (l := [(w.heap.size, 0, .int .i64 t.facts), (w.heap.size, 1, .slice Ai t.init.length ci), (w.heap.size, 2, .slice Ag t.goal.length cg), (w.heap.size, 3, .slice Ao t.ops.length co), (w2.heap.size, 0, .int .i64 0), (w2.heap.size, 1, .slice none 0 0), (w2.heap.size, 2, .slice none 0 0), (w2.heap.size, 3, .slice none 0 0), (w2.heap.size + 1, 0, .int .i64 (tfault t).1), (w2.heap.size + 1, 1, .int .i64 (tfault t).2)]) hB3 (by simp [Cls, go_sem, F2, y2w0, y2wp1, y2wp2])
  have F3 := C3
  simp only [Cls, and_true] at F3
  have y3w0 : w.heap.size < w3.heap.size := C3.blk (b := w.heap.size) (k := 0) (v := .int .i64 t.facts) (by simp)
  have y3wp1 : w.heap.size < w3.heap.size + 1 := (by omega)
  have y3wp2 : w.heap.size < w3.heap.size + 1 + 1 := (by omega)
  have y3w21 : w2.heap.size + 1 < w3.heap.size := C3.blk (b := w2.heap.size + 1) (k := 0) (v := .int .i64 (tfault t).1) (by simp)
  have y3w20 : w2.heap.size < w3.heap.size := (by omega)
  have y3w2p1 : w2.heap.size < w3.heap.size + 1 := (by omega)
  have y3w2p2 : w2.heap.size < w3.heap.size + 1 + 1 := (by omega)
  go_wp2
  go_ret
  exact ⟨by simp, by repeat (first | with_reducible exact D3 | with_reducible apply bdrew | with_reducible apply bdrewN | with_reducible apply balloc | ((with_reducible refine bset ?_ ?_ _); rotate_left; (first | omega | (simp <;> omega))))⟩

set_option maxRecDepth 100000 in
set_option maxHeartbeats 1000000 in
theorem walk_rid_2 (w : World) (t : TaskV) (Ai Ag Ao : Option Addr) (ci cg co : Nat) (hR : TaskRead w Ai Ag Ao ci cg co t) (S : Option Addr) (cs : Nat) (st : List Int) (hS : Ints w S st) (hSn : NilOk S st cs) (hv : Valid t) (h : ¬ (sfault t st).1 = 0) :
    Calls Try.prog 4 #[.agg #[.int .i64 t.facts, .slice Ai t.init.length ci, .slice Ag t.goal.length cg, .slice Ao t.ops.length co], .slice S st.length cs] w fun e w' => e = .returned (.bool true) ∧ Below w.heap.size w w' := by
  have N := bb_no h
  have N' := bn_yes h
  have HV := Lib.hid hv
  clear hv
  have hT := hR.mem
  have hls : lenOk st.length := Nat.le_trans hSn.2.1 hSn.2.2
  go_enter Try.func4, Try.ntmps4
  go_wp2_with fail
  refine (rexample_any _).mono ?_
  rintro e w1 ⟨rfl, hB1⟩
  have D1 := dstep w hB1 (by repeat (first | with_reducible exact Below.refl _ _ | with_reducible apply bdrew | with_reducible apply bdrewN | with_reducible apply balloc | ((with_reducible refine bset ?_ ?_ _); rotate_left; (first | omega | (simp <;> omega)))))
  have d1s := D1.size
  have C1 := Cls.below (l := [(w.heap.size, 0, .int .i64 t.facts), (w.heap.size, 1, .slice Ai t.init.length ci), (w.heap.size, 2, .slice Ag t.goal.length cg), (w.heap.size, 3, .slice Ao t.ops.length co)]) hB1 (by simp [Cls, go_sem])
  have F1 := C1
  simp only [Cls, and_true] at F1
  have y1w0 : w.heap.size < w1.heap.size := C1.blk (b := w.heap.size) (k := 0) (v := .int .i64 t.facts) (by simp)
  have y1wp1 : w.heap.size < w1.heap.size + 1 := (by omega)
  have y1wp2 : w.heap.size < w1.heap.size + 1 + 1 := (by omega)
  go_wp2_with fail
  refine (relax_2 _ t Ai Ag Ao ci cg co (hT.below (by repeat (first | with_reducible exact D1 | with_reducible apply bdrew | with_reducible apply bdrewN | with_reducible apply balloc | ((with_reducible refine bset ?_ ?_ _); rotate_left; (first | omega | (simp <;> omega)))))) HV.out).mono ?_
  rintro e w2 ⟨u, Bi, di, Bg, dg, Bo, do_, HU, rfl, hTu, hB2⟩
  have D2 := dstep w hB2 (by repeat (first | with_reducible exact D1 | with_reducible apply bdrew | with_reducible apply bdrewN | with_reducible apply balloc | ((with_reducible refine bset ?_ ?_ _); rotate_left; (first | omega | (simp <;> omega)))))
  have d2s := D2.size
  have C2 := Cls.below (l := [(w.heap.size, 0, .int .i64 t.facts), (w.heap.size, 1, .slice Ai t.init.length ci), (w.heap.size, 2, .slice Ag t.goal.length cg), (w.heap.size, 3, .slice Ao t.ops.length co)]) hB2 (by simp [Cls, go_sem, F1, y1w0, y1wp1, y1wp2])
  have F2 := C2
  simp only [Cls, and_true] at F2
  have y2w0 : w.heap.size < w2.heap.size := C2.blk (b := w.heap.size) (k := 0) (v := .int .i64 t.facts) (by simp)
  have y2wp1 : w.heap.size < w2.heap.size + 1 := (by omega)
  have y2wp2 : w.heap.size < w2.heap.size + 1 + 1 := (by omega)
  go_wp2_with fail
  refine (max_1 _ t Ai Ag Ao ci cg co (hT.below (by repeat (first | with_reducible exact D2 | with_reducible apply bdrew | with_reducible apply bdrewN | with_reducible apply balloc | ((with_reducible refine bset ?_ ?_ _); rotate_left; (first | omega | (simp <;> omega)))))) _ _ _ (hS.below (by repeat (first | with_reducible exact D2 | with_reducible apply bdrew | with_reducible apply bdrewN | with_reducible apply balloc | ((with_reducible refine bset ?_ ?_ _); rotate_left; (first | omega | (simp <;> omega)))))) hls h).mono ?_
  rintro e w3 ⟨rfl, hB3⟩
  have D3 := dstep w hB3 (by repeat (first | with_reducible exact D2 | with_reducible apply bdrew | with_reducible apply bdrewN | with_reducible apply balloc | ((with_reducible refine bset ?_ ?_ _); rotate_left; (first | omega | (simp <;> omega)))))
  have d3s := D3.size
  have Ew2_3 := dstep w2 hB3 (by repeat (first | with_reducible exact Below.refl _ _ | with_reducible apply bdrew | with_reducible apply bdrewN | with_reducible apply balloc | ((with_reducible refine bset ?_ ?_ _); rotate_left; (first | omega | (simp <;> omega)))))
  have C3 := Cls.below (l := [(w.heap.size, 0, .int .i64 t.facts), (w.heap.size, 1, .slice Ai t.init.length ci), (w.heap.size, 2, .slice Ag t.goal.length cg), (w.heap.size, 3, .slice Ao t.ops.length co), (w2.heap.size, 0, .int .i64 u.facts), (w2.heap.size, 1, .slice Bi u.init.length di), (w2.heap.size, 2, .slice Bg u.goal.length dg), (w2.heap.size, 3, .slice Bo u.ops.length do_), (w2.heap.size + 1, 0, .int .i64 0), (w2.heap.size + 1, 1, .int .i64 0)]) hB3 (by simp [Cls, go_sem, F2, y2w0, y2wp1, y2wp2])
  have F3 := C3
  simp only [Cls, and_true] at F3
  have y3w0 : w.heap.size < w3.heap.size := C3.blk (b := w.heap.size) (k := 0) (v := .int .i64 t.facts) (by simp)
  have y3wp1 : w.heap.size < w3.heap.size + 1 := (by omega)
  have y3wp2 : w.heap.size < w3.heap.size + 1 + 1 := (by omega)
  have y3w21 : w2.heap.size + 1 < w3.heap.size := C3.blk (b := w2.heap.size + 1) (k := 0) (v := .int .i64 0) (by simp)
  have y3w20 : w2.heap.size < w3.heap.size := (by omega)
  have y3w2p1 : w2.heap.size < w3.heap.size + 1 := (by omega)
  have y3w2p2 : w2.heap.size < w3.heap.size + 1 + 1 := (by omega)
  go_wp2
  go_ret
  exact ⟨by simp, by repeat (first | with_reducible exact D3 | with_reducible apply bdrew | with_reducible apply bdrewN | with_reducible apply balloc | ((with_reducible refine bset ?_ ?_ _); rotate_left; (first | omega | (simp <;> omega))))⟩

set_option maxRecDepth 100000 in
set_option maxHeartbeats 2000000 in
theorem walk_rid_3 (w : World) (t : TaskV) (Ai Ag Ao : Option Addr) (ci cg co : Nat) (hR : TaskRead w Ai Ag Ao ci cg co t) (S : Option Addr) (cs : Nat) (st : List Int) (hS : Ints w S st) (hSn : NilOk S st cs) (n : Nat) (hn : t.facts = n) (hv : Valid t) (h2 : SetP st t.facts) :
    Calls Try.prog 4 #[.agg #[.int .i64 t.facts, .slice Ai t.init.length ci, .slice Ag t.goal.length cg, .slice Ao t.ops.length co], .slice S st.length cs] w fun e w' => e = .returned (.bool true) ∧ Below w.heap.size w w' := by
  have hT := hR.mem
  have hls : lenOk st.length := Nat.le_trans hSn.2.1 hSn.2.2
  have hn24 : n ≤ 24 := by have := hv.f1; omega
  have HN := Lib.hid hn
  have HV := Lib.hid hv
  have H2 := Lib.hid h2
  clear hv h2 hn
  go_enter Try.func4, Try.ntmps4
  go_wp2_with fail
  refine (rexample_any _).mono ?_
  rintro e w1 ⟨rfl, hB1⟩
  have D1 := dstep w hB1 (by repeat (first | with_reducible exact Below.refl _ _ | with_reducible apply bdrew | with_reducible apply bdrewN | with_reducible apply balloc | ((with_reducible refine bset ?_ ?_ _); rotate_left; (first | omega | (simp <;> omega)))))
  have d1s := D1.size
  have C1 := Cls.below (l := [(w.heap.size, 0, .int .i64 t.facts), (w.heap.size, 1, .slice Ai t.init.length ci), (w.heap.size, 2, .slice Ag t.goal.length cg), (w.heap.size, 3, .slice Ao t.ops.length co)]) hB1 (by simp [Cls, go_sem])
  have F1 := C1
  simp only [Cls, and_true] at F1
  have y1w0 : w.heap.size < w1.heap.size := C1.blk (b := w.heap.size) (k := 0) (v := .int .i64 t.facts) (by simp)
  have y1wp1 : w.heap.size < w1.heap.size + 1 := (by omega)
  have y1wp2 : w.heap.size < w1.heap.size + 1 + 1 := (by omega)
  go_wp2_with fail
  refine (relax_2 _ t Ai Ag Ao ci cg co (hT.below (by repeat (first | with_reducible exact D1 | with_reducible apply bdrew | with_reducible apply bdrewN | with_reducible apply balloc | ((with_reducible refine bset ?_ ?_ _); rotate_left; (first | omega | (simp <;> omega)))))) HV.out).mono ?_
  rintro e w2 ⟨u, Bi, di, Bg, dg, Bo, do_, HU, rfl, hTu, hB2⟩
  have D2 := dstep w hB2 (by repeat (first | with_reducible exact D1 | with_reducible apply bdrew | with_reducible apply bdrewN | with_reducible apply balloc | ((with_reducible refine bset ?_ ?_ _); rotate_left; (first | omega | (simp <;> omega)))))
  have d2s := D2.size
  have C2 := Cls.below (l := [(w.heap.size, 0, .int .i64 t.facts), (w.heap.size, 1, .slice Ai t.init.length ci), (w.heap.size, 2, .slice Ag t.goal.length cg), (w.heap.size, 3, .slice Ao t.ops.length co)]) hB2 (by simp [Cls, go_sem, F1, y1w0, y1wp1, y1wp2])
  have F2 := C2
  simp only [Cls, and_true] at F2
  have y2w0 : w.heap.size < w2.heap.size := C2.blk (b := w.heap.size) (k := 0) (v := .int .i64 t.facts) (by simp)
  have y2wp1 : w.heap.size < w2.heap.size + 1 := (by omega)
  have y2wp2 : w.heap.size < w2.heap.size + 1 + 1 := (by omega)
  have HVU := Lib.hid (show Valid u by rw [HU.out]; exact valid_rx HV.out)
  have HNU := Lib.hid (show u.facts = n by rw [HU.out]; exact HN.out)
  have H2U := Lib.hid (show SetP st u.facts by rw [HU.out]; exact H2.out)
  have HVE := fun s => Lib.hid (show valuesV s n st u.ops (u.ops.map (·.cost)) = valuesV s n st t.ops (t.ops.map (·.cost)) by rw [HU.out]; show valuesV s n st (t.ops.map rxO) ((t.ops.map rxO).map (·.cost)) = _; rw [costs_rx, values_rx])
  have HGE := Lib.hid (show u.goal = t.goal by rw [HU.out]; rfl)
  have HVEf := HVE false
  have HVEt := HVE true
  clear HVE
  go_wp2_with fail
  refine (max_2 _ t Ai Ag Ao ci cg co (hT.below (by repeat (first | with_reducible exact D2 | with_reducible apply bdrew | with_reducible apply bdrewN | with_reducible apply balloc | ((with_reducible refine bset ?_ ?_ _); rotate_left; (first | omega | (simp <;> omega)))))) _ _ _ (hS.below (by repeat (first | with_reducible exact D2 | with_reducible apply bdrew | with_reducible apply bdrewN | with_reducible apply balloc | ((with_reducible refine bset ?_ ?_ _); rotate_left; (first | omega | (simp <;> omega)))))) hls n HN.out HV.out H2.out).mono ?_
  rintro e w3 ⟨g3, he3, hg3, hA3, hb3, hB3⟩
  have D3 := dstep w hB3 (by repeat (first | with_reducible exact D2 | with_reducible apply bdrew | with_reducible apply bdrewN | with_reducible apply balloc | ((with_reducible refine bset ?_ ?_ _); rotate_left; (first | omega | (simp <;> omega)))))
  have d3s := D3.size
  have Ew2_3 := dstep w2 hB3 (by repeat (first | with_reducible exact Below.refl _ _ | with_reducible apply bdrew | with_reducible apply bdrewN | with_reducible apply balloc | ((with_reducible refine bset ?_ ?_ _); rotate_left; (first | omega | (simp <;> omega)))))
  have C3 := Cls.below (l := [(w.heap.size, 0, .int .i64 t.facts), (w.heap.size, 1, .slice Ai t.init.length ci), (w.heap.size, 2, .slice Ag t.goal.length cg), (w.heap.size, 3, .slice Ao t.ops.length co), (w2.heap.size, 0, .int .i64 u.facts), (w2.heap.size, 1, .slice Bi u.init.length di), (w2.heap.size, 2, .slice Bg u.goal.length dg), (w2.heap.size, 3, .slice Bo u.ops.length do_), (w2.heap.size + 1, 0, .int .i64 0), (w2.heap.size + 1, 1, .int .i64 0)]) hB3 (by simp [Cls, go_sem, F2, y2w0, y2wp1, y2wp2])
  have F3 := C3
  simp only [Cls, and_true] at F3
  have y3w0 : w.heap.size < w3.heap.size := C3.blk (b := w.heap.size) (k := 0) (v := .int .i64 t.facts) (by simp)
  have y3wp1 : w.heap.size < w3.heap.size + 1 := (by omega)
  have y3wp2 : w.heap.size < w3.heap.size + 1 + 1 := (by omega)
  have y3w21 : w2.heap.size + 1 < w3.heap.size := C3.blk (b := w2.heap.size + 1) (k := 0) (v := .int .i64 0) (by simp)
  have y3w20 : w2.heap.size < w3.heap.size := (by omega)
  have y3w2p1 : w2.heap.size < w3.heap.size + 1 := (by omega)
  have y3w2p2 : w2.heap.size < w3.heap.size + 1 + 1 := (by omega)
  obtain ⟨a, ha⟩ : ∃ a, Hid (combV false (valuesV false n st t.ops (t.ops.map (·.cost))) t.goal = a) := ⟨_, Lib.hid rfl⟩
  have LV := Lib.hid hb3.fix.shape.len
  rw [ha.out] at he3
  subst he3
  clear hb3
  go_wp2_with fail
  refine (max_2 _ u Bi Bg Bo di dg do_ (hTu.below (by repeat (first | with_reducible exact Ew2_3 | with_reducible apply bdrew | with_reducible apply bdrewN | with_reducible apply balloc | ((with_reducible refine bset ?_ ?_ _); rotate_left; (first | omega | (simp <;> omega)))))) _ _ _ (hS.below (by repeat (first | with_reducible exact D3 | with_reducible apply bdrew | with_reducible apply bdrewN | with_reducible apply balloc | ((with_reducible refine bset ?_ ?_ _); rotate_left; (first | omega | (simp <;> omega)))))) hls n HNU.out HVU.out H2U.out).mono ?_
  rintro e w4 ⟨g4, he4, hg4, hA4, hb4, hB4⟩
  have D4 := dstep w hB4 (by repeat (first | with_reducible exact D3 | with_reducible apply bdrew | with_reducible apply bdrewN | with_reducible apply balloc | ((with_reducible refine bset ?_ ?_ _); rotate_left; (first | omega | (simp <;> omega)))))
  have d4s := D4.size
  have Ew2_4 := dstep w2 hB4 (by repeat (first | with_reducible exact Ew2_3 | with_reducible apply bdrew | with_reducible apply bdrewN | with_reducible apply balloc | ((with_reducible refine bset ?_ ?_ _); rotate_left; (first | omega | (simp <;> omega)))))
  have Ew3_4 := dstep w3 hB4 (by repeat (first | with_reducible exact Below.refl _ _ | with_reducible apply bdrew | with_reducible apply bdrewN | with_reducible apply balloc | ((with_reducible refine bset ?_ ?_ _); rotate_left; (first | omega | (simp <;> omega)))))
  have C4 := Cls.below (l := [(w.heap.size, 0, .int .i64 t.facts), (w.heap.size, 1, .slice Ai t.init.length ci), (w.heap.size, 2, .slice Ag t.goal.length cg), (w.heap.size, 3, .slice Ao t.ops.length co), (w2.heap.size, 0, .int .i64 u.facts), (w2.heap.size, 1, .slice Bi u.init.length di), (w2.heap.size, 2, .slice Bg u.goal.length dg), (w2.heap.size, 3, .slice Bo u.ops.length do_), (w2.heap.size + 1, 0, .int .i64 0), (w2.heap.size + 1, 1, .int .i64 0), (w3.heap.size, 0, .int .i64 0), (w3.heap.size, 1, .int .i64 0)]) hB4 (by simp [Cls, go_sem, F3, y3w0, y3wp1, y3wp2, y3w21, y3w20, y3w2p1, y3w2p2])
  have F4 := C4
  simp only [Cls, and_true] at F4
  have y4w0 : w.heap.size < w4.heap.size := C4.blk (b := w.heap.size) (k := 0) (v := .int .i64 t.facts) (by simp)
  have y4wp1 : w.heap.size < w4.heap.size + 1 := (by omega)
  have y4wp2 : w.heap.size < w4.heap.size + 1 + 1 := (by omega)
  have y4w21 : w2.heap.size + 1 < w4.heap.size := C4.blk (b := w2.heap.size + 1) (k := 0) (v := .int .i64 0) (by simp)
  have y4w20 : w2.heap.size < w4.heap.size := (by omega)
  have y4w2p1 : w2.heap.size < w4.heap.size + 1 := (by omega)
  have y4w2p2 : w2.heap.size < w4.heap.size + 1 + 1 := (by omega)
  have y4w30 : w3.heap.size < w4.heap.size := C4.blk (b := w3.heap.size) (k := 0) (v := .int .i64 0) (by simp)
  have y4w3p1 : w3.heap.size < w4.heap.size + 1 := (by omega)
  have y4w3p2 : w3.heap.size < w4.heap.size + 1 + 1 := (by omega)
  rw [HVEf.out, HGE.out] at he4
  rw [HVEf.out] at hA4
  rw [ha.out] at he4
  subst he4
  clear hb4
  go_wp2_with fail
  refine (add_2 _ t Ai Ag Ao ci cg co (hT.below (by repeat (first | with_reducible exact D4 | with_reducible apply bdrew | with_reducible apply bdrewN | with_reducible apply balloc | ((with_reducible refine bset ?_ ?_ _); rotate_left; (first | omega | (simp <;> omega)))))) _ _ _ (hS.below (by repeat (first | with_reducible exact D4 | with_reducible apply bdrew | with_reducible apply bdrewN | with_reducible apply balloc | ((with_reducible refine bset ?_ ?_ _); rotate_left; (first | omega | (simp <;> omega)))))) hls n HN.out HV.out H2.out).mono ?_
  rintro e w5 ⟨g5, he5, hg5, hA5, hb5, hB5⟩
  have D5 := dstep w hB5 (by repeat (first | with_reducible exact D4 | with_reducible apply bdrew | with_reducible apply bdrewN | with_reducible apply balloc | ((with_reducible refine bset ?_ ?_ _); rotate_left; (first | omega | (simp <;> omega)))))
  have d5s := D5.size
  have Ew2_5 := dstep w2 hB5 (by repeat (first | with_reducible exact Ew2_4 | with_reducible apply bdrew | with_reducible apply bdrewN | with_reducible apply balloc | ((with_reducible refine bset ?_ ?_ _); rotate_left; (first | omega | (simp <;> omega)))))
  have Ew3_5 := dstep w3 hB5 (by repeat (first | with_reducible exact Ew3_4 | with_reducible apply bdrew | with_reducible apply bdrewN | with_reducible apply balloc | ((with_reducible refine bset ?_ ?_ _); rotate_left; (first | omega | (simp <;> omega)))))
  have Ew4_5 := dstep w4 hB5 (by repeat (first | with_reducible exact Below.refl _ _ | with_reducible apply bdrew | with_reducible apply bdrewN | with_reducible apply balloc | ((with_reducible refine bset ?_ ?_ _); rotate_left; (first | omega | (simp <;> omega)))))
  have C5 := Cls.below (l := [(w.heap.size, 0, .int .i64 t.facts), (w.heap.size, 1, .slice Ai t.init.length ci), (w.heap.size, 2, .slice Ag t.goal.length cg), (w.heap.size, 3, .slice Ao t.ops.length co), (w2.heap.size, 0, .int .i64 u.facts), (w2.heap.size, 1, .slice Bi u.init.length di), (w2.heap.size, 2, .slice Bg u.goal.length dg), (w2.heap.size, 3, .slice Bo u.ops.length do_), (w2.heap.size + 1, 0, .int .i64 0), (w2.heap.size + 1, 1, .int .i64 0), (w3.heap.size, 0, .int .i64 0), (w3.heap.size, 1, .int .i64 0), (w4.heap.size, 0, .int .i64 0), (w4.heap.size, 1, .int .i64 0)]) hB5 (by simp [Cls, go_sem, F4, y4w0, y4wp1, y4wp2, y4w21, y4w20, y4w2p1, y4w2p2, y4w30, y4w3p1, y4w3p2])
  have F5 := C5
  simp only [Cls, and_true] at F5
  have y5w0 : w.heap.size < w5.heap.size := C5.blk (b := w.heap.size) (k := 0) (v := .int .i64 t.facts) (by simp)
  have y5wp1 : w.heap.size < w5.heap.size + 1 := (by omega)
  have y5wp2 : w.heap.size < w5.heap.size + 1 + 1 := (by omega)
  have y5w21 : w2.heap.size + 1 < w5.heap.size := C5.blk (b := w2.heap.size + 1) (k := 0) (v := .int .i64 0) (by simp)
  have y5w20 : w2.heap.size < w5.heap.size := (by omega)
  have y5w2p1 : w2.heap.size < w5.heap.size + 1 := (by omega)
  have y5w2p2 : w2.heap.size < w5.heap.size + 1 + 1 := (by omega)
  have y5w30 : w3.heap.size < w5.heap.size := C5.blk (b := w3.heap.size) (k := 0) (v := .int .i64 0) (by simp)
  have y5w3p1 : w3.heap.size < w5.heap.size + 1 := (by omega)
  have y5w3p2 : w3.heap.size < w5.heap.size + 1 + 1 := (by omega)
  have y5w40 : w4.heap.size < w5.heap.size := C5.blk (b := w4.heap.size) (k := 0) (v := .int .i64 0) (by simp)
  have y5w4p1 : w4.heap.size < w5.heap.size + 1 := (by omega)
  have y5w4p2 : w4.heap.size < w5.heap.size + 1 + 1 := (by omega)
  obtain ⟨b, hb⟩ : ∃ b, Hid (combV true (valuesV true n st t.ops (t.ops.map (·.cost))) t.goal = b) := ⟨_, Lib.hid rfl⟩
  rw [hb.out] at he5
  subst he5
  clear hb5
  go_wp2_with fail
  refine (add_2 _ u Bi Bg Bo di dg do_ (hTu.below (by repeat (first | with_reducible exact Ew2_5 | with_reducible apply bdrew | with_reducible apply bdrewN | with_reducible apply balloc | ((with_reducible refine bset ?_ ?_ _); rotate_left; (first | omega | (simp <;> omega)))))) _ _ _ (hS.below (by repeat (first | with_reducible exact D5 | with_reducible apply bdrew | with_reducible apply bdrewN | with_reducible apply balloc | ((with_reducible refine bset ?_ ?_ _); rotate_left; (first | omega | (simp <;> omega)))))) hls n HNU.out HVU.out H2U.out).mono ?_
  rintro e w6 ⟨g6, he6, hg6, hA6, hb6, hB6⟩
  have D6 := dstep w hB6 (by repeat (first | with_reducible exact D5 | with_reducible apply bdrew | with_reducible apply bdrewN | with_reducible apply balloc | ((with_reducible refine bset ?_ ?_ _); rotate_left; (first | omega | (simp <;> omega)))))
  have d6s := D6.size
  have Ew2_6 := dstep w2 hB6 (by repeat (first | with_reducible exact Ew2_5 | with_reducible apply bdrew | with_reducible apply bdrewN | with_reducible apply balloc | ((with_reducible refine bset ?_ ?_ _); rotate_left; (first | omega | (simp <;> omega)))))
  have Ew3_6 := dstep w3 hB6 (by repeat (first | with_reducible exact Ew3_5 | with_reducible apply bdrew | with_reducible apply bdrewN | with_reducible apply balloc | ((with_reducible refine bset ?_ ?_ _); rotate_left; (first | omega | (simp <;> omega)))))
  have Ew4_6 := dstep w4 hB6 (by repeat (first | with_reducible exact Ew4_5 | with_reducible apply bdrew | with_reducible apply bdrewN | with_reducible apply balloc | ((with_reducible refine bset ?_ ?_ _); rotate_left; (first | omega | (simp <;> omega)))))
  have Ew5_6 := dstep w5 hB6 (by repeat (first | with_reducible exact Below.refl _ _ | with_reducible apply bdrew | with_reducible apply bdrewN | with_reducible apply balloc | ((with_reducible refine bset ?_ ?_ _); rotate_left; (first | omega | (simp <;> omega)))))
  have C6 := Cls.below (l := [(w.heap.size, 0, .int .i64 t.facts), (w.heap.size, 1, .slice Ai t.init.length ci), (w.heap.size, 2, .slice Ag t.goal.length cg), (w.heap.size, 3, .slice Ao t.ops.length co), (w2.heap.size, 0, .int .i64 u.facts), (w2.heap.size, 1, .slice Bi u.init.length di), (w2.heap.size, 2, .slice Bg u.goal.length dg), (w2.heap.size, 3, .slice Bo u.ops.length do_), (w2.heap.size + 1, 0, .int .i64 0), (w2.heap.size + 1, 1, .int .i64 0), (w3.heap.size, 0, .int .i64 0), (w3.heap.size, 1, .int .i64 0), (w4.heap.size, 0, .int .i64 0), (w4.heap.size, 1, .int .i64 0), (w5.heap.size, 0, .int .i64 0), (w5.heap.size, 1, .int .i64 0)]) hB6 (by simp [Cls, go_sem, F5, y5w0, y5wp1, y5wp2, y5w21, y5w20, y5w2p1, y5w2p2, y5w30, y5w3p1, y5w3p2, y5w40, y5w4p1, y5w4p2])
  have F6 := C6
  simp only [Cls, and_true] at F6
  have y6w0 : w.heap.size < w6.heap.size := C6.blk (b := w.heap.size) (k := 0) (v := .int .i64 t.facts) (by simp)
  have y6wp1 : w.heap.size < w6.heap.size + 1 := (by omega)
  have y6wp2 : w.heap.size < w6.heap.size + 1 + 1 := (by omega)
  have y6w21 : w2.heap.size + 1 < w6.heap.size := C6.blk (b := w2.heap.size + 1) (k := 0) (v := .int .i64 0) (by simp)
  have y6w20 : w2.heap.size < w6.heap.size := (by omega)
  have y6w2p1 : w2.heap.size < w6.heap.size + 1 := (by omega)
  have y6w2p2 : w2.heap.size < w6.heap.size + 1 + 1 := (by omega)
  have y6w30 : w3.heap.size < w6.heap.size := C6.blk (b := w3.heap.size) (k := 0) (v := .int .i64 0) (by simp)
  have y6w3p1 : w3.heap.size < w6.heap.size + 1 := (by omega)
  have y6w3p2 : w3.heap.size < w6.heap.size + 1 + 1 := (by omega)
  have y6w40 : w4.heap.size < w6.heap.size := C6.blk (b := w4.heap.size) (k := 0) (v := .int .i64 0) (by simp)
  have y6w4p1 : w4.heap.size < w6.heap.size + 1 := (by omega)
  have y6w4p2 : w4.heap.size < w6.heap.size + 1 + 1 := (by omega)
  have y6w50 : w5.heap.size < w6.heap.size := C6.blk (b := w5.heap.size) (k := 0) (v := .int .i64 0) (by simp)
  have y6w5p1 : w5.heap.size < w6.heap.size + 1 := (by omega)
  have y6w5p2 : w5.heap.size < w6.heap.size + 1 + 1 := (by omega)
  rw [HVEt.out, HGE.out] at he6
  rw [HVEt.out] at hA6
  rw [hb.out] at he6
  subst he6
  clear hb6
  go_wp2_with fail
  refine (ints_at _ _ _ _ n (valuesV false n st t.ops (t.ops.map (·.cost))) (valuesV false n st t.ops (t.ops.map (·.cost))) _ (hA3.ints.below (by repeat (first | with_reducible exact Ew3_6 | with_reducible apply bdrew | with_reducible apply bdrewN | with_reducible apply balloc | ((with_reducible refine bset ?_ ?_ _); rotate_left; (first | omega | (simp <;> omega)))))) (hA4.ints.below (by repeat (first | with_reducible exact Ew4_6 | with_reducible apply bdrew | with_reducible apply bdrewN | with_reducible apply balloc | ((with_reducible refine bset ?_ ?_ _); rotate_left; (first | omega | (simp <;> omega)))))) LV.out LV.out (by omega) true (by simp)).mono ?_
  rintro e w7 ⟨rfl, hB7⟩
  have D7 := dstep w hB7 (by repeat (first | with_reducible exact D6 | with_reducible apply bdrew | with_reducible apply bdrewN | with_reducible apply balloc | ((with_reducible refine bset ?_ ?_ _); rotate_left; (first | omega | (simp <;> omega)))))
  have d7s := D7.size
  have Ew2_7 := dstep w2 hB7 (by repeat (first | with_reducible exact Ew2_6 | with_reducible apply bdrew | with_reducible apply bdrewN | with_reducible apply balloc | ((with_reducible refine bset ?_ ?_ _); rotate_left; (first | omega | (simp <;> omega)))))
  have Ew3_7 := dstep w3 hB7 (by repeat (first | with_reducible exact Ew3_6 | with_reducible apply bdrew | with_reducible apply bdrewN | with_reducible apply balloc | ((with_reducible refine bset ?_ ?_ _); rotate_left; (first | omega | (simp <;> omega)))))
  have Ew4_7 := dstep w4 hB7 (by repeat (first | with_reducible exact Ew4_6 | with_reducible apply bdrew | with_reducible apply bdrewN | with_reducible apply balloc | ((with_reducible refine bset ?_ ?_ _); rotate_left; (first | omega | (simp <;> omega)))))
  have Ew5_7 := dstep w5 hB7 (by repeat (first | with_reducible exact Ew5_6 | with_reducible apply bdrew | with_reducible apply bdrewN | with_reducible apply balloc | ((with_reducible refine bset ?_ ?_ _); rotate_left; (first | omega | (simp <;> omega)))))
  have Ew6_7 := dstep w6 hB7 (by repeat (first | with_reducible exact Below.refl _ _ | with_reducible apply bdrew | with_reducible apply bdrewN | with_reducible apply balloc | ((with_reducible refine bset ?_ ?_ _); rotate_left; (first | omega | (simp <;> omega)))))
  have C7 := Cls.below (l := [(w.heap.size, 0, .int .i64 t.facts), (w.heap.size, 1, .slice Ai t.init.length ci), (w.heap.size, 2, .slice Ag t.goal.length cg), (w.heap.size, 3, .slice Ao t.ops.length co), (w2.heap.size, 0, .int .i64 u.facts), (w2.heap.size, 1, .slice Bi u.init.length di), (w2.heap.size, 2, .slice Bg u.goal.length dg), (w2.heap.size, 3, .slice Bo u.ops.length do_), (w2.heap.size + 1, 0, .int .i64 0), (w2.heap.size + 1, 1, .int .i64 0), (w3.heap.size, 0, .int .i64 0), (w3.heap.size, 1, .int .i64 0), (w4.heap.size, 0, .int .i64 0), (w4.heap.size, 1, .int .i64 0), (w5.heap.size, 0, .int .i64 0), (w5.heap.size, 1, .int .i64 0), (w6.heap.size, 0, .int .i64 0), (w6.heap.size, 1, .int .i64 0)]) hB7 (by simp [Cls, go_sem, F6, y6w0, y6wp1, y6wp2, y6w21, y6w20, y6w2p1, y6w2p2, y6w30, y6w3p1, y6w3p2, y6w40, y6w4p1, y6w4p2, y6w50, y6w5p1, y6w5p2])
  have F7 := C7
  simp only [Cls, and_true] at F7
  have y7w0 : w.heap.size < w7.heap.size := C7.blk (b := w.heap.size) (k := 0) (v := .int .i64 t.facts) (by simp)
  have y7wp1 : w.heap.size < w7.heap.size + 1 := (by omega)
  have y7wp2 : w.heap.size < w7.heap.size + 1 + 1 := (by omega)
  have y7w21 : w2.heap.size + 1 < w7.heap.size := C7.blk (b := w2.heap.size + 1) (k := 0) (v := .int .i64 0) (by simp)
  have y7w20 : w2.heap.size < w7.heap.size := (by omega)
  have y7w2p1 : w2.heap.size < w7.heap.size + 1 := (by omega)
  have y7w2p2 : w2.heap.size < w7.heap.size + 1 + 1 := (by omega)
  have y7w30 : w3.heap.size < w7.heap.size := C7.blk (b := w3.heap.size) (k := 0) (v := .int .i64 0) (by simp)
  have y7w3p1 : w3.heap.size < w7.heap.size + 1 := (by omega)
  have y7w3p2 : w3.heap.size < w7.heap.size + 1 + 1 := (by omega)
  have y7w40 : w4.heap.size < w7.heap.size := C7.blk (b := w4.heap.size) (k := 0) (v := .int .i64 0) (by simp)
  have y7w4p1 : w4.heap.size < w7.heap.size + 1 := (by omega)
  have y7w4p2 : w4.heap.size < w7.heap.size + 1 + 1 := (by omega)
  have y7w50 : w5.heap.size < w7.heap.size := C7.blk (b := w5.heap.size) (k := 0) (v := .int .i64 0) (by simp)
  have y7w5p1 : w5.heap.size < w7.heap.size + 1 := (by omega)
  have y7w5p2 : w5.heap.size < w7.heap.size + 1 + 1 := (by omega)
  have y7w60 : w6.heap.size < w7.heap.size := C7.blk (b := w6.heap.size) (k := 0) (v := .int .i64 0) (by simp)
  have y7w6p1 : w6.heap.size < w7.heap.size + 1 := (by omega)
  have y7w6p2 : w6.heap.size < w7.heap.size + 1 + 1 := (by omega)
  go_wp2
  go_ret
  exact ⟨by simp, by repeat (first | with_reducible exact D7 | with_reducible apply bdrew | with_reducible apply bdrewN | with_reducible apply balloc | ((with_reducible refine bset ?_ ?_ _); rotate_left; (first | omega | (simp <;> omega))))⟩

theorem walk_rid (w : World) (t : TaskV) (Ai Ag Ao : Option Addr) (ci cg co : Nat) (hR : TaskRead w Ai Ag Ao ci cg co t) (S : Option Addr) (cs : Nat) (st : List Int) (hS : Ints w S st) (hSn : NilOk S st cs) :
    Calls Try.prog 4 #[.agg #[.int .i64 t.facts, .slice Ai t.init.length ci, .slice Ag t.goal.length cg, .slice Ao t.ops.length co], .slice S st.length cs] w fun e w' => e = .returned (.bool true) ∧ Below w.heap.size w w' := by
  by_cases h : (sfault t st).1 = 0
  · obtain ⟨hv, h2⟩ := sfault_zero.1 h
    obtain ⟨n, hn⟩ := Int.eq_ofNat_of_zero_le hv.f0
    exact walk_rid_3 w t Ai Ag Ao ci cg co hR S cs st hS hSn n hn hv h2
  · by_cases h0 : (tfault t).1 = 0
    · exact walk_rid_2 w t Ai Ag Ao ci cg co hR S cs st hS hSn (tfault_zero.1 h0) h
    · exact walk_rid_1 w t Ai Ag Ao ci cg co hR S cs st hS hSn h0 h

namespace relaxedIgnoresDeletions
open Go.ChangeShapes Go.WideShapes Go.ChangeAt Go.RowKit

set_option maxRecDepth 100000 in
theorem lifted (os : Os) (started : os.Started) (H : Type) (enc : TypeId × Value → H) :
    ReturnsInHanded {} Try.checked os 4 .any (Rows.relaxedIgnoresDeletionsSpec.pre6 enc Try.prog Try.f4 Rows.relaxedIgnoresDeletionsRow.domain false) (Rows.relaxedIgnoresDeletionsSpec.post enc Try.prog Try.f4 false true false false) := by
  refine returnsInHanded_of_change (C := Try.checked) own_knob started (by kernel_rfl) Try.func4
    (ChangeSpec.witness6 (enc := enc) (C := Try.checked) false ⟨#[], #[.agg #[.int .i64 0, .slice none 0 0, .slice none 0 0, .slice none 0 0], .slice none 0 0], []⟩ 8 (by kernel_rfl) (by kernel_rfl) (by kernel_rfl) (by kernel_rfl)) ?_
  intro W base args ds gs before hval0 hW _ hsz
  have hval : ∀ (j : Nat) t v, Try.f4.params[j]? = some t → args[j]? = some v → Value.okWide Try.prog W .any base t v := hval0
  have hpost := fun (W' : World) (hfn : gs = [] → Rows.relaxedIgnoresDeletionsSpec.fn H (ds ++ gs) = { results := [.lit (.bool true)], args := ds }) (hb : Below W.heap.size W W') => law_post (f := Try.f4) (tb := 4) laid_out_B Try.underlying4 rfl (by kernel_rfl) rfl hfn hW hb
  obtain ⟨p, q, hA0, hV, hpq, hfz, hnd⟩ := hW
  have hA : DataW.TrodAll enc Try.prog W 0 (fun _ => true) true Try.f4.params.toList args.toList ds p := hA0
  rw [Try.params4] at hA hval
  obtain ⟨v0, vs0, d0, ds0, p0, q0, hargs, rfl, hp0, h0, r0⟩ := trodAll_cons hA
  obtain ⟨v1, vs1, d1, ds1, p1, q1, rfl, rfl, hp1, h1, r1⟩ := trodAll_cons r0
  obtain ⟨rfl, rfl, hpn⟩ := trodAll_nil r1
  obtain rfl : args = #[v0, v1] := by cases args; simp_all
  obtain ⟨t, Ai, Ag, Ao, ci, cg, co, rfl, hR⟩ := open_taskW (hval 0 25 v0 rfl rfl) h0
  obtain ⟨S, cs, st, rfl, hSc, hSl, hSnn, hS, hSi⟩ := open_intsW (hval 1 22 v1 rfl rfl) h1
  refine (walk_rid W t Ai Ag Ao ci cg co hR S cs st hS ⟨hSnn, hSc, hSl⟩).mono fun e W' ⟨he, hb⟩ => ?_
  subst he
  exact ⟨_, rfl, hpost W' (fun hg => by subst hg; rfl) hb⟩

theorem proved : Rows.RelaxedIgnoresDeletionsSaid :=
  OpenClaim.holds_of_wide 4 Try.f4 rfl rfl rfl rfl rfl rfl rfl ⟨rfl, rfl, rfl, rfl, rfl⟩ rfl rfl rfl rfl rfl (by kernel_rfl) Try.func4 (by kernel_rfl)
    (of_decide_eq_true (by kernel_rfl)) (by unfold Func.isWrapper; first | (rw [if_pos (by decide +kernel)]; kernel_rfl) | (rw [if_neg (by decide +kernel)]; exact ⟨rfl, rfl⟩))
    (fun os started H enc _ => lifted os started H enc)
#print axioms proved
end relaxedIgnoresDeletions

end Go.Proofs.Ytiaokmofoaeifaa
