/-
  In a state with more facts no value of relaxed.Max or relaxed.Add is greater, and more facts can be reached.
-/
import Derived.Test.YthnhhohnjiigcaaTrel11
import Derived.Test.YthnhhohnjiigcaaTrel9
import Derived.Test.YthnhhohnjiigcaaBlaw
import Derived.Test.YthnhhohnjiigcaaOpen
namespace Go.Proofs.Ythnhhohnjiigcaa
open Go.RowKit
set_option linter.unusedVariables false
set_option linter.unusedSimpArgs false

theorem best_more {s : Bool} {n : Nat} {st st' : List Int} {ops : List OpV} {cs V U : List Int} (hV : Best s n st ops cs V) (hU : Best s n st' ops cs U) (h : ∀ p ∈ st, p ∈ st') : LeV U V :=
  hV.great U ⟨⟨hU.fix.shape.len, hU.fix.shape.all, fun p hp => hU.fix.shape.zero p (h p hp)⟩, hU.fix.closed⟩
theorem goal_more {s : Bool} {n : Nat} {st st' : List Int} {ops : List OpV} {cs V U : List Int} (hV : Best s n st ops cs V) (hU : Best s n st' ops cs U) (h : ∀ p ∈ st, p ∈ st') (xs : List Int) : combV s U xs ≤ combV s V xs :=
  combV_mono hU.fix.shape.all hV.fix.shape.all (best_more hV hU h) xs
theorem within_more {n : Nat} {st st' : List Int} {ops : List OpV} {use : Nat → Bool} (h : ∀ p ∈ st, p ∈ st') : ∀ x ∈ withinV n st ops use, x ∈ withinV n st' ops use := fun x hx => by
  rw [withinV_mem] at hx ⊢
  exact ⟨hx.1, hx.2.1, hx.2.2.mono h (fun _ h => h)⟩
set_option maxRecDepth 100000 in
set_option maxHeartbeats 1000000 in
theorem walk_morefacts_1 (w : World) (t : TaskV) (Ai Ag Ao : Option Addr) (ci cg co : Nat) (hR : TaskRead w Ai Ag Ao ci cg co t) (S : Option Addr) (cs : Nat) (st : List Int) (hS : Ints w S st) (hSn : NilOk S st cs) (p : Int) (h : ¬ (sfault t st).1 = 0) :
    Calls Try.prog 9 #[.agg #[.int .i64 t.facts, .slice Ai t.init.length ci, .slice Ag t.goal.length cg, .slice Ao t.ops.length co], .slice S st.length cs, .int .i64 p] w fun e w' => e = .returned (.bool true) ∧ Below w.heap.size w w' := by
  have N := bb_no h
  have N' := bn_yes h
  have hT := hR.mem
  have hls : lenOk st.length := Nat.le_trans hSn.2.1 hSn.2.2
  go_enter Try.func9, Try.ntmps9
  go_wp2_with fail
  refine (rexample_any _).mono ?_
  rintro e w1 ⟨rfl, hB1⟩
  have D1 := dstep w hB1 (by repeat (first | with_reducible exact Below.refl _ _ | with_reducible apply bdrew | with_reducible apply bdrewN | with_reducible apply balloc | ((with_reducible refine bset ?_ ?_ _); rotate_left; (first | omega | (simp <;> omega)))))
  have d1s := D1.size
  have C1 := Cls.below (l := [(w.heap.size, 0, .int .i64 t.facts), (w.heap.size, 1, .slice Ai t.init.length ci), (w.heap.size, 2, .slice Ag t.goal.length cg), (w.heap.size, 3, .slice Ao t.ops.length co)]) hB1 (by simp [Cls, go_sem])
  have F1 := C1
  simp only [Cls, and_true] at F1
  have y1w0 : w.heap.size < w1.heap.size := C1.blk (b := w.heap.size) (k := 0) (v := .int .i64 t.facts) (by simp)
  have y1wp1 : w.heap.size < w1.heap.size + 1 := (by omega)
  have y1wp2 : w.heap.size < w1.heap.size + 1 + 1 := (by omega)
  go_wp2_with fail
  refine (reachable_1 _ _ _ _ _ _ _ _ (hT.below (by repeat (first | with_reducible exact D1 | with_reducible apply bdrew | with_reducible apply bdrewN | with_reducible apply balloc | ((with_reducible refine bset ?_ ?_ _); rotate_left; (first | omega | (simp <;> omega)))))) _ _ _ (hS.below (by repeat (first | with_reducible exact D1 | with_reducible apply bdrew | with_reducible apply bdrewN | with_reducible apply balloc | ((with_reducible refine bset ?_ ?_ _); rotate_left; (first | omega | (simp <;> omega)))))) hls h).mono ?_
  rintro e w2 ⟨rfl, hB2⟩
  have D2 := dstep w hB2 (by repeat (first | with_reducible exact D1 | with_reducible apply bdrew | with_reducible apply bdrewN | with_reducible apply balloc | ((with_reducible refine bset ?_ ?_ _); rotate_left; (first | omega | (simp <;> omega)))))
  have d2s := D2.size
  have C2 := Cls.below (l := [(w.heap.size, 0, .int .i64 t.facts), (w.heap.size, 1, .slice Ai t.init.length ci), (w.heap.size, 2, .slice Ag t.goal.length cg), (w.heap.size, 3, .slice Ao t.ops.length co)]) hB2 (by simp [Cls, go_sem, F1, y1w0, y1wp1, y1wp2])
  have F2 := C2
  simp only [Cls, and_true] at F2
  have y2w0 : w.heap.size < w2.heap.size := C2.blk (b := w.heap.size) (k := 0) (v := .int .i64 t.facts) (by simp)
  have y2wp1 : w.heap.size < w2.heap.size + 1 := (by omega)
  have y2wp2 : w.heap.size < w2.heap.size + 1 + 1 := (by omega)
  go_wp2
  go_ret
  exact ⟨by simp, by repeat (first | with_reducible exact D2 | with_reducible apply bdrew | with_reducible apply bdrewN | with_reducible apply balloc | ((with_reducible refine bset ?_ ?_ _); rotate_left; (first | omega | (simp <;> omega))))⟩

set_option maxRecDepth 100000 in
set_option maxHeartbeats 2000000 in
theorem walk_morefacts_2 (w : World) (t : TaskV) (Ai Ag Ao : Option Addr) (ci cg co : Nat) (hR : TaskRead w Ai Ag Ao ci cg co t) (S : Option Addr) (cs : Nat) (st : List Int) (hS : Ints w S st) (hSn : NilOk S st cs) (p : Int) (n : Nat) (hn : t.facts = n) (hv : Valid t) (h2 : SetP st t.facts) (hp : ¬ (0 ≤ p ∧ p ≤ t.facts - 1)) :
    Calls Try.prog 9 #[.agg #[.int .i64 t.facts, .slice Ai t.init.length ci, .slice Ag t.goal.length cg, .slice Ao t.ops.length co], .slice S st.length cs, .int .i64 p] w fun e w' => e = .returned (.bool true) ∧ Below w.heap.size w w' := by
  have hT := hR.mem
  have hls : lenOk st.length := Nat.le_trans hSn.2.1 hSn.2.2
  have hn24 : n ≤ 24 := by have := hv.f1; omega
  have hf0 := hv.f0
  have hf1 := hv.f1
  have hw1 : IntKind.i64.wrap (t.facts - 1) = t.facts - 1 := IntWalk.i64_in _ (by omega)
  have HN := Lib.hid hn
  have HV := Lib.hid hv
  have H2 := Lib.hid h2
  have HSN := Lib.hid hSn
  clear hv h2 hn hSn
  have hin : decide (0 ≤ p ∧ p ≤ t.facts - 1) = false := by simpa using hp
  have HI := Lib.hid hin
  have HP := Lib.hid hp
  clear hin hp
  go_enter Try.func9, Try.ntmps9
  go_wp2_with fail
  refine (rexample_any _).mono ?_
  rintro e w1 ⟨rfl, hB1⟩
  have D1 := dstep w hB1 (by repeat (first | with_reducible exact Below.refl _ _ | with_reducible apply bdrew | with_reducible apply bdrewN | with_reducible apply balloc | ((with_reducible refine bset ?_ ?_ _); rotate_left; (first | omega | (simp <;> omega)))))
  have d1s := D1.size
  have C1 := Cls.below (l := [(w.heap.size, 0, .int .i64 t.facts), (w.heap.size, 1, .slice Ai t.init.length ci), (w.heap.size, 2, .slice Ag t.goal.length cg), (w.heap.size, 3, .slice Ao t.ops.length co)]) hB1 (by simp [Cls, go_sem])
  have F1 := C1
  simp only [Cls, and_true] at F1
  have y1w0 : w.heap.size < w1.heap.size := C1.blk (b := w.heap.size) (k := 0) (v := .int .i64 t.facts) (by simp)
  have y1wp1 : w.heap.size < w1.heap.size + 1 := (by omega)
  have y1wp2 : w.heap.size < w1.heap.size + 1 + 1 := (by omega)
  go_wp2_with fail
  refine (reachable_2 _ _ _ _ _ _ _ _ (hT.below (by repeat (first | with_reducible exact D1 | with_reducible apply bdrew | with_reducible apply bdrewN | with_reducible apply balloc | ((with_reducible refine bset ?_ ?_ _); rotate_left; (first | omega | (simp <;> omega)))))) _ _ _ (hS.below (by repeat (first | with_reducible exact D1 | with_reducible apply bdrew | with_reducible apply bdrewN | with_reducible apply balloc | ((with_reducible refine bset ?_ ?_ _); rotate_left; (first | omega | (simp <;> omega)))))) hls n HN.out HV.out H2.out).mono ?_
  rintro e w2 ⟨v2, rfl, ho2, hB2⟩
  have D2 := dstep w hB2 (by repeat (first | with_reducible exact D1 | with_reducible apply bdrew | with_reducible apply bdrewN | with_reducible apply balloc | ((with_reducible refine bset ?_ ?_ _); rotate_left; (first | omega | (simp <;> omega)))))
  have d2s := D2.size
  have C2 := Cls.below (l := [(w.heap.size, 0, .int .i64 t.facts), (w.heap.size, 1, .slice Ai t.init.length ci), (w.heap.size, 2, .slice Ag t.goal.length cg), (w.heap.size, 3, .slice Ao t.ops.length co)]) hB2 (by simp [Cls, go_sem, F1, y1w0, y1wp1, y1wp2])
  have F2 := C2
  simp only [Cls, and_true] at F2
  have y2w0 : w.heap.size < w2.heap.size := C2.blk (b := w.heap.size) (k := 0) (v := .int .i64 t.facts) (by simp)
  have y2wp1 : w.heap.size < w2.heap.size + 1 := (by omega)
  have y2wp2 : w.heap.size < w2.heap.size + 1 + 1 := (by omega)
  obtain ⟨A2, c2, rfl, hnil2, hI2⟩ := ho2.form
  clear hnil2 ho2
  go_wp2_with fail
  refine (in_any _ _ _ _).mono ?_
  rintro e w' ⟨he, rfl⟩
  rw [HI.out] at he
  subst he
  go_wp2
  go_ret
  exact ⟨rfl, by repeat (first | with_reducible exact D2 | with_reducible apply bdrew | with_reducible apply bdrewN | with_reducible apply balloc | ((with_reducible refine bset ?_ ?_ _); rotate_left; (first | omega | (simp <;> omega))))⟩

set_option maxRecDepth 100000 in
set_option maxHeartbeats 2000000 in
theorem walk_morefacts_3 (w : World) (t : TaskV) (Ai Ag Ao : Option Addr) (ci cg co : Nat) (hR : TaskRead w Ai Ag Ao ci cg co t) (S : Option Addr) (cs : Nat) (st : List Int) (hS : Ints w S st) (hSn : NilOk S st cs) (p : Int) (n : Nat) (hn : t.facts = n) (hv : Valid t) (h2 : SetP st t.facts) (hp : (0 ≤ p ∧ p ≤ t.facts - 1)) :
    Calls Try.prog 9 #[.agg #[.int .i64 t.facts, .slice Ai t.init.length ci, .slice Ag t.goal.length cg, .slice Ao t.ops.length co], .slice S st.length cs, .int .i64 p] w fun e w' => e = .returned (.bool true) ∧ Below w.heap.size w w' := by
  have hT := hR.mem
  have hls : lenOk st.length := Nat.le_trans hSn.2.1 hSn.2.2
  have hn24 : n ≤ 24 := by have := hv.f1; omega
  have hf0 := hv.f0
  have hf1 := hv.f1
  have hw1 : IntKind.i64.wrap (t.facts - 1) = t.facts - 1 := IntWalk.i64_in _ (by omega)
  have HN := Lib.hid hn
  have HV := Lib.hid hv
  have H2 := Lib.hid h2
  have HSN := Lib.hid hSn
  clear hv h2 hn hSn
  have hin : decide (0 ≤ p ∧ p ≤ t.facts - 1) = true := by simpa using hp
  have HI := Lib.hid hin
  have HP := Lib.hid hp
  clear hin hp
  go_enter Try.func9, Try.ntmps9
  go_wp2_with fail
  refine (rexample_any _).mono ?_
  rintro e w1 ⟨rfl, hB1⟩
  have D1 := dstep w hB1 (by repeat (first | with_reducible exact Below.refl _ _ | with_reducible apply bdrew | with_reducible apply bdrewN | with_reducible apply balloc | ((with_reducible refine bset ?_ ?_ _); rotate_left; (first | omega | (simp <;> omega)))))
  have d1s := D1.size
  have C1 := Cls.below (l := [(w.heap.size, 0, .int .i64 t.facts), (w.heap.size, 1, .slice Ai t.init.length ci), (w.heap.size, 2, .slice Ag t.goal.length cg), (w.heap.size, 3, .slice Ao t.ops.length co)]) hB1 (by simp [Cls, go_sem])
  have F1 := C1
  simp only [Cls, and_true] at F1
  have y1w0 : w.heap.size < w1.heap.size := C1.blk (b := w.heap.size) (k := 0) (v := .int .i64 t.facts) (by simp)
  have y1wp1 : w.heap.size < w1.heap.size + 1 := (by omega)
  have y1wp2 : w.heap.size < w1.heap.size + 1 + 1 := (by omega)
  go_wp2_with fail
  refine (reachable_2 _ _ _ _ _ _ _ _ (hT.below (by repeat (first | with_reducible exact D1 | with_reducible apply bdrew | with_reducible apply bdrewN | with_reducible apply balloc | ((with_reducible refine bset ?_ ?_ _); rotate_left; (first | omega | (simp <;> omega)))))) _ _ _ (hS.below (by repeat (first | with_reducible exact D1 | with_reducible apply bdrew | with_reducible apply bdrewN | with_reducible apply balloc | ((with_reducible refine bset ?_ ?_ _); rotate_left; (first | omega | (simp <;> omega)))))) hls n HN.out HV.out H2.out).mono ?_
  rintro e w2 ⟨v2, rfl, ho2, hB2⟩
  have D2 := dstep w hB2 (by repeat (first | with_reducible exact D1 | with_reducible apply bdrew | with_reducible apply bdrewN | with_reducible apply balloc | ((with_reducible refine bset ?_ ?_ _); rotate_left; (first | omega | (simp <;> omega)))))
  have d2s := D2.size
  have C2 := Cls.below (l := [(w.heap.size, 0, .int .i64 t.facts), (w.heap.size, 1, .slice Ai t.init.length ci), (w.heap.size, 2, .slice Ag t.goal.length cg), (w.heap.size, 3, .slice Ao t.ops.length co)]) hB2 (by simp [Cls, go_sem, F1, y1w0, y1wp1, y1wp2])
  have F2 := C2
  simp only [Cls, and_true] at F2
  have y2w0 : w.heap.size < w2.heap.size := C2.blk (b := w.heap.size) (k := 0) (v := .int .i64 t.facts) (by simp)
  have y2wp1 : w.heap.size < w2.heap.size + 1 := (by omega)
  have y2wp2 : w.heap.size < w2.heap.size + 1 + 1 := (by omega)
  obtain ⟨A2, c2, rfl, hnil2, hI2⟩ := ho2.form
  clear hnil2 ho2
  go_wp2_with fail
  refine (in_any _ _ _ _).mono ?_
  rintro e w' ⟨he, rfl⟩
  rw [HI.out] at he
  subst he
  have HPB := Lib.hid (show 0 ≤ p ∧ p < t.facts by have := HP.out; omega)
  obtain ⟨sm, hsm⟩ : ∃ sm, Hid (withV st p = sm) := ⟨_, Lib.hid rfl⟩
  have HM2 := Lib.hid (show SetP sm t.facts by rw [← hsm.out]; exact withV_set H2.out HPB.out.1 HPB.out.2)
  have HSUB := Lib.hid (show ∀ q ∈ st, q ∈ sm by rw [← hsm.out]; exact fun q hq => withV_mem.2 (.inr hq))
  have hlm : lenOk sm.length := by unfold lenOk; have := HM2.out.length hf0; omega
  have HLS := Lib.hid (show st.length ≤ 100000000000 by have := H2.out.length hf0; omega)
  clear hw1
  go_wp2_with fail
  refine (with_any _ _ _ _ st _ (hS.below (by repeat (first | with_reducible exact D2 | with_reducible apply bdrew | with_reducible apply bdrewN | with_reducible apply balloc | ((with_reducible refine bset ?_ ?_ _); rotate_left; (first | omega | (simp <;> omega)))))) rfl HSN.out.2.1 HSN.out.2.2 (fun e => (HSN.out.1 e).2) HLS.out H2.out.pairwise).mono ?_
  rintro e w3 ⟨v3, rfl, ho3, hB3⟩
  have D3 := dstep w hB3 (by repeat (first | with_reducible exact D2 | with_reducible apply bdrew | with_reducible apply bdrewN | with_reducible apply balloc | ((with_reducible refine bset ?_ ?_ _); rotate_left; (first | omega | (simp <;> omega)))))
  have d3s := D3.size
  have Ew2_3 := dstep w2 hB3 (by repeat (first | with_reducible exact Below.refl _ _ | with_reducible apply bdrew | with_reducible apply bdrewN | with_reducible apply balloc | ((with_reducible refine bset ?_ ?_ _); rotate_left; (first | omega | (simp <;> omega)))))
  have C3 := Cls.below (l := [(w.heap.size, 0, .int .i64 t.facts), (w.heap.size, 1, .slice Ai t.init.length ci), (w.heap.size, 2, .slice Ag t.goal.length cg), (w.heap.size, 3, .slice Ao t.ops.length co), (w2.heap.size, 0, .int .i64 0), (w2.heap.size, 1, .int .i64 0)]) hB3 (by simp [Cls, go_sem, F2, y2w0, y2wp1, y2wp2])
  have F3 := C3
  simp only [Cls, and_true] at F3
  have y3w0 : w.heap.size < w3.heap.size := C3.blk (b := w.heap.size) (k := 0) (v := .int .i64 t.facts) (by simp)
  have y3wp1 : w.heap.size < w3.heap.size + 1 := (by omega)
  have y3wp2 : w.heap.size < w3.heap.size + 1 + 1 := (by omega)
  have y3w20 : w2.heap.size < w3.heap.size := C3.blk (b := w2.heap.size) (k := 0) (v := .int .i64 0) (by simp)
  have y3w2p1 : w2.heap.size < w3.heap.size + 1 := (by omega)
  have y3w2p2 : w2.heap.size < w3.heap.size + 1 + 1 := (by omega)
  rw [hsm.out] at ho3
  obtain ⟨A3, c3, rfl, hnil3, hI3⟩ := ho3.form
  clear hnil3 ho3
  go_wp2_with fail
  refine (max_2 _ _ _ _ _ _ _ _ (hT.below (by repeat (first | with_reducible exact D3 | with_reducible apply bdrew | with_reducible apply bdrewN | with_reducible apply balloc | ((with_reducible refine bset ?_ ?_ _); rotate_left; (first | omega | (simp <;> omega)))))) _ _ _ (hS.below (by repeat (first | with_reducible exact D3 | with_reducible apply bdrew | with_reducible apply bdrewN | with_reducible apply balloc | ((with_reducible refine bset ?_ ?_ _); rotate_left; (first | omega | (simp <;> omega)))))) hls n HN.out HV.out H2.out).mono ?_
  rintro e w4 ⟨g4, he4, hg4, hA4, hb4, hB4⟩
  have D4 := dstep w hB4 (by repeat (first | with_reducible exact D3 | with_reducible apply bdrew | with_reducible apply bdrewN | with_reducible apply balloc | ((with_reducible refine bset ?_ ?_ _); rotate_left; (first | omega | (simp <;> omega)))))
  have d4s := D4.size
  have Ew2_4 := dstep w2 hB4 (by repeat (first | with_reducible exact Ew2_3 | with_reducible apply bdrew | with_reducible apply bdrewN | with_reducible apply balloc | ((with_reducible refine bset ?_ ?_ _); rotate_left; (first | omega | (simp <;> omega)))))
  have Ew3_4 := dstep w3 hB4 (by repeat (first | with_reducible exact Below.refl _ _ | with_reducible apply bdrew | with_reducible apply bdrewN | with_reducible apply balloc | ((with_reducible refine bset ?_ ?_ _); rotate_left; (first | omega | (simp <;> omega)))))
  have C4 := Cls.below (l := [(w.heap.size, 0, .int .i64 t.facts), (w.heap.size, 1, .slice Ai t.init.length ci), (w.heap.size, 2, .slice Ag t.goal.length cg), (w.heap.size, 3, .slice Ao t.ops.length co), (w2.heap.size, 0, .int .i64 0), (w2.heap.size, 1, .int .i64 0)]) hB4 (by simp [Cls, go_sem, F3, y3w0, y3wp1, y3wp2, y3w20, y3w2p1, y3w2p2])
  have F4 := C4
  simp only [Cls, and_true] at F4
  have y4w0 : w.heap.size < w4.heap.size := C4.blk (b := w.heap.size) (k := 0) (v := .int .i64 t.facts) (by simp)
  have y4wp1 : w.heap.size < w4.heap.size + 1 := (by omega)
  have y4wp2 : w.heap.size < w4.heap.size + 1 + 1 := (by omega)
  have y4w20 : w2.heap.size < w4.heap.size := C4.blk (b := w2.heap.size) (k := 0) (v := .int .i64 0) (by simp)
  have y4w2p1 : w2.heap.size < w4.heap.size + 1 := (by omega)
  have y4w2p2 : w2.heap.size < w4.heap.size + 1 + 1 := (by omega)
  obtain ⟨x4, hx4⟩ : ∃ x, Hid (combV false (valuesV false n st t.ops (t.ops.map (·.cost))) t.goal = x) := ⟨_, Lib.hid rfl⟩
  rw [hx4.out] at he4
  subst he4
  have Hb4 := Lib.hid hb4
  clear hb4 hA4 hg4
  go_wp2_with fail
  refine (max_2 _ _ _ _ _ _ _ _ (hT.below (by repeat (first | with_reducible exact D4 | with_reducible apply bdrew | with_reducible apply bdrewN | with_reducible apply balloc | ((with_reducible refine bset ?_ ?_ _); rotate_left; (first | omega | (simp <;> omega)))))) _ _ _ (hI3.below (by repeat (first | with_reducible exact Ew3_4 | with_reducible apply bdrew | with_reducible apply bdrewN | with_reducible apply balloc | ((with_reducible refine bset ?_ ?_ _); rotate_left; (first | omega | (simp <;> omega)))))) hlm n HN.out HV.out HM2.out).mono ?_
  rintro e w5 ⟨g5, he5, hg5, hA5, hb5, hB5⟩
  have D5 := dstep w hB5 (by repeat (first | with_reducible exact D4 | with_reducible apply bdrew | with_reducible apply bdrewN | with_reducible apply balloc | ((with_reducible refine bset ?_ ?_ _); rotate_left; (first | omega | (simp <;> omega)))))
  have d5s := D5.size
  have Ew2_5 := dstep w2 hB5 (by repeat (first | with_reducible exact Ew2_4 | with_reducible apply bdrew | with_reducible apply bdrewN | with_reducible apply balloc | ((with_reducible refine bset ?_ ?_ _); rotate_left; (first | omega | (simp <;> omega)))))
  have Ew3_5 := dstep w3 hB5 (by repeat (first | with_reducible exact Ew3_4 | with_reducible apply bdrew | with_reducible apply bdrewN | with_reducible apply balloc | ((with_reducible refine bset ?_ ?_ _); rotate_left; (first | omega | (simp <;> omega)))))
  have C5 := Cls.below (l := [(w.heap.size, 0, .int .i64 t.facts), (w.heap.size, 1, .slice Ai t.init.length ci), (w.heap.size, 2, .slice Ag t.goal.length cg), (w.heap.size, 3, .slice Ao t.ops.length co), (w2.heap.size, 0, .int .i64 0), (w2.heap.size, 1, .int .i64 0), (w4.heap.size, 0, .int .i64 0), (w4.heap.size, 1, .int .i64 0)]) hB5 (by simp [Cls, go_sem, F4, y4w0, y4wp1, y4wp2, y4w20, y4w2p1, y4w2p2])
  have F5 := C5
  simp only [Cls, and_true] at F5
  have y5w0 : w.heap.size < w5.heap.size := C5.blk (b := w.heap.size) (k := 0) (v := .int .i64 t.facts) (by simp)
  have y5wp1 : w.heap.size < w5.heap.size + 1 := (by omega)
  have y5wp2 : w.heap.size < w5.heap.size + 1 + 1 := (by omega)
  have y5w20 : w2.heap.size < w5.heap.size := C5.blk (b := w2.heap.size) (k := 0) (v := .int .i64 0) (by simp)
  have y5w2p1 : w2.heap.size < w5.heap.size + 1 := (by omega)
  have y5w2p2 : w2.heap.size < w5.heap.size + 1 + 1 := (by omega)
  have y5w40 : w4.heap.size < w5.heap.size := C5.blk (b := w4.heap.size) (k := 0) (v := .int .i64 0) (by simp)
  have y5w4p1 : w4.heap.size < w5.heap.size + 1 := (by omega)
  have y5w4p2 : w4.heap.size < w5.heap.size + 1 + 1 := (by omega)
  obtain ⟨x5, hx5⟩ : ∃ x, Hid (combV false (valuesV false n sm t.ops (t.ops.map (·.cost))) t.goal = x) := ⟨_, Lib.hid rfl⟩
  rw [hx5.out] at he5
  subst he5
  have Hb5 := Lib.hid hb5
  clear hb5 hA5 hg5
  have hle5 : x5 ≤ x4 := by rw [← hx5.out, ← hx4.out]; exact goal_more Hb4.out Hb5.out HSUB.out _
  go_wp2_with fail
  refine (add_2 _ _ _ _ _ _ _ _ (hT.below (by repeat (first | with_reducible exact D5 | with_reducible apply bdrew | with_reducible apply bdrewN | with_reducible apply balloc | ((with_reducible refine bset ?_ ?_ _); rotate_left; (first | omega | (simp <;> omega)))))) _ _ _ (hS.below (by repeat (first | with_reducible exact D5 | with_reducible apply bdrew | with_reducible apply bdrewN | with_reducible apply balloc | ((with_reducible refine bset ?_ ?_ _); rotate_left; (first | omega | (simp <;> omega)))))) hls n HN.out HV.out H2.out).mono ?_
  rintro e w6 ⟨g6, he6, hg6, hA6, hb6, hB6⟩
  have D6 := dstep w hB6 (by repeat (first | with_reducible exact D5 | with_reducible apply bdrew | with_reducible apply bdrewN | with_reducible apply balloc | ((with_reducible refine bset ?_ ?_ _); rotate_left; (first | omega | (simp <;> omega)))))
  have d6s := D6.size
  have Ew2_6 := dstep w2 hB6 (by repeat (first | with_reducible exact Ew2_5 | with_reducible apply bdrew | with_reducible apply bdrewN | with_reducible apply balloc | ((with_reducible refine bset ?_ ?_ _); rotate_left; (first | omega | (simp <;> omega)))))
  have Ew3_6 := dstep w3 hB6 (by repeat (first | with_reducible exact Ew3_5 | with_reducible apply bdrew | with_reducible apply bdrewN | with_reducible apply balloc | ((with_reducible refine bset ?_ ?_ _); rotate_left; (first | omega | (simp <;> omega)))))
  have C6 := Cls.below (l := [(w.heap.size, 0, .int .i64 t.facts), (w.heap.size, 1, .slice Ai t.init.length ci), (w.heap.size, 2, .slice Ag t.goal.length cg), (w.heap.size, 3, .slice Ao t.ops.length co), (w2.heap.size, 0, .int .i64 0), (w2.heap.size, 1, .int .i64 0), (w4.heap.size, 0, .int .i64 0), (w4.heap.size, 1, .int .i64 0), (w5.heap.size, 0, .int .i64 0), (w5.heap.size, 1, .int .i64 0)]) hB6 (by simp [Cls, go_sem, F5, y5w0, y5wp1, y5wp2, y5w20, y5w2p1, y5w2p2, y5w40, y5w4p1, y5w4p2])
  have F6 := C6
  simp only [Cls, and_true] at F6
  have y6w0 : w.heap.size < w6.heap.size := C6.blk (b := w.heap.size) (k := 0) (v := .int .i64 t.facts) (by simp)
  have y6wp1 : w.heap.size < w6.heap.size + 1 := (by omega)
  have y6wp2 : w.heap.size < w6.heap.size + 1 + 1 := (by omega)
  have y6w20 : w2.heap.size < w6.heap.size := C6.blk (b := w2.heap.size) (k := 0) (v := .int .i64 0) (by simp)
  have y6w2p1 : w2.heap.size < w6.heap.size + 1 := (by omega)
  have y6w2p2 : w2.heap.size < w6.heap.size + 1 + 1 := (by omega)
  have y6w40 : w4.heap.size < w6.heap.size := C6.blk (b := w4.heap.size) (k := 0) (v := .int .i64 0) (by simp)
  have y6w4p1 : w4.heap.size < w6.heap.size + 1 := (by omega)
  have y6w4p2 : w4.heap.size < w6.heap.size + 1 + 1 := (by omega)
  have y6w50 : w5.heap.size < w6.heap.size := C6.blk (b := w5.heap.size) (k := 0) (v := .int .i64 0) (by simp)
  have y6w5p1 : w5.heap.size < w6.heap.size + 1 := (by omega)
  have y6w5p2 : w5.heap.size < w6.heap.size + 1 + 1 := (by omega)
  obtain ⟨x6, hx6⟩ : ∃ x, Hid (combV true (valuesV true n st t.ops (t.ops.map (·.cost))) t.goal = x) := ⟨_, Lib.hid rfl⟩
  rw [hx6.out] at he6
  subst he6
  have Hb6 := Lib.hid hb6
  clear hb6 hA6 hg6
  go_wp2_with fail
  refine (add_2 _ _ _ _ _ _ _ _ (hT.below (by repeat (first | with_reducible exact D6 | with_reducible apply bdrew | with_reducible apply bdrewN | with_reducible apply balloc | ((with_reducible refine bset ?_ ?_ _); rotate_left; (first | omega | (simp <;> omega)))))) _ _ _ (hI3.below (by repeat (first | with_reducible exact Ew3_6 | with_reducible apply bdrew | with_reducible apply bdrewN | with_reducible apply balloc | ((with_reducible refine bset ?_ ?_ _); rotate_left; (first | omega | (simp <;> omega)))))) hlm n HN.out HV.out HM2.out).mono ?_
  rintro e w7 ⟨g7, he7, hg7, hA7, hb7, hB7⟩
  have D7 := dstep w hB7 (by repeat (first | with_reducible exact D6 | with_reducible apply bdrew | with_reducible apply bdrewN | with_reducible apply balloc | ((with_reducible refine bset ?_ ?_ _); rotate_left; (first | omega | (simp <;> omega)))))
  have d7s := D7.size
  have Ew2_7 := dstep w2 hB7 (by repeat (first | with_reducible exact Ew2_6 | with_reducible apply bdrew | with_reducible apply bdrewN | with_reducible apply balloc | ((with_reducible refine bset ?_ ?_ _); rotate_left; (first | omega | (simp <;> omega)))))
  have Ew3_7 := dstep w3 hB7 (by repeat (first | with_reducible exact Ew3_6 | with_reducible apply bdrew | with_reducible apply bdrewN | with_reducible apply balloc | ((with_reducible refine bset ?_ ?_ _); rotate_left; (first | omega | (simp <;> omega)))))
  have C7 := Cls.below (l := [(w.heap.size, 0, .int .i64 t.facts), (w.heap.size, 1, .slice Ai t.init.length ci), (w.heap.size, 2, .slice Ag t.goal.length cg), (w.heap.size, 3, .slice Ao t.ops.length co), (w2.heap.size, 0, .int .i64 0), (w2.heap.size, 1, .int .i64 0), (w4.heap.size, 0, .int .i64 0), (w4.heap.size, 1, .int .i64 0), (w5.heap.size, 0, .int .i64 0), (w5.heap.size, 1, .int .i64 0), (w6.heap.size, 0, .int .i64 0), (w6.heap.size, 1, .int .i64 0)]) hB7 (by simp [Cls, go_sem, F6, y6w0, y6wp1, y6wp2, y6w20, y6w2p1, y6w2p2, y6w40, y6w4p1, y6w4p2, y6w50, y6w5p1, y6w5p2])
  have F7 := C7
  simp only [Cls, and_true] at F7
  have y7w0 : w.heap.size < w7.heap.size := C7.blk (b := w.heap.size) (k := 0) (v := .int .i64 t.facts) (by simp)
  have y7wp1 : w.heap.size < w7.heap.size + 1 := (by omega)
  have y7wp2 : w.heap.size < w7.heap.size + 1 + 1 := (by omega)
  have y7w20 : w2.heap.size < w7.heap.size := C7.blk (b := w2.heap.size) (k := 0) (v := .int .i64 0) (by simp)
  have y7w2p1 : w2.heap.size < w7.heap.size + 1 := (by omega)
  have y7w2p2 : w2.heap.size < w7.heap.size + 1 + 1 := (by omega)
  have y7w40 : w4.heap.size < w7.heap.size := C7.blk (b := w4.heap.size) (k := 0) (v := .int .i64 0) (by simp)
  have y7w4p1 : w4.heap.size < w7.heap.size + 1 := (by omega)
  have y7w4p2 : w4.heap.size < w7.heap.size + 1 + 1 := (by omega)
  have y7w50 : w5.heap.size < w7.heap.size := C7.blk (b := w5.heap.size) (k := 0) (v := .int .i64 0) (by simp)
  have y7w5p1 : w5.heap.size < w7.heap.size + 1 := (by omega)
  have y7w5p2 : w5.heap.size < w7.heap.size + 1 + 1 := (by omega)
  have y7w60 : w6.heap.size < w7.heap.size := C7.blk (b := w6.heap.size) (k := 0) (v := .int .i64 0) (by simp)
  have y7w6p1 : w6.heap.size < w7.heap.size + 1 := (by omega)
  have y7w6p2 : w6.heap.size < w7.heap.size + 1 + 1 := (by omega)
  obtain ⟨x7, hx7⟩ : ∃ x, Hid (combV true (valuesV true n sm t.ops (t.ops.map (·.cost))) t.goal = x) := ⟨_, Lib.hid rfl⟩
  rw [hx7.out] at he7
  subst he7
  have Hb7 := Lib.hid hb7
  clear hb7 hA7 hg7
  have hle7 : x7 ≤ x6 := by rw [← hx7.out, ← hx6.out]; exact goal_more Hb6.out Hb7.out HSUB.out _
  go_wp2_with fail
  refine (reachable_2 _ _ _ _ _ _ _ _ (hT.below (by repeat (first | with_reducible exact D7 | with_reducible apply bdrew | with_reducible apply bdrewN | with_reducible apply balloc | ((with_reducible refine bset ?_ ?_ _); rotate_left; (first | omega | (simp <;> omega)))))) _ _ _ (hI3.below (by repeat (first | with_reducible exact Ew3_7 | with_reducible apply bdrew | with_reducible apply bdrewN | with_reducible apply balloc | ((with_reducible refine bset ?_ ?_ _); rotate_left; (first | omega | (simp <;> omega)))))) hlm n HN.out HV.out HM2.out).mono ?_
  rintro e w8 ⟨v8, rfl, ho8, hB8⟩
  have D8 := dstep w hB8 (by repeat (first | with_reducible exact D7 | with_reducible apply bdrew | with_reducible apply bdrewN | with_reducible apply balloc | ((with_reducible refine bset ?_ ?_ _); rotate_left; (first | omega | (simp <;> omega)))))
  have d8s := D8.size
  have Ew2_8 := dstep w2 hB8 (by repeat (first | with_reducible exact Ew2_7 | with_reducible apply bdrew | with_reducible apply bdrewN | with_reducible apply balloc | ((with_reducible refine bset ?_ ?_ _); rotate_left; (first | omega | (simp <;> omega)))))
  have Ew3_8 := dstep w3 hB8 (by repeat (first | with_reducible exact Ew3_7 | with_reducible apply bdrew | with_reducible apply bdrewN | with_reducible apply balloc | ((with_reducible refine bset ?_ ?_ _); rotate_left; (first | omega | (simp <;> omega)))))
  have C8 := Cls.below (l := [(w.heap.size, 0, .int .i64 t.facts), (w.heap.size, 1, .slice Ai t.init.length ci), (w.heap.size, 2, .slice Ag t.goal.length cg), (w.heap.size, 3, .slice Ao t.ops.length co), (w2.heap.size, 0, .int .i64 0), (w2.heap.size, 1, .int .i64 0), (w4.heap.size, 0, .int .i64 0), (w4.heap.size, 1, .int .i64 0), (w5.heap.size, 0, .int .i64 0), (w5.heap.size, 1, .int .i64 0), (w6.heap.size, 0, .int .i64 0), (w6.heap.size, 1, .int .i64 0), (w7.heap.size, 0, .int .i64 0), (w7.heap.size, 1, .int .i64 0)]) hB8 (by simp [Cls, go_sem, F7, y7w0, y7wp1, y7wp2, y7w20, y7w2p1, y7w2p2, y7w40, y7w4p1, y7w4p2, y7w50, y7w5p1, y7w5p2, y7w60, y7w6p1, y7w6p2])
  have F8 := C8
  simp only [Cls, and_true] at F8
  have y8w0 : w.heap.size < w8.heap.size := C8.blk (b := w.heap.size) (k := 0) (v := .int .i64 t.facts) (by simp)
  have y8wp1 : w.heap.size < w8.heap.size + 1 := (by omega)
  have y8wp2 : w.heap.size < w8.heap.size + 1 + 1 := (by omega)
  have y8w20 : w2.heap.size < w8.heap.size := C8.blk (b := w2.heap.size) (k := 0) (v := .int .i64 0) (by simp)
  have y8w2p1 : w2.heap.size < w8.heap.size + 1 := (by omega)
  have y8w2p2 : w2.heap.size < w8.heap.size + 1 + 1 := (by omega)
  have y8w40 : w4.heap.size < w8.heap.size := C8.blk (b := w4.heap.size) (k := 0) (v := .int .i64 0) (by simp)
  have y8w4p1 : w4.heap.size < w8.heap.size + 1 := (by omega)
  have y8w4p2 : w4.heap.size < w8.heap.size + 1 + 1 := (by omega)
  have y8w50 : w5.heap.size < w8.heap.size := C8.blk (b := w5.heap.size) (k := 0) (v := .int .i64 0) (by simp)
  have y8w5p1 : w5.heap.size < w8.heap.size + 1 := (by omega)
  have y8w5p2 : w5.heap.size < w8.heap.size + 1 + 1 := (by omega)
  have y8w60 : w6.heap.size < w8.heap.size := C8.blk (b := w6.heap.size) (k := 0) (v := .int .i64 0) (by simp)
  have y8w6p1 : w6.heap.size < w8.heap.size + 1 := (by omega)
  have y8w6p2 : w6.heap.size < w8.heap.size + 1 + 1 := (by omega)
  have y8w70 : w7.heap.size < w8.heap.size := C8.blk (b := w7.heap.size) (k := 0) (v := .int .i64 0) (by simp)
  have y8w7p1 : w7.heap.size < w8.heap.size + 1 := (by omega)
  have y8w7p2 : w7.heap.size < w8.heap.size + 1 + 1 := (by omega)
  obtain ⟨A8, c8, rfl, hnil8, hI8⟩ := ho8.form
  clear hnil8 ho8
  have hd5 : decide (x5 ≤ x4) = true := by simpa using hle5
  have hd7 : decide (x7 ≤ x6) = true := by simpa using hle7
  have HSD := Lib.hid (decide_eq_true (within_more (n := n) (ops := t.ops) (use := fun _ => true) HSUB.out))
  have hl1 : (withinV n st t.ops fun _ => true).length ≤ 9223372036854775807 := Nat.le_trans withinV_len (by omega)
  have hl2 : (withinV n sm t.ops fun _ => true).length ≤ 9223372036854775807 := Nat.le_trans withinV_len (by omega)
  go_wp2_with fail
  refine (subset_any _ _ _ _ _ _ _ (hI2.below (by repeat (first | with_reducible exact Ew2_8 | with_reducible apply bdrew | with_reducible apply bdrewN | with_reducible apply balloc | ((with_reducible refine bset ?_ ?_ _); rotate_left; (first | omega | (simp <;> omega)))))) (hI8.below (by repeat (first | with_reducible exact Below.refl _ _ | with_reducible apply bdrew | with_reducible apply bdrewN | with_reducible apply balloc | ((with_reducible refine bset ?_ ?_ _); rotate_left; (first | omega | (simp <;> omega)))))) hl1 hl2).mono ?_
  rintro e w' ⟨he, rfl⟩
  rw [HSD.out] at he
  subst he
  go_wp2
  go_ret
  exact ⟨rfl, by repeat (first | with_reducible exact D8 | with_reducible apply bdrew | with_reducible apply bdrewN | with_reducible apply balloc | ((with_reducible refine bset ?_ ?_ _); rotate_left; (first | omega | (simp <;> omega))))⟩

theorem walk_morefacts (w : World) (t : TaskV) (Ai Ag Ao : Option Addr) (ci cg co : Nat) (hR : TaskRead w Ai Ag Ao ci cg co t) (S : Option Addr) (cs : Nat) (st : List Int) (hS : Ints w S st) (hSn : NilOk S st cs) (p : Int) :
    Calls Try.prog 9 #[.agg #[.int .i64 t.facts, .slice Ai t.init.length ci, .slice Ag t.goal.length cg, .slice Ao t.ops.length co], .slice S st.length cs, .int .i64 p] w fun e w' => e = .returned (.bool true) ∧ Below w.heap.size w w' := by
  by_cases h : (sfault t st).1 = 0
  · obtain ⟨hv, h2⟩ := sfault_zero.1 h
    obtain ⟨n, hn⟩ := Int.eq_ofNat_of_zero_le hv.f0
    by_cases hp : 0 ≤ p ∧ p ≤ t.facts - 1
    · exact walk_morefacts_3 w t Ai Ag Ao ci cg co hR S cs st hS hSn p n hn hv h2 hp
    · exact walk_morefacts_2 w t Ai Ag Ao ci cg co hR S cs st hS hSn p n hn hv h2 hp
  · exact walk_morefacts_1 w t Ai Ag Ao ci cg co hR S cs st hS hSn p h

namespace relaxedMoreFacts
open Go.ChangeShapes Go.WideShapes Go.ChangeAt Go.RowKit

set_option maxRecDepth 100000 in
theorem lifted (os : Os) (started : os.Started) (H : Type) (enc : TypeId × Value → H) :
    ReturnsInHanded {} Try.checked os 9 .any (Rows.relaxedMoreFactsSpec.pre6 enc Try.prog Try.f9 Rows.relaxedMoreFactsRow.domain false) (Rows.relaxedMoreFactsSpec.post enc Try.prog Try.f9 false true false false) := by
  refine returnsInHanded_of_change (C := Try.checked) own_knob started (by kernel_rfl) Try.func9
    (ChangeSpec.witness6 (enc := enc) (C := Try.checked) false ⟨#[], #[.agg #[.int .i64 0, .slice none 0 0, .slice none 0 0, .slice none 0 0], .slice none 0 0, .int .i64 0], []⟩ 8 (by kernel_rfl) (by kernel_rfl) (by kernel_rfl) (by kernel_rfl)) ?_
  intro W base args ds gs before hval0 hW _ hsz
  have hval : ∀ (j : Nat) t v, Try.f9.params[j]? = some t → args[j]? = some v → Value.okWide Try.prog W .any base t v := hval0
  have hpost := fun (W' : World) (hfn : gs = [] → Rows.relaxedMoreFactsSpec.fn H (ds ++ gs) = { results := [.lit (.bool true)], args := ds }) (hb : Below W.heap.size W W') => law_post (f := Try.f9) (tb := 4) laid_out_B Try.underlying4 rfl (by kernel_rfl) rfl hfn hW hb
  obtain ⟨p, q, hA0, hV, hpq, hfz, hnd⟩ := hW
  have hA : DataW.TrodAll enc Try.prog W 0 (fun _ => true) true Try.f9.params.toList args.toList ds p := hA0
  rw [Try.params9] at hA hval
  obtain ⟨v0, vs0, d0, ds0, p0, q0, hargs, rfl, hp0, h0, r0⟩ := trodAll_cons hA
  obtain ⟨v1, vs1, d1, ds1, p1, q1, rfl, rfl, hp1, h1, r1⟩ := trodAll_cons r0
  obtain ⟨v2, vs2, d2, ds2, p2, q2, rfl, rfl, hp2, h2, r2⟩ := trodAll_cons r1
  obtain ⟨rfl, rfl, hpn⟩ := trodAll_nil r2
  obtain rfl : args = #[v0, v1, v2] := by cases args; simp_all
  obtain ⟨t, Ai, Ag, Ao, ci, cg, co, rfl, hR⟩ := open_taskW (hval 0 25 v0 rfl rfl) h0
  obtain ⟨S, cs, st, rfl, hSc, hSl, hSnn, hS, hSi⟩ := open_intsW (hval 1 22 v1 rfl rfl) h1
  obtain ⟨pp, rfl, rfl, rfl, w2⟩ := open_int Try.underlying3 (hval 2 3 v2 rfl rfl) h2
  refine (walk_morefacts W t Ai Ag Ao ci cg co hR S cs st hS ⟨hSnn, hSc, hSl⟩ pp).mono fun e W' ⟨he, hb⟩ => ?_
  subst he
  exact ⟨_, rfl, hpost W' (fun hg => by subst hg; rfl) hb⟩

theorem proved : Rows.RelaxedMoreFactsSaid :=
  OpenClaim.holds_of_wide 9 Try.f9 rfl rfl rfl rfl rfl rfl rfl ⟨rfl, rfl, rfl, rfl, rfl⟩ rfl rfl rfl rfl rfl (by kernel_rfl) Try.func9 (by kernel_rfl)
    (of_decide_eq_true (by kernel_rfl)) (by unfold Func.isWrapper; first | (rw [if_pos (by decide +kernel)]; kernel_rfl) | (rw [if_neg (by decide +kernel)]; exact ⟨rfl, rfl⟩))
    (fun os started H enc _ => lifted os started H enc)
#print axioms proved
end relaxedMoreFacts

end Go.Proofs.Ythnhhohnjiigcaa
