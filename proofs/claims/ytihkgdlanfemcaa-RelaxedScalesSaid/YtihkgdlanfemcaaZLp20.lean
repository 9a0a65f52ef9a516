/-
  If all costs are multiplied by a number, the values for relaxed.Max and the least cost of a relaxed plan are, too.
-/
import Derived.Test.YtihkgdlanfemcaaZRex
import Derived.Test.YtihkgdlanfemcaaZScp
import Derived.Test.YtihkgdlanfemcaaZMF
import Derived.Test.YtihkgdlanfemcaaZME
import Derived.Test.YtihkgdlanfemcaaZBlaw
import Derived.Test.YtihkgdlanfemcaaZMA
import Derived.Test.YtihkgdlanfemcaaZPfacts
namespace Go.Proofs.Ytihkgdlanfemcaa
open Go.RowKit
set_option linter.unusedVariables false
set_option linter.unusedSimpArgs false

theorem scale_rng (w : World) (t : TaskV) (Ai Ag Ao : Option Addr) (ci cg co : Nat) (hT : TaskMem w Ai Ag Ao t) (by_ : Int) :
    Calls Try.prog 47 #[.agg #[.int .i64 t.facts, .slice Ai t.init.length ci, .slice Ag t.goal.length cg, .slice Ao t.ops.length co], .int .i64 by_] w fun e w' => (∃ c j, ¬ c = 0 ∧ e = .returned (.tuple #[.agg #[.int .i64 0, .slice none 0 0, .slice none 0 0, .slice none 0 0], .agg #[.int .i64 c, .int .i64 j]]) ∧ Below w.heap.size w w') ∨ (∃ u Ai' ci' Ag' cg' Ao' co', Hid (u = scT by_ t) ∧ Hid ((0 ≤ by_ ∧ by_ ≤ 100) ∧ ∀ o ∈ t.ops, o.cost * by_ ≤ 100) ∧ e = .returned (.tuple #[.agg #[.int .i64 u.facts, .slice Ai' u.init.length ci', .slice Ag' u.goal.length cg', .slice Ao' u.ops.length co'], .agg #[.int .i64 0, .int .i64 0]]) ∧ TaskMem w' Ai' Ag' Ao' u ∧ Below w.heap.size w w') := by
  by_cases h : (tfault t).1 = 0
  · have hv := tfault_zero.1 h
    by_cases hb : by_ < 0 ∨ by_ > 100
    · refine (scale_2 w t Ai Ag Ao ci cg co hT by_ hv hb).mono ?_
      rintro e w' ⟨rfl, hB⟩
      exact .inl ⟨3, -8, by omega, rfl, hB⟩
    · refine (scale_3 w t Ai Ag Ao ci cg co hT by_ hv (by omega) (by omega)).mono ?_
      rintro e w' (h1 | ⟨u, A0, c0, A1, c1, A2, c2, h1, h2, h3⟩)
      · exact .inl h1
      · exact .inr ⟨u, A0, c0, A1, c1, A2, c2, h1, Lib.hid ⟨by omega, h2.out⟩, h3⟩
  · refine (scale_1 w t Ai Ag Ao ci cg co hT by_ h).mono ?_
    rintro e w' ⟨rfl, hB⟩
    exact .inl ⟨_, _, h, rfl, hB⟩
set_option maxRecDepth 100000 in
set_option maxHeartbeats 1000000 in
theorem walk_rsc_1 (w : World) (t : TaskV) (Ai Ag Ao : Option Addr) (ci cg co : Nat) (hR : TaskRead w Ai Ag Ao ci cg co t) (S : Option Addr) (cs : Nat) (st : List Int) (hS : Ints w S st) (hSn : NilOk S st cs) (by_ : Int) (h : ¬ (sfault t st).1 = 0) :
    Calls Try.prog 9 #[.agg #[.int .i64 t.facts, .slice Ai t.init.length ci, .slice Ag t.goal.length cg, .slice Ao t.ops.length co], .slice S st.length cs, .int .i64 by_] w fun e w' => e = .returned (.bool true) ∧ Below w.heap.size w w' := by
  have N := bb_no h
  have N' := bn_yes h
  have hT := hR.mem
  have hls : lenOk st.length := Nat.le_trans hSn.2.1 hSn.2.2
  go_enter Try.func9, Try.ntmps9
  go_wp2_with fail
  refine (rexample_any _).mono ?_
  rintro e w1 ⟨rfl, hB1⟩
  have D1 := dstep w hB1 (by repeat (first | with_reducible exact Below.refl _ _ | with_reducible apply bdrew | with_reducible apply bdrewN | with_reducible apply balloc | ((with_reducible refine bset ?_ ?_ _); rotate_left; (first | omega | (simp <;> omega)))))
  have d1s := D1.size
  have C1 := Cls.below (l := [(w.heap.size, 0, .int .i64 t.facts), (w.heap.size, 1, .slice Ai t.init.length ci), (w.heap.size, 2, .slice Ag t.goal.length cg), (w.heap.size, 3, .slice Ao t.ops.length co)]) hB1 (by simp [Cls, go_sem])
  have F1 := C1
  simp only [Cls, and_true] at F1
  have y1w0 : w.heap.size < w1.heap.size := C1.blk (b := w.heap.size) (k := 0) (v := .int .i64 t.facts) (by simp)
  have y1wp1 : w.heap.size < w1.heap.size + 1 := (by omega)
  have y1wp2 : w.heap.size < w1.heap.size + 1 + 1 := (by omega)
  go_wp2_with fail
  refine (pxexample_any _).mono ?_
  rintro e w2 ⟨rfl, hB2⟩
  have D2 := dstep w hB2 (by repeat (first | with_reducible exact D1 | with_reducible apply bdrew | with_reducible apply bdrewN | with_reducible apply balloc | ((with_reducible refine bset ?_ ?_ _); rotate_left; (first | omega | (simp <;> omega)))))
  have d2s := D2.size
  have C2 := Cls.below (l := [(w.heap.size, 0, .int .i64 t.facts), (w.heap.size, 1, .slice Ai t.init.length ci), (w.heap.size, 2, .slice Ag t.goal.length cg), (w.heap.size, 3, .slice Ao t.ops.length co)]) hB2 (by simp [Cls, go_sem, F1, y1w0, y1wp1, y1wp2])
  have F2 := C2
  simp only [Cls, and_true] at F2
  have y2w0 : w.heap.size < w2.heap.size := C2.blk (b := w.heap.size) (k := 0) (v := .int .i64 t.facts) (by simp)
  have y2wp1 : w.heap.size < w2.heap.size + 1 := (by omega)
  have y2wp2 : w.heap.size < w2.heap.size + 1 + 1 := (by omega)
  go_wp2_with fail
  refine (scale_rng _ t Ai Ag Ao ci cg co (hT.below (by repeat (first | with_reducible exact D2 | with_reducible apply bdrew | with_reducible apply bdrewN | with_reducible apply balloc | ((with_reducible refine bset ?_ ?_ _); rotate_left; (first | omega | (simp <;> omega)))))) by_).mono ?_
  rintro e w3 (⟨c, j, hc, rfl, hB3⟩ | ⟨u, Bi, di, Bg, dg, Bo, do_, HU, HRG, rfl, hTu, hB3⟩)
  · have D3 := dstep w hB3 (by repeat (first | with_reducible exact D2 | with_reducible apply bdrew | with_reducible apply bdrewN | with_reducible apply balloc | ((with_reducible refine bset ?_ ?_ _); rotate_left; (first | omega | (simp <;> omega)))))
    have d3s := D3.size
    have C3 := Cls.below (l := [(w.heap.size, 0, .int .i64 t.facts), (w.heap.size, 1, .slice Ai t.init.length ci), (w.heap.size, 2, .slice Ag t.goal.length cg), (w.heap.size, 3, .slice Ao t.ops.length co)]) hB3 (by simp [Cls, go_sem, F2, y2w0, y2wp1, y2wp2])
    have F3 := C3
    simp only [Cls, and_true] at F3
    have y3w0 : w.heap.size < w3.heap.size := C3.blk (b := w.heap.size) (k := 0) (v := .int .i64 t.facts) (by simp)
    have y3wp1 : w.heap.size < w3.heap.size + 1 := (by omega)
    have y3wp2 : w.heap.size < w3.heap.size + 1 + 1 := (by omega)
    have M := bb_no hc
    have M' := bn_yes hc
    go_wp2_with fail
    refine (max_1 _ t Ai Ag Ao ci cg co (hT.below (by repeat (first | with_reducible exact D3 | with_reducible apply bdrew | with_reducible apply bdrewN | with_reducible apply balloc | ((with_reducible refine bset ?_ ?_ _); rotate_left; (first | omega | (simp <;> omega)))))) _ _ _ (hS.below (by repeat (first | with_reducible exact D3 | with_reducible apply bdrew | with_reducible apply bdrewN | with_reducible apply balloc | ((with_reducible refine bset ?_ ?_ _); rotate_left; (first | omega | (simp <;> omega)))))) hls h).mono ?_
    rintro e w4 ⟨rfl, hB4⟩
    have D4 := dstep w hB4 (by repeat (first | with_reducible exact D3 | with_reducible apply bdrew | with_reducible apply bdrewN | with_reducible apply balloc | ((with_reducible refine bset ?_ ?_ _); rotate_left; (first | omega | (simp <;> omega)))))
    have d4s := D4.size
    have C4 := Cls.below (l := [(w.heap.size, 0, .int .i64 t.facts), (w.heap.size, 1, .slice Ai t.init.length ci), (w.heap.size, 2, .slice Ag t.goal.length cg), (w.heap.size, 3, .slice Ao t.ops.length co), (w3.heap.size, 0, .int .i64 0), (w3.heap.size, 1, .slice none 0 0), (w3.heap.size, 2, .slice none 0 0), (w3.heap.size, 3, .slice none 0 0), (w3.heap.size + 1, 0, .int .i64 c), (w3.heap.size + 1, 1, .int .i64 j)]) hB4 (by simp [Cls, go_sem, F3, y3w0, y3wp1, y3wp2])
    have F4 := C4
    simp only [Cls, and_true] at F4
    have y4w0 : w.heap.size < w4.heap.size := C4.blk (b := w.heap.size) (k := 0) (v := .int .i64 t.facts) (by simp)
    have y4wp1 : w.heap.size < w4.heap.size + 1 := (by omega)
    have y4wp2 : w.heap.size < w4.heap.size + 1 + 1 := (by omega)
    have y4w31 : w3.heap.size + 1 < w4.heap.size := C4.blk (b := w3.heap.size + 1) (k := 0) (v := .int .i64 c) (by simp)
    have y4w30 : w3.heap.size < w4.heap.size := (by omega)
    have y4w3p1 : w3.heap.size < w4.heap.size + 1 := (by omega)
    have y4w3p2 : w3.heap.size < w4.heap.size + 1 + 1 := (by omega)
    go_wp2
    go_ret
    exact ⟨by simp, by repeat (first | with_reducible exact D4 | with_reducible apply bdrew | with_reducible apply bdrewN | with_reducible apply balloc | ((with_reducible refine bset ?_ ?_ _); rotate_left; (first | omega | (simp <;> omega))))⟩
  · have D3 := dstep w hB3 (by repeat (first | with_reducible exact D2 | with_reducible apply bdrew | with_reducible apply bdrewN | with_reducible apply balloc | ((with_reducible refine bset ?_ ?_ _); rotate_left; (first | omega | (simp <;> omega)))))
    have d3s := D3.size
    have C3 := Cls.below (l := [(w.heap.size, 0, .int .i64 t.facts), (w.heap.size, 1, .slice Ai t.init.length ci), (w.heap.size, 2, .slice Ag t.goal.length cg), (w.heap.size, 3, .slice Ao t.ops.length co)]) hB3 (by simp [Cls, go_sem, F2, y2w0, y2wp1, y2wp2])
    have F3 := C3
    simp only [Cls, and_true] at F3
    have y3w0 : w.heap.size < w3.heap.size := C3.blk (b := w.heap.size) (k := 0) (v := .int .i64 t.facts) (by simp)
    have y3wp1 : w.heap.size < w3.heap.size + 1 := (by omega)
    have y3wp2 : w.heap.size < w3.heap.size + 1 + 1 := (by omega)
    go_wp2_with fail
    refine (max_1 _ t Ai Ag Ao ci cg co (hT.below (by repeat (first | with_reducible exact D3 | with_reducible apply bdrew | with_reducible apply bdrewN | with_reducible apply balloc | ((with_reducible refine bset ?_ ?_ _); rotate_left; (first | omega | (simp <;> omega)))))) _ _ _ (hS.below (by repeat (first | with_reducible exact D3 | with_reducible apply bdrew | with_reducible apply bdrewN | with_reducible apply balloc | ((with_reducible refine bset ?_ ?_ _); rotate_left; (first | omega | (simp <;> omega)))))) hls h).mono ?_
    rintro e w4 ⟨rfl, hB4⟩
    have D4 := dstep w hB4 (by repeat (first | with_reducible exact D3 | with_reducible apply bdrew | with_reducible apply bdrewN | with_reducible apply balloc | ((with_reducible refine bset ?_ ?_ _); rotate_left; (first | omega | (simp <;> omega)))))
    have d4s := D4.size
    have Ew3_4 := dstep w3 hB4 (by repeat (first | with_reducible exact Below.refl _ _ | with_reducible apply bdrew | with_reducible apply bdrewN | with_reducible apply balloc | ((with_reducible refine bset ?_ ?_ _); rotate_left; (first | omega | (simp <;> omega)))))
    have C4 := Cls.below (l := [(w.heap.size, 0, .int .i64 t.facts), (w.heap.size, 1, .slice Ai t.init.length ci), (w.heap.size, 2, .slice Ag t.goal.length cg), (w.heap.size, 3, .slice Ao t.ops.length co), (w3.heap.size, 0, .int .i64 u.facts), (w3.heap.size, 1, .slice Bi u.init.length di), (w3.heap.size, 2, .slice Bg u.goal.length dg), (w3.heap.size, 3, .slice Bo u.ops.length do_), (w3.heap.size + 1, 0, .int .i64 0), (w3.heap.size + 1, 1, .int .i64 0)]) hB4 (by simp [Cls, go_sem, F3, y3w0, y3wp1, y3wp2])
    have F4 := C4
    simp only [Cls, and_true] at F4
    have y4w0 : w.heap.size < w4.heap.size := C4.blk (b := w.heap.size) (k := 0) (v := .int .i64 t.facts) (by simp)
    have y4wp1 : w.heap.size < w4.heap.size + 1 := (by omega)
    have y4wp2 : w.heap.size < w4.heap.size + 1 + 1 := (by omega)
    have y4w31 : w3.heap.size + 1 < w4.heap.size := C4.blk (b := w3.heap.size + 1) (k := 0) (v := .int .i64 0) (by simp)
    have y4w30 : w3.heap.size < w4.heap.size := (by omega)
    have y4w3p1 : w3.heap.size < w4.heap.size + 1 := (by omega)
    have y4w3p2 : w3.heap.size < w4.heap.size + 1 + 1 := (by omega)
    go_wp2
    go_ret
    exact ⟨by simp, by repeat (first | with_reducible exact D4 | with_reducible apply bdrew | with_reducible apply bdrewN | with_reducible apply balloc | ((with_reducible refine bset ?_ ?_ _); rotate_left; (first | omega | (simp <;> omega))))⟩

set_option maxRecDepth 100000 in
set_option maxHeartbeats 4000000 in
theorem walk_rsc_2 (w : World) (t : TaskV) (Ai Ag Ao : Option Addr) (ci cg co : Nat) (hR : TaskRead w Ai Ag Ao ci cg co t) (S : Option Addr) (cs : Nat) (st : List Int) (hS : Ints w S st) (hSn : NilOk S st cs) (by_ : Int) (n : Nat) (hn : t.facts = n) (hv : Valid t) (h2 : SetP st t.facts) :
    Calls Try.prog 9 #[.agg #[.int .i64 t.facts, .slice Ai t.init.length ci, .slice Ag t.goal.length cg, .slice Ao t.ops.length co], .slice S st.length cs, .int .i64 by_] w fun e w' => e = .returned (.bool true) ∧ Below w.heap.size w w' := by
  have hT := hR.mem
  have hls : lenOk st.length := Nat.le_trans hSn.2.1 hSn.2.2
  have HN := Lib.hid hn
  have HV := Lib.hid hv
  have H2 := Lib.hid h2
  have HST := Lib.hid (show SetP st (n : Int) by rw [← hn]; exact h2)
  clear hv h2 hn
  go_enter Try.func9, Try.ntmps9
  go_wp2_with fail
  refine (rexample_any _).mono ?_
  rintro e w1 ⟨rfl, hB1⟩
  have D1 := dstep w hB1 (by repeat (first | with_reducible exact Below.refl _ _ | with_reducible apply bdrew | with_reducible apply bdrewN | with_reducible apply balloc | ((with_reducible refine bset ?_ ?_ _); rotate_left; (first | omega | (simp <;> omega)))))
  have d1s := D1.size
  have C1 := Cls.below (l := [(w.heap.size, 0, .int .i64 t.facts), (w.heap.size, 1, .slice Ai t.init.length ci), (w.heap.size, 2, .slice Ag t.goal.length cg), (w.heap.size, 3, .slice Ao t.ops.length co)]) hB1 (by simp [Cls, go_sem])
  have F1 := C1
  simp only [Cls, and_true] at F1
  have y1w0 : w.heap.size < w1.heap.size := C1.blk (b := w.heap.size) (k := 0) (v := .int .i64 t.facts) (by simp)
  have y1wp1 : w.heap.size < w1.heap.size + 1 := (by omega)
  have y1wp2 : w.heap.size < w1.heap.size + 1 + 1 := (by omega)
  go_wp2_with fail
  refine (pxexample_any _).mono ?_
  rintro e w2 ⟨rfl, hB2⟩
  have D2 := dstep w hB2 (by repeat (first | with_reducible exact D1 | with_reducible apply bdrew | with_reducible apply bdrewN | with_reducible apply balloc | ((with_reducible refine bset ?_ ?_ _); rotate_left; (first | omega | (simp <;> omega)))))
  have d2s := D2.size
  have C2 := Cls.below (l := [(w.heap.size, 0, .int .i64 t.facts), (w.heap.size, 1, .slice Ai t.init.length ci), (w.heap.size, 2, .slice Ag t.goal.length cg), (w.heap.size, 3, .slice Ao t.ops.length co)]) hB2 (by simp [Cls, go_sem, F1, y1w0, y1wp1, y1wp2])
  have F2 := C2
  simp only [Cls, and_true] at F2
  have y2w0 : w.heap.size < w2.heap.size := C2.blk (b := w.heap.size) (k := 0) (v := .int .i64 t.facts) (by simp)
  have y2wp1 : w.heap.size < w2.heap.size + 1 := (by omega)
  have y2wp2 : w.heap.size < w2.heap.size + 1 + 1 := (by omega)
  go_wp2_with fail
  refine (scale_rng _ t Ai Ag Ao ci cg co (hT.below (by repeat (first | with_reducible exact D2 | with_reducible apply bdrew | with_reducible apply bdrewN | with_reducible apply balloc | ((with_reducible refine bset ?_ ?_ _); rotate_left; (first | omega | (simp <;> omega)))))) by_).mono ?_
  rintro e w3 (⟨c, j, hc, rfl, hB3⟩ | ⟨u, Bi, di, Bg, dg, Bo, do_, HU, HRG, rfl, hTu, hB3⟩)
  · have D3 := dstep w hB3 (by repeat (first | with_reducible exact D2 | with_reducible apply bdrew | with_reducible apply bdrewN | with_reducible apply balloc | ((with_reducible refine bset ?_ ?_ _); rotate_left; (first | omega | (simp <;> omega)))))
    have d3s := D3.size
    have C3 := Cls.below (l := [(w.heap.size, 0, .int .i64 t.facts), (w.heap.size, 1, .slice Ai t.init.length ci), (w.heap.size, 2, .slice Ag t.goal.length cg), (w.heap.size, 3, .slice Ao t.ops.length co)]) hB3 (by simp [Cls, go_sem, F2, y2w0, y2wp1, y2wp2])
    have F3 := C3
    simp only [Cls, and_true] at F3
    have y3w0 : w.heap.size < w3.heap.size := C3.blk (b := w.heap.size) (k := 0) (v := .int .i64 t.facts) (by simp)
    have y3wp1 : w.heap.size < w3.heap.size + 1 := (by omega)
    have y3wp2 : w.heap.size < w3.heap.size + 1 + 1 := (by omega)
    have M := bb_no hc
    have M' := bn_yes hc
    go_wp2_with fail
    refine (max_2 _ t Ai Ag Ao ci cg co (hT.below (by repeat (first | with_reducible exact D3 | with_reducible apply bdrew | with_reducible apply bdrewN | with_reducible apply balloc | ((with_reducible refine bset ?_ ?_ _); rotate_left; (first | omega | (simp <;> omega)))))) _ _ _ (hS.below (by repeat (first | with_reducible exact D3 | with_reducible apply bdrew | with_reducible apply bdrewN | with_reducible apply balloc | ((with_reducible refine bset ?_ ?_ _); rotate_left; (first | omega | (simp <;> omega)))))) hls n HN.out HV.out H2.out).mono ?_
    rintro e w4 ⟨g4, rfl, hg4, hA4, hb4, hB4⟩
    have D4 := dstep w hB4 (by repeat (first | with_reducible exact D3 | with_reducible apply bdrew | with_reducible apply bdrewN | with_reducible apply balloc | ((with_reducible refine bset ?_ ?_ _); rotate_left; (first | omega | (simp <;> omega)))))
    have d4s := D4.size
    have C4 := Cls.below (l := [(w.heap.size, 0, .int .i64 t.facts), (w.heap.size, 1, .slice Ai t.init.length ci), (w.heap.size, 2, .slice Ag t.goal.length cg), (w.heap.size, 3, .slice Ao t.ops.length co), (w3.heap.size, 0, .int .i64 0), (w3.heap.size, 1, .slice none 0 0), (w3.heap.size, 2, .slice none 0 0), (w3.heap.size, 3, .slice none 0 0), (w3.heap.size + 1, 0, .int .i64 c), (w3.heap.size + 1, 1, .int .i64 j)]) hB4 (by simp [Cls, go_sem, F3, y3w0, y3wp1, y3wp2])
    have F4 := C4
    simp only [Cls, and_true] at F4
    have y4w0 : w.heap.size < w4.heap.size := C4.blk (b := w.heap.size) (k := 0) (v := .int .i64 t.facts) (by simp)
    have y4wp1 : w.heap.size < w4.heap.size + 1 := (by omega)
    have y4wp2 : w.heap.size < w4.heap.size + 1 + 1 := (by omega)
    have y4w31 : w3.heap.size + 1 < w4.heap.size := C4.blk (b := w3.heap.size + 1) (k := 0) (v := .int .i64 c) (by simp)
    have y4w30 : w3.heap.size < w4.heap.size := (by omega)
    have y4w3p1 : w3.heap.size < w4.heap.size + 1 := (by omega)
    have y4w3p2 : w3.heap.size < w4.heap.size + 1 + 1 := (by omega)
    clear hg4 hA4 hb4
    obtain ⟨M1, hM1⟩ : ∃ a, Hid (combV false (valuesV false n st t.ops (t.ops.map (·.cost))) t.goal = a) := ⟨_, Lib.hid rfl⟩
    rw [hM1.out]
    go_wp2
    go_ret
    exact ⟨by simp, by repeat (first | with_reducible exact D4 | with_reducible apply bdrew | with_reducible apply bdrewN | with_reducible apply balloc | ((with_reducible refine bset ?_ ?_ _); rotate_left; (first | omega | (simp <;> omega))))⟩
  · have D3 := dstep w hB3 (by repeat (first | with_reducible exact D2 | with_reducible apply bdrew | with_reducible apply bdrewN | with_reducible apply balloc | ((with_reducible refine bset ?_ ?_ _); rotate_left; (first | omega | (simp <;> omega)))))
    have d3s := D3.size
    have C3 := Cls.below (l := [(w.heap.size, 0, .int .i64 t.facts), (w.heap.size, 1, .slice Ai t.init.length ci), (w.heap.size, 2, .slice Ag t.goal.length cg), (w.heap.size, 3, .slice Ao t.ops.length co)]) hB3 (by simp [Cls, go_sem, F2, y2w0, y2wp1, y2wp2])
    have F3 := C3
    simp only [Cls, and_true] at F3
    have y3w0 : w.heap.size < w3.heap.size := C3.blk (b := w.heap.size) (k := 0) (v := .int .i64 t.facts) (by simp)
    have y3wp1 : w.heap.size < w3.heap.size + 1 := (by omega)
    have y3wp2 : w.heap.size < w3.heap.size + 1 + 1 := (by omega)
    go_wp2_with fail
    refine (max_2 _ t Ai Ag Ao ci cg co (hT.below (by repeat (first | with_reducible exact D3 | with_reducible apply bdrew | with_reducible apply bdrewN | with_reducible apply balloc | ((with_reducible refine bset ?_ ?_ _); rotate_left; (first | omega | (simp <;> omega)))))) _ _ _ (hS.below (by repeat (first | with_reducible exact D3 | with_reducible apply bdrew | with_reducible apply bdrewN | with_reducible apply balloc | ((with_reducible refine bset ?_ ?_ _); rotate_left; (first | omega | (simp <;> omega)))))) hls n HN.out HV.out H2.out).mono ?_
    rintro e w4 ⟨g4, rfl, hg4, hA4, hb4, hB4⟩
    have D4 := dstep w hB4 (by repeat (first | with_reducible exact D3 | with_reducible apply bdrew | with_reducible apply bdrewN | with_reducible apply balloc | ((with_reducible refine bset ?_ ?_ _); rotate_left; (first | omega | (simp <;> omega)))))
    have d4s := D4.size
    have Ew3_4 := dstep w3 hB4 (by repeat (first | with_reducible exact Below.refl _ _ | with_reducible apply bdrew | with_reducible apply bdrewN | with_reducible apply balloc | ((with_reducible refine bset ?_ ?_ _); rotate_left; (first | omega | (simp <;> omega)))))
    have C4 := Cls.below (l := [(w.heap.size, 0, .int .i64 t.facts), (w.heap.size, 1, .slice Ai t.init.length ci), (w.heap.size, 2, .slice Ag t.goal.length cg), (w.heap.size, 3, .slice Ao t.ops.length co), (w3.heap.size, 0, .int .i64 u.facts), (w3.heap.size, 1, .slice Bi u.init.length di), (w3.heap.size, 2, .slice Bg u.goal.length dg), (w3.heap.size, 3, .slice Bo u.ops.length do_), (w3.heap.size + 1, 0, .int .i64 0), (w3.heap.size + 1, 1, .int .i64 0)]) hB4 (by simp [Cls, go_sem, F3, y3w0, y3wp1, y3wp2])
    have F4 := C4
    simp only [Cls, and_true] at F4
    have y4w0 : w.heap.size < w4.heap.size := C4.blk (b := w.heap.size) (k := 0) (v := .int .i64 t.facts) (by simp)
    have y4wp1 : w.heap.size < w4.heap.size + 1 := (by omega)
    have y4wp2 : w.heap.size < w4.heap.size + 1 + 1 := (by omega)
    have y4w31 : w3.heap.size + 1 < w4.heap.size := C4.blk (b := w3.heap.size + 1) (k := 0) (v := .int .i64 0) (by simp)
    have y4w30 : w3.heap.size < w4.heap.size := (by omega)
    have y4w3p1 : w3.heap.size < w4.heap.size + 1 := (by omega)
    have y4w3p2 : w3.heap.size < w4.heap.size + 1 + 1 := (by omega)
    clear hg4 hA4 hb4
    obtain ⟨M1, hM1⟩ : ∃ a, Hid (combV false (valuesV false n st t.ops (t.ops.map (·.cost))) t.goal = a) := ⟨_, Lib.hid rfl⟩
    rw [hM1.out]
    have HUN := Lib.hid (show u.facts = (n : Int) by rw [HU.out]; exact HN.out)
    have HUV := Lib.hid (show Valid u by rw [HU.out]; exact valid_sc HV.out HRG.out.1.1 HRG.out.2)
    have HU2 := Lib.hid (show SetP st u.facts by rw [HUN.out]; exact HST.out)
    go_wp2_with fail
    refine (max_2 _ u Bi Bg Bo di dg do_ (hTu.below (by repeat (first | with_reducible exact Ew3_4 | with_reducible apply bdrew | with_reducible apply bdrewN | with_reducible apply balloc | ((with_reducible refine bset ?_ ?_ _); rotate_left; (first | omega | (simp <;> omega)))))) _ _ _ (hS.below (by repeat (first | with_reducible exact D4 | with_reducible apply bdrew | with_reducible apply bdrewN | with_reducible apply balloc | ((with_reducible refine bset ?_ ?_ _); rotate_left; (first | omega | (simp <;> omega)))))) hls n HUN.out HUV.out HU2.out).mono ?_
    rintro e w5 ⟨g5, rfl, hg5, hA5, hb5, hB5⟩
    have D5 := dstep w hB5 (by repeat (first | with_reducible exact D4 | with_reducible apply bdrew | with_reducible apply bdrewN | with_reducible apply balloc | ((with_reducible refine bset ?_ ?_ _); rotate_left; (first | omega | (simp <;> omega)))))
    have d5s := D5.size
    have Ew3_5 := dstep w3 hB5 (by repeat (first | with_reducible exact Ew3_4 | with_reducible apply bdrew | with_reducible apply bdrewN | with_reducible apply balloc | ((with_reducible refine bset ?_ ?_ _); rotate_left; (first | omega | (simp <;> omega)))))
    have C5 := Cls.below (l := [(w.heap.size, 0, .int .i64 t.facts), (w.heap.size, 1, .slice Ai t.init.length ci), (w.heap.size, 2, .slice Ag t.goal.length cg), (w.heap.size, 3, .slice Ao t.ops.length co), (w3.heap.size, 0, .int .i64 u.facts), (w3.heap.size, 1, .slice Bi u.init.length di), (w3.heap.size, 2, .slice Bg u.goal.length dg), (w3.heap.size, 3, .slice Bo u.ops.length do_), (w3.heap.size + 1, 0, .int .i64 0), (w3.heap.size + 1, 1, .int .i64 0), (w4.heap.size, 0, .int .i64 0), (w4.heap.size, 1, .int .i64 0)]) hB5 (by simp [Cls, go_sem, F4, y4w0, y4wp1, y4wp2, y4w31, y4w30, y4w3p1, y4w3p2])
    have F5 := C5
    simp only [Cls, and_true] at F5
    have y5w0 : w.heap.size < w5.heap.size := C5.blk (b := w.heap.size) (k := 0) (v := .int .i64 t.facts) (by simp)
    have y5wp1 : w.heap.size < w5.heap.size + 1 := (by omega)
    have y5wp2 : w.heap.size < w5.heap.size + 1 + 1 := (by omega)
    have y5w31 : w3.heap.size + 1 < w5.heap.size := C5.blk (b := w3.heap.size + 1) (k := 0) (v := .int .i64 0) (by simp)
    have y5w30 : w3.heap.size < w5.heap.size := (by omega)
    have y5w3p1 : w3.heap.size < w5.heap.size + 1 := (by omega)
    have y5w3p2 : w3.heap.size < w5.heap.size + 1 + 1 := (by omega)
    have y5w40 : w4.heap.size < w5.heap.size := C5.blk (b := w4.heap.size) (k := 0) (v := .int .i64 0) (by simp)
    have y5w4p1 : w4.heap.size < w5.heap.size + 1 := (by omega)
    have y5w4p2 : w4.heap.size < w5.heap.size + 1 + 1 := (by omega)
    clear hg5 hA5 hb5
    obtain ⟨M2, hM2⟩ : ∃ a, Hid (combV false (valuesV false n st u.ops (u.ops.map (·.cost))) u.goal = a) := ⟨_, Lib.hid rfl⟩
    rw [hM2.out]
    go_wp2_with fail
    refine (rbest_2 _ t Ai Ag Ao ci cg co (hT.below (by repeat (first | with_reducible exact D5 | with_reducible apply bdrew | with_reducible apply bdrewN | with_reducible apply balloc | ((with_reducible refine bset ?_ ?_ _); rotate_left; (first | omega | (simp <;> omega)))))) _ _ _ (hS.below (by repeat (first | with_reducible exact D5 | with_reducible apply bdrew | with_reducible apply bdrewN | with_reducible apply balloc | ((with_reducible refine bset ?_ ?_ _); rotate_left; (first | omega | (simp <;> omega)))))) hls n HN.out HV.out H2.out).mono ?_
    rintro e w6 ⟨d, c, j, rfl, hrb, hB6⟩
    have D6 := dstep w hB6 (by repeat (first | with_reducible exact D5 | with_reducible apply bdrew | with_reducible apply bdrewN | with_reducible apply balloc | ((with_reducible refine bset ?_ ?_ _); rotate_left; (first | omega | (simp <;> omega)))))
    have d6s := D6.size
    have Ew3_6 := dstep w3 hB6 (by repeat (first | with_reducible exact Ew3_5 | with_reducible apply bdrew | with_reducible apply bdrewN | with_reducible apply balloc | ((with_reducible refine bset ?_ ?_ _); rotate_left; (first | omega | (simp <;> omega)))))
    have C6 := Cls.below (l := [(w.heap.size, 0, .int .i64 t.facts), (w.heap.size, 1, .slice Ai t.init.length ci), (w.heap.size, 2, .slice Ag t.goal.length cg), (w.heap.size, 3, .slice Ao t.ops.length co), (w3.heap.size, 0, .int .i64 u.facts), (w3.heap.size, 1, .slice Bi u.init.length di), (w3.heap.size, 2, .slice Bg u.goal.length dg), (w3.heap.size, 3, .slice Bo u.ops.length do_), (w3.heap.size + 1, 0, .int .i64 0), (w3.heap.size + 1, 1, .int .i64 0), (w4.heap.size, 0, .int .i64 0), (w4.heap.size, 1, .int .i64 0), (w5.heap.size, 0, .int .i64 0), (w5.heap.size, 1, .int .i64 0)]) hB6 (by simp [Cls, go_sem, F5, y5w0, y5wp1, y5wp2, y5w31, y5w30, y5w3p1, y5w3p2, y5w40, y5w4p1, y5w4p2])
    have F6 := C6
    simp only [Cls, and_true] at F6
    have y6w0 : w.heap.size < w6.heap.size := C6.blk (b := w.heap.size) (k := 0) (v := .int .i64 t.facts) (by simp)
    have y6wp1 : w.heap.size < w6.heap.size + 1 := (by omega)
    have y6wp2 : w.heap.size < w6.heap.size + 1 + 1 := (by omega)
    have y6w31 : w3.heap.size + 1 < w6.heap.size := C6.blk (b := w3.heap.size + 1) (k := 0) (v := .int .i64 0) (by simp)
    have y6w30 : w3.heap.size < w6.heap.size := (by omega)
    have y6w3p1 : w3.heap.size < w6.heap.size + 1 := (by omega)
    have y6w3p2 : w3.heap.size < w6.heap.size + 1 + 1 := (by omega)
    have y6w40 : w4.heap.size < w6.heap.size := C6.blk (b := w4.heap.size) (k := 0) (v := .int .i64 0) (by simp)
    have y6w4p1 : w4.heap.size < w6.heap.size + 1 := (by omega)
    have y6w4p2 : w4.heap.size < w6.heap.size + 1 + 1 := (by omega)
    have y6w50 : w5.heap.size < w6.heap.size := C6.blk (b := w5.heap.size) (k := 0) (v := .int .i64 0) (by simp)
    have y6w5p1 : w5.heap.size < w6.heap.size + 1 := (by omega)
    have y6w5p2 : w5.heap.size < w6.heap.size + 1 + 1 := (by omega)
    have HRB := Lib.hid hrb
    clear hrb
    go_wp2_with fail
    refine (rbest_2 _ u Bi Bg Bo di dg do_ (hTu.below (by repeat (first | with_reducible exact Ew3_6 | with_reducible apply bdrew | with_reducible apply bdrewN | with_reducible apply balloc | ((with_reducible refine bset ?_ ?_ _); rotate_left; (first | omega | (simp <;> omega)))))) _ _ _ (hS.below (by repeat (first | with_reducible exact D6 | with_reducible apply bdrew | with_reducible apply bdrewN | with_reducible apply balloc | ((with_reducible refine bset ?_ ?_ _); rotate_left; (first | omega | (simp <;> omega)))))) hls n HUN.out HUV.out HU2.out).mono ?_
    rintro e w7 ⟨d2, c2, j2, rfl, hrb, hB7⟩
    have D7 := dstep w hB7 (by repeat (first | with_reducible exact D6 | with_reducible apply bdrew | with_reducible apply bdrewN | with_reducible apply balloc | ((with_reducible refine bset ?_ ?_ _); rotate_left; (first | omega | (simp <;> omega)))))
    have d7s := D7.size
    have Ew3_7 := dstep w3 hB7 (by repeat (first | with_reducible exact Ew3_6 | with_reducible apply bdrew | with_reducible apply bdrewN | with_reducible apply balloc | ((with_reducible refine bset ?_ ?_ _); rotate_left; (first | omega | (simp <;> omega)))))
    have C7 := Cls.below (l := [(w.heap.size, 0, .int .i64 t.facts), (w.heap.size, 1, .slice Ai t.init.length ci), (w.heap.size, 2, .slice Ag t.goal.length cg), (w.heap.size, 3, .slice Ao t.ops.length co), (w3.heap.size, 0, .int .i64 u.facts), (w3.heap.size, 1, .slice Bi u.init.length di), (w3.heap.size, 2, .slice Bg u.goal.length dg), (w3.heap.size, 3, .slice Bo u.ops.length do_), (w3.heap.size + 1, 0, .int .i64 0), (w3.heap.size + 1, 1, .int .i64 0), (w4.heap.size, 0, .int .i64 0), (w4.heap.size, 1, .int .i64 0), (w5.heap.size, 0, .int .i64 0), (w5.heap.size, 1, .int .i64 0), (w6.heap.size, 0, .int .i64 c), (w6.heap.size, 1, .int .i64 j)]) hB7 (by simp [Cls, go_sem, F6, y6w0, y6wp1, y6wp2, y6w31, y6w30, y6w3p1, y6w3p2, y6w40, y6w4p1, y6w4p2, y6w50, y6w5p1, y6w5p2])
    have F7 := C7
    simp only [Cls, and_true] at F7
    have y7w0 : w.heap.size < w7.heap.size := C7.blk (b := w.heap.size) (k := 0) (v := .int .i64 t.facts) (by simp)
    have y7wp1 : w.heap.size < w7.heap.size + 1 := (by omega)
    have y7wp2 : w.heap.size < w7.heap.size + 1 + 1 := (by omega)
    have y7w31 : w3.heap.size + 1 < w7.heap.size := C7.blk (b := w3.heap.size + 1) (k := 0) (v := .int .i64 0) (by simp)
    have y7w30 : w3.heap.size < w7.heap.size := (by omega)
    have y7w3p1 : w3.heap.size < w7.heap.size + 1 := (by omega)
    have y7w3p2 : w3.heap.size < w7.heap.size + 1 + 1 := (by omega)
    have y7w40 : w4.heap.size < w7.heap.size := C7.blk (b := w4.heap.size) (k := 0) (v := .int .i64 0) (by simp)
    have y7w4p1 : w4.heap.size < w7.heap.size + 1 := (by omega)
    have y7w4p2 : w4.heap.size < w7.heap.size + 1 + 1 := (by omega)
    have y7w50 : w5.heap.size < w7.heap.size := C7.blk (b := w5.heap.size) (k := 0) (v := .int .i64 0) (by simp)
    have y7w5p1 : w5.heap.size < w7.heap.size + 1 := (by omega)
    have y7w5p2 : w5.heap.size < w7.heap.size + 1 + 1 := (by omega)
    have y7w60 : w6.heap.size < w7.heap.size := C7.blk (b := w6.heap.size) (k := 0) (v := .int .i64 c) (by simp)
    have y7w6p1 : w6.heap.size < w7.heap.size + 1 := (by omega)
    have y7w6p2 : w6.heap.size < w7.heap.size + 1 + 1 := (by omega)
    have HRB2 := Lib.hid hrb
    clear hrb
    have hmx : (M1 = 1000000000 ↔ M2 = 1000000000) ∧ (M1 = 1000000000 ∨ M2 = M1 * by_) ∧ 0 ≤ M1 ∧ M1 ≤ 1000000000 ∧ 0 ≤ M2 ∧ M2 ≤ 1000000000 := by
      have h := hM2.out
      rw [HU.out] at h
      exact max_sc HV.out HN.out HST.out HRG.out.1.1 HRG.out.1.2 HRG.out.2 hM1.out h
    have hrs := HRB2.out
    rw [HU.out] at hrs
    have hrs := rbo_sc HRB.out hrs
    obtain ⟨hm1, hm2, hm3, hm4, hm5, hm6⟩ := hmx
    have HM1 := Lib.hid hm1
    clear hm1
    rcases hrs with ⟨rfl, rfl, rfl, rfl, hd1, hd2⟩ | ⟨rfl, rfl, rfl, rfl, rfl, rfl⟩
    · obtain ⟨hii, hdk⟩ := rb_sc HV.out HN.out HST.out HRG.out.1.1 HRG.out.1.2 HRG.out.2 hd1 hd2
      have hdr := hd1.2.1
      have hdr2 := hd2.2.1
      have hdn := hd1.nn (rx_cost (fun o ho => (HV.out.ops o ho).2.1))
      have hdn2 := hd2.nn (rx_cost (fun o ho => ((valid_sc HV.out HRG.out.1.1 HRG.out.2).ops o ho).2.1))
      have HII := Lib.hid hii
      clear hd1 hd2 hii
      by_cases hi : M1 = 1000000000
      · obtain rfl : M2 = 1000000000 := HM1.out.1 hi
        subst hi
        by_cases hd : d = 1000000000
        · obtain rfl : d2 = 1000000000 := by have := HII.out; omega
          subst hd
          go_wp2
          go_ret
          exact ⟨by simp, by repeat (first | with_reducible exact D7 | with_reducible apply bdrew | with_reducible apply bdrewN | with_reducible apply balloc | ((with_reducible refine bset ?_ ?_ _); rotate_left; (first | omega | (simp <;> omega))))⟩
        · obtain rfl : d2 = d * by_ := hdk.resolve_left hd
          have hd1 : (d == 1000000000) = false := by simpa using hd
          have hd2 : decide (d < 1000000000) = true := decide_eq_true (by omega)
          have hd3 : decide (d * by_ < 1000000000) = true := decide_eq_true (HII.out.1 (by omega))
          go_wp2
          go_ret
          exact ⟨by simp, by repeat (first | with_reducible exact D7 | with_reducible apply bdrew | with_reducible apply bdrewN | with_reducible apply balloc | ((with_reducible refine bset ?_ ?_ _); rotate_left; (first | omega | (simp <;> omega))))⟩
      · obtain rfl : M2 = M1 * by_ := hm2.resolve_left hi
        have hi1 : (M1 == 1000000000) = false := by simpa using hi
        have hi2 : decide (M1 < 1000000000) = true := decide_eq_true (by omega)
        have hi3 : decide (M1 * by_ < 1000000000) = true := decide_eq_true (by have : ¬ M1 * by_ = 1000000000 := fun h => hi (HM1.out.2 h); omega)
        by_cases hd : d = 1000000000
        · obtain rfl : d2 = 1000000000 := by have := HII.out; omega
          subst hd
          go_wp2
          go_ret
          exact ⟨by simp, by repeat (first | with_reducible exact D7 | with_reducible apply bdrew | with_reducible apply bdrewN | with_reducible apply balloc | ((with_reducible refine bset ?_ ?_ _); rotate_left; (first | omega | (simp <;> omega))))⟩
        · obtain rfl : d2 = d * by_ := hdk.resolve_left hd
          have hd1 : (d == 1000000000) = false := by simpa using hd
          have hd2 : decide (d < 1000000000) = true := decide_eq_true (by omega)
          have hd3 : decide (d * by_ < 1000000000) = true := decide_eq_true (HII.out.1 (by omega))
          go_wp2
          go_ret
          exact ⟨by simp, by repeat (first | with_reducible exact D7 | with_reducible apply bdrew | with_reducible apply bdrewN | with_reducible apply balloc | ((with_reducible refine bset ?_ ?_ _); rotate_left; (first | omega | (simp <;> omega))))⟩
    · skip
      by_cases hi : M1 = 1000000000
      · obtain rfl : M2 = 1000000000 := HM1.out.1 hi
        subst hi
        go_wp2
        go_ret
        exact ⟨by simp, by repeat (first | with_reducible exact D7 | with_reducible apply bdrew | with_reducible apply bdrewN | with_reducible apply balloc | ((with_reducible refine bset ?_ ?_ _); rotate_left; (first | omega | (simp <;> omega))))⟩
      · obtain rfl : M2 = M1 * by_ := hm2.resolve_left hi
        have hi1 : (M1 == 1000000000) = false := by simpa using hi
        have hi2 : decide (M1 < 1000000000) = true := decide_eq_true (by omega)
        have hi3 : decide (M1 * by_ < 1000000000) = true := decide_eq_true (by have : ¬ M1 * by_ = 1000000000 := fun h => hi (HM1.out.2 h); omega)
        go_wp2
        go_ret
        exact ⟨by simp, by repeat (first | with_reducible exact D7 | with_reducible apply bdrew | with_reducible apply bdrewN | with_reducible apply balloc | ((with_reducible refine bset ?_ ?_ _); rotate_left; (first | omega | (simp <;> omega))))⟩

theorem walk_rsc (w : World) (t : TaskV) (Ai Ag Ao : Option Addr) (ci cg co : Nat) (hR : TaskRead w Ai Ag Ao ci cg co t) (S : Option Addr) (cs : Nat) (st : List Int) (hS : Ints w S st) (hSn : NilOk S st cs) (by_ : Int) :
    Calls Try.prog 9 #[.agg #[.int .i64 t.facts, .slice Ai t.init.length ci, .slice Ag t.goal.length cg, .slice Ao t.ops.length co], .slice S st.length cs, .int .i64 by_] w fun e w' => e = .returned (.bool true) ∧ Below w.heap.size w w' := by
  by_cases h : (sfault t st).1 = 0
  · obtain ⟨hv, h2⟩ := sfault_zero.1 h
    obtain ⟨n, hn⟩ := Int.eq_ofNat_of_zero_le hv.f0
    exact walk_rsc_2 w t Ai Ag Ao ci cg co hR S cs st hS hSn by_ n hn hv h2
  · exact walk_rsc_1 w t Ai Ag Ao ci cg co hR S cs st hS hSn by_ h

namespace relaxedScales
open Go.ChangeShapes Go.WideShapes Go.ChangeAt Go.RowKit

set_option maxRecDepth 100000 in
theorem lifted (os : Os) (started : os.Started) (H : Type) (enc : TypeId × Value → H) :
    ReturnsInHanded {} Try.checked os 9 .any (Rows.relaxedScalesSpec.pre6 enc Try.prog Try.f9 Rows.relaxedScalesRow.domain false) (Rows.relaxedScalesSpec.post enc Try.prog Try.f9 false true false false) := by
  refine returnsInHanded_of_change (C := Try.checked) own_knob started (by kernel_rfl) Try.func9
    (ChangeSpec.witness6 (enc := enc) (C := Try.checked) false ⟨#[], #[.agg #[.int .i64 0, .slice none 0 0, .slice none 0 0, .slice none 0 0], .slice none 0 0, .int .i64 0], []⟩ 8 (by kernel_rfl) (by kernel_rfl) (by kernel_rfl) (by kernel_rfl)) ?_
  intro W base args ds gs before hval0 hW _ hsz
  have hval : ∀ (j : Nat) t v, Try.f9.params[j]? = some t → args[j]? = some v → Value.okWide Try.prog W .any base t v := hval0
  have hpost := fun (W' : World) (hfn : gs = [] → Rows.relaxedScalesSpec.fn H (ds ++ gs) = { results := [.lit (.bool true)], args := ds }) (hb : Below W.heap.size W W') => law_post (f := Try.f9) (tb := 4) laid_out_B Try.underlying4 rfl (by kernel_rfl) rfl hfn hW hb
  obtain ⟨p, q, hA0, hV, hpq, hfz, hnd⟩ := hW
  have hA : DataW.TrodAll enc Try.prog W 0 (fun _ => true) true Try.f9.params.toList args.toList ds p := hA0
  rw [Try.params9] at hA hval
  obtain ⟨v0, vs0, d0, ds0, p0, q0, hargs, rfl, hp0, h0, r0⟩ := trodAll_cons hA
  obtain ⟨v1, vs1, d1, ds1, p1, q1, rfl, rfl, hp1, h1, r1⟩ := trodAll_cons r0
  obtain ⟨v2, vs2, d2, ds2, p2, q2, rfl, rfl, hp2, h2, r2⟩ := trodAll_cons r1
  obtain ⟨rfl, rfl, hpn⟩ := trodAll_nil r2
  obtain rfl : args = #[v0, v1, v2] := by cases args; simp_all
  obtain ⟨t, Ai, Ag, Ao, ci, cg, co, rfl, hR⟩ := open_taskW (hval 0 25 v0 rfl rfl) h0
  obtain ⟨S, cs, st, rfl, hSc, hSl, hSnn, hS, hSi⟩ := open_intsW (hval 1 22 v1 rfl rfl) h1
  obtain ⟨by_, rfl, rfl, rfl, w2⟩ := open_int Try.underlying3 (hval 2 3 v2 rfl rfl) h2
  refine (walk_rsc W t Ai Ag Ao ci cg co hR S cs st hS ⟨hSnn, hSc, hSl⟩ by_).mono fun e W' ⟨he, hb⟩ => ?_
  subst he
  exact ⟨_, rfl, hpost W' (fun hg => by subst hg; rfl) hb⟩

theorem closed : joinedFacts Try.checked.prog 9 Try.f9 Rows.relaxedScalesSpec Rows.relaxedScalesRow = true := by
  unfold joinedFacts
  rw [pf_enter, pf_lifts, pf_make]
  kernel_rfl
theorem proved : Rows.RelaxedScalesSaid :=
  OpenClaim.holds_of_wide 9 Try.f9 rfl rfl rfl rfl rfl rfl rfl ⟨rfl, rfl, rfl, rfl, rfl⟩ rfl rfl rfl rfl rfl (by kernel_rfl) Try.func9 closed
    (of_decide_eq_true (by kernel_rfl)) (by unfold Func.isWrapper; first | (rw [if_pos (by decide +kernel)]; kernel_rfl) | (rw [if_neg (by decide +kernel)]; exact ⟨rfl, rfl⟩))
    (fun os started H enc _ => lifted os started H enc)
#print axioms proved
end relaxedScales

end Go.Proofs.Ytihkgdlanfemcaa
