/-
  The relaxed plan is a plan of the task without deletions; it contains no operator twice.
-/
import Derived.Test.YtihkgdlanfemcaaZRex
import Derived.Test.YtihkgdlanfemcaaZRxv
import Derived.Test.YtihkgdlanfemcaaZRc3
import Derived.Test.YtihkgdlanfemcaaZSt4
import Derived.Test.YtihkgdlanfemcaaZBlaw
import Derived.Test.YtihkgdlanfemcaaZMA
import Derived.Test.YtihkgdlanfemcaaZPfacts
namespace Go.Proofs.Ytihkgdlanfemcaa
open Go.RowKit
set_option linter.unusedVariables false
set_option linter.unusedSimpArgs false

/-! ### The law, plain -/
theorem execS_cons {n : Nat} {ops : List OpV} {st pl : List Int} {i : Int} : execS n ops st (i :: pl) = execS n ops (nextV n st (rxO (opAt ops i))) pl := rfl
theorem runV_exec {n : Nat} {ops : List OpV} : ∀ (pl s : List Int), (∀ (a : List Int) (i : Int) (b : List Int), pl = a ++ i :: b → ∃ o, ops[i.toNat]? = some o ∧ ∀ q ∈ o.pre, q ∈ execS n ops s a) → (runV n (ops.map rxO) s pl).length = pl.length + 1 ∧ (runV n (ops.map rxO) s pl)[pl.length]? = some (execS n ops s pl)
  | [], s, _ => by rw [runV_nil]; exact ⟨rfl, rfl⟩
  | op :: pl, s, h => by
    obtain ⟨o, ho, hq⟩ := h [] op pl rfl
    have h1 : (ops.map rxO)[op.toNat]? = some (rxO o) := by rw [List.getElem?_map, ho]; rfl
    rw [runV_yes (show CanV (ops.map rxO) s op from ⟨rxO o, h1, hq⟩), opAt_of h1, execS_cons, opAt_of ho]
    obtain ⟨h2, h3⟩ := runV_exec pl (nextV n s (rxO o)) (fun a i b e => by
      obtain ⟨o', h4, h5⟩ := h (op :: a) i b (by rw [e]; rfl)
      refine ⟨o', h4, fun q hqq => ?_⟩
      have := h5 q hqq
      rwa [execS_cons, opAt_of ho] at this)
    refine ⟨by rw [List.length_cons, h2, List.length_cons], ?_⟩
    rw [List.length_cons, List.getElem?_cons_succ]
    exact h3
theorem nodup_before {pl : List Int} (h : pl.Nodup) {k : Nat} {x : Int} (hx : pl[k]? = some x) : ¬ x ∈ pl.take k := fun hm => by
  obtain ⟨j, hj, e⟩ := List.mem_iff_getElem.1 hm
  rw [List.length_take] at hj
  obtain ⟨h1, h2⟩ := List.getElem?_eq_some_iff.1 hx
  rw [List.getElem_take] at e
  have := (List.getElem_inj h).1 (e.trans h2.symm)
  omega
theorem sfault_of {t : TaskV} (h : ¬ (tfault t).1 = 0) : ¬ (sfault t t.init).1 = 0 := fun h0 => h (tfault_zero.2 (sfault_zero.1 h0).1)
set_option maxRecDepth 100000 in
set_option maxHeartbeats 1000000 in
theorem walk_rps_1 (w : World) (t : TaskV) (Ai Ag Ao : Option Addr) (ci cg co : Nat) (hR : TaskRead w Ai Ag Ao ci cg co t) (h : ¬ (tfault t).1 = 0) :
    Calls Try.prog 15 #[.agg #[.int .i64 t.facts, .slice Ai t.init.length ci, .slice Ag t.goal.length cg, .slice Ao t.ops.length co]] w fun e w' => e = .returned (.bool true) ∧ Below w.heap.size w w' := by
  have h' := sfault_of h
  have N := bb_no h
  have N' := bn_yes h
  have hT := hR.mem
  go_enter Try.func15, Try.ntmps15
  go_wp2_with fail
  refine (pxexample_any _).mono ?_
  rintro e w1 ⟨rfl, hB1⟩
  have D1 := dstep w hB1 (by repeat (first | with_reducible exact Below.refl _ _ | with_reducible apply bdrew | with_reducible apply bdrewN | with_reducible apply balloc | ((with_reducible refine bset ?_ ?_ _); rotate_left; (first | omega | (simp <;> omega)))))
  have d1s := D1.size
  have C1 := Cls.below (l := [(w.heap.size, 0, .int .i64 t.facts), (w.heap.size, 1, .slice Ai t.init.length ci), (w.heap.size, 2, .slice Ag t.goal.length cg), (w.heap.size, 3, .slice Ao t.ops.length co)]) hB1 (by simp [Cls, go_sem])
  have F1 := C1
  simp only [Cls, and_true] at F1
  have y1w0 : w.heap.size < w1.heap.size := C1.blk (b := w.heap.size) (k := 0) (v := .int .i64 t.facts) (by simp)
  have y1wp1 : w.heap.size < w1.heap.size + 1 := (by omega)
  have y1wp2 : w.heap.size < w1.heap.size + 1 + 1 := (by omega)
  go_wp2_with fail
  refine (relax_1 _ t Ai Ag Ao ci cg co (hT.below (by repeat (first | with_reducible exact D1 | with_reducible apply bdrew | with_reducible apply bdrewN | with_reducible apply balloc | ((with_reducible refine bset ?_ ?_ _); rotate_left; (first | omega | (simp <;> omega)))))) h).mono ?_
  rintro e w2 ⟨rfl, hB2⟩
  have D2 := dstep w hB2 (by repeat (first | with_reducible exact D1 | with_reducible apply bdrew | with_reducible apply bdrewN | with_reducible apply balloc | ((with_reducible refine bset ?_ ?_ _); rotate_left; (first | omega | (simp <;> omega)))))
  have d2s := D2.size
  have C2 := Cls.below (l := [(w.heap.size, 0, .int .i64 t.facts), (w.heap.size, 1, .slice Ai t.init.length ci), (w.heap.size, 2, .slice Ag t.goal.length cg), (w.heap.size, 3, .slice Ao t.ops.length co)]) hB2 (by simp [Cls, go_sem, F1, y1w0, y1wp1, y1wp2])
  have F2 := C2
  simp only [Cls, and_true] at F2
  have y2w0 : w.heap.size < w2.heap.size := C2.blk (b := w.heap.size) (k := 0) (v := .int .i64 t.facts) (by simp)
  have y2wp1 : w.heap.size < w2.heap.size + 1 := (by omega)
  have y2wp2 : w.heap.size < w2.heap.size + 1 + 1 := (by omega)
  go_wp2_with fail
  refine (plan_1 _ t Ai Ag Ao ci cg co (hT.below (by repeat (first | with_reducible exact D2 | with_reducible apply bdrew | with_reducible apply bdrewN | with_reducible apply balloc | ((with_reducible refine bset ?_ ?_ _); rotate_left; (first | omega | (simp <;> omega)))))) _ _ _ (hT.init.below (by repeat (first | with_reducible exact D2 | with_reducible apply bdrew | with_reducible apply bdrewN | with_reducible apply balloc | ((with_reducible refine bset ?_ ?_ _); rotate_left; (first | omega | (simp <;> omega)))))) hT.linit h').mono ?_
  rintro e w3 ⟨rfl, hB3⟩
  have D3 := dstep w hB3 (by repeat (first | with_reducible exact D2 | with_reducible apply bdrew | with_reducible apply bdrewN | with_reducible apply balloc | ((with_reducible refine bset ?_ ?_ _); rotate_left; (first | omega | (simp <;> omega)))))
  have d3s := D3.size
  have C3 := Cls.below (l := [(w.heap.size, 0, .int .i64 t.facts), (w.heap.size, 1, .slice Ai t.init.length ci), (w.heap.size, 2, .slice Ag t.goal.length cg), (w.heap.size, 3, .slice Ao t.ops.length co), (w2.heap.size, 0, .int .i64 0), (w2.heap.size, 1, .slice none 0 0), (w2.heap.size, 2, .slice none 0 0), (w2.heap.size, 3, .slice none 0 0), (w2.heap.size + 1, 0, .int .i64 (tfault t).1), (w2.heap.size + 1, 1, .int .i64 (tfault t).2)]) hB3 (by simp [Cls, go_sem, F2, y2w0, y2wp1, y2wp2])
  have F3 := C3
  simp only [Cls, and_true] at F3
  have y3w0 : w.heap.size < w3.heap.size := C3.blk (b := w.heap.size) (k := 0) (v := .int .i64 t.facts) (by simp)
  have y3wp1 : w.heap.size < w3.heap.size + 1 := (by omega)
  have y3wp2 : w.heap.size < w3.heap.size + 1 + 1 := (by omega)
  have y3w21 : w2.heap.size + 1 < w3.heap.size := C3.blk (b := w2.heap.size + 1) (k := 0) (v := .int .i64 (tfault t).1) (by simp)
  have y3w20 : w2.heap.size < w3.heap.size := (by omega)
  have y3w2p1 : w2.heap.size < w3.heap.size + 1 := (by omega)
  have y3w2p2 : w2.heap.size < w3.heap.size + 1 + 1 := (by omega)
  go_wp2
  go_ret
  exact ⟨by simp, by repeat (first | with_reducible exact D3 | with_reducible apply bdrew | with_reducible apply bdrewN | with_reducible apply balloc | ((with_reducible refine bset ?_ ?_ _); rotate_left; (first | omega | (simp <;> omega))))⟩

set_option maxRecDepth 100000 in
set_option maxHeartbeats 4000000 in
theorem walk_rps_2 (w : World) (t : TaskV) (Ai Ag Ao : Option Addr) (ci cg co : Nat) (hR : TaskRead w Ai Ag Ao ci cg co t) (n : Nat) (hn : t.facts = n) (hv : Valid t) :
    Calls Try.prog 15 #[.agg #[.int .i64 t.facts, .slice Ai t.init.length ci, .slice Ag t.goal.length cg, .slice Ao t.ops.length co]] w fun e w' => e = .returned (.bool true) ∧ Below w.heap.size w w' := by
  have hT := hR.mem
  have h40 := hv.nops
  have HN := Lib.hid hn
  have HV := Lib.hid hv
  have H2 := Lib.hid hv.init
  have HST := Lib.hid (show SetP t.init (n : Int) by rw [← hn]; exact hv.init)
  clear hv hn
  go_enter Try.func15, Try.ntmps15
  go_wp2_with fail
  refine (pxexample_any _).mono ?_
  rintro e w1 ⟨rfl, hB1⟩
  have D1 := dstep w hB1 (by repeat (first | with_reducible exact Below.refl _ _ | with_reducible apply bdrew | with_reducible apply bdrewN | with_reducible apply balloc | ((with_reducible refine bset ?_ ?_ _); rotate_left; (first | omega | (simp <;> omega)))))
  have d1s := D1.size
  have C1 := Cls.below (l := [(w.heap.size, 0, .int .i64 t.facts), (w.heap.size, 1, .slice Ai t.init.length ci), (w.heap.size, 2, .slice Ag t.goal.length cg), (w.heap.size, 3, .slice Ao t.ops.length co)]) hB1 (by simp [Cls, go_sem])
  have F1 := C1
  simp only [Cls, and_true] at F1
  have y1w0 : w.heap.size < w1.heap.size := C1.blk (b := w.heap.size) (k := 0) (v := .int .i64 t.facts) (by simp)
  have y1wp1 : w.heap.size < w1.heap.size + 1 := (by omega)
  have y1wp2 : w.heap.size < w1.heap.size + 1 + 1 := (by omega)
  go_wp2_with fail
  refine (relax_3 _ t Ai Ag Ao ci cg co (hT.below (by repeat (first | with_reducible exact D1 | with_reducible apply bdrew | with_reducible apply bdrewN | with_reducible apply balloc | ((with_reducible refine bset ?_ ?_ _); rotate_left; (first | omega | (simp <;> omega)))))) HV.out).mono ?_
  rintro e w2 ⟨u, Bi, di, Bg, dg, Bo, do_, HU, rfl, hTu, hRu, hB2⟩
  have D2 := dstep w hB2 (by repeat (first | with_reducible exact D1 | with_reducible apply bdrew | with_reducible apply bdrewN | with_reducible apply balloc | ((with_reducible refine bset ?_ ?_ _); rotate_left; (first | omega | (simp <;> omega)))))
  have d2s := D2.size
  have C2 := Cls.below (l := [(w.heap.size, 0, .int .i64 t.facts), (w.heap.size, 1, .slice Ai t.init.length ci), (w.heap.size, 2, .slice Ag t.goal.length cg), (w.heap.size, 3, .slice Ao t.ops.length co)]) hB2 (by simp [Cls, go_sem, F1, y1w0, y1wp1, y1wp2])
  have F2 := C2
  simp only [Cls, and_true] at F2
  have y2w0 : w.heap.size < w2.heap.size := C2.blk (b := w.heap.size) (k := 0) (v := .int .i64 t.facts) (by simp)
  have y2wp1 : w.heap.size < w2.heap.size + 1 := (by omega)
  have y2wp2 : w.heap.size < w2.heap.size + 1 + 1 := (by omega)
  go_wp2_with fail
  refine (plan_2 _ t Ai Ag Ao ci cg co (hT.below (by repeat (first | with_reducible exact D2 | with_reducible apply bdrew | with_reducible apply bdrewN | with_reducible apply balloc | ((with_reducible refine bset ?_ ?_ _); rotate_left; (first | omega | (simp <;> omega)))))) _ _ _ (hT.init.below (by repeat (first | with_reducible exact D2 | with_reducible apply bdrew | with_reducible apply bdrewN | with_reducible apply balloc | ((with_reducible refine bset ?_ ?_ _); rotate_left; (first | omega | (simp <;> omega)))))) hT.linit n HN.out HV.out H2.out).mono ?_
  rintro e w3 ⟨v3, ok, rfl, hok, ho3, hB3⟩
  have D3 := dstep w hB3 (by repeat (first | with_reducible exact D2 | with_reducible apply bdrew | with_reducible apply bdrewN | with_reducible apply balloc | ((with_reducible refine bset ?_ ?_ _); rotate_left; (first | omega | (simp <;> omega)))))
  have d3s := D3.size
  have Ew2_3 := dstep w2 hB3 (by repeat (first | with_reducible exact Below.refl _ _ | with_reducible apply bdrew | with_reducible apply bdrewN | with_reducible apply balloc | ((with_reducible refine bset ?_ ?_ _); rotate_left; (first | omega | (simp <;> omega)))))
  have C3 := Cls.below (l := [(w.heap.size, 0, .int .i64 t.facts), (w.heap.size, 1, .slice Ai t.init.length ci), (w.heap.size, 2, .slice Ag t.goal.length cg), (w.heap.size, 3, .slice Ao t.ops.length co), (w2.heap.size, 0, .int .i64 u.facts), (w2.heap.size, 1, .slice Bi u.init.length di), (w2.heap.size, 2, .slice Bg u.goal.length dg), (w2.heap.size, 3, .slice Bo u.ops.length do_), (w2.heap.size + 1, 0, .int .i64 0), (w2.heap.size + 1, 1, .int .i64 0)]) hB3 (by simp [Cls, go_sem, F2, y2w0, y2wp1, y2wp2])
  have F3 := C3
  simp only [Cls, and_true] at F3
  have y3w0 : w.heap.size < w3.heap.size := C3.blk (b := w.heap.size) (k := 0) (v := .int .i64 t.facts) (by simp)
  have y3wp1 : w.heap.size < w3.heap.size + 1 := (by omega)
  have y3wp2 : w.heap.size < w3.heap.size + 1 + 1 := (by omega)
  have y3w21 : w2.heap.size + 1 < w3.heap.size := C3.blk (b := w2.heap.size + 1) (k := 0) (v := .int .i64 0) (by simp)
  have y3w20 : w2.heap.size < w3.heap.size := (by omega)
  have y3w2p1 : w2.heap.size < w3.heap.size + 1 := (by omega)
  have y3w2p2 : w2.heap.size < w3.heap.size + 1 + 1 := (by omega)
  cases ok with
  | false =>
    rw [if_neg (by simp)] at ho3
    obtain ⟨A3, c3, rfl, _, _⟩ := ho3.form
    clear hok ho3
    go_wp2
    go_ret
    exact ⟨by simp, by repeat (first | with_reducible exact D3 | with_reducible apply bdrew | with_reducible apply bdrewN | with_reducible apply balloc | ((with_reducible refine bset ?_ ?_ _); rotate_left; (first | omega | (simp <;> omega))))⟩
  | true =>
    rw [if_pos rfl] at ho3
    have HPT := Lib.hid (plan_tells HV.out HN.out HST.out (hok.1 rfl))
    obtain ⟨pl, hpl⟩ : ∃ l, Hid (planTo (levV n t.init t.ops) t.ops n t.goal = l) := ⟨_, Lib.hid rfl⟩
    rw [hpl.out] at ho3 HPT
    obtain ⟨A3, c3, rfl, hnil3, hI3⟩ := ho3.form
    have hcp1 := OwnI.cap_le ho3
    have hcp2 := OwnI.cap_max ho3
    clear hok ho3 hnil3 hpl
    have hpl40 : pl.length ≤ 40 := by have := nodup_len HPT.out.nodup HPT.out.rng; omega
    have HUO := Lib.hid (show u.ops = t.ops.map rxO by rw [HU.out]; rfl)
    have HUG := Lib.hid (show u.goal = t.goal ∧ u.init = t.init ∧ u.facts = n by rw [HU.out]; exact ⟨rfl, rfl, HN.out⟩)
    have HUV := Lib.hid (show Valid u by rw [HU.out]; exact valid_rx HV.out)
    have HSO : Hid (StepsOk u.ops.length pl) := Lib.hid ⟨by omega, fun op h => by rw [HUO.out, List.length_map]; exact HPT.out.rng op h⟩
    have HRUN := Lib.hid (runV_exec (n := n) (ops := t.ops) pl t.init (fun a i b e => HPT.out.run.step a i b e))
    go_wp2_with fail
    go_loopw [8] (fun i wr => ∃ k : Nat, k ≤ pl.length ∧ i = .int .i64 k ∧ Below w3.heap.size w3 wr ∧ Cls wr [(w.heap.size, 0, .int .i64 t.facts), (w.heap.size, 1, .slice Ai t.init.length ci), (w.heap.size, 2, .slice Ag t.goal.length cg), (w.heap.size, 3, .slice Ao t.ops.length co), (w2.heap.size, 0, .int .i64 u.facts), (w2.heap.size, 1, .slice Bi u.init.length di), (w2.heap.size, 2, .slice Bg u.goal.length dg), (w2.heap.size, 3, .slice Bo u.ops.length do_), (w2.heap.size + 1, 0, .int .i64 0), (w2.heap.size + 1, 1, .int .i64 0), (w3.heap.size, 0, .int .i64 0), (w3.heap.size, 1, .int .i64 0)]) (fun i _ => pl.length - (intOf i).toNat)
    case atStart => exact ⟨0, Nat.zero_le _, rfl, (by repeat (first | with_reducible exact Below.refl _ _ | with_reducible apply bdrew | with_reducible apply bdrewN | with_reducible apply balloc | ((with_reducible refine bset ?_ ?_ _); rotate_left; (first | omega | (simp <;> omega))))), (by simp [Cls, go_sem, F3, y3w0, y3wp1, y3wp2, y3w21, y3w20, y3w2p1, y3w2p2])⟩
    case round =>
      obtain ⟨k, hk, rfl, hBr, hCr⟩ := hrel
      obtain ⟨w4, rfl⟩ : ∃ wo : World, wo = wr := ⟨_, rfl⟩
      have drs := hBr.size
      have Fr := hCr
      simp only [Cls, and_true] at Fr
      have yrw0 : w.heap.size < w4.heap.size := hCr.blk (b := w.heap.size) (k := 0) (v := .int .i64 t.facts) (by simp)
      have yrwp1 : w.heap.size < w4.heap.size + 1 := (by omega)
      have yrwp2 : w.heap.size < w4.heap.size + 1 + 1 := (by omega)
      have yrw21 : w2.heap.size + 1 < w4.heap.size := hCr.blk (b := w2.heap.size + 1) (k := 0) (v := .int .i64 0) (by simp)
      have yrw20 : w2.heap.size < w4.heap.size := (by omega)
      have yrw2p1 : w2.heap.size < w4.heap.size + 1 := (by omega)
      have yrw2p2 : w2.heap.size < w4.heap.size + 1 + 1 := (by omega)
      have yrw30 : w3.heap.size < w4.heap.size := hCr.blk (b := w3.heap.size) (k := 0) (v := .int .i64 0) (by simp)
      have yrw3p1 : w3.heap.size < w4.heap.size + 1 := (by omega)
      have yrw3p2 : w3.heap.size < w4.heap.size + 1 + 1 := (by omega)
      have DR := D3.trans (hBr.mono D3.size)
      have D2R := Ew2_3.trans (hBr.mono Ew2_3.size)
      by_cases hlt : k < pl.length
      · obtain ⟨pd, x, rfl, hx, hxc⟩ := (hI3.below hBr).at_ hlt
        have HNO := Lib.hid (nodup_before HPT.out.nodup hx.out)
        have hIk : Ints w4 (some pd) (pl.take k) := by
          intro j v hj
          rw [List.map_take] at hj
          have hjk : j < k := by have := (List.getElem?_eq_some_iff.1 hj).1; rw [List.length_take] at this; omega
          rw [List.getElem?_take_of_lt hjk] at hj
          exact (hI3.below hBr) j v hj
        have htl : (pl.take k).length = k := by rw [List.length_take]; omega
        have k1 : ∀ j : Nat, Calls Try.prog 40 #[.slice (some pd) k c3, .int .i64 x] (w4.drewN j) (fun e w'' => e = .returned (.bool false) ∧ ∃ m, w'' = w4.drewN m) := fun j => Calls.quiet_of_same (by
          have h := (has_no (some pd) c3 (pl.take k) x (w4.drewN j) (hIk.below (bdrewN (Below.refl _ _))) (by omega) HNO.out).mono fun _ _ h => (⟨h.1, h.2.symm⟩ : _ ∧ _)
          rw [htl] at h
          exact h)
        have hcut : ∀ w : World, (Instr.slice 22 (.slice (some pd) pl.length c3) none (some (.int .i64 (k : Int))) none).run Try.prog w = .ok (.slice (some pd) k c3) w := fun w => by
          have h0 : (0 : Int) ≤ k := by omega
          have h1 : (k : Int) ≤ c3 := by omega
          have h2 : k ≤ c3 := by omega
          simp [go_sem, Try.underlying22, h0, h1, h2]
          try omega
        go_wp2_with fail
        go_quiet ((go_at_call 40; with_reducible exact k1 _))
        go_wp2
        go_roundw
        case rel => exact ⟨k + 1, by omega, by go_num, (by repeat (first | with_reducible exact hBr | with_reducible apply bdrew | with_reducible apply bdrewN | with_reducible apply balloc | ((with_reducible refine bset ?_ ?_ _); rotate_left; (first | omega | (simp <;> omega))))), (Cls.below (w := w4) (by repeat (first | with_reducible exact Below.refl _ _ | with_reducible apply bdrew | with_reducible apply bdrewN | with_reducible apply balloc | ((with_reducible refine bset ?_ ?_ _); rotate_left; (first | omega | (simp <;> omega))))) hCr)⟩
        case measure => simp [intOf]; omega
      · skip
        go_wp2_with fail
        refine (solves_4 _ u Bi Bg Bo di dg do_ (hTu.below (by repeat (first | with_reducible exact D2R | with_reducible apply bdrew | with_reducible apply bdrewN | with_reducible apply balloc | ((with_reducible refine bset ?_ ?_ _); rotate_left; (first | omega | (simp <;> omega)))))) (hRu.below (by repeat (first | with_reducible exact D2R | with_reducible apply bdrew | with_reducible apply bdrewN | with_reducible apply balloc | ((with_reducible refine bset ?_ ?_ _); rotate_left; (first | omega | (simp <;> omega)))))) _ _ pl (hI3.below (by repeat (first | with_reducible exact hBr | with_reducible apply bdrew | with_reducible apply bdrewN | with_reducible apply balloc | ((with_reducible refine bset ?_ ?_ _); rotate_left; (first | omega | (simp <;> omega)))))) n HUG.out.2.2 HUV.out HSO.out (by rw [HUO.out, HUG.out.2.1]; exact HRUN.out.1) true ⟨fun _ => rfl, fun _ => ⟨_, by rw [HUO.out, HUG.out.2.1]; exact HRUN.out.2, by rw [HUG.out.1]; exact HPT.out.goal⟩⟩).mono ?_
        rintro e w4 ⟨rfl, hB4⟩
        have D4 := dstep w hB4 (by repeat (first | with_reducible exact DR | with_reducible apply bdrew | with_reducible apply bdrewN | with_reducible apply balloc | ((with_reducible refine bset ?_ ?_ _); rotate_left; (first | omega | (simp <;> omega)))))
        have d4s := D4.size
        have C4 := Cls.below (l := [(w.heap.size, 0, .int .i64 t.facts), (w.heap.size, 1, .slice Ai t.init.length ci), (w.heap.size, 2, .slice Ag t.goal.length cg), (w.heap.size, 3, .slice Ao t.ops.length co), (w2.heap.size, 0, .int .i64 u.facts), (w2.heap.size, 1, .slice Bi u.init.length di), (w2.heap.size, 2, .slice Bg u.goal.length dg), (w2.heap.size, 3, .slice Bo u.ops.length do_), (w2.heap.size + 1, 0, .int .i64 0), (w2.heap.size + 1, 1, .int .i64 0), (w3.heap.size, 0, .int .i64 0), (w3.heap.size, 1, .int .i64 0)]) hB4 (by simp [Cls, go_sem, Fr, yrw0, yrwp1, yrwp2, yrw21, yrw20, yrw2p1, yrw2p2, yrw30, yrw3p1, yrw3p2])
        have F4 := C4
        simp only [Cls, and_true] at F4
        have y4w0 : w.heap.size < w4.heap.size := C4.blk (b := w.heap.size) (k := 0) (v := .int .i64 t.facts) (by simp)
        have y4wp1 : w.heap.size < w4.heap.size + 1 := (by omega)
        have y4wp2 : w.heap.size < w4.heap.size + 1 + 1 := (by omega)
        have y4w21 : w2.heap.size + 1 < w4.heap.size := C4.blk (b := w2.heap.size + 1) (k := 0) (v := .int .i64 0) (by simp)
        have y4w20 : w2.heap.size < w4.heap.size := (by omega)
        have y4w2p1 : w2.heap.size < w4.heap.size + 1 := (by omega)
        have y4w2p2 : w2.heap.size < w4.heap.size + 1 + 1 := (by omega)
        have y4w30 : w3.heap.size < w4.heap.size := C4.blk (b := w3.heap.size) (k := 0) (v := .int .i64 0) (by simp)
        have y4w3p1 : w3.heap.size < w4.heap.size + 1 := (by omega)
        have y4w3p2 : w3.heap.size < w4.heap.size + 1 + 1 := (by omega)
        go_wp2
        go_ret
        exact ⟨by simp, by repeat (first | with_reducible exact D4 | with_reducible apply bdrew | with_reducible apply bdrewN | with_reducible apply balloc | ((with_reducible refine bset ?_ ?_ _); rotate_left; (first | omega | (simp <;> omega))))⟩

theorem walk_rps (w : World) (t : TaskV) (Ai Ag Ao : Option Addr) (ci cg co : Nat) (hR : TaskRead w Ai Ag Ao ci cg co t) :
    Calls Try.prog 15 #[.agg #[.int .i64 t.facts, .slice Ai t.init.length ci, .slice Ag t.goal.length cg, .slice Ao t.ops.length co]] w fun e w' => e = .returned (.bool true) ∧ Below w.heap.size w w' := by
  by_cases h : (tfault t).1 = 0
  · have hv := tfault_zero.1 h
    obtain ⟨n, hn⟩ := Int.eq_ofNat_of_zero_le hv.f0
    exact walk_rps_2 w t Ai Ag Ao ci cg co hR n hn hv
  · exact walk_rps_1 w t Ai Ag Ao ci cg co hR h

namespace relaxplanPlanSolves
open Go.ChangeShapes Go.WideShapes Go.ChangeAt Go.RowKit

set_option maxRecDepth 100000 in
theorem lifted (os : Os) (started : os.Started) (H : Type) (enc : TypeId × Value → H) :
    ReturnsInHanded {} Try.checked os 15 .any (Rows.relaxplanPlanSolvesSpec.pre6 enc Try.prog Try.f15 Rows.relaxplanPlanSolvesRow.domain false) (Rows.relaxplanPlanSolvesSpec.post enc Try.prog Try.f15 false true false false) := by
  refine returnsInHanded_of_change (C := Try.checked) own_knob started (by kernel_rfl) Try.func15
    (ChangeSpec.witness6 (enc := enc) (C := Try.checked) false ⟨#[], #[.agg #[.int .i64 0, .slice none 0 0, .slice none 0 0, .slice none 0 0]], []⟩ 8 (by kernel_rfl) (by kernel_rfl) (by kernel_rfl) (by kernel_rfl)) ?_
  intro W base args ds gs before hval0 hW _ hsz
  have hval : ∀ (j : Nat) t v, Try.f15.params[j]? = some t → args[j]? = some v → Value.okWide Try.prog W .any base t v := hval0
  have hpost := fun (W' : World) (hfn : gs = [] → Rows.relaxplanPlanSolvesSpec.fn H (ds ++ gs) = { results := [.lit (.bool true)], args := ds }) (hb : Below W.heap.size W W') => law_post (f := Try.f15) (tb := 4) laid_out_B Try.underlying4 rfl (by kernel_rfl) rfl hfn hW hb
  obtain ⟨p, q, hA0, hV, hpq, hfz, hnd⟩ := hW
  have hA : DataW.TrodAll enc Try.prog W 0 (fun _ => true) true Try.f15.params.toList args.toList ds p := hA0
  rw [Try.params15] at hA hval
  obtain ⟨v0, vs0, d0, ds0, p0, q0, hargs, rfl, hp0, h0, r0⟩ := trodAll_cons hA
  obtain ⟨rfl, rfl, hpn⟩ := trodAll_nil r0
  obtain rfl : args = #[v0] := by cases args; simp_all
  obtain ⟨t, Ai, Ag, Ao, ci, cg, co, rfl, hR⟩ := open_taskW (hval 0 25 v0 rfl rfl) h0
  refine (walk_rps W t Ai Ag Ao ci cg co hR).mono fun e W' ⟨he, hb⟩ => ?_
  subst he
  exact ⟨_, rfl, hpost W' (fun hg => by subst hg; rfl) hb⟩

theorem closed : joinedFacts Try.checked.prog 15 Try.f15 Rows.relaxplanPlanSolvesSpec Rows.relaxplanPlanSolvesRow = true := by
  unfold joinedFacts
  rw [pf_enter, pf_lifts, pf_make]
  kernel_rfl
theorem proved : Rows.RelaxplanPlanSolvesSaid :=
  OpenClaim.holds_of_wide 15 Try.f15 rfl rfl rfl rfl rfl rfl rfl ⟨rfl, rfl, rfl, rfl, rfl⟩ rfl rfl rfl rfl rfl (by kernel_rfl) Try.func15 closed
    (of_decide_eq_true (by kernel_rfl)) (by unfold Func.isWrapper; first | (rw [if_pos (by decide +kernel)]; kernel_rfl) | (rw [if_neg (by decide +kernel)]; exact ⟨rfl, rfl⟩))
    (fun os started H enc _ => lifted os started H enc)
#print axioms proved
end relaxplanPlanSolves

end Go.Proofs.Ytihkgdlanfemcaa
