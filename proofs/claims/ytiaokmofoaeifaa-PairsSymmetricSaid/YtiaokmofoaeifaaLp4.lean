/-
  Values of pairs are symmetric, and a pair has at least the value of each of its elements.
-/
import Derived.Test.YtiaokmofoaeifaaPt6
import Derived.Test.YtiaokmofoaeifaaNver
import Derived.Test.YtiaokmofoaeifaaRlaw1
import Derived.Test.YtiaokmofoaeifaaBlaw
import Derived.Test.YtiaokmofoaeifaaOpen
namespace Go.Proofs.Ytiaokmofoaeifaa
open Go.RowKit
set_option linter.unusedVariables false
set_option linter.unusedSimpArgs false

set_option maxRecDepth 100000 in
set_option maxHeartbeats 1000000 in
theorem walk_psym_1 (w : World) (t : TaskV) (Ai Ag Ao : Option Addr) (ci cg co : Nat) (hR : TaskRead w Ai Ag Ao ci cg co t) (S : Option Addr) (cs : Nat) (st : List Int) (hS : Ints w S st) (hSn : NilOk S st cs) (h : ¬ (sfault t st).1 = 0) :
    Calls Try.prog 12 #[.agg #[.int .i64 t.facts, .slice Ai t.init.length ci, .slice Ag t.goal.length cg, .slice Ao t.ops.length co], .slice S st.length cs] w fun e w' => e = .returned (.bool true) ∧ Below w.heap.size w w' := by
  have N := bb_no h
  have N' := bn_yes h
  have hT := hR.mem
  have hls : lenOk st.length := Nat.le_trans hSn.2.1 hSn.2.2
  go_enter Try.func12, Try.ntmps12
  go_wp2_with fail
  refine (pexample_any _).mono ?_
  rintro e w1 ⟨rfl, hB1⟩
  have D1 := dstep w hB1 (by repeat (first | with_reducible exact Below.refl _ _ | with_reducible apply bdrew | with_reducible apply bdrewN | with_reducible apply balloc | ((with_reducible refine bset ?_ ?_ _); rotate_left; (first | omega | (simp <;> omega)))))
  have d1s := D1.size
  have C1 := Cls.below (l := [(w.heap.size, 0, .int .i64 t.facts), (w.heap.size, 1, .slice Ai t.init.length ci), (w.heap.size, 2, .slice Ag t.goal.length cg), (w.heap.size, 3, .slice Ao t.ops.length co)]) hB1 (by simp [Cls, go_sem])
  have F1 := C1
  simp only [Cls, and_true] at F1
  have y1w0 : w.heap.size < w1.heap.size := C1.blk (b := w.heap.size) (k := 0) (v := .int .i64 t.facts) (by simp)
  have y1wp1 : w.heap.size < w1.heap.size + 1 := (by omega)
  have y1wp2 : w.heap.size < w1.heap.size + 1 + 1 := (by omega)
  go_wp2_with fail
  refine (pvalues_1 _ t Ai Ag Ao ci cg co (hT.below (by repeat (first | with_reducible exact D1 | with_reducible apply bdrew | with_reducible apply bdrewN | with_reducible apply balloc | ((with_reducible refine bset ?_ ?_ _); rotate_left; (first | omega | (simp <;> omega)))))) _ _ _ (hS.below (by repeat (first | with_reducible exact D1 | with_reducible apply bdrew | with_reducible apply bdrewN | with_reducible apply balloc | ((with_reducible refine bset ?_ ?_ _); rotate_left; (first | omega | (simp <;> omega)))))) hls h).mono ?_
  rintro e w2 ⟨rfl, hB2⟩
  have D2 := dstep w hB2 (by repeat (first | with_reducible exact D1 | with_reducible apply bdrew | with_reducible apply bdrewN | with_reducible apply balloc | ((with_reducible refine bset ?_ ?_ _); rotate_left; (first | omega | (simp <;> omega)))))
  have d2s := D2.size
  have C2 := Cls.below (l := [(w.heap.size, 0, .int .i64 t.facts), (w.heap.size, 1, .slice Ai t.init.length ci), (w.heap.size, 2, .slice Ag t.goal.length cg), (w.heap.size, 3, .slice Ao t.ops.length co)]) hB2 (by simp [Cls, go_sem, F1, y1w0, y1wp1, y1wp2])
  have F2 := C2
  simp only [Cls, and_true] at F2
  have y2w0 : w.heap.size < w2.heap.size := C2.blk (b := w.heap.size) (k := 0) (v := .int .i64 t.facts) (by simp)
  have y2wp1 : w.heap.size < w2.heap.size + 1 := (by omega)
  have y2wp2 : w.heap.size < w2.heap.size + 1 + 1 := (by omega)
  go_wp2_with fail
  refine (max_1 _ t Ai Ag Ao ci cg co (hT.below (by repeat (first | with_reducible exact D2 | with_reducible apply bdrew | with_reducible apply bdrewN | with_reducible apply balloc | ((with_reducible refine bset ?_ ?_ _); rotate_left; (first | omega | (simp <;> omega)))))) _ _ _ (hS.below (by repeat (first | with_reducible exact D2 | with_reducible apply bdrew | with_reducible apply bdrewN | with_reducible apply balloc | ((with_reducible refine bset ?_ ?_ _); rotate_left; (first | omega | (simp <;> omega)))))) hls h).mono ?_
  rintro e w3 ⟨rfl, hB3⟩
  have D3 := dstep w hB3 (by repeat (first | with_reducible exact D2 | with_reducible apply bdrew | with_reducible apply bdrewN | with_reducible apply balloc | ((with_reducible refine bset ?_ ?_ _); rotate_left; (first | omega | (simp <;> omega)))))
  have d3s := D3.size
  have C3 := Cls.below (l := [(w.heap.size, 0, .int .i64 t.facts), (w.heap.size, 1, .slice Ai t.init.length ci), (w.heap.size, 2, .slice Ag t.goal.length cg), (w.heap.size, 3, .slice Ao t.ops.length co), (w2.heap.size, 0, .int .i64 (sfault t st).1), (w2.heap.size, 1, .int .i64 (sfault t st).2)]) hB3 (by simp [Cls, go_sem, F2, y2w0, y2wp1, y2wp2])
  have F3 := C3
  simp only [Cls, and_true] at F3
  have y3w0 : w.heap.size < w3.heap.size := C3.blk (b := w.heap.size) (k := 0) (v := .int .i64 t.facts) (by simp)
  have y3wp1 : w.heap.size < w3.heap.size + 1 := (by omega)
  have y3wp2 : w.heap.size < w3.heap.size + 1 + 1 := (by omega)
  have y3w20 : w2.heap.size < w3.heap.size := C3.blk (b := w2.heap.size) (k := 0) (v := .int .i64 (sfault t st).1) (by simp)
  have y3w2p1 : w2.heap.size < w3.heap.size + 1 := (by omega)
  have y3w2p2 : w2.heap.size < w3.heap.size + 1 + 1 := (by omega)
  go_wp2
  go_ret
  exact ⟨by simp, by repeat (first | with_reducible exact D3 | with_reducible apply bdrew | with_reducible apply bdrewN | with_reducible apply balloc | ((with_reducible refine bset ?_ ?_ _); rotate_left; (first | omega | (simp <;> omega))))⟩

set_option maxRecDepth 100000 in
set_option maxHeartbeats 4000000 in
theorem walk_psym_2 (w : World) (t : TaskV) (Ai Ag Ao : Option Addr) (ci cg co : Nat) (hR : TaskRead w Ai Ag Ao ci cg co t) (S : Option Addr) (cs : Nat) (st : List Int) (hS : Ints w S st) (hSn : NilOk S st cs) (n : Nat) (hn : t.facts = n) (hv : Valid t) (h2 : SetP st t.facts) :
    Calls Try.prog 12 #[.agg #[.int .i64 t.facts, .slice Ai t.init.length ci, .slice Ag t.goal.length cg, .slice Ao t.ops.length co], .slice S st.length cs] w fun e w' => e = .returned (.bool true) ∧ Below w.heap.size w w' := by
  have hT := hR.mem
  have hls : lenOk st.length := Nat.le_trans hSn.2.1 hSn.2.2
  have hn24 : n ≤ 24 := by have := hv.f1; omega
  have HO := Lib.hid (opsIn_of hv hn)
  have HCS := Lib.hid (show ∀ (i : Nat) (o : OpV), t.ops[i]? = some o → (t.ops.map (·.cost))[i]? = some o.cost from fun i o h => by simp [h])
  have HN := Lib.hid hn
  have HV := Lib.hid hv
  have H2 := Lib.hid h2
  rw [hn]
  clear hv h2 hn
  go_enter Try.func12, Try.ntmps12
  go_wp2_with fail
  refine (pexample_any _).mono ?_
  rintro e w1 ⟨rfl, hB1⟩
  have D1 := dstep w hB1 (by repeat (first | with_reducible exact Below.refl _ _ | with_reducible apply bdrew | with_reducible apply bdrewN | with_reducible apply balloc | ((with_reducible refine bset ?_ ?_ _); rotate_left; (first | omega | (simp <;> omega)))))
  have d1s := D1.size
  have C1 := Cls.below (l := [(w.heap.size, 0, .int .i64 (n : Int)), (w.heap.size, 1, .slice Ai t.init.length ci), (w.heap.size, 2, .slice Ag t.goal.length cg), (w.heap.size, 3, .slice Ao t.ops.length co)]) hB1 (by simp [Cls, go_sem])
  have F1 := C1
  simp only [Cls, and_true] at F1
  have y1w0 : w.heap.size < w1.heap.size := C1.blk (b := w.heap.size) (k := 0) (v := .int .i64 (n : Int)) (by simp)
  have y1wp1 : w.heap.size < w1.heap.size + 1 := (by omega)
  have y1wp2 : w.heap.size < w1.heap.size + 1 + 1 := (by omega)
  go_wp2_with fail
  refine (pvalues_2n _ t Ai Ag Ao ci cg co (hT.below (by repeat (first | with_reducible exact D1 | with_reducible apply bdrew | with_reducible apply bdrewN | with_reducible apply balloc | ((with_reducible refine bset ?_ ?_ _); rotate_left; (first | omega | (simp <;> omega)))))) (hR.ops.below (by repeat (first | with_reducible exact D1 | with_reducible apply bdrew | with_reducible apply bdrewN | with_reducible apply balloc | ((with_reducible refine bset ?_ ?_ _); rotate_left; (first | omega | (simp <;> omega)))))) _ _ _ (hS.below (by repeat (first | with_reducible exact D1 | with_reducible apply bdrew | with_reducible apply bdrewN | with_reducible apply balloc | ((with_reducible refine bset ?_ ?_ _); rotate_left; (first | omega | (simp <;> omega)))))) hls n HN.out HV.out H2.out).mono ?_
  rintro e w2 ⟨g2, V, rfl, hTA, hbest, hB2⟩
  have D2 := dstep w hB2 (by repeat (first | with_reducible exact D1 | with_reducible apply bdrew | with_reducible apply bdrewN | with_reducible apply balloc | ((with_reducible refine bset ?_ ?_ _); rotate_left; (first | omega | (simp <;> omega)))))
  have d2s := D2.size
  have C2 := Cls.below (l := [(w.heap.size, 0, .int .i64 (n : Int)), (w.heap.size, 1, .slice Ai t.init.length ci), (w.heap.size, 2, .slice Ag t.goal.length cg), (w.heap.size, 3, .slice Ao t.ops.length co)]) hB2 (by simp [Cls, go_sem, F1, y1w0, y1wp1, y1wp2])
  have F2 := C2
  simp only [Cls, and_true] at F2
  have y2w0 : w.heap.size < w2.heap.size := C2.blk (b := w.heap.size) (k := 0) (v := .int .i64 (n : Int)) (by simp)
  have y2wp1 : w.heap.size < w2.heap.size + 1 := (by omega)
  have y2wp2 : w.heap.size < w2.heap.size + 1 + 1 := (by omega)
  have HBE := Lib.hid hbest
  clear hbest
  go_wp2_with fail
  refine (max_2n _ t Ai Ag Ao ci cg co (hT.below (by repeat (first | with_reducible exact D2 | with_reducible apply bdrew | with_reducible apply bdrewN | with_reducible apply balloc | ((with_reducible refine bset ?_ ?_ _); rotate_left; (first | omega | (simp <;> omega)))))) _ _ _ (hS.below (by repeat (first | with_reducible exact D2 | with_reducible apply bdrew | with_reducible apply bdrewN | with_reducible apply balloc | ((with_reducible refine bset ?_ ?_ _); rotate_left; (first | omega | (simp <;> omega)))))) hls n HN.out HV.out H2.out).mono ?_
  rintro e w3 ⟨g3, rfl, hg3, hA3, hb3, hB3⟩
  have D3 := dstep w hB3 (by repeat (first | with_reducible exact D2 | with_reducible apply bdrew | with_reducible apply bdrewN | with_reducible apply balloc | ((with_reducible refine bset ?_ ?_ _); rotate_left; (first | omega | (simp <;> omega)))))
  have d3s := D3.size
  have Ew2_3 := dstep w2 hB3 (by repeat (first | with_reducible exact Below.refl _ _ | with_reducible apply bdrew | with_reducible apply bdrewN | with_reducible apply balloc | ((with_reducible refine bset ?_ ?_ _); rotate_left; (first | omega | (simp <;> omega)))))
  have C3 := Cls.below (l := [(w.heap.size, 0, .int .i64 (n : Int)), (w.heap.size, 1, .slice Ai t.init.length ci), (w.heap.size, 2, .slice Ag t.goal.length cg), (w.heap.size, 3, .slice Ao t.ops.length co), (w2.heap.size, 0, .int .i64 0), (w2.heap.size, 1, .int .i64 0)]) hB3 (by simp [Cls, go_sem, F2, y2w0, y2wp1, y2wp2])
  have F3 := C3
  simp only [Cls, and_true] at F3
  have y3w0 : w.heap.size < w3.heap.size := C3.blk (b := w.heap.size) (k := 0) (v := .int .i64 (n : Int)) (by simp)
  have y3wp1 : w.heap.size < w3.heap.size + 1 := (by omega)
  have y3wp2 : w.heap.size < w3.heap.size + 1 + 1 := (by omega)
  have y3w20 : w2.heap.size < w3.heap.size := C3.blk (b := w2.heap.size) (k := 0) (v := .int .i64 0) (by simp)
  have y3w2p1 : w2.heap.size < w3.heap.size + 1 := (by omega)
  have y3w2p2 : w2.heap.size < w3.heap.size + 1 + 1 := (by omega)
  have HB3 := Lib.hid hb3
  have LW := Lib.hid hb3.fix.shape.len
  clear hb3
  have hTA3 := hTA.below (by repeat (first | with_reducible exact Ew2_3 | with_reducible apply bdrew | with_reducible apply bdrewN | with_reducible apply balloc | ((with_reducible refine bset ?_ ?_ _); rotate_left; (first | omega | (simp <;> omega)))))
  obtain ⟨cg', hcg⟩ : ∃ x, Hid (combV false (valuesV false n st t.ops (t.ops.map (·.cost))) t.goal = x) := ⟨_, Lib.hid rfl⟩
  obtain ⟨W, hW⟩ : ∃ x, Hid (valuesV false n st t.ops (t.ops.map (·.cost)) = x) := ⟨_, Lib.hid rfl⟩
  rw [hW.out] at hA3 HB3 LW
  rw [hcg.out]
  have HSYM := Lib.hid (fun p q hp hq => HBE.out.symm_ hp hq : ∀ p q, Rng n p → Rng n q → V p q = V q p)
  have HEL := Lib.hid (fun p q hp hq => HBE.out.elem HO.out hp hq : ∀ p q, Rng n p → Rng n q → V p p ≤ V p q ∧ V q q ≤ V p q)
  have HAB := Lib.hid (fun p hp => HBE.out.above HO.out HCS.out HB3.out hp : ∀ p, Rng n p → valAt W p ≤ V p p)
  go_wp2_with fail
  go_loopw [10] (fun i wr => ∃ k : Nat, k ≤ n ∧ i = .int .i64 k ∧ Below w3.heap.size w3 wr ∧ Cls wr [(w.heap.size, 0, .int .i64 (n : Int)), (w.heap.size, 1, .slice Ai t.init.length ci), (w.heap.size, 2, .slice Ag t.goal.length cg), (w.heap.size, 3, .slice Ao t.ops.length co), (w2.heap.size, 0, .int .i64 0), (w2.heap.size, 1, .int .i64 0), (w3.heap.size, 0, .int .i64 0), (w3.heap.size, 1, .int .i64 0)]) (fun i _ => n - (intOf i).toNat)
  case atStart => exact ⟨0, Nat.zero_le _, rfl, (by repeat (first | with_reducible exact Below.refl _ _ | with_reducible apply bdrew | with_reducible apply bdrewN | with_reducible apply balloc | ((with_reducible refine bset ?_ ?_ _); rotate_left; (first | omega | (simp <;> omega))))), (by simp [Cls, go_sem, F3, y3w0, y3wp1, y3wp2, y3w20, y3w2p1, y3w2p2])⟩
  case round =>
    obtain ⟨k, hk, rfl, hBr, hCr⟩ := hrel
    obtain ⟨w4, rfl⟩ : ∃ wo : World, wo = wr := ⟨_, rfl⟩
    have drs := hBr.size
    have Fr := hCr
    simp only [Cls, and_true] at Fr
    have yrw0 : w.heap.size < w4.heap.size := hCr.blk (b := w.heap.size) (k := 0) (v := .int .i64 (n : Int)) (by simp)
    have yrwp1 : w.heap.size < w4.heap.size + 1 := (by omega)
    have yrwp2 : w.heap.size < w4.heap.size + 1 + 1 := (by omega)
    have yrw20 : w2.heap.size < w4.heap.size := hCr.blk (b := w2.heap.size) (k := 0) (v := .int .i64 0) (by simp)
    have yrw2p1 : w2.heap.size < w4.heap.size + 1 := (by omega)
    have yrw2p2 : w2.heap.size < w4.heap.size + 1 + 1 := (by omega)
    have yrw30 : w3.heap.size < w4.heap.size := hCr.blk (b := w3.heap.size) (k := 0) (v := .int .i64 0) (by simp)
    have yrw3p1 : w3.heap.size < w4.heap.size + 1 := (by omega)
    have yrw3p2 : w3.heap.size < w4.heap.size + 1 + 1 := (by omega)
    have hTr := hTA3.below hBr
    by_cases hlt : k < n
    · obtain ⟨b, hgc, hI⟩ := hTr.row hlt
      go_wp2_with fail
      go_quiet (fail)
      go_wp2
      go_roundw
      case rel => exact ⟨k + 1, by omega, by go_num, (by repeat (first | with_reducible exact hBr | with_reducible apply bdrew | with_reducible apply bdrewN | with_reducible apply balloc | ((with_reducible refine bset ?_ ?_ _); rotate_left; (first | omega | (simp <;> omega))))), (Cls.below (w := w4) (by repeat (first | with_reducible exact Below.refl _ _ | with_reducible apply bdrew | with_reducible apply bdrewN | with_reducible apply balloc | ((with_reducible refine bset ?_ ?_ _); rotate_left; (first | omega | (simp <;> omega))))) hCr)⟩
      case measure => simp [intOf]; omega
    · go_wp2_with fail
      go_loopw [11] (fun i wr => ∃ k : Nat, k ≤ n ∧ i = .int .i64 k ∧ Below w3.heap.size w3 wr ∧ Cls wr [(w.heap.size, 0, .int .i64 (n : Int)), (w.heap.size, 1, .slice Ai t.init.length ci), (w.heap.size, 2, .slice Ag t.goal.length cg), (w.heap.size, 3, .slice Ao t.ops.length co), (w2.heap.size, 0, .int .i64 0), (w2.heap.size, 1, .int .i64 0), (w3.heap.size, 0, .int .i64 0), (w3.heap.size, 1, .int .i64 0)]) (fun i _ => n - (intOf i).toNat)
      case atStart => exact ⟨0, Nat.zero_le _, rfl, (by repeat (first | with_reducible exact hBr | with_reducible apply bdrew | with_reducible apply bdrewN | with_reducible apply balloc | ((with_reducible refine bset ?_ ?_ _); rotate_left; (first | omega | (simp <;> omega))))), (Cls.below (w := w4) (by repeat (first | with_reducible exact Below.refl _ _ | with_reducible apply bdrew | with_reducible apply bdrewN | with_reducible apply balloc | ((with_reducible refine bset ?_ ?_ _); rotate_left; (first | omega | (simp <;> omega))))) hCr)⟩
      case round =>
        obtain ⟨p, hp, rfl, hBs, hCs⟩ := hrel
        obtain ⟨w5, rfl⟩ : ∃ wo : World, wo = wr := ⟨_, rfl⟩
        have dss := hBs.size
        have Fs := hCs
        simp only [Cls, and_true] at Fs
        have ysw0 : w.heap.size < w5.heap.size := hCs.blk (b := w.heap.size) (k := 0) (v := .int .i64 (n : Int)) (by simp)
        have yswp1 : w.heap.size < w5.heap.size + 1 := (by omega)
        have yswp2 : w.heap.size < w5.heap.size + 1 + 1 := (by omega)
        have ysw20 : w2.heap.size < w5.heap.size := hCs.blk (b := w2.heap.size) (k := 0) (v := .int .i64 0) (by simp)
        have ysw2p1 : w2.heap.size < w5.heap.size + 1 := (by omega)
        have ysw2p2 : w2.heap.size < w5.heap.size + 1 + 1 := (by omega)
        have ysw30 : w3.heap.size < w5.heap.size := hCs.blk (b := w3.heap.size) (k := 0) (v := .int .i64 0) (by simp)
        have ysw3p1 : w3.heap.size < w5.heap.size + 1 := (by omega)
        have ysw3p2 : w3.heap.size < w5.heap.size + 1 + 1 := (by omega)
        have hTs := hTA3.below hBs
        by_cases hlp : p < n
        · obtain ⟨b, hgc, hvc⟩ := hTs.at_ (p := (p : Int)) (q := (p : Int)) ⟨by omega, by omega⟩ ⟨by omega, by omega⟩
          simp only [Int.toNat_natCast] at hgc hvc
          obtain ⟨x, hx, hcx, hfx⟩ := (hA3.below hBs).cell (i := p) (by rw [LW.out]; exact hlp)
          have hxv : x ≤ V (p : Int) (p : Int) := by
            have e : valAt W (p : Int) = x := valAt_of (by simpa using hx.out)
            rw [← e]; exact HAB.out _ ⟨by omega, by omega⟩
          have hd : decide (V (p : Int) (p : Int) < x) = false := decide_eq_false (by omega)
          have hd2 : ¬ V (p : Int) (p : Int) < x := by omega
          clear hxv
          go_wp2_with fail
          go_quiet (fail)
          go_wp2_with fail
          go_loopw [12] (fun i wr => ∃ k : Nat, k ≤ n ∧ i = .int .i64 k ∧ Below w3.heap.size w3 wr ∧ Cls wr [(w.heap.size, 0, .int .i64 (n : Int)), (w.heap.size, 1, .slice Ai t.init.length ci), (w.heap.size, 2, .slice Ag t.goal.length cg), (w.heap.size, 3, .slice Ao t.ops.length co), (w2.heap.size, 0, .int .i64 0), (w2.heap.size, 1, .int .i64 0), (w3.heap.size, 0, .int .i64 0), (w3.heap.size, 1, .int .i64 0)]) (fun i _ => n - (intOf i).toNat)
          case atStart => exact ⟨0, Nat.zero_le _, rfl, (by repeat (first | with_reducible exact hBs | with_reducible apply bdrew | with_reducible apply bdrewN | with_reducible apply balloc | ((with_reducible refine bset ?_ ?_ _); rotate_left; (first | omega | (simp <;> omega))))), (Cls.below (w := w5) (by repeat (first | with_reducible exact Below.refl _ _ | with_reducible apply bdrew | with_reducible apply bdrewN | with_reducible apply balloc | ((with_reducible refine bset ?_ ?_ _); rotate_left; (first | omega | (simp <;> omega))))) hCs)⟩
          case round =>
            obtain ⟨q, hq, rfl, hBt, hCt⟩ := hrel
            obtain ⟨w6, rfl⟩ : ∃ wo : World, wo = wr := ⟨_, rfl⟩
            have dts := hBt.size
            have Ft := hCt
            simp only [Cls, and_true] at Ft
            have ytw0 : w.heap.size < w6.heap.size := hCt.blk (b := w.heap.size) (k := 0) (v := .int .i64 (n : Int)) (by simp)
            have ytwp1 : w.heap.size < w6.heap.size + 1 := (by omega)
            have ytwp2 : w.heap.size < w6.heap.size + 1 + 1 := (by omega)
            have ytw20 : w2.heap.size < w6.heap.size := hCt.blk (b := w2.heap.size) (k := 0) (v := .int .i64 0) (by simp)
            have ytw2p1 : w2.heap.size < w6.heap.size + 1 := (by omega)
            have ytw2p2 : w2.heap.size < w6.heap.size + 1 + 1 := (by omega)
            have ytw30 : w3.heap.size < w6.heap.size := hCt.blk (b := w3.heap.size) (k := 0) (v := .int .i64 0) (by simp)
            have ytw3p1 : w3.heap.size < w6.heap.size + 1 := (by omega)
            have ytw3p2 : w3.heap.size < w6.heap.size + 1 + 1 := (by omega)
            have hTt := hTA3.below hBt
            by_cases hlq : q < n
            · obtain ⟨b1, hg1, hv1⟩ := hTt.at_ (p := (p : Int)) (q := (p : Int)) ⟨by omega, by omega⟩ ⟨by omega, by omega⟩
              obtain ⟨b2, hg2, hv2⟩ := hTt.at_ (p := (p : Int)) (q := (q : Int)) ⟨by omega, by omega⟩ ⟨by omega, by omega⟩
              obtain ⟨b3, hg3, hv3⟩ := hTt.at_ (p := (q : Int)) (q := (p : Int)) ⟨by omega, by omega⟩ ⟨by omega, by omega⟩
              simp only [Int.toNat_natCast] at hg1 hv1 hg2 hv2 hg3 hv3
              obtain rfl : b1 = b2 := by
                rw [hg1] at hg2
                injection hg2 with hg2
                injection hg2 with hg2
                injection hg2 with hg2
                injection hg2
              have hs := HSYM.out (p : Int) (q : Int) ⟨by omega, by omega⟩ ⟨by omega, by omega⟩
              have he := (HEL.out (p : Int) (q : Int) ⟨by omega, by omega⟩ ⟨by omega, by omega⟩).1
              rw [← hs] at hv3
              have hd1 : decide (V (p : Int) (q : Int) < V (p : Int) (p : Int)) = false := decide_eq_false (by omega)
              have hd2 : ¬ V (p : Int) (q : Int) < V (p : Int) (p : Int) := by omega
              clear hs he hg2
              go_wp2_with fail
              go_quiet (fail)
              go_wp2
              go_roundw
              case rel => exact ⟨q + 1, by omega, by go_num, (by repeat (first | with_reducible exact hBt | with_reducible apply bdrew | with_reducible apply bdrewN | with_reducible apply balloc | ((with_reducible refine bset ?_ ?_ _); rotate_left; (first | omega | (simp <;> omega))))), (Cls.below (w := w6) (by repeat (first | with_reducible exact Below.refl _ _ | with_reducible apply bdrew | with_reducible apply bdrewN | with_reducible apply balloc | ((with_reducible refine bset ?_ ?_ _); rotate_left; (first | omega | (simp <;> omega))))) hCt)⟩
              case measure => simp [intOf]; omega
            · go_wp2
              go_roundw
              case rel => exact ⟨p + 1, by omega, by go_num, (by repeat (first | with_reducible exact hBt | with_reducible apply bdrew | with_reducible apply bdrewN | with_reducible apply balloc | ((with_reducible refine bset ?_ ?_ _); rotate_left; (first | omega | (simp <;> omega))))), (Cls.below (w := w6) (by repeat (first | with_reducible exact Below.refl _ _ | with_reducible apply bdrew | with_reducible apply bdrewN | with_reducible apply balloc | ((with_reducible refine bset ?_ ?_ _); rotate_left; (first | omega | (simp <;> omega))))) hCt)⟩
              case measure => simp [intOf]; omega
        · have DR := D3.trans (hBs.mono D3.size)
          go_wp2
          go_ret
          exact ⟨rfl, by repeat (first | with_reducible exact DR | with_reducible apply bdrew | with_reducible apply bdrewN | with_reducible apply balloc | ((with_reducible refine bset ?_ ?_ _); rotate_left; (first | omega | (simp <;> omega))))⟩

theorem walk_psym (w : World) (t : TaskV) (Ai Ag Ao : Option Addr) (ci cg co : Nat) (hR : TaskRead w Ai Ag Ao ci cg co t) (S : Option Addr) (cs : Nat) (st : List Int) (hS : Ints w S st) (hSn : NilOk S st cs) :
    Calls Try.prog 12 #[.agg #[.int .i64 t.facts, .slice Ai t.init.length ci, .slice Ag t.goal.length cg, .slice Ao t.ops.length co], .slice S st.length cs] w fun e w' => e = .returned (.bool true) ∧ Below w.heap.size w w' := by
  by_cases h : (sfault t st).1 = 0
  · obtain ⟨hv, h2⟩ := sfault_zero.1 h
    obtain ⟨n, hn⟩ := Int.eq_ofNat_of_zero_le hv.f0
    exact walk_psym_2 w t Ai Ag Ao ci cg co hR S cs st hS hSn n hn hv h2
  · exact walk_psym_1 w t Ai Ag Ao ci cg co hR S cs st hS hSn h

namespace pairsSymmetric
open Go.ChangeShapes Go.WideShapes Go.ChangeAt Go.RowKit

set_option maxRecDepth 100000 in
theorem lifted (os : Os) (started : os.Started) (H : Type) (enc : TypeId × Value → H) :
    ReturnsInHanded {} Try.checked os 12 .any (Rows.pairsSymmetricSpec.pre6 enc Try.prog Try.f12 Rows.pairsSymmetricRow.domain false) (Rows.pairsSymmetricSpec.post enc Try.prog Try.f12 false true false false) := by
  refine returnsInHanded_of_change (C := Try.checked) own_knob started (by kernel_rfl) Try.func12
    (ChangeSpec.witness6 (enc := enc) (C := Try.checked) false ⟨#[], #[.agg #[.int .i64 0, .slice none 0 0, .slice none 0 0, .slice none 0 0], .slice none 0 0], []⟩ 8 (by kernel_rfl) (by kernel_rfl) (by kernel_rfl) (by kernel_rfl)) ?_
  intro W base args ds gs before hval0 hW _ hsz
  have hval : ∀ (j : Nat) t v, Try.f12.params[j]? = some t → args[j]? = some v → Value.okWide Try.prog W .any base t v := hval0
  have hpost := fun (W' : World) (hfn : gs = [] → Rows.pairsSymmetricSpec.fn H (ds ++ gs) = { results := [.lit (.bool true)], args := ds }) (hb : Below W.heap.size W W') => law_post (f := Try.f12) (tb := 4) laid_out_B Try.underlying4 rfl (by kernel_rfl) rfl hfn hW hb
  obtain ⟨p, q, hA0, hV, hpq, hfz, hnd⟩ := hW
  have hA : DataW.TrodAll enc Try.prog W 0 (fun _ => true) true Try.f12.params.toList args.toList ds p := hA0
  rw [Try.params12] at hA hval
  obtain ⟨v0, vs0, d0, ds0, p0, q0, hargs, rfl, hp0, h0, r0⟩ := trodAll_cons hA
  obtain ⟨v1, vs1, d1, ds1, p1, q1, rfl, rfl, hp1, h1, r1⟩ := trodAll_cons r0
  obtain ⟨rfl, rfl, hpn⟩ := trodAll_nil r1
  obtain rfl : args = #[v0, v1] := by cases args; simp_all
  obtain ⟨t, Ai, Ag, Ao, ci, cg, co, rfl, hR⟩ := open_taskW (hval 0 25 v0 rfl rfl) h0
  obtain ⟨S, cs, st, rfl, hSc, hSl, hSnn, hS, hSi⟩ := open_intsW (hval 1 22 v1 rfl rfl) h1
  refine (walk_psym W t Ai Ag Ao ci cg co hR S cs st hS ⟨hSnn, hSc, hSl⟩).mono fun e W' ⟨he, hb⟩ => ?_
  subst he
  exact ⟨_, rfl, hpost W' (fun hg => by subst hg; rfl) hb⟩

theorem proved : Rows.PairsSymmetricSaid :=
  OpenClaim.holds_of_wide 12 Try.f12 rfl rfl rfl rfl rfl rfl rfl ⟨rfl, rfl, rfl, rfl, rfl⟩ rfl rfl rfl rfl rfl (by kernel_rfl) Try.func12 (by kernel_rfl)
    (of_decide_eq_true (by kernel_rfl)) (by unfold Func.isWrapper; first | (rw [if_pos (by decide +kernel)]; kernel_rfl) | (rw [if_neg (by decide +kernel)]; exact ⟨rfl, rfl⟩))
    (fun os started H enc _ => lifted os started H enc)
#print axioms proved
end pairsSymmetric

end Go.Proofs.Ytiaokmofoaeifaa
