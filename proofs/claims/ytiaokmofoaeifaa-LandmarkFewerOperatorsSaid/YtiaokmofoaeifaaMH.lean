/-
  landmark.Achievers: what it returns.
  landmark.Orders: what it returns.
  two(true), landmarkExample: what they return.
-/
import Derived.Test.YtiaokmofoaeifaaMG
import Derived.Test.YtiaokmofoaeifaaMA
import Derived.Test.YtiaokmofoaeifaaMF
namespace Go.Proofs.Ytiaokmofoaeifaa
open Go.RowKit
set_option linter.unusedVariables false
set_option linter.unusedSimpArgs false

theorem OwnLL.drew {base : Nat} {w : World} {v : Value} {rows : List (List Int)} (h : OwnLL base w v rows) : OwnLL base w.drew v rows := h.below (bdrew (Below.refl _ _))
theorem OwnPP.drew {base : Nat} {w : World} {v : Value} {ps : List (Int × Int)} (h : OwnPP base w v ps) : OwnPP base w.drew v ps := h.below (bdrew (Below.refl _ _))
/-- Operator i can make the fact p true for the first time. -/
def AchP (t : TaskV) (p : Int) (i : Nat) : Prop := ∃ o, t.ops[i]? = some o ∧ ¬ p ∈ t.init ∧ p ∈ o.add ∧ ∀ q ∈ o.pre, Reach t.init t.ops (useNot t.ops p) q
noncomputable def achTo (t : TaskV) (p : Int) (k : Nat) : List Int := ((List.range k).filter fun (i : Nat) => @decide (AchP t p i) (Classical.propDecidable _)).map fun (i : Nat) => (i : Int)
noncomputable def achV (t : TaskV) (p : Int) : List Int := achTo t p t.ops.length
theorem achTo_len (t : TaskV) (p : Int) (k : Nat) : (achTo t p k).length ≤ k := by
  unfold achTo
  rw [List.length_map]
  exact Nat.le_trans (List.length_filter_le _ _) (by simp)
theorem achTo_yes {t : TaskV} {p : Int} {k : Nat} (h : AchP t p k) : achTo t p k ++ [(k : Int)] = achTo t p (k + 1) := by
  unfold achTo
  rw [List.range_succ, List.filter_append, List.map_append]
  simp [h]
theorem achTo_no {t : TaskV} {p : Int} {k : Nat} (h : ¬ AchP t p k) : achTo t p (k + 1) = achTo t p k := by
  unfold achTo
  rw [List.range_succ, List.filter_append, List.map_append]
  simp [h]
set_option maxRecDepth 100000 in
set_option maxHeartbeats 400000 in
theorem achievers_1 (w : World) (t : TaskV) (Ai Ag Ao : Option Addr) (ci cg co : Nat) (hT : TaskMem w Ai Ag Ao t) (h : ¬ (tfault t).1 = 0) :
    Calls Try.prog 43 #[.agg #[.int .i64 t.facts, .slice Ai t.init.length ci, .slice Ag t.goal.length cg, .slice Ao t.ops.length co]] w fun e w' => e = .returned (.tuple #[.slice none 0 0, .agg #[.int .i64 (tfault t).1, .int .i64 (tfault t).2]]) ∧ Below w.heap.size w w' := by
  have N := bb_no h
  have N' := bn_yes h
  go_enter Try.func43, Try.ntmps43
  go_wp2_with fail
  refine (validate_any _ _ _ _ _ _ _ _ (hT.below (by repeat (first | with_reducible exact Below.refl _ _ | with_reducible apply bdrew | with_reducible apply bdrewN | with_reducible apply balloc | ((with_reducible refine bset ?_ ?_ _); rotate_left; (first | omega | (simp <;> omega))))))).mono ?_
  rintro e w1 ⟨rfl, hB1⟩
  have D1 := dstep w hB1 (by repeat (first | with_reducible exact Below.refl _ _ | with_reducible apply bdrew | with_reducible apply bdrewN | with_reducible apply balloc | ((with_reducible refine bset ?_ ?_ _); rotate_left; (first | omega | (simp <;> omega)))))
  have d1s := D1.size
  have C1 := Cls.below (l := [(w.heap.size, 0, .int .i64 t.facts), (w.heap.size, 1, .slice Ai t.init.length ci), (w.heap.size, 2, .slice Ag t.goal.length cg), (w.heap.size, 3, .slice Ao t.ops.length co), (w.heap.size + 1, 0, .int .i64 0), (w.heap.size + 1, 1, .int .i64 0)]) hB1 (by simp [Cls, go_sem])
  have F1 := C1
  simp only [Cls, and_true] at F1
  have y1w1 : w.heap.size + 1 < w1.heap.size := C1.blk (b := w.heap.size + 1) (k := 0) (v := .int .i64 0) (by simp)
  have y1w0 : w.heap.size < w1.heap.size := (by omega)
  have y1wp1 : w.heap.size < w1.heap.size + 1 := (by omega)
  have y1wp2 : w.heap.size < w1.heap.size + 1 + 1 := (by omega)
  go_wp2_with fail
  refine region_still_tail 2 (by kernel_rfl) (by kernel_rfl) ?_
  simp only [List.take_succ_cons, List.take_zero, List.drop_succ_cons, List.drop_zero]
  repeat still_step
  refine wpStill_nil ?_
  go_wp2
  refine bodyPost_ret (v := .tuple #[.slice none 0 0, .agg #[.int .i64 (tfault t).1, .int .i64 (tfault t).2]]) ?_ rfl ⟨rfl, by repeat (first | with_reducible exact D1 | with_reducible apply bdrew | with_reducible apply bdrewN | with_reducible apply balloc | ((with_reducible refine bset ?_ ?_ _); rotate_left; (first | omega | (simp <;> omega))))⟩
  simp [results, Try.results43, go_sem, F1, y1w1, y1w0, y1wp1, y1wp2]

set_option maxRecDepth 100000 in
set_option maxHeartbeats 4000000 in
theorem achievers_2 (w : World) (t : TaskV) (Ai Ag Ao : Option Addr) (ci cg co : Nat) (hT : TaskMem w Ai Ag Ao t) (n : Nat) (hn : t.facts = n) (hv : Valid t) :
    Calls Try.prog 43 #[.agg #[.int .i64 t.facts, .slice Ai t.init.length ci, .slice Ag t.goal.length cg, .slice Ao t.ops.length co]] w fun e w' => ∃ v, e = .returned (.tuple #[v, .agg #[.int .i64 0, .int .i64 0]]) ∧ (∃ B, w.heap.size ≤ B ∧ OwnLL B w' v ((landV n t).map (achV t))) ∧ Below w.heap.size w w' := by
  have HT0 := Lib.hid (tfault_valid hv)
  have hn24 : n ≤ 24 := by have := hv.f1; omega
  have hn12 : n ≤ 1000000000000 := by omega
  have HOPS := Lib.hid (ops_in hv hn)
  have HN := Lib.hid hn
  have HV := Lib.hid hv
  have h40 := hv.nops
  have hli := hT.linit.le
  have hlo := hT.lops.le
  clear hv hn
  go_enter Try.func43, Try.ntmps43
  go_wp2_with fail
  refine (validate_any _ _ _ _ _ _ _ _ (hT.below (by repeat (first | with_reducible exact Below.refl _ _ | with_reducible apply bdrew | with_reducible apply bdrewN | with_reducible apply balloc | ((with_reducible refine bset ?_ ?_ _); rotate_left; (first | omega | (simp <;> omega))))))).mono ?_
  rintro e w1 ⟨he, hB1⟩
  rw [HT0.out] at he
  subst he
  have D1 := dstep w hB1 (by repeat (first | with_reducible exact Below.refl _ _ | with_reducible apply bdrew | with_reducible apply bdrewN | with_reducible apply balloc | ((with_reducible refine bset ?_ ?_ _); rotate_left; (first | omega | (simp <;> omega)))))
  have d1s := D1.size
  have C1 := Cls.below (l := [(w.heap.size, 0, .int .i64 t.facts), (w.heap.size, 1, .slice Ai t.init.length ci), (w.heap.size, 2, .slice Ag t.goal.length cg), (w.heap.size, 3, .slice Ao t.ops.length co), (w.heap.size + 1, 0, .int .i64 0), (w.heap.size + 1, 1, .int .i64 0)]) hB1 (by simp [Cls, go_sem])
  have F1 := C1
  simp only [Cls, and_true] at F1
  have y1w1 : w.heap.size + 1 < w1.heap.size := C1.blk (b := w.heap.size + 1) (k := 0) (v := .int .i64 0) (by simp)
  have y1w0 : w.heap.size < w1.heap.size := (by omega)
  have y1wp1 : w.heap.size < w1.heap.size + 1 := (by omega)
  have y1wp2 : w.heap.size < w1.heap.size + 1 + 1 := (by omega)
  go_wp2_with fail
  refine (facts_any _ t Ai Ag Ao ci cg co (hT.below (by repeat (first | with_reducible exact D1 | with_reducible apply bdrew | with_reducible apply bdrewN | with_reducible apply balloc | ((with_reducible refine bset ?_ ?_ _); rotate_left; (first | omega | (simp <;> omega)))))) n HN.out HV.out).mono ?_
  rintro e w2 ⟨v2, rfl, ho2, hB2⟩
  have D2 := dstep w hB2 (by repeat (first | with_reducible exact D1 | with_reducible apply bdrew | with_reducible apply bdrewN | with_reducible apply balloc | ((with_reducible refine bset ?_ ?_ _); rotate_left; (first | omega | (simp <;> omega)))))
  have d2s := D2.size
  have C2 := Cls.below (l := [(w.heap.size, 0, .int .i64 t.facts), (w.heap.size, 1, .slice Ai t.init.length ci), (w.heap.size, 2, .slice Ag t.goal.length cg), (w.heap.size, 3, .slice Ao t.ops.length co), (w.heap.size + 1, 0, .int .i64 0), (w.heap.size + 1, 1, .int .i64 0), (w1.heap.size, 0, .int .i64 0), (w1.heap.size, 1, .int .i64 0)]) hB2 (by simp [Cls, go_sem, F1, y1w1, y1w0, y1wp1, y1wp2])
  have F2 := C2
  simp only [Cls, and_true] at F2
  have y2w1 : w.heap.size + 1 < w2.heap.size := C2.blk (b := w.heap.size + 1) (k := 0) (v := .int .i64 0) (by simp)
  have y2w0 : w.heap.size < w2.heap.size := (by omega)
  have y2wp1 : w.heap.size < w2.heap.size + 1 := (by omega)
  have y2wp2 : w.heap.size < w2.heap.size + 1 + 1 := (by omega)
  have y2w10 : w1.heap.size < w2.heap.size := C2.blk (b := w1.heap.size) (k := 0) (v := .int .i64 0) (by simp)
  have y2w1p1 : w1.heap.size < w2.heap.size + 1 := (by omega)
  have y2w1p2 : w1.heap.size < w2.heap.size + 1 + 1 := (by omega)
  have hll := landV_len n t
  obtain ⟨A2, c2, rfl, hnil2, hI2⟩ := ho2.form
  clear hnil2 ho2
  have hll2 : (landV n t).length ≤ 9223372036854775807 := by omega
  go_wp2_with fail
  go_loopw [5, 21] (fun v i wr => ∃ k : Nat, k ≤ (landV n t).length ∧ i = .int .i64 k ∧ OwnLL w2.heap.size wr v (((landV n t).take k).map (achV t)) ∧ Below w2.heap.size w2 wr ∧ Cls wr [(w.heap.size, 0, .int .i64 t.facts), (w.heap.size, 1, .slice Ai t.init.length ci), (w.heap.size, 2, .slice Ag t.goal.length cg), (w.heap.size, 3, .slice Ao t.ops.length co), (w.heap.size + 1, 0, .int .i64 0), (w.heap.size + 1, 1, .int .i64 0), (w1.heap.size, 0, .int .i64 0), (w1.heap.size, 1, .int .i64 0)]) (fun _ i _ => (landV n t).length - (intOf i).toNat)
  case atStart => exact ⟨0, Nat.zero_le _, rfl, OwnEs.nil _ _, (by repeat (first | with_reducible exact Below.refl _ _ | with_reducible apply bdrew | with_reducible apply bdrewN | with_reducible apply balloc | ((with_reducible refine bset ?_ ?_ _); rotate_left; (first | omega | (simp <;> omega))))), (by simp [Cls, go_sem, F2, y2w1, y2w0, y2wp1, y2wp2, y2w10, y2w1p1, y2w1p2])⟩
  case round =>
    obtain ⟨k, hk, rfl, hown, hBr, hCr⟩ := hrel
    obtain ⟨w3, rfl⟩ : ∃ wo : World, wo = wr := ⟨_, rfl⟩
    have drs := hBr.size
    have Fr := hCr
    simp only [Cls, and_true] at Fr
    have yrw1 : w.heap.size + 1 < w3.heap.size := hCr.blk (b := w.heap.size + 1) (k := 0) (v := .int .i64 0) (by simp)
    have yrw0 : w.heap.size < w3.heap.size := (by omega)
    have yrwp1 : w.heap.size < w3.heap.size + 1 := (by omega)
    have yrwp2 : w.heap.size < w3.heap.size + 1 + 1 := (by omega)
    have yrw10 : w1.heap.size < w3.heap.size := hCr.blk (b := w1.heap.size) (k := 0) (v := .int .i64 0) (by simp)
    have yrw1p1 : w1.heap.size < w3.heap.size + 1 := (by omega)
    have yrw1p2 : w1.heap.size < w3.heap.size + 1 + 1 := (by omega)
    have DR := D2.trans (hBr.mono D2.size)
    have hq23 := hBr.size
    by_cases hlt : k < (landV n t).length
    · obtain ⟨pd, p, rfl, hp, hpc⟩ := (hI2.below hBr).at_ hlt
      go_wp2_with fail
      refine (without_any _ t Ai Ag Ao ci cg co (hT.below (by repeat (first | with_reducible exact DR | with_reducible apply bdrew | with_reducible apply bdrewN | with_reducible apply balloc | ((with_reducible refine bset ?_ ?_ _); rotate_left; (first | omega | (simp <;> omega)))))) n HN.out HV.out p).mono ?_
      rintro e w4 ⟨g4, rfl, hg4, hA4, hB4⟩
      have D4 := dstep w hB4 (by repeat (first | with_reducible exact DR | with_reducible apply bdrew | with_reducible apply bdrewN | with_reducible apply balloc | ((with_reducible refine bset ?_ ?_ _); rotate_left; (first | omega | (simp <;> omega)))))
      have d4s := D4.size
      have Ew3_4 := dstep w3 hB4 (by repeat (first | with_reducible exact Below.refl _ _ | with_reducible apply bdrew | with_reducible apply bdrewN | with_reducible apply balloc | ((with_reducible refine bset ?_ ?_ _); rotate_left; (first | omega | (simp <;> omega)))))
      have C4 := Cls.below (l := [(w.heap.size, 0, .int .i64 t.facts), (w.heap.size, 1, .slice Ai t.init.length ci), (w.heap.size, 2, .slice Ag t.goal.length cg), (w.heap.size, 3, .slice Ao t.ops.length co), (w.heap.size + 1, 0, .int .i64 0), (w.heap.size + 1, 1, .int .i64 0), (w1.heap.size, 0, .int .i64 0), (w1.heap.size, 1, .int .i64 0)]) hB4 (by simp [Cls, go_sem, Fr, yrw1, yrw0, yrwp1, yrwp2, yrw10, yrw1p1, yrw1p2])
      have F4 := C4
      simp only [Cls, and_true] at F4
      have y4w1 : w.heap.size + 1 < w4.heap.size := C4.blk (b := w.heap.size + 1) (k := 0) (v := .int .i64 0) (by simp)
      have y4w0 : w.heap.size < w4.heap.size := (by omega)
      have y4wp1 : w.heap.size < w4.heap.size + 1 := (by omega)
      have y4wp2 : w.heap.size < w4.heap.size + 1 + 1 := (by omega)
      have y4w10 : w1.heap.size < w4.heap.size := C4.blk (b := w1.heap.size) (k := 0) (v := .int .i64 0) (by simp)
      have y4w1p1 : w1.heap.size < w4.heap.size + 1 := (by omega)
      have y4w1p2 : w1.heap.size < w4.heap.size + 1 + 1 := (by omega)
      have hcl := closeV_len n t.init t.ops (useNot t.ops p)
      go_wp2_with fail
      go_loopw [8, 31] (fun v i wr => ∃ j : Nat, j ≤ t.ops.length ∧ i = .int .i64 j ∧ OwnI w4.heap.size wr v (achTo t p j) ∧ Below w4.heap.size w4 wr ∧ Cls wr [(w.heap.size, 0, .int .i64 t.facts), (w.heap.size, 1, .slice Ai t.init.length ci), (w.heap.size, 2, .slice Ag t.goal.length cg), (w.heap.size, 3, .slice Ao t.ops.length co), (w.heap.size + 1, 0, .int .i64 0), (w.heap.size + 1, 1, .int .i64 0), (w1.heap.size, 0, .int .i64 0), (w1.heap.size, 1, .int .i64 0)]) (fun _ i _ => t.ops.length - (intOf i).toNat)
      case atStart => exact ⟨0, Nat.zero_le _, rfl, OwnI.nil _ _, (by repeat (first | with_reducible exact Below.refl _ _ | with_reducible apply bdrew | with_reducible apply bdrewN | with_reducible apply balloc | ((with_reducible refine bset ?_ ?_ _); rotate_left; (first | omega | (simp <;> omega))))), (by simp [Cls, go_sem, F4, y4w1, y4w0, y4wp1, y4wp2, y4w10, y4w1p1, y4w1p2])⟩
      case round =>
        obtain ⟨j, hj, rfl, hl4, hBs, hCs⟩ := hrel
        obtain ⟨w5, rfl⟩ : ∃ wo : World, wo = wr := ⟨_, rfl⟩
        have dss := hBs.size
        have Fs := hCs
        simp only [Cls, and_true] at Fs
        have ysw1 : w.heap.size + 1 < w5.heap.size := hCs.blk (b := w.heap.size + 1) (k := 0) (v := .int .i64 0) (by simp)
        have ysw0 : w.heap.size < w5.heap.size := (by omega)
        have yswp1 : w.heap.size < w5.heap.size + 1 := (by omega)
        have yswp2 : w.heap.size < w5.heap.size + 1 + 1 := (by omega)
        have ysw10 : w1.heap.size < w5.heap.size := hCs.blk (b := w1.heap.size) (k := 0) (v := .int .i64 0) (by simp)
        have ysw1p1 : w1.heap.size < w5.heap.size + 1 := (by omega)
        have ysw1p2 : w1.heap.size < w5.heap.size + 1 + 1 := (by omega)
        have DS := D4.trans (hBs.mono D4.size)
        have ES := Ew3_4.trans (hBs.mono Ew3_4.size)
        by_cases hlj : j < t.ops.length
        · obtain ⟨ad, o, A5, c5, A6, c6, A7, c7, rfl, ho, hc0, hc1, hc2, hc3, hm⟩ := hT.ops.at2 DS hlj
          have hoo := Lib.hid (HOPS.out o (List.mem_of_getElem? ho.out))
          have hla := hm.ladd.le
          have hlp := hm.lpre
          have hlen := Nat.lt_of_le_of_lt (achTo_len t p j) (show j < 1000000000000 by omega)
          by_cases hi : p ∈ t.init
          · have HD1 := Lib.hid (decide_eq_true hi)
            have HL := Lib.hid (achTo_no (t := t) (p := p) (k := j) (fun ⟨o', _, h2, _⟩ => h2 hi))
            clear hi
            go_wp2_with fail
            refine (contains_v _ _ _ _ _ true (hT.init.below (by repeat (first | with_reducible exact DS | with_reducible apply bdrew | with_reducible apply bdrewN | with_reducible apply balloc | ((with_reducible refine bset ?_ ?_ _); rotate_left; (first | omega | (simp <;> omega)))))) hli HD1.out).mono ?_
            rintro e w9 ⟨rfl, hW⟩
            subst hW
            go_wp2
            go_roundw
            case rel => exact ⟨j + 1, by omega, by go_num, by rw [HL.out]; exact hl4.below (by repeat (first | with_reducible exact Below.refl _ _ | with_reducible apply bdrew | with_reducible apply bdrewN | with_reducible apply balloc | ((with_reducible refine bset ?_ ?_ _); rotate_left; (first | omega | (simp <;> omega))))), (by repeat (first | with_reducible exact hBs | with_reducible apply bdrew | with_reducible apply bdrewN | with_reducible apply balloc | ((with_reducible refine bset ?_ ?_ _); rotate_left; (first | omega | (simp <;> omega))))), (by simp [Cls, go_sem, Fs, ysw1, ysw0, yswp1, yswp2, ysw10, ysw1p1, ysw1p2])⟩
            case measure => simp [intOf]; omega
          · have HD1 := Lib.hid (decide_eq_false hi)
            have HI := Lib.hid hi
            clear hi
            by_cases had : p ∈ o.add
            · have HD2 := Lib.hid (decide_eq_true had)
              have HA := Lib.hid had
              clear had
              by_cases hall : ∀ q ∈ o.pre, Reach t.init t.ops (useNot t.ops p) q
              · have HAll := Lib.hid hall
                clear hall
                have HL := Lib.hid (achTo_yes (t := t) (p := p) (k := j) ⟨o, ho.out, HI.out, HA.out, HAll.out⟩)
                go_wp2_with fail
                refine (contains_v _ _ _ _ _ false (hT.init.below (by repeat (first | with_reducible exact DS | with_reducible apply bdrew | with_reducible apply bdrewN | with_reducible apply balloc | ((with_reducible refine bset ?_ ?_ _); rotate_left; (first | omega | (simp <;> omega)))))) hli HD1.out).mono ?_
                rintro e w9 ⟨rfl, hW⟩
                subst hW
                go_wp2_with fail
                refine (contains_v _ _ _ _ _ true (hm.add.below (by repeat (first | with_reducible exact DS | with_reducible apply bdrew | with_reducible apply bdrewN | with_reducible apply balloc | ((with_reducible refine bset ?_ ?_ _); rotate_left; (first | omega | (simp <;> omega)))))) hla HD2.out).mono ?_
                rintro e w9 ⟨rfl, hW⟩
                subst hW
                go_wp2_with fail
                refine (all_at _ _ _ _ n _ _ _ (hA4.below (by repeat (first | with_reducible exact hBs | with_reducible apply bdrew | with_reducible apply bdrewN | with_reducible apply balloc | ((with_reducible refine bset ?_ ?_ _); rotate_left; (first | omega | (simp <;> omega)))))).bools (hm.pre.below (by repeat (first | with_reducible exact DS | with_reducible apply bdrew | with_reducible apply bdrewN | with_reducible apply balloc | ((with_reducible refine bset ?_ ?_ _); rotate_left; (first | omega | (simp <;> omega)))))) hcl hlp hn12 hoo.out.1 true (by rw [allIn_close hoo.out.1]; exact ⟨fun _ => HAll.out, fun _ => rfl⟩)).mono ?_
                rintro e w6 ⟨rfl, hB6⟩
                have D6 := dstep w hB6 (by repeat (first | with_reducible exact DS | with_reducible apply bdrew | with_reducible apply bdrewN | with_reducible apply balloc | ((with_reducible refine bset ?_ ?_ _); rotate_left; (first | omega | (simp <;> omega)))))
                have d6s := D6.size
                have Ew4_6 := dstep w4 hB6 (by repeat (first | with_reducible exact hBs | with_reducible apply bdrew | with_reducible apply bdrewN | with_reducible apply balloc | ((with_reducible refine bset ?_ ?_ _); rotate_left; (first | omega | (simp <;> omega)))))
                have Ew5_6 := dstep w5 hB6 (by repeat (first | with_reducible exact Below.refl _ _ | with_reducible apply bdrew | with_reducible apply bdrewN | with_reducible apply balloc | ((with_reducible refine bset ?_ ?_ _); rotate_left; (first | omega | (simp <;> omega)))))
                have C6 := Cls.below (l := [(w.heap.size, 0, .int .i64 t.facts), (w.heap.size, 1, .slice Ai t.init.length ci), (w.heap.size, 2, .slice Ag t.goal.length cg), (w.heap.size, 3, .slice (some ad) t.ops.length co), (w.heap.size + 1, 0, .int .i64 0), (w.heap.size + 1, 1, .int .i64 0), (w1.heap.size, 0, .int .i64 0), (w1.heap.size, 1, .int .i64 0), (w5.heap.size, 0, .slice A5 o.pre.length c5), (w5.heap.size, 1, .slice A6 o.add.length c6), (w5.heap.size, 2, .slice A7 o.del.length c7), (w5.heap.size, 3, .int .i64 o.cost)]) hB6 (by simp [Cls, go_sem, Fs, ysw1, ysw0, yswp1, yswp2, ysw10, ysw1p1, ysw1p2])
                have F6 := C6
                simp only [Cls, and_true] at F6
                have y6w1 : w.heap.size + 1 < w6.heap.size := C6.blk (b := w.heap.size + 1) (k := 0) (v := .int .i64 0) (by simp)
                have y6w0 : w.heap.size < w6.heap.size := (by omega)
                have y6wp1 : w.heap.size < w6.heap.size + 1 := (by omega)
                have y6wp2 : w.heap.size < w6.heap.size + 1 + 1 := (by omega)
                have y6w10 : w1.heap.size < w6.heap.size := C6.blk (b := w1.heap.size) (k := 0) (v := .int .i64 0) (by simp)
                have y6w1p1 : w1.heap.size < w6.heap.size + 1 := (by omega)
                have y6w1p2 : w1.heap.size < w6.heap.size + 1 + 1 := (by omega)
                have y6w50 : w5.heap.size < w6.heap.size := C6.blk (b := w5.heap.size) (k := 0) (v := .slice A5 o.pre.length c5) (by simp)
                have y6w5p1 : w5.heap.size < w6.heap.size + 1 := (by omega)
                have y6w5p2 : w5.heap.size < w6.heap.size + 1 + 1 := (by omega)
                have hl6 := hl4.below (by repeat (first | with_reducible exact Ew5_6 | with_reducible apply bdrew | with_reducible apply bdrewN | with_reducible apply balloc | ((with_reducible refine bset ?_ ?_ _); rotate_left; (first | omega | (simp <;> omega)))))
                go_wp2_with (at_builtin; go_must (refine wpList_push rfl (.tmp 53) (.tmp 55) rfl w4 [(w.heap.size, 0, .int .i64 t.facts), (w.heap.size, 1, .slice Ai t.init.length ci), (w.heap.size, 2, .slice Ag t.goal.length cg), (w.heap.size, 3, .slice (some ad) t.ops.length co), (w.heap.size + 1, 0, .int .i64 0), (w.heap.size + 1, 1, .int .i64 0), (w1.heap.size, 0, .int .i64 0), (w1.heap.size, 1, .int .i64 0)] (w4.heap.size) u8 _ ((j : Int)) rfl (OwnI.below hl6 ?p1) ⟨w6.heap.size, 0, none⟩ 1 rfl ?p2 hlen ?p3 ?p4 ?p5 ?p6 ?p7 ?_; (case p1 => repeat (first | with_reducible exact Below.refl _ _ | with_reducible apply bdrew | with_reducible apply bdrewN | with_reducible apply balloc | ((with_reducible refine bset ?_ ?_ _); rotate_left; (first | omega | (simp <;> omega))))); (case p2 => simp [Cls, go_sem, F6, y6w1, y6w0, y6wp1, y6wp2, y6w10, y6w1p1, y6w1p2, y6w50, y6w5p1, y6w5p2]); (case p3 => (first | omega | (simp <;> omega))); (case p4 => (first | omega | (simp <;> omega))); (case p5 => repeat (first | with_reducible exact Ew4_6 | with_reducible apply bdrew | with_reducible apply bdrewN | with_reducible apply balloc | ((with_reducible refine bset ?_ ?_ _); rotate_left; (first | omega | (simp <;> omega))))); (case p6 => simp [Cls, go_sem, F6, y6w1, y6w0, y6wp1, y6wp2, y6w10, y6w1p1, y6w1p2, y6w50, y6w5p1, y6w5p2]); (case p7 => (simp <;> omega)); intro v7 w7 o7 D7 C7 sz7; have d7s := D7.size; have F7 := C7; simp only [Cls, and_true] at F7; have y7w1 : w.heap.size + 1 < w7.heap.size := C7.blk (b := w.heap.size + 1) (k := 0) (v := .int .i64 0) (by simp); have y7w0 : w.heap.size < w7.heap.size := (by omega); have y7wp1 : w.heap.size < w7.heap.size + 1 := (by omega); have y7wp2 : w.heap.size < w7.heap.size + 1 + 1 := (by omega); have y7w10 : w1.heap.size < w7.heap.size := C7.blk (b := w1.heap.size) (k := 0) (v := .int .i64 0) (by simp); have y7w1p1 : w1.heap.size < w7.heap.size + 1 := (by omega); have y7w1p2 : w1.heap.size < w7.heap.size + 1 + 1 := (by omega)))
                go_roundw
                case rel => exact ⟨j + 1, by omega, by go_num, by rw [← HL.out]; exact o7, (by repeat (first | with_reducible exact D7 | with_reducible apply bdrew | with_reducible apply bdrewN | with_reducible apply balloc | ((with_reducible refine bset ?_ ?_ _); rotate_left; (first | omega | (simp <;> omega))))), (by simp [Cls, go_sem, F7, y7w1, y7w0, y7wp1, y7wp2, y7w10, y7w1p1, y7w1p2])⟩
                case measure => simp [intOf]; omega
              · have HAll := Lib.hid hall
                clear hall
                have HL := Lib.hid (achTo_no (t := t) (p := p) (k := j) (fun ⟨o', h1, _, _, h4⟩ => HAll.out (by rw [ho.out] at h1; injection h1 with h1; rw [h1]; exact h4)))
                go_wp2_with fail
                refine (contains_v _ _ _ _ _ false (hT.init.below (by repeat (first | with_reducible exact DS | with_reducible apply bdrew | with_reducible apply bdrewN | with_reducible apply balloc | ((with_reducible refine bset ?_ ?_ _); rotate_left; (first | omega | (simp <;> omega)))))) hli HD1.out).mono ?_
                rintro e w9 ⟨rfl, hW⟩
                subst hW
                go_wp2_with fail
                refine (contains_v _ _ _ _ _ true (hm.add.below (by repeat (first | with_reducible exact DS | with_reducible apply bdrew | with_reducible apply bdrewN | with_reducible apply balloc | ((with_reducible refine bset ?_ ?_ _); rotate_left; (first | omega | (simp <;> omega)))))) hla HD2.out).mono ?_
                rintro e w9 ⟨rfl, hW⟩
                subst hW
                go_wp2_with fail
                refine (all_at _ _ _ _ n _ _ _ (hA4.below (by repeat (first | with_reducible exact hBs | with_reducible apply bdrew | with_reducible apply bdrewN | with_reducible apply balloc | ((with_reducible refine bset ?_ ?_ _); rotate_left; (first | omega | (simp <;> omega)))))).bools (hm.pre.below (by repeat (first | with_reducible exact DS | with_reducible apply bdrew | with_reducible apply bdrewN | with_reducible apply balloc | ((with_reducible refine bset ?_ ?_ _); rotate_left; (first | omega | (simp <;> omega)))))) hcl hlp hn12 hoo.out.1 false (by rw [allIn_close hoo.out.1]; exact ⟨fun h => (by cases h), fun h => absurd h HAll.out⟩)).mono ?_
                rintro e w6 ⟨rfl, hB6⟩
                have D6 := dstep w hB6 (by repeat (first | with_reducible exact DS | with_reducible apply bdrew | with_reducible apply bdrewN | with_reducible apply balloc | ((with_reducible refine bset ?_ ?_ _); rotate_left; (first | omega | (simp <;> omega)))))
                have d6s := D6.size
                have Ew4_6 := dstep w4 hB6 (by repeat (first | with_reducible exact hBs | with_reducible apply bdrew | with_reducible apply bdrewN | with_reducible apply balloc | ((with_reducible refine bset ?_ ?_ _); rotate_left; (first | omega | (simp <;> omega)))))
                have Ew5_6 := dstep w5 hB6 (by repeat (first | with_reducible exact Below.refl _ _ | with_reducible apply bdrew | with_reducible apply bdrewN | with_reducible apply balloc | ((with_reducible refine bset ?_ ?_ _); rotate_left; (first | omega | (simp <;> omega)))))
                have C6 := Cls.below (l := [(w.heap.size, 0, .int .i64 t.facts), (w.heap.size, 1, .slice Ai t.init.length ci), (w.heap.size, 2, .slice Ag t.goal.length cg), (w.heap.size, 3, .slice (some ad) t.ops.length co), (w.heap.size + 1, 0, .int .i64 0), (w.heap.size + 1, 1, .int .i64 0), (w1.heap.size, 0, .int .i64 0), (w1.heap.size, 1, .int .i64 0), (w5.heap.size, 0, .slice A5 o.pre.length c5), (w5.heap.size, 1, .slice A6 o.add.length c6), (w5.heap.size, 2, .slice A7 o.del.length c7), (w5.heap.size, 3, .int .i64 o.cost)]) hB6 (by simp [Cls, go_sem, Fs, ysw1, ysw0, yswp1, yswp2, ysw10, ysw1p1, ysw1p2])
                have F6 := C6
                simp only [Cls, and_true] at F6
                have y6w1 : w.heap.size + 1 < w6.heap.size := C6.blk (b := w.heap.size + 1) (k := 0) (v := .int .i64 0) (by simp)
                have y6w0 : w.heap.size < w6.heap.size := (by omega)
                have y6wp1 : w.heap.size < w6.heap.size + 1 := (by omega)
                have y6wp2 : w.heap.size < w6.heap.size + 1 + 1 := (by omega)
                have y6w10 : w1.heap.size < w6.heap.size := C6.blk (b := w1.heap.size) (k := 0) (v := .int .i64 0) (by simp)
                have y6w1p1 : w1.heap.size < w6.heap.size + 1 := (by omega)
                have y6w1p2 : w1.heap.size < w6.heap.size + 1 + 1 := (by omega)
                have y6w50 : w5.heap.size < w6.heap.size := C6.blk (b := w5.heap.size) (k := 0) (v := .slice A5 o.pre.length c5) (by simp)
                have y6w5p1 : w5.heap.size < w6.heap.size + 1 := (by omega)
                have y6w5p2 : w5.heap.size < w6.heap.size + 1 + 1 := (by omega)
                go_wp2
                go_roundw
                case rel => exact ⟨j + 1, by omega, by go_num, by rw [HL.out]; exact hl4.below (by repeat (first | with_reducible exact Ew5_6 | with_reducible apply bdrew | with_reducible apply bdrewN | with_reducible apply balloc | ((with_reducible refine bset ?_ ?_ _); rotate_left; (first | omega | (simp <;> omega))))), (by repeat (first | with_reducible exact Ew4_6 | with_reducible apply bdrew | with_reducible apply bdrewN | with_reducible apply balloc | ((with_reducible refine bset ?_ ?_ _); rotate_left; (first | omega | (simp <;> omega))))), (by simp [Cls, go_sem, F6, y6w1, y6w0, y6wp1, y6wp2, y6w10, y6w1p1, y6w1p2, y6w50, y6w5p1, y6w5p2])⟩
                case measure => simp [intOf]; omega
            · have HD2 := Lib.hid (decide_eq_false had)
              have HL := Lib.hid (achTo_no (t := t) (p := p) (k := j) (fun ⟨o', h1, _, h3, _⟩ => had (by rw [ho.out] at h1; injection h1 with h1; rw [h1]; exact h3)))
              clear had
              go_wp2_with fail
              refine (contains_v _ _ _ _ _ false (hT.init.below (by repeat (first | with_reducible exact DS | with_reducible apply bdrew | with_reducible apply bdrewN | with_reducible apply balloc | ((with_reducible refine bset ?_ ?_ _); rotate_left; (first | omega | (simp <;> omega)))))) hli HD1.out).mono ?_
              rintro e w9 ⟨rfl, hW⟩
              subst hW
              go_wp2_with fail
              refine (contains_v _ _ _ _ _ false (hm.add.below (by repeat (first | with_reducible exact DS | with_reducible apply bdrew | with_reducible apply bdrewN | with_reducible apply balloc | ((with_reducible refine bset ?_ ?_ _); rotate_left; (first | omega | (simp <;> omega)))))) hla HD2.out).mono ?_
              rintro e w9 ⟨rfl, hW⟩
              subst hW
              go_wp2
              go_roundw
              case rel => exact ⟨j + 1, by omega, by go_num, by rw [HL.out]; exact hl4.below (by repeat (first | with_reducible exact Below.refl _ _ | with_reducible apply bdrew | with_reducible apply bdrewN | with_reducible apply balloc | ((with_reducible refine bset ?_ ?_ _); rotate_left; (first | omega | (simp <;> omega))))), (by repeat (first | with_reducible exact hBs | with_reducible apply bdrew | with_reducible apply bdrewN | with_reducible apply balloc | ((with_reducible refine bset ?_ ?_ _); rotate_left; (first | omega | (simp <;> omega))))), (by simp [Cls, go_sem, Fs, ysw1, ysw0, yswp1, yswp2, ysw10, ysw1p1, ysw1p2])⟩
              case measure => simp [intOf]; omega
        · have hje : j = t.ops.length := by omega
          rw [hje] at hl4
          clear hje
          obtain ⟨A8, c8, rfl, hnil8, hI8⟩ := hl4.form
          clear hnil8 hI8
          have hl4' : OwnI w4.heap.size w5 (.slice A8 (achTo t p t.ops.length).length c8) (achV t p) := hl4
          have hownS := hown.below ES
          have hrow : ∀ b, u5.ownBlock = some b → b < w4.heap.size := fun b hb => by
            have h1 := (OwnEs.lt hown b hb).2
            have h2 := Ew3_4.size
            omega
          have HY := Lib.hid (plist_of (B := w2.heap.size) (row := u5.ownBlock) hl4' (by have := Ew3_4.size; omega) hrow)
          have hlen : (((landV n t).take k).map (achV t)).length < 1000000000000 := by rw [List.length_map, List.length_take]; omega
          have HT1 := Lib.hid (show ((landV n t).take k).map (achV t) ++ [achV t p] = ((landV n t).take (k + 1)).map (achV t) by rw [List.take_add_one, hp.out]; simp)
          have hB25 := hBr.trans (ES.mono hBr.size)
          have hs25 := hB25.size
          go_wp2_with (at_builtin; go_must (refine wpList_el (plist_stable _) 44 24 (.slice none 0 0) Try.underlying44 info_list rfl (by decide) (by decide) rfl (.tmp 58) (.tmp 60) rfl w2 [(w.heap.size, 0, .int .i64 t.facts), (w.heap.size, 1, .slice Ai t.init.length ci), (w.heap.size, 2, .slice Ag t.goal.length cg), (w.heap.size, 3, .slice Ao t.ops.length co), (w.heap.size + 1, 0, .int .i64 0), (w.heap.size + 1, 1, .int .i64 0), (w1.heap.size, 0, .int .i64 0), (w1.heap.size, 1, .int .i64 0)] rfl (OwnLL.below hownS ?p1) ⟨w5.heap.size, 0, none⟩ 1 rfl [.slice A8 (achTo t p t.ops.length).length c8] (achV t p) rfl (cells_one ?p2) ?p8 ((plist_stable _).below HY.out ?p9) hlen ?p3 (Nat.le_refl _) ?p5 ?p6 ?p7 ?_; (case p1 => repeat (first | with_reducible exact Below.refl _ _ | with_reducible apply bdrew | with_reducible apply bdrewN | with_reducible apply balloc | ((with_reducible refine bset ?_ ?_ _); rotate_left; (first | omega | (simp <;> omega))))); (case p2 => simp [go_sem]); (case p3 => (simp <;> omega)); (case p5 => repeat (first | with_reducible exact hB25 | with_reducible apply bdrew | with_reducible apply bdrewN | with_reducible apply balloc | ((with_reducible refine bset ?_ ?_ _); rotate_left; (first | omega | (simp <;> omega))))); (case p6 => simp [Cls, go_sem, Fs, ysw1, ysw0, yswp1, yswp2, ysw10, ysw1p1, ysw1p2]); (case p7 => (simp <;> omega)); (case p8 => intro u hu; simp at hu; subst hu; rfl); (case p9 => repeat (first | with_reducible exact Below.refl _ _ | with_reducible apply bdrew | with_reducible apply bdrewN | with_reducible apply balloc | ((with_reducible refine bset ?_ ?_ _); rotate_left; (first | omega | (simp <;> omega))))); intro v6 w6 o6 D6 C6 sz6 G6 at6; clear G6 at6; have d6s := D6.size))
          go_roundw
          case rel => exact ⟨k + 1, by omega, by go_num, by rw [← HT1.out]; exact o6, D6, C6⟩
          case measure => simp [intOf]; omega
    · have hke : k = (landV n t).length := by omega
      rw [hke, List.take_length] at hown
      clear hke
      go_wp2_with fail
      refine region_still_tail 3 (by kernel_rfl) (by kernel_rfl) ?_
      simp only [List.take_succ_cons, List.take_zero, List.drop_succ_cons, List.drop_zero]
      repeat still_step
      refine wpStill_nil ?_
      go_wp2
      refine bodyPost_ret (v := .tuple #[u5, .agg #[.int .i64 0, .int .i64 0]]) ?_ rfl ⟨_, rfl, ?_, by repeat (first | with_reducible exact DR | with_reducible apply bdrew | with_reducible apply bdrewN | with_reducible apply balloc | ((with_reducible refine bset ?_ ?_ _); rotate_left; (first | omega | (simp <;> omega))))⟩
      · simp [results, Try.results43, go_sem, Fr, yrw1, yrw0, yrwp1, yrwp2, yrw10, yrw1p1, yrw1p2]
      · refine ⟨w2.heap.size, by omega, ?_⟩
        repeat (first | with_reducible exact hown | with_reducible apply OwnLL.drew | (with_reducible refine OwnLL.far ?_ ?_ _; rotate_left; (first | omega | (simp; omega))))


end Go.Proofs.Ytiaokmofoaeifaa

namespace Go.Proofs.Ytiaokmofoaeifaa
open Go.RowKit
set_option linter.unusedVariables false
set_option linter.unusedSimpArgs false

/-- The landmark q is not reached ahead of p. -/
def OrdP (t : TaskV) (p q : Int) : Prop := ¬ q = p ∧ ¬ Reach t.init t.ops (useNot t.ops p) q
open Classical in
noncomputable def ordPart (t : TaskV) (p : Int) (l : List Int) : List (Int × Int) := (l.filter fun q => decide (OrdP t p q)).map fun q => (p, q)
open Classical in
noncomputable def ordRow (t : TaskV) (l : List Int) (p : Int) : List (Int × Int) := if p ∈ t.init then [] else ordPart t p l
noncomputable def ordTo (t : TaskV) (l : List Int) (k : Nat) : List (Int × Int) := (l.take k).flatMap (ordRow t l)
noncomputable def ordV (n : Nat) (t : TaskV) : List (Int × Int) := (landV n t).flatMap (ordRow t (landV n t))
theorem ordPart_yes {t : TaskV} {p q : Int} {l : List Int} {j : Nat} (hq : l[j]? = some q) (h : OrdP t p q) : ordPart t p (l.take j) ++ [(p, q)] = ordPart t p (l.take (j + 1)) := by
  unfold ordPart
  rw [List.take_add_one, hq, Option.toList, List.filter_append, List.map_append]
  simp [h]
theorem ordPart_no {t : TaskV} {p q : Int} {l : List Int} {j : Nat} (hq : l[j]? = some q) (h : ¬ OrdP t p q) : ordPart t p (l.take (j + 1)) = ordPart t p (l.take j) := by
  unfold ordPart
  rw [List.take_add_one, hq, Option.toList, List.filter_append, List.map_append]
  simp [h]
theorem ordTo_init {t : TaskV} {p : Int} {l : List Int} {k : Nat} (hp : l[k]? = some p) (h : p ∈ t.init) : ordTo t l (k + 1) = ordTo t l k := by
  unfold ordTo
  rw [List.take_add_one, hp, Option.toList, List.flatMap_append]
  simp [ordRow, h]
theorem ordTo_succ {t : TaskV} {p : Int} {l : List Int} {k : Nat} (hp : l[k]? = some p) (h : ¬ p ∈ t.init) : ordTo t l k ++ ordPart t p l = ordTo t l (k + 1) := by
  unfold ordTo
  rw [List.take_add_one, hp, Option.toList, List.flatMap_append]
  simp [ordRow, h]
theorem ordPart_len (t : TaskV) (p : Int) (l : List Int) : (ordPart t p l).length ≤ l.length := by
  unfold ordPart
  rw [List.length_map]
  exact List.length_filter_le _ _
theorem ordTo_len (t : TaskV) (l : List Int) (k : Nat) : (ordTo t l k).length ≤ k * l.length := by
  induction k with
  | zero => simp [ordTo]
  | succ k ih =>
    rcases Nat.lt_or_ge k l.length with h | h
    · have hp := List.getElem?_eq_getElem h
      by_cases hi : l[k] ∈ t.init
      · rw [ordTo_init hp hi, Nat.succ_mul]; omega
      · rw [← ordTo_succ hp hi, List.length_append, Nat.succ_mul]
        have := ordPart_len t l[k] l
        omega
    · have : ordTo t l (k + 1) = ordTo t l k := by unfold ordTo; rw [List.take_of_length_le (by omega), List.take_of_length_le (by omega)]
      rw [this, Nat.succ_mul]; omega
set_option maxRecDepth 100000 in
set_option maxHeartbeats 400000 in
theorem orders_1 (w : World) (t : TaskV) (Ai Ag Ao : Option Addr) (ci cg co : Nat) (hT : TaskMem w Ai Ag Ao t) (h : ¬ (tfault t).1 = 0) :
    Calls Try.prog 45 #[.agg #[.int .i64 t.facts, .slice Ai t.init.length ci, .slice Ag t.goal.length cg, .slice Ao t.ops.length co]] w fun e w' => e = .returned (.tuple #[.slice none 0 0, .agg #[.int .i64 (tfault t).1, .int .i64 (tfault t).2]]) ∧ Below w.heap.size w w' := by
  have N := bb_no h
  have N' := bn_yes h
  go_enter Try.func45, Try.ntmps45
  go_wp2_with fail
  refine (validate_any _ _ _ _ _ _ _ _ (hT.below (by repeat (first | with_reducible exact Below.refl _ _ | with_reducible apply bdrew | with_reducible apply bdrewN | with_reducible apply balloc | ((with_reducible refine bset ?_ ?_ _); rotate_left; (first | omega | (simp <;> omega))))))).mono ?_
  rintro e w1 ⟨rfl, hB1⟩
  have D1 := dstep w hB1 (by repeat (first | with_reducible exact Below.refl _ _ | with_reducible apply bdrew | with_reducible apply bdrewN | with_reducible apply balloc | ((with_reducible refine bset ?_ ?_ _); rotate_left; (first | omega | (simp <;> omega)))))
  have d1s := D1.size
  have C1 := Cls.below (l := [(w.heap.size, 0, .int .i64 t.facts), (w.heap.size, 1, .slice Ai t.init.length ci), (w.heap.size, 2, .slice Ag t.goal.length cg), (w.heap.size, 3, .slice Ao t.ops.length co), (w.heap.size + 1, 0, .int .i64 0), (w.heap.size + 1, 1, .int .i64 0)]) hB1 (by simp [Cls, go_sem])
  have F1 := C1
  simp only [Cls, and_true] at F1
  have y1w1 : w.heap.size + 1 < w1.heap.size := C1.blk (b := w.heap.size + 1) (k := 0) (v := .int .i64 0) (by simp)
  have y1w0 : w.heap.size < w1.heap.size := (by omega)
  have y1wp1 : w.heap.size < w1.heap.size + 1 := (by omega)
  have y1wp2 : w.heap.size < w1.heap.size + 1 + 1 := (by omega)
  go_wp2_with fail
  refine region_still_tail 2 (by kernel_rfl) (by kernel_rfl) ?_
  simp only [List.take_succ_cons, List.take_zero, List.drop_succ_cons, List.drop_zero]
  repeat still_step
  refine wpStill_nil ?_
  go_wp2
  refine bodyPost_ret (v := .tuple #[.slice none 0 0, .agg #[.int .i64 (tfault t).1, .int .i64 (tfault t).2]]) ?_ rfl ⟨rfl, by repeat (first | with_reducible exact D1 | with_reducible apply bdrew | with_reducible apply bdrewN | with_reducible apply balloc | ((with_reducible refine bset ?_ ?_ _); rotate_left; (first | omega | (simp <;> omega))))⟩
  simp [results, Try.results45, go_sem, F1, y1w1, y1w0, y1wp1, y1wp2]

set_option maxRecDepth 100000 in
set_option maxHeartbeats 4000000 in
theorem orders_2 (w : World) (t : TaskV) (Ai Ag Ao : Option Addr) (ci cg co : Nat) (hT : TaskMem w Ai Ag Ao t) (n : Nat) (hn : t.facts = n) (hv : Valid t) :
    Calls Try.prog 45 #[.agg #[.int .i64 t.facts, .slice Ai t.init.length ci, .slice Ag t.goal.length cg, .slice Ao t.ops.length co]] w fun e w' => ∃ v, e = .returned (.tuple #[v, .agg #[.int .i64 0, .int .i64 0]]) ∧ (∃ B, w.heap.size ≤ B ∧ OwnPP B w' v (ordV n t)) ∧ Below w.heap.size w w' := by
  have HT0 := Lib.hid (tfault_valid hv)
  have hn24 : n ≤ 24 := by have := hv.f1; omega
  have hn12 : n ≤ 1000000000000 := by omega
  have HN := Lib.hid hn
  have HV := Lib.hid hv
  have hli := hT.linit.le
  clear hv hn
  go_enter Try.func45, Try.ntmps45
  go_wp2_with fail
  refine (validate_any _ _ _ _ _ _ _ _ (hT.below (by repeat (first | with_reducible exact Below.refl _ _ | with_reducible apply bdrew | with_reducible apply bdrewN | with_reducible apply balloc | ((with_reducible refine bset ?_ ?_ _); rotate_left; (first | omega | (simp <;> omega))))))).mono ?_
  rintro e w1 ⟨he, hB1⟩
  rw [HT0.out] at he
  subst he
  have D1 := dstep w hB1 (by repeat (first | with_reducible exact Below.refl _ _ | with_reducible apply bdrew | with_reducible apply bdrewN | with_reducible apply balloc | ((with_reducible refine bset ?_ ?_ _); rotate_left; (first | omega | (simp <;> omega)))))
  have d1s := D1.size
  have C1 := Cls.below (l := [(w.heap.size, 0, .int .i64 t.facts), (w.heap.size, 1, .slice Ai t.init.length ci), (w.heap.size, 2, .slice Ag t.goal.length cg), (w.heap.size, 3, .slice Ao t.ops.length co), (w.heap.size + 1, 0, .int .i64 0), (w.heap.size + 1, 1, .int .i64 0)]) hB1 (by simp [Cls, go_sem])
  have F1 := C1
  simp only [Cls, and_true] at F1
  have y1w1 : w.heap.size + 1 < w1.heap.size := C1.blk (b := w.heap.size + 1) (k := 0) (v := .int .i64 0) (by simp)
  have y1w0 : w.heap.size < w1.heap.size := (by omega)
  have y1wp1 : w.heap.size < w1.heap.size + 1 := (by omega)
  have y1wp2 : w.heap.size < w1.heap.size + 1 + 1 := (by omega)
  go_wp2_with fail
  refine (facts_any _ t Ai Ag Ao ci cg co (hT.below (by repeat (first | with_reducible exact D1 | with_reducible apply bdrew | with_reducible apply bdrewN | with_reducible apply balloc | ((with_reducible refine bset ?_ ?_ _); rotate_left; (first | omega | (simp <;> omega)))))) n HN.out HV.out).mono ?_
  rintro e w2 ⟨v2, rfl, ho2, hB2⟩
  have D2 := dstep w hB2 (by repeat (first | with_reducible exact D1 | with_reducible apply bdrew | with_reducible apply bdrewN | with_reducible apply balloc | ((with_reducible refine bset ?_ ?_ _); rotate_left; (first | omega | (simp <;> omega)))))
  have d2s := D2.size
  have C2 := Cls.below (l := [(w.heap.size, 0, .int .i64 t.facts), (w.heap.size, 1, .slice Ai t.init.length ci), (w.heap.size, 2, .slice Ag t.goal.length cg), (w.heap.size, 3, .slice Ao t.ops.length co), (w.heap.size + 1, 0, .int .i64 0), (w.heap.size + 1, 1, .int .i64 0), (w1.heap.size, 0, .int .i64 0), (w1.heap.size, 1, .int .i64 0)]) hB2 (by simp [Cls, go_sem, F1, y1w1, y1w0, y1wp1, y1wp2])
  have F2 := C2
  simp only [Cls, and_true] at F2
  have y2w1 : w.heap.size + 1 < w2.heap.size := C2.blk (b := w.heap.size + 1) (k := 0) (v := .int .i64 0) (by simp)
  have y2w0 : w.heap.size < w2.heap.size := (by omega)
  have y2wp1 : w.heap.size < w2.heap.size + 1 := (by omega)
  have y2wp2 : w.heap.size < w2.heap.size + 1 + 1 := (by omega)
  have y2w10 : w1.heap.size < w2.heap.size := C2.blk (b := w1.heap.size) (k := 0) (v := .int .i64 0) (by simp)
  have y2w1p1 : w1.heap.size < w2.heap.size + 1 := (by omega)
  have y2w1p2 : w1.heap.size < w2.heap.size + 1 + 1 := (by omega)
  have hll := landV_len n t
  have HSET := Lib.hid (landV_set (n := n) (t := t))
  obtain ⟨l, hl⟩ : ∃ l, Hid (landV n t = l) := ⟨_, Lib.hid rfl⟩
  rw [hl.out] at ho2 hll HSET
  obtain ⟨A2, c2, rfl, hnil2, hI2⟩ := ho2.form
  clear hnil2 ho2
  have hll2 : l.length ≤ 9223372036854775807 := by omega
  go_wp2_with fail
  go_loopw [5, 22] (fun v i wr => ∃ k : Nat, k ≤ l.length ∧ i = .int .i64 k ∧ OwnPP w2.heap.size wr v (ordTo t l k) ∧ Below w2.heap.size w2 wr ∧ Cls wr [(w.heap.size, 0, .int .i64 t.facts), (w.heap.size, 1, .slice Ai t.init.length ci), (w.heap.size, 2, .slice Ag t.goal.length cg), (w.heap.size, 3, .slice Ao t.ops.length co), (w.heap.size + 1, 0, .int .i64 0), (w.heap.size + 1, 1, .int .i64 0), (w1.heap.size, 0, .int .i64 0), (w1.heap.size, 1, .int .i64 0)]) (fun _ i _ => l.length - (intOf i).toNat)
  case atStart => exact ⟨0, Nat.zero_le _, rfl, OwnEs.nil _ _, (by repeat (first | with_reducible exact Below.refl _ _ | with_reducible apply bdrew | with_reducible apply bdrewN | with_reducible apply balloc | ((with_reducible refine bset ?_ ?_ _); rotate_left; (first | omega | (simp <;> omega))))), (by simp [Cls, go_sem, F2, y2w1, y2w0, y2wp1, y2wp2, y2w10, y2w1p1, y2w1p2])⟩
  case round =>
    obtain ⟨k, hk, rfl, hown, hBr, hCr⟩ := hrel
    obtain ⟨w3, rfl⟩ : ∃ wo : World, wo = wr := ⟨_, rfl⟩
    have drs := hBr.size
    have Fr := hCr
    simp only [Cls, and_true] at Fr
    have yrw1 : w.heap.size + 1 < w3.heap.size := hCr.blk (b := w.heap.size + 1) (k := 0) (v := .int .i64 0) (by simp)
    have yrw0 : w.heap.size < w3.heap.size := (by omega)
    have yrwp1 : w.heap.size < w3.heap.size + 1 := (by omega)
    have yrwp2 : w.heap.size < w3.heap.size + 1 + 1 := (by omega)
    have yrw10 : w1.heap.size < w3.heap.size := hCr.blk (b := w1.heap.size) (k := 0) (v := .int .i64 0) (by simp)
    have yrw1p1 : w1.heap.size < w3.heap.size + 1 := (by omega)
    have yrw1p2 : w1.heap.size < w3.heap.size + 1 + 1 := (by omega)
    have DR := D2.trans (hBr.mono D2.size)
    have hq23 := hBr.size
    by_cases hlt : k < l.length
    · obtain ⟨pd, p, rfl, hp, hpc⟩ := (hI2.below hBr).at_ hlt
      by_cases hi : p ∈ t.init
      · have HD1 := Lib.hid (decide_eq_true hi)
        have HL := Lib.hid (ordTo_init hp.out hi)
        clear hi
        go_wp2_with fail
        refine (contains_v _ _ _ _ _ true (hT.init.below (by repeat (first | with_reducible exact DR | with_reducible apply bdrew | with_reducible apply bdrewN | with_reducible apply balloc | ((with_reducible refine bset ?_ ?_ _); rotate_left; (first | omega | (simp <;> omega)))))) hli HD1.out).mono ?_
        rintro e w9 ⟨rfl, hW⟩
        rw [hW]
        clear hW w9
        go_wp2
        go_roundw
        case rel => exact ⟨k + 1, by omega, by go_num, by rw [HL.out]; exact hown, (by repeat (first | with_reducible exact hBr | with_reducible apply bdrew | with_reducible apply bdrewN | with_reducible apply balloc | ((with_reducible refine bset ?_ ?_ _); rotate_left; (first | omega | (simp <;> omega))))), (by simp [Cls, go_sem, Fr, yrw1, yrw0, yrwp1, yrwp2, yrw10, yrw1p1, yrw1p2])⟩
        case measure => simp [intOf]; omega
      · have HD1 := Lib.hid (decide_eq_false hi)
        have HL := Lib.hid (ordTo_succ hp.out hi)
        clear hi
        go_wp2_with fail
        refine (contains_v _ _ _ _ _ false (hT.init.below (by repeat (first | with_reducible exact DR | with_reducible apply bdrew | with_reducible apply bdrewN | with_reducible apply balloc | ((with_reducible refine bset ?_ ?_ _); rotate_left; (first | omega | (simp <;> omega)))))) hli HD1.out).mono ?_
        rintro e w9 ⟨rfl, hW⟩
        rw [hW]
        clear hW w9
        go_wp2_with fail
        refine (without_any _ t Ai Ag Ao ci cg co (hT.below (by repeat (first | with_reducible exact DR | with_reducible apply bdrew | with_reducible apply bdrewN | with_reducible apply balloc | ((with_reducible refine bset ?_ ?_ _); rotate_left; (first | omega | (simp <;> omega)))))) n HN.out HV.out p).mono ?_
        rintro e w4 ⟨g4, rfl, hg4, hA4, hB4⟩
        have D4 := dstep w hB4 (by repeat (first | with_reducible exact DR | with_reducible apply bdrew | with_reducible apply bdrewN | with_reducible apply balloc | ((with_reducible refine bset ?_ ?_ _); rotate_left; (first | omega | (simp <;> omega)))))
        have d4s := D4.size
        have Ew3_4 := dstep w3 hB4 (by repeat (first | with_reducible exact Below.refl _ _ | with_reducible apply bdrew | with_reducible apply bdrewN | with_reducible apply balloc | ((with_reducible refine bset ?_ ?_ _); rotate_left; (first | omega | (simp <;> omega)))))
        have C4 := Cls.below (l := [(w.heap.size, 0, .int .i64 t.facts), (w.heap.size, 1, .slice Ai t.init.length ci), (w.heap.size, 2, .slice Ag t.goal.length cg), (w.heap.size, 3, .slice Ao t.ops.length co), (w.heap.size + 1, 0, .int .i64 0), (w.heap.size + 1, 1, .int .i64 0), (w1.heap.size, 0, .int .i64 0), (w1.heap.size, 1, .int .i64 0)]) hB4 (by simp [Cls, go_sem, Fr, yrw1, yrw0, yrwp1, yrwp2, yrw10, yrw1p1, yrw1p2])
        have F4 := C4
        simp only [Cls, and_true] at F4
        have y4w1 : w.heap.size + 1 < w4.heap.size := C4.blk (b := w.heap.size + 1) (k := 0) (v := .int .i64 0) (by simp)
        have y4w0 : w.heap.size < w4.heap.size := (by omega)
        have y4wp1 : w.heap.size < w4.heap.size + 1 := (by omega)
        have y4wp2 : w.heap.size < w4.heap.size + 1 + 1 := (by omega)
        have y4w10 : w1.heap.size < w4.heap.size := C4.blk (b := w1.heap.size) (k := 0) (v := .int .i64 0) (by simp)
        have y4w1p1 : w1.heap.size < w4.heap.size + 1 := (by omega)
        have y4w1p2 : w1.heap.size < w4.heap.size + 1 + 1 := (by omega)
        have hcl := closeV_len n t.init t.ops (useNot t.ops p)
        have DB := hBr.trans (Ew3_4.mono hBr.size)
        have hown4 := hown.below Ew3_4
        have hne0 : Hid (u5.ownBlock ≠ some g4) := Lib.hid (fun e => by have := (OwnEs.lt hown g4 e).2; omega)
        have ho0 : OwnPP w2.heap.size w4 u5 (ordTo t l k ++ ordPart t p (l.take 0)) := by
          have : ordTo t l k ++ ordPart t p (l.take 0) = ordTo t l k := by simp [ordPart]
          rw [this]; exact hown4
        go_wp2_with fail
        go_loopw [5, 35] (fun v i wr => ∃ j : Nat, j ≤ l.length ∧ i = .int .i64 j ∧ OwnPP w2.heap.size wr v (ordTo t l k ++ ordPart t p (l.take j)) ∧ BArr wr g4 (closeV n t.init t.ops (useNot t.ops p)) ∧ Hid (v.ownBlock ≠ some g4) ∧ Below w2.heap.size w2 wr ∧ Cls wr [(w.heap.size, 0, .int .i64 t.facts), (w.heap.size, 1, .slice Ai t.init.length ci), (w.heap.size, 2, .slice Ag t.goal.length cg), (w.heap.size, 3, .slice Ao t.ops.length co), (w.heap.size + 1, 0, .int .i64 0), (w.heap.size + 1, 1, .int .i64 0), (w1.heap.size, 0, .int .i64 0), (w1.heap.size, 1, .int .i64 0)]) (fun _ i _ => l.length - (intOf i).toNat)
        case atStart => exact ⟨0, Nat.zero_le _, rfl, ho0, hA4, hne0, (by repeat (first | with_reducible exact DB | with_reducible apply bdrew | with_reducible apply bdrewN | with_reducible apply balloc | ((with_reducible refine bset ?_ ?_ _); rotate_left; (first | omega | (simp <;> omega))))), (by simp [Cls, go_sem, F4, y4w1, y4w0, y4wp1, y4wp2, y4w10, y4w1p1, y4w1p2])⟩
        case round =>
          clear hne0 ho0 hown4 hown
          obtain ⟨j, hj, rfl, ho5, hA5, hne, hBs, hCs⟩ := hrel
          obtain ⟨w5, rfl⟩ : ∃ wo : World, wo = wr := ⟨_, rfl⟩
          have dss := hBs.size
          have Fs := hCs
          simp only [Cls, and_true] at Fs
          have ysw1 : w.heap.size + 1 < w5.heap.size := hCs.blk (b := w.heap.size + 1) (k := 0) (v := .int .i64 0) (by simp)
          have ysw0 : w.heap.size < w5.heap.size := (by omega)
          have yswp1 : w.heap.size < w5.heap.size + 1 := (by omega)
          have yswp2 : w.heap.size < w5.heap.size + 1 + 1 := (by omega)
          have ysw10 : w1.heap.size < w5.heap.size := hCs.blk (b := w1.heap.size) (k := 0) (v := .int .i64 0) (by simp)
          have ysw1p1 : w1.heap.size < w5.heap.size + 1 := (by omega)
          have ysw1p2 : w1.heap.size < w5.heap.size + 1 + 1 := (by omega)
          by_cases hlj : j < l.length
          · obtain ⟨qd, q, hqe, hq, hqc⟩ := (hI2.below hBs).at_ hlj
            obtain rfl := Option.some.inj hqe
            have hqr := HSET.out.1 q (List.mem_of_getElem? hq.out)
            obtain ⟨q0, q1⟩ := hqr
            have hlen : (ordTo t l k ++ ordPart t p (l.take j)).length < 1000000000000 := by
              rw [List.length_append]
              have h1 := ordTo_len t l k
              have h2 := ordPart_len t p (l.take j)
              rw [List.length_take] at h2
              have h3 := Nat.mul_le_mul (show k ≤ 24 by omega) (show l.length ≤ 24 by omega)
              omega
            by_cases hqp : q = p
            · have hb : (q != p) = false := by simpa using hqp
              have HO := Lib.hid (ordPart_no (t := t) (p := p) hq.out (fun h => h.1 hqp))
              have hqp' := Lib.hid hqp
              clear hqp
              go_wp2
              go_roundw
              case rel => exact ⟨j + 1, by omega, by go_num, by rw [HO.out]; exact ho5, hA5, hne, (by repeat (first | with_reducible exact hBs | with_reducible apply bdrew | with_reducible apply bdrewN | with_reducible apply balloc | ((with_reducible refine bset ?_ ?_ _); rotate_left; (first | omega | (simp <;> omega))))), (by simp [Cls, go_sem, Fs, ysw1, ysw0, yswp1, yswp2, ysw10, ysw1p1, ysw1p2])⟩
              case measure => simp [intOf]; omega
            · have hb : (q != p) = true := by simpa using hqp
              obtain ⟨y, hy, hyc, hyf⟩ := hA5.cell (i := q.toNat) (by rw [hcl]; omega)
              have hyr : y = true ↔ Reach t.init t.ops (useNot t.ops p) q := by
                have h1 := closeV_get (n := n) (st := t.init) (ops := t.ops) (use := useNot t.ops p) (p := q.toNat) (by omega)
                rw [hy.out, Int.toNat_of_nonneg q0] at h1
                rw [← h1]
                exact ⟨fun e => by rw [e], fun e => by injection e⟩
              have HYR := Lib.hid hyr
              have hqp' := Lib.hid hqp
              clear hyr hqp
              cases y with
              | true =>
                have HO := Lib.hid (ordPart_no (t := t) (p := p) hq.out (fun h => h.2 (HYR.out.1 rfl)))
                go_wp2
                go_roundw
                case rel => exact ⟨j + 1, by omega, by go_num, by rw [HO.out]; exact ho5, hA5, hne, (by repeat (first | with_reducible exact hBs | with_reducible apply bdrew | with_reducible apply bdrewN | with_reducible apply balloc | ((with_reducible refine bset ?_ ?_ _); rotate_left; (first | omega | (simp <;> omega))))), (by simp [Cls, go_sem, Fs, ysw1, ysw0, yswp1, yswp2, ysw10, ysw1p1, ysw1p2])⟩
                case measure => simp [intOf]; omega
              | false =>
                have HO := Lib.hid (ordPart_yes (t := t) (p := p) hq.out ⟨hqp'.out, fun h => by have := HYR.out.2 h; cases this⟩)
                go_wp2_with (at_builtin; go_must (refine wpList_el ppair_stable 49 16 (.agg #[.int .i64 0, .int .i64 0]) Try.underlying49 info_pair rfl (by decide) (by decide) rfl (.tmp 49) (.tmp 53) rfl w2 [(w.heap.size, 0, .int .i64 t.facts), (w.heap.size, 1, .slice Ai t.init.length ci), (w.heap.size, 2, .slice Ag t.goal.length cg), (w.heap.size, 3, .slice Ao t.ops.length co), (w.heap.size + 1, 0, .int .i64 0), (w.heap.size + 1, 1, .int .i64 0), (w1.heap.size, 0, .int .i64 0), (w1.heap.size, 1, .int .i64 0)] rfl (OwnPP.below ho5 ?p1) ⟨w5.heap.size, 0, none⟩ 1 rfl [.int .i64 p, .int .i64 q] (p, q) rfl (cells_two ?p2 ?p10) ?p8 rfl hlen ?p3 (Nat.le_refl _) ?p5 ?p6 ?p7 ?_; (case p1 => repeat (first | with_reducible exact Below.refl _ _ | with_reducible apply bdrew | with_reducible apply bdrewN | with_reducible apply balloc | ((with_reducible refine bset ?_ ?_ _); rotate_left; (first | omega | (simp <;> omega))))); (case p2 => simp [go_sem]); (case p10 => simp [go_sem]); (case p3 => (simp <;> omega)); (case p5 => repeat (first | with_reducible exact hBs | with_reducible apply bdrew | with_reducible apply bdrewN | with_reducible apply balloc | ((with_reducible refine bset ?_ ?_ _); rotate_left; (first | omega | (simp <;> omega))))); (case p6 => simp [Cls, go_sem, Fs, ysw1, ysw0, yswp1, yswp2, ysw10, ysw1p1, ysw1p2]); (case p7 => (simp <;> omega)); (case p8 => intro u hu; simp at hu; rcases hu with rfl | rfl <;> rfl); intro v6 w6 o6 D6 C6 sz6 G6 at6; have hA6 := Lib.hid (show BArr w6 g4 _ from Arr.grown (BArr.below hA5 (by repeat (first | with_reducible exact Below.refl _ _ | with_reducible apply bdrew | with_reducible apply bdrewN | with_reducible apply balloc | ((with_reducible refine bset ?_ ?_ _); rotate_left; (first | omega | (simp <;> omega)))))) G6 hne.out); have hg5 := hA5.lt; have hne6 := Lib.hid (show v6.ownBlock ≠ some g4 from fun e => by rcases at6 with h | h; exact hne.out (h.symm.trans e); rw [h] at e; injection e with e; simp at e; omega); clear G6 at6 hg5))
                go_roundw
                case rel => exact ⟨j + 1, by omega, by go_num, by rw [← HO.out, ← List.append_assoc]; exact o6, hA6.out, hne6, D6, C6⟩
                case measure => simp [intOf]; omega
          · rw [List.take_of_length_le (by omega), HL.out] at ho5
            go_wp2
            go_roundw
            case rel => exact ⟨k + 1, by omega, by go_num, ho5, (by repeat (first | with_reducible exact hBs | with_reducible apply bdrew | with_reducible apply bdrewN | with_reducible apply balloc | ((with_reducible refine bset ?_ ?_ _); rotate_left; (first | omega | (simp <;> omega))))), (by simp [Cls, go_sem, Fs, ysw1, ysw0, yswp1, yswp2, ysw10, ysw1p1, ysw1p2])⟩
            case measure => simp [intOf]; omega
    · have hke : k = l.length := by omega
      have hown' : OwnPP w2.heap.size w3 u5 (ordV n t) := by
        have h1 : ordTo t l k = ordV n t := by rw [hke]; unfold ordTo ordV; rw [List.take_length, hl.out]
        rw [← h1]; exact hown
      clear hke hown
      go_wp2_with fail
      refine region_still_tail 3 (by kernel_rfl) (by kernel_rfl) ?_
      simp only [List.take_succ_cons, List.take_zero, List.drop_succ_cons, List.drop_zero]
      repeat still_step
      refine wpStill_nil ?_
      go_wp2
      refine bodyPost_ret (v := .tuple #[u5, .agg #[.int .i64 0, .int .i64 0]]) ?_ rfl ⟨_, rfl, ?_, by repeat (first | with_reducible exact DR | with_reducible apply bdrew | with_reducible apply bdrewN | with_reducible apply balloc | ((with_reducible refine bset ?_ ?_ _); rotate_left; (first | omega | (simp <;> omega))))⟩
      · simp [results, Try.results45, go_sem, Fr, yrw1, yrw0, yrwp1, yrwp2, yrw10, yrw1p1, yrw1p2]
      · refine ⟨w2.heap.size, by omega, ?_⟩
        repeat (first | with_reducible exact hown' | with_reducible apply OwnPP.drew | (with_reducible refine OwnPP.far ?_ ?_ _; rotate_left; (first | omega | (simp; omega))))


end Go.Proofs.Ytiaokmofoaeifaa

namespace Go.Proofs.Ytiaokmofoaeifaa
open Go.RowKit
set_option linter.unusedVariables false
set_option linter.unusedSimpArgs false

set_option maxRecDepth 100000 in
set_option maxHeartbeats 1000000 in
theorem two_yes (w : World)  :
    Calls Try.prog 49 #[.bool true] w fun e w' => ∃ g h, e = .returned (.agg #[.int .i64 2, .slice none 0 0, .slice (some ⟨g, 0, none⟩) 1 1, .slice (some ⟨h, 0, none⟩) 2 2]) ∧ TaskMem w' none (some ⟨g, 0, none⟩) (some ⟨h, 0, none⟩) chainV ∧ Below w.heap.size w w' := by
  go_enter Try.func49, Try.ntmps49
  go_wp2
  refine bodyPost_ret (v := .agg #[.int .i64 2, .slice none 0 0, .slice (some ⟨w.heap.size + 1 + 1 + 1 + 1 + 1 + 1 + 1, 0, none⟩) 1 1, .slice (some ⟨w.heap.size + 1 + 1 + 1 + 1, 0, none⟩) 2 2]) ?_ rfl ⟨_, _, rfl, ?_, by repeat (first | with_reducible exact Below.refl _ _ | with_reducible apply bdrew | with_reducible apply bdrewN | with_reducible apply balloc | ((with_reducible refine bset ?_ ?_ _); rotate_left; (first | omega | (simp <;> omega))))⟩
  · simp [results, Try.results49, go_sem]
  · refine ⟨Ints.nil _ _, ints_one ?_, ops_two (A0 := none) (c0 := 0) (A1 := some ⟨w.heap.size + 1 + 1, 0, none⟩) (c1 := 1) (A2 := none) (c2 := 0) (B0 := some ⟨w.heap.size + 1 + 1 + 1 + 1 + 1 + 1, 0, none⟩) (d0 := 1) (B1 := some ⟨w.heap.size + 1 + 1 + 1, 0, none⟩) (d1 := 1) (B2 := none) (d2 := 0) ?_ ?_ ?_ ?_ ⟨Ints.nil _ _, ints_one ?_, Ints.nil _ _, by simp [lenOk], by simp [lenOk], by simp [lenOk]⟩ ?_ ?_ ?_ ?_ ⟨ints_one ?_, ints_one ?_, Ints.nil _ _, by simp [lenOk], by simp [lenOk], by simp [lenOk]⟩, by simp [lenOk, chainV], by simp [lenOk, chainV], by simp [lenOk, chainV]⟩
    all_goals simp [go_sem]

theorem eq_pair (a b c d : Int) (w : World) : (Op.equalIn 10000 54 (.agg #[.int .i64 a, .int .i64 b]) (.agg #[.int .i64 c, .int .i64 d])).run Try.prog w = .ok (a == c && b == d) w := by
  have u3 := Try.underlying3
  have a3 := Try.isAgg3
  have z3 := Try.sizeOf3
  rw [show (10000 : Nat) = 9999 + 1 from rfl, Op.equalIn]
  simp only [Sem.run_bind, run_underlying Try.underlying54, Result.andThen_ok]
  simp only [Std.Legacy.Range.forIn_eq_forIn_range', Std.Legacy.Range.size, Nat.sub_zero, Nat.add_sub_cancel, Nat.div_one, List.range'_succ, List.range'_zero, List.forIn_cons, List.forIn_nil]
  go_simp
  by_cases h1 : a = c <;> by_cases h2 : b = d <;> simp [h1, h2]
theorem chain_valid : Valid chainV := by
  refine ⟨by decide, by decide, SetP.nil _, ?_, by decide, ?_⟩
  · exact SetP.of_pairwise (by simp [chainV]) (by simp [chainV])
  · intro o ho
    simp only [chainV, List.mem_cons, List.not_mem_nil, or_false] at ho
    rcases ho with rfl | rfl
    · exact ⟨⟨SetP.nil _, SetP.of_pairwise (by simp [chainV]) (by simp), SetP.nil _, by simp⟩, by decide, by decide⟩
    · exact ⟨⟨SetP.of_pairwise (by simp [chainV]) (by simp), SetP.of_pairwise (by simp [chainV]) (by simp), SetP.nil _, by simp⟩, by decide, by decide⟩
theorem chain_no0 {q : Int} (h : Reach [] chainV.ops (useNot chainV.ops 0) q) : False := by
  induction h with
  | init h => simp at h
  | @step p i o ho hu hq hp ih =>
    match i with
    | 0 => cases ho; simp [useNot, chainV] at hu
    | 1 => cases ho; exact ih 0 (by simp)
    | i + 2 => simp [chainV] at ho
theorem chain_no1 {q : Int} (h : Reach [] chainV.ops (useNot chainV.ops 1) q) : q = 0 := by
  induction h with
  | init h => simp at h
  | @step p i o ho hu hq hp ih =>
    match i with
    | 0 => cases ho; simpa using hp
    | 1 => cases ho; simp [useNot, chainV] at hu
    | i + 2 => simp [chainV] at ho
theorem chain_yes1 : Reach [] chainV.ops (useNot chainV.ops 1) 0 := .step (i := 0) (o := ⟨[], [0], [], 2⟩) rfl (by simp [useNot, chainV]) (by simp) (by simp)
theorem chain_land : landV 2 chainV = [0, 1] := by
  refine SetP.ext landV_set (SetP.of_pairwise (n := 2) (by simp) (by simp)) fun x => ?_
  rw [landV_mem]
  constructor
  · rintro ⟨h0, h1, _⟩
    have : x = 0 ∨ x = 1 := by omega
    simpa using this
  · intro h
    have hx : x = 0 ∨ x = 1 := by simpa using h
    rcases hx with rfl | rfl
    · exact ⟨by decide, by decide, .inr fun h => chain_no0 (h 1 (by simp [chainV]))⟩
    · exact ⟨by decide, by decide, .inr fun h => by have := chain_no1 (h 1 (by simp [chainV])); omega⟩
theorem chain_ach : achV chainV 1 = [1] := by
  have h0 : ¬ AchP chainV 1 0 := fun ⟨o, h1, _, h3, _⟩ => by cases h1; simp at h3
  have h1 : AchP chainV 1 1 := ⟨_, rfl, by simp [chainV], by simp, fun q hq => by simp at hq; subst hq; exact chain_yes1⟩
  show achTo chainV 1 (1 + 1) = [1]
  rw [← achTo_yes h1, show (1 : Nat) = 0 + 1 from rfl, achTo_no h0]
  rfl
theorem chain_ord : ordV 2 chainV = [(0, 1)] := by
  unfold ordV
  rw [chain_land]
  have h01 : OrdP chainV 0 1 := ⟨by decide, fun h => chain_no0 h⟩
  have h00 : ¬ OrdP chainV 0 0 := fun h => h.1 rfl
  have h10 : ¬ OrdP chainV 1 0 := fun h => h.2 chain_yes1
  have h11 : ¬ OrdP chainV 1 1 := fun h => h.1 rfl
  have e : ∀ p : Int, ¬ p ∈ chainV.init := fun p => by simp [chainV]
  simp [ordRow, e, ordPart, h01, h00, h10, h11]
theorem lfacts_chain (w : World) (g h : Nat) (hT : TaskMem w none (some ⟨g, 0, none⟩) (some ⟨h, 0, none⟩) chainV) :
    Calls Try.prog 25 #[.agg #[.int .i64 2, .slice none 0 0, .slice (some ⟨g, 0, none⟩) 1 1, .slice (some ⟨h, 0, none⟩) 2 2]] w fun e w' => ∃ A c, e = .returned (.tuple #[.slice A 2 c, .agg #[.int .i64 0, .int .i64 0]]) ∧ Ints w' A [0, 1] ∧ Below w.heap.size w w' := by
  refine (lfacts_2 w chainV none (some ⟨g, 0, none⟩) (some ⟨h, 0, none⟩) 0 1 2 hT 2 rfl chain_valid).mono ?_
  rintro e w' ⟨v, rfl, ho, hB⟩
  rw [chain_land] at ho
  obtain ⟨A, c, rfl, _, hI⟩ := ho.form
  exact ⟨A, c, rfl, hI, hB⟩
theorem ach_chain (w : World) (g h : Nat) (hT : TaskMem w none (some ⟨g, 0, none⟩) (some ⟨h, 0, none⟩) chainV) :
    Calls Try.prog 43 #[.agg #[.int .i64 2, .slice none 0 0, .slice (some ⟨g, 0, none⟩) 1 1, .slice (some ⟨h, 0, none⟩) 2 2]] w fun e w' => ∃ k c A d, e = .returned (.tuple #[.slice (some ⟨k, 0, none⟩) 2 c, .agg #[.int .i64 0, .int .i64 0]]) ∧ (w'.cell? ⟨k, 1, none⟩ = some (.slice A 1 d) ∧ w'.frozen? ⟨k, 1, none⟩ = false) ∧ Ints w' A [1] ∧ Below w.heap.size w w' := by
  refine (achievers_2 w chainV none (some ⟨g, 0, none⟩) (some ⟨h, 0, none⟩) 0 1 2 hT 2 rfl chain_valid).mono ?_
  rintro e w' ⟨v, rfl, ⟨B, _, ho⟩, hB⟩
  rw [chain_land] at ho
  obtain ⟨A, c, rfl⟩ := OwnEs.form ho
  have h0 := ho
  obtain ⟨k, cs, r, rfl, _, _, hr, hl, hc, A', c', rfl, hI, _⟩ := OwnEs.at_ ho (i := 1) (by simp)
  have hr' : r = [1] := by have := hr.out; simp at this; rw [← this]; exact chain_ach
  subst hr'
  exact ⟨k, c, A', c', rfl, ⟨hc 0 _ rfl, OwnEs.free (A := none) h0 1⟩, hI, hB⟩
theorem ord_chain (w : World) (g h : Nat) (hT : TaskMem w none (some ⟨g, 0, none⟩) (some ⟨h, 0, none⟩) chainV) :
    Calls Try.prog 45 #[.agg #[.int .i64 2, .slice none 0 0, .slice (some ⟨g, 0, none⟩) 1 1, .slice (some ⟨h, 0, none⟩) 2 2]] w fun e w' => ∃ k c, e = .returned (.tuple #[.slice (some ⟨k, 0, none⟩) 1 c, .agg #[.int .i64 0, .int .i64 0]]) ∧ (w'.cell? ⟨k, 0, none⟩ = some (.int .i64 0) ∧ w'.frozen? ⟨k, 0, none⟩ = false) ∧ (w'.cell? ⟨k, 1, none⟩ = some (.int .i64 1) ∧ w'.frozen? ⟨k, 1, none⟩ = false) ∧ Below w.heap.size w w' := by
  refine (orders_2 w chainV none (some ⟨g, 0, none⟩) (some ⟨h, 0, none⟩) 0 1 2 hT 2 rfl chain_valid).mono ?_
  rintro e w' ⟨v, rfl, ⟨B, _, ho⟩, hB⟩
  rw [chain_ord] at ho
  obtain ⟨A, c, rfl⟩ := OwnEs.form ho
  have h0 := ho
  obtain ⟨k, cs, r, rfl, _, _, hr, hl, hc, hp⟩ := OwnEs.at_ ho (i := 0) (by simp)
  have hr' : r = (0, 1) := by have := hr.out; simp at this; exact this.symm
  subst hr'
  subst hp
  exact ⟨k, c, rfl, ⟨hc 0 _ rfl, OwnEs.free (A := none) h0 0⟩, ⟨hc 1 _ rfl, OwnEs.free (A := none) h0 1⟩, hB⟩
set_option maxRecDepth 100000 in
set_option maxHeartbeats 2000000 in
theorem lexample_any (w : World)  :
    Calls Try.prog 24 #[] w fun e w' => e = .returned (.bool true) ∧ Below w.heap.size w w' := by
  have heq := eq_pair 0 1 0 1
  go_enter Try.func24, Try.ntmps24
  go_wp2_with fail
  refine (two_yes _).mono ?_
  rintro e w1 ⟨g1, h1, rfl, hT1, hB1⟩
  have D1 := dstep w hB1 (by repeat (first | with_reducible exact Below.refl _ _ | with_reducible apply bdrew | with_reducible apply bdrewN | with_reducible apply balloc | ((with_reducible refine bset ?_ ?_ _); rotate_left; (first | omega | (simp <;> omega)))))
  have d1s := D1.size
  go_wp2_with fail
  refine (lfacts_chain _ _ _ (hT1.below (by repeat (first | with_reducible exact Below.refl _ _ | with_reducible apply bdrew | with_reducible apply bdrewN | with_reducible apply balloc | ((with_reducible refine bset ?_ ?_ _); rotate_left; (first | omega | (simp <;> omega))))))).mono ?_
  rintro e w2 ⟨A2, c2, rfl, hI2, hB2⟩
  have D2 := dstep w hB2 (by repeat (first | with_reducible exact D1 | with_reducible apply bdrew | with_reducible apply bdrewN | with_reducible apply balloc | ((with_reducible refine bset ?_ ?_ _); rotate_left; (first | omega | (simp <;> omega)))))
  have d2s := D2.size
  go_wp2_with fail
  refine (two_yes _).mono ?_
  rintro e w3 ⟨g3, h3, rfl, hT3, hB3⟩
  have D3 := dstep w hB3 (by repeat (first | with_reducible exact D2 | with_reducible apply bdrew | with_reducible apply bdrewN | with_reducible apply balloc | ((with_reducible refine bset ?_ ?_ _); rotate_left; (first | omega | (simp <;> omega)))))
  have d3s := D3.size
  have Ew2_3 := dstep w2 hB3 (by repeat (first | with_reducible exact Below.refl _ _ | with_reducible apply bdrew | with_reducible apply bdrewN | with_reducible apply balloc | ((with_reducible refine bset ?_ ?_ _); rotate_left; (first | omega | (simp <;> omega)))))
  have C3 := Cls.below (l := [(w2.heap.size, 0, .int .i64 0), (w2.heap.size, 1, .int .i64 0)]) hB3 (by simp [Cls, go_sem])
  have F3 := C3
  simp only [Cls, and_true] at F3
  have y3w20 : w2.heap.size < w3.heap.size := C3.blk (b := w2.heap.size) (k := 0) (v := .int .i64 0) (by simp)
  have y3w2p1 : w2.heap.size < w3.heap.size + 1 := (by omega)
  have y3w2p2 : w2.heap.size < w3.heap.size + 1 + 1 := (by omega)
  go_wp2_with fail
  refine (ach_chain _ _ _ (hT3.below (by repeat (first | with_reducible exact Below.refl _ _ | with_reducible apply bdrew | with_reducible apply bdrewN | with_reducible apply balloc | ((with_reducible refine bset ?_ ?_ _); rotate_left; (first | omega | (simp <;> omega))))))).mono ?_
  rintro e w4 ⟨k4, c4, A4, d4, rfl, hc4, hI4, hB4⟩
  have D4 := dstep w hB4 (by repeat (first | with_reducible exact D3 | with_reducible apply bdrew | with_reducible apply bdrewN | with_reducible apply balloc | ((with_reducible refine bset ?_ ?_ _); rotate_left; (first | omega | (simp <;> omega)))))
  have d4s := D4.size
  have Ew2_4 := dstep w2 hB4 (by repeat (first | with_reducible exact Ew2_3 | with_reducible apply bdrew | with_reducible apply bdrewN | with_reducible apply balloc | ((with_reducible refine bset ?_ ?_ _); rotate_left; (first | omega | (simp <;> omega)))))
  have C4 := Cls.below (l := [(w2.heap.size, 0, .int .i64 0), (w2.heap.size, 1, .int .i64 0)]) hB4 (by simp [Cls, go_sem, F3, y3w20, y3w2p1, y3w2p2])
  have F4 := C4
  simp only [Cls, and_true] at F4
  have y4w20 : w2.heap.size < w4.heap.size := C4.blk (b := w2.heap.size) (k := 0) (v := .int .i64 0) (by simp)
  have y4w2p1 : w2.heap.size < w4.heap.size + 1 := (by omega)
  have y4w2p2 : w2.heap.size < w4.heap.size + 1 + 1 := (by omega)
  have hk4 : k4 < w4.heap.size := World.block_lt_of_cell? w4 _ hc4.1
  go_wp2_with fail
  refine (two_yes _).mono ?_
  rintro e w5 ⟨g5, h5, rfl, hT5, hB5⟩
  have D5 := dstep w hB5 (by repeat (first | with_reducible exact D4 | with_reducible apply bdrew | with_reducible apply bdrewN | with_reducible apply balloc | ((with_reducible refine bset ?_ ?_ _); rotate_left; (first | omega | (simp <;> omega)))))
  have d5s := D5.size
  have Ew2_5 := dstep w2 hB5 (by repeat (first | with_reducible exact Ew2_4 | with_reducible apply bdrew | with_reducible apply bdrewN | with_reducible apply balloc | ((with_reducible refine bset ?_ ?_ _); rotate_left; (first | omega | (simp <;> omega)))))
  have Ew4_5 := dstep w4 hB5 (by repeat (first | with_reducible exact Below.refl _ _ | with_reducible apply bdrew | with_reducible apply bdrewN | with_reducible apply balloc | ((with_reducible refine bset ?_ ?_ _); rotate_left; (first | omega | (simp <;> omega)))))
  have C5 := Cls.below (l := [(w2.heap.size, 0, .int .i64 0), (w2.heap.size, 1, .int .i64 0), (w4.heap.size, 0, .int .i64 0), (w4.heap.size, 1, .int .i64 0), (k4, 1, .slice A4 1 d4)]) hB5 (by simp [Cls, go_sem, F4, hc4, y4w20, y4w2p1, y4w2p2, hk4])
  have F5 := C5
  simp only [Cls, and_true] at F5
  have y5k40 : k4 < w5.heap.size := C5.blk (b := k4) (k := 1) (v := .slice A4 1 d4) (by simp)
  have y5k4p1 : k4 < w5.heap.size + 1 := (by omega)
  have y5k4p2 : k4 < w5.heap.size + 1 + 1 := (by omega)
  have y5w20 : w2.heap.size < w5.heap.size := C5.blk (b := w2.heap.size) (k := 0) (v := .int .i64 0) (by simp)
  have y5w2p1 : w2.heap.size < w5.heap.size + 1 := (by omega)
  have y5w2p2 : w2.heap.size < w5.heap.size + 1 + 1 := (by omega)
  have y5w40 : w4.heap.size < w5.heap.size := C5.blk (b := w4.heap.size) (k := 0) (v := .int .i64 0) (by simp)
  have y5w4p1 : w4.heap.size < w5.heap.size + 1 := (by omega)
  have y5w4p2 : w4.heap.size < w5.heap.size + 1 + 1 := (by omega)
  go_wp2_with fail
  refine (ord_chain _ _ _ (hT5.below (by repeat (first | with_reducible exact Below.refl _ _ | with_reducible apply bdrew | with_reducible apply bdrewN | with_reducible apply balloc | ((with_reducible refine bset ?_ ?_ _); rotate_left; (first | omega | (simp <;> omega))))))).mono ?_
  rintro e w6 ⟨k6, c6, rfl, hc60, hc61, hB6⟩
  have D6 := dstep w hB6 (by repeat (first | with_reducible exact D5 | with_reducible apply bdrew | with_reducible apply bdrewN | with_reducible apply balloc | ((with_reducible refine bset ?_ ?_ _); rotate_left; (first | omega | (simp <;> omega)))))
  have d6s := D6.size
  have Ew2_6 := dstep w2 hB6 (by repeat (first | with_reducible exact Ew2_5 | with_reducible apply bdrew | with_reducible apply bdrewN | with_reducible apply balloc | ((with_reducible refine bset ?_ ?_ _); rotate_left; (first | omega | (simp <;> omega)))))
  have Ew4_6 := dstep w4 hB6 (by repeat (first | with_reducible exact Ew4_5 | with_reducible apply bdrew | with_reducible apply bdrewN | with_reducible apply balloc | ((with_reducible refine bset ?_ ?_ _); rotate_left; (first | omega | (simp <;> omega)))))
  have C6 := Cls.below (l := [(w2.heap.size, 0, .int .i64 0), (w2.heap.size, 1, .int .i64 0), (w4.heap.size, 0, .int .i64 0), (w4.heap.size, 1, .int .i64 0), (k4, 1, .slice A4 1 d4)]) hB6 (by simp [Cls, go_sem, F5, y5k40, y5k4p1, y5k4p2, y5w20, y5w2p1, y5w2p2, y5w40, y5w4p1, y5w4p2])
  have F6 := C6
  simp only [Cls, and_true] at F6
  have y6k40 : k4 < w6.heap.size := C6.blk (b := k4) (k := 1) (v := .slice A4 1 d4) (by simp)
  have y6k4p1 : k4 < w6.heap.size + 1 := (by omega)
  have y6k4p2 : k4 < w6.heap.size + 1 + 1 := (by omega)
  have y6w20 : w2.heap.size < w6.heap.size := C6.blk (b := w2.heap.size) (k := 0) (v := .int .i64 0) (by simp)
  have y6w2p1 : w2.heap.size < w6.heap.size + 1 := (by omega)
  have y6w2p2 : w2.heap.size < w6.heap.size + 1 + 1 := (by omega)
  have y6w40 : w4.heap.size < w6.heap.size := C6.blk (b := w4.heap.size) (k := 0) (v := .int .i64 0) (by simp)
  have y6w4p1 : w4.heap.size < w6.heap.size + 1 := (by omega)
  have y6w4p2 : w4.heap.size < w6.heap.size + 1 + 1 := (by omega)
  have hk6 : k6 < w6.heap.size := World.block_lt_of_cell? w6 _ hc60.1
  go_wp2_with fail
  refine (ints_at _ _ _ _ 2 [0, 1] [0, 1] _ (hI2.below (by repeat (first | with_reducible exact Ew2_6 | with_reducible apply bdrew | with_reducible apply bdrewN | with_reducible apply balloc | ((with_reducible refine bset ?_ ?_ _); rotate_left; (first | omega | (simp <;> omega)))))) (ints_two (by simp [go_sem]) (by simp [go_sem])) rfl rfl (by omega) true (by simp)).mono ?_
  rintro e w7 ⟨rfl, hB7⟩
  have D7 := dstep w hB7 (by repeat (first | with_reducible exact D6 | with_reducible apply bdrew | with_reducible apply bdrewN | with_reducible apply balloc | ((with_reducible refine bset ?_ ?_ _); rotate_left; (first | omega | (simp <;> omega)))))
  have d7s := D7.size
  have Ew2_7 := dstep w2 hB7 (by repeat (first | with_reducible exact Ew2_6 | with_reducible apply bdrew | with_reducible apply bdrewN | with_reducible apply balloc | ((with_reducible refine bset ?_ ?_ _); rotate_left; (first | omega | (simp <;> omega)))))
  have Ew4_7 := dstep w4 hB7 (by repeat (first | with_reducible exact Ew4_6 | with_reducible apply bdrew | with_reducible apply bdrewN | with_reducible apply balloc | ((with_reducible refine bset ?_ ?_ _); rotate_left; (first | omega | (simp <;> omega)))))
  have Ew6_7 := dstep w6 hB7 (by repeat (first | with_reducible exact Below.refl _ _ | with_reducible apply bdrew | with_reducible apply bdrewN | with_reducible apply balloc | ((with_reducible refine bset ?_ ?_ _); rotate_left; (first | omega | (simp <;> omega)))))
  have C7 := Cls.below (l := [(w2.heap.size, 0, .int .i64 0), (w2.heap.size, 1, .int .i64 0), (w4.heap.size, 0, .int .i64 0), (w4.heap.size, 1, .int .i64 0), (k4, 1, .slice A4 1 d4), (w6.heap.size, 0, .int .i64 0), (w6.heap.size, 1, .int .i64 0), (k6, 0, .int .i64 0), (k6, 1, .int .i64 1)]) hB7 (by simp [Cls, go_sem, F6, hc60, hc61, y6k40, y6k4p1, y6k4p2, y6w20, y6w2p1, y6w2p2, y6w40, y6w4p1, y6w4p2, hk6])
  have F7 := C7
  simp only [Cls, and_true] at F7
  have y7k40 : k4 < w7.heap.size := C7.blk (b := k4) (k := 1) (v := .slice A4 1 d4) (by simp)
  have y7k4p1 : k4 < w7.heap.size + 1 := (by omega)
  have y7k4p2 : k4 < w7.heap.size + 1 + 1 := (by omega)
  have y7k60 : k6 < w7.heap.size := C7.blk (b := k6) (k := 0) (v := .int .i64 0) (by simp)
  have y7k6p1 : k6 < w7.heap.size + 1 := (by omega)
  have y7k6p2 : k6 < w7.heap.size + 1 + 1 := (by omega)
  have y7w20 : w2.heap.size < w7.heap.size := C7.blk (b := w2.heap.size) (k := 0) (v := .int .i64 0) (by simp)
  have y7w2p1 : w2.heap.size < w7.heap.size + 1 := (by omega)
  have y7w2p2 : w2.heap.size < w7.heap.size + 1 + 1 := (by omega)
  have y7w40 : w4.heap.size < w7.heap.size := C7.blk (b := w4.heap.size) (k := 0) (v := .int .i64 0) (by simp)
  have y7w4p1 : w4.heap.size < w7.heap.size + 1 := (by omega)
  have y7w4p2 : w4.heap.size < w7.heap.size + 1 + 1 := (by omega)
  have y7w60 : w6.heap.size < w7.heap.size := C7.blk (b := w6.heap.size) (k := 0) (v := .int .i64 0) (by simp)
  have y7w6p1 : w6.heap.size < w7.heap.size + 1 := (by omega)
  have y7w6p2 : w6.heap.size < w7.heap.size + 1 + 1 := (by omega)
  go_wp2_with fail
  refine (ints_at _ _ _ _ 1 [1] [1] _ (hI4.below (by repeat (first | with_reducible exact Ew4_7 | with_reducible apply bdrew | with_reducible apply bdrewN | with_reducible apply balloc | ((with_reducible refine bset ?_ ?_ _); rotate_left; (first | omega | (simp <;> omega)))))) (ints_one (by simp [go_sem])) rfl rfl (by omega) true (by simp)).mono ?_
  rintro e w8 ⟨rfl, hB8⟩
  have D8 := dstep w hB8 (by repeat (first | with_reducible exact D7 | with_reducible apply bdrew | with_reducible apply bdrewN | with_reducible apply balloc | ((with_reducible refine bset ?_ ?_ _); rotate_left; (first | omega | (simp <;> omega)))))
  have d8s := D8.size
  have Ew2_8 := dstep w2 hB8 (by repeat (first | with_reducible exact Ew2_7 | with_reducible apply bdrew | with_reducible apply bdrewN | with_reducible apply balloc | ((with_reducible refine bset ?_ ?_ _); rotate_left; (first | omega | (simp <;> omega)))))
  have Ew4_8 := dstep w4 hB8 (by repeat (first | with_reducible exact Ew4_7 | with_reducible apply bdrew | with_reducible apply bdrewN | with_reducible apply balloc | ((with_reducible refine bset ?_ ?_ _); rotate_left; (first | omega | (simp <;> omega)))))
  have Ew6_8 := dstep w6 hB8 (by repeat (first | with_reducible exact Ew6_7 | with_reducible apply bdrew | with_reducible apply bdrewN | with_reducible apply balloc | ((with_reducible refine bset ?_ ?_ _); rotate_left; (first | omega | (simp <;> omega)))))
  have C8 := Cls.below (l := [(w2.heap.size, 0, .int .i64 0), (w2.heap.size, 1, .int .i64 0), (w4.heap.size, 0, .int .i64 0), (w4.heap.size, 1, .int .i64 0), (k4, 1, .slice A4 1 d4), (w6.heap.size, 0, .int .i64 0), (w6.heap.size, 1, .int .i64 0), (k6, 0, .int .i64 0), (k6, 1, .int .i64 1)]) hB8 (by simp [Cls, go_sem, F7, y7k40, y7k4p1, y7k4p2, y7k60, y7k6p1, y7k6p2, y7w20, y7w2p1, y7w2p2, y7w40, y7w4p1, y7w4p2, y7w60, y7w6p1, y7w6p2])
  have F8 := C8
  simp only [Cls, and_true] at F8
  have y8k40 : k4 < w8.heap.size := C8.blk (b := k4) (k := 1) (v := .slice A4 1 d4) (by simp)
  have y8k4p1 : k4 < w8.heap.size + 1 := (by omega)
  have y8k4p2 : k4 < w8.heap.size + 1 + 1 := (by omega)
  have y8k60 : k6 < w8.heap.size := C8.blk (b := k6) (k := 0) (v := .int .i64 0) (by simp)
  have y8k6p1 : k6 < w8.heap.size + 1 := (by omega)
  have y8k6p2 : k6 < w8.heap.size + 1 + 1 := (by omega)
  have y8w20 : w2.heap.size < w8.heap.size := C8.blk (b := w2.heap.size) (k := 0) (v := .int .i64 0) (by simp)
  have y8w2p1 : w2.heap.size < w8.heap.size + 1 := (by omega)
  have y8w2p2 : w2.heap.size < w8.heap.size + 1 + 1 := (by omega)
  have y8w40 : w4.heap.size < w8.heap.size := C8.blk (b := w4.heap.size) (k := 0) (v := .int .i64 0) (by simp)
  have y8w4p1 : w4.heap.size < w8.heap.size + 1 := (by omega)
  have y8w4p2 : w4.heap.size < w8.heap.size + 1 + 1 := (by omega)
  have y8w60 : w6.heap.size < w8.heap.size := C8.blk (b := w6.heap.size) (k := 0) (v := .int .i64 0) (by simp)
  have y8w6p1 : w6.heap.size < w8.heap.size + 1 := (by omega)
  have y8w6p2 : w6.heap.size < w8.heap.size + 1 + 1 := (by omega)
  go_wp2
  go_ret
  exact ⟨rfl, by repeat (first | with_reducible exact D8 | with_reducible apply bdrew | with_reducible apply bdrewN | with_reducible apply balloc | ((with_reducible refine bset ?_ ?_ _); rotate_left; (first | omega | (simp <;> omega))))⟩


end Go.Proofs.Ytiaokmofoaeifaa
