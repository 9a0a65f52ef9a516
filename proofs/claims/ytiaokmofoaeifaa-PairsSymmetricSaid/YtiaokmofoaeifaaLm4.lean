/-
  landmark.Achievers: what it returns.
-/
import Derived.Test.YtiaokmofoaeifaaLm3
import Derived.Test.YtiaokmofoaeifaaNest
namespace Go.Proofs.Ytiaokmofoaeifaa
open Go.RowKit
set_option linter.unusedVariables false
set_option linter.unusedSimpArgs false

theorem OwnLL.drew {base : Nat} {w : World} {v : Value} {rows : List (List Int)} (h : OwnLL base w v rows) : OwnLL base w.drew v rows := h.below (bdrew (Below.refl _ _))
theorem OwnPP.drew {base : Nat} {w : World} {v : Value} {ps : List (Int × Int)} (h : OwnPP base w v ps) : OwnPP base w.drew v ps := h.below (bdrew (Below.refl _ _))
/-- Operator i can make the fact p true for the first time. -/
def AchP (t : TaskV) (p : Int) (i : Nat) : Prop := ∃ o, t.ops[i]? = some o ∧ ¬ p ∈ t.init ∧ p ∈ o.add ∧ ∀ q ∈ o.pre, Reach t.init t.ops (useNot t.ops p) q
noncomputable def achTo (t : TaskV) (p : Int) (k : Nat) : List Int := ((List.range k).filter fun (i : Nat) => @decide (AchP t p i) (Classical.propDecidable _)).map fun (i : Nat) => (i : Int)
noncomputable def achV (t : TaskV) (p : Int) : List Int := achTo t p t.ops.length
theorem achTo_len (t : TaskV) (p : Int) (k : Nat) : (achTo t p k).length ≤ k := by
  unfold achTo
  rw [List.length_map]
  exact Nat.le_trans (List.length_filter_le _ _) (by simp)
theorem achTo_yes {t : TaskV} {p : Int} {k : Nat} (h : AchP t p k) : achTo t p k ++ [(k : Int)] = achTo t p (k + 1) := by
  unfold achTo
  rw [List.range_succ, List.filter_append, List.map_append]
  simp [h]
theorem achTo_no {t : TaskV} {p : Int} {k : Nat} (h : ¬ AchP t p k) : achTo t p (k + 1) = achTo t p k := by
  unfold achTo
  rw [List.range_succ, List.filter_append, List.map_append]
  simp [h]
set_option maxRecDepth 100000 in
set_option maxHeartbeats 400000 in
theorem achievers_1 (w : World) (t : TaskV) (Ai Ag Ao : Option Addr) (ci cg co : Nat) (hT : TaskMem w Ai Ag Ao t) (h : ¬ (tfault t).1 = 0) :
    Calls Try.prog 43 #[.agg #[.int .i64 t.facts, .slice Ai t.init.length ci, .slice Ag t.goal.length cg, .slice Ao t.ops.length co]] w fun e w' => e = .returned (.tuple #[.slice none 0 0, .agg #[.int .i64 (tfault t).1, .int .i64 (tfault t).2]]) ∧ Below w.heap.size w w' := by
  have N := bb_no h
  have N' := bn_yes h
  go_enter Try.func43, Try.ntmps43
  go_wp2_with fail
  refine (validate_any _ _ _ _ _ _ _ _ (hT.below (by repeat (first | with_reducible exact Below.refl _ _ | with_reducible apply bdrew | with_reducible apply bdrewN | with_reducible apply balloc | ((with_reducible refine bset ?_ ?_ _); rotate_left; (first | omega | (simp <;> omega))))))).mono ?_
  rintro e w1 ⟨rfl, hB1⟩
  have D1 := dstep w hB1 (by repeat (first | with_reducible exact Below.refl _ _ | with_reducible apply bdrew | with_reducible apply bdrewN | with_reducible apply balloc | ((with_reducible refine bset ?_ ?_ _); rotate_left; (first | omega | (simp <;> omega)))))
  have d1s := D1.size
  have C1 := Cls.below (l := [(w.heap.size, 0, .int .i64 t.facts), (w.heap.size, 1, .slice Ai t.init.length ci), (w.heap.size, 2, .slice Ag t.goal.length cg), (w.heap.size, 3, .slice Ao t.ops.length co), (w.heap.size + 1, 0, .int .i64 0), (w.heap.size + 1, 1, .int .i64 0)]) hB1 (by simp [Cls, go_sem])
  have F1 := C1
  simp only [Cls, and_true] at F1
  have y1w1 : w.heap.size + 1 < w1.heap.size := C1.blk (b := w.heap.size + 1) (k := 0) (v := .int .i64 0) (by simp)
  have y1w0 : w.heap.size < w1.heap.size := (by omega)
  have y1wp1 : w.heap.size < w1.heap.size + 1 := (by omega)
  have y1wp2 : w.heap.size < w1.heap.size + 1 + 1 := (by omega)
  go_wp2_with fail
  refine region_still_tail 2 (by kernel_rfl) (by kernel_rfl) ?_
  simp only [List.take_succ_cons, List.take_zero, List.drop_succ_cons, List.drop_zero]
  repeat still_step
  refine wpStill_nil ?_
  go_wp2
  refine bodyPost_ret (v := .tuple #[.slice none 0 0, .agg #[.int .i64 (tfault t).1, .int .i64 (tfault t).2]]) ?_ rfl ⟨rfl, by repeat (first | with_reducible exact D1 | with_reducible apply bdrew | with_reducible apply bdrewN | with_reducible apply balloc | ((with_reducible refine bset ?_ ?_ _); rotate_left; (first | omega | (simp <;> omega))))⟩
  simp [results, Try.results43, go_sem, F1, y1w1, y1w0, y1wp1, y1wp2]

set_option maxRecDepth 100000 in
set_option maxHeartbeats 4000000 in
theorem achievers_2 (w : World) (t : TaskV) (Ai Ag Ao : Option Addr) (ci cg co : Nat) (hT : TaskMem w Ai Ag Ao t) (n : Nat) (hn : t.facts = n) (hv : Valid t) :
    Calls Try.prog 43 #[.agg #[.int .i64 t.facts, .slice Ai t.init.length ci, .slice Ag t.goal.length cg, .slice Ao t.ops.length co]] w fun e w' => ∃ v, e = .returned (.tuple #[v, .agg #[.int .i64 0, .int .i64 0]]) ∧ (∃ B, w.heap.size ≤ B ∧ OwnLL B w' v ((landV n t).map (achV t))) ∧ Below w.heap.size w w' := by
  have HT0 := Lib.hid (tfault_valid hv)
  have hn24 : n ≤ 24 := by have := hv.f1; omega
  have hn12 : n ≤ 1000000000000 := by omega
  have HOPS := Lib.hid (ops_in hv hn)
  have HN := Lib.hid hn
  have HV := Lib.hid hv
  have h40 := hv.nops
  have hli := hT.linit.le
  have hlo := hT.lops.le
  clear hv hn
  go_enter Try.func43, Try.ntmps43
  go_wp2_with fail
  refine (validate_any _ _ _ _ _ _ _ _ (hT.below (by repeat (first | with_reducible exact Below.refl _ _ | with_reducible apply bdrew | with_reducible apply bdrewN | with_reducible apply balloc | ((with_reducible refine bset ?_ ?_ _); rotate_left; (first | omega | (simp <;> omega))))))).mono ?_
  rintro e w1 ⟨he, hB1⟩
  rw [HT0.out] at he
  subst he
  have D1 := dstep w hB1 (by repeat (first | with_reducible exact Below.refl _ _ | with_reducible apply bdrew | with_reducible apply bdrewN | with_reducible apply balloc | ((with_reducible refine bset ?_ ?_ _); rotate_left; (first | omega | (simp <;> omega)))))
  have d1s := D1.size
  have C1 := Cls.below (l := [(w.heap.size, 0, .int .i64 t.facts), (w.heap.size, 1, .slice Ai t.init.length ci), (w.heap.size, 2, .slice Ag t.goal.length cg), (w.heap.size, 3, .slice Ao t.ops.length co), (w.heap.size + 1, 0, .int .i64 0), (w.heap.size + 1, 1, .int .i64 0)]) hB1 (by simp [Cls, go_sem])
  have F1 := C1
  simp only [Cls, and_true] at F1
  have y1w1 : w.heap.size + 1 < w1.heap.size := C1.blk (b := w.heap.size + 1) (k := 0) (v := .int .i64 0) (by simp)
  have y1w0 : w.heap.size < w1.heap.size := (by omega)
  have y1wp1 : w.heap.size < w1.heap.size + 1 := (by omega)
  have y1wp2 : w.heap.size < w1.heap.size + 1 + 1 := (by omega)
  go_wp2_with fail
  refine (facts_any _ t Ai Ag Ao ci cg co (hT.below (by repeat (first | with_reducible exact D1 | with_reducible apply bdrew | with_reducible apply bdrewN | with_reducible apply balloc | ((with_reducible refine bset ?_ ?_ _); rotate_left; (first | omega | (simp <;> omega)))))) n HN.out HV.out).mono ?_
  rintro e w2 ⟨v2, rfl, ho2, hB2⟩
  have D2 := dstep w hB2 (by repeat (first | with_reducible exact D1 | with_reducible apply bdrew | with_reducible apply bdrewN | with_reducible apply balloc | ((with_reducible refine bset ?_ ?_ _); rotate_left; (first | omega | (simp <;> omega)))))
  have d2s := D2.size
  have C2 := Cls.below (l := [(w.heap.size, 0, .int .i64 t.facts), (w.heap.size, 1, .slice Ai t.init.length ci), (w.heap.size, 2, .slice Ag t.goal.length cg), (w.heap.size, 3, .slice Ao t.ops.length co), (w.heap.size + 1, 0, .int .i64 0), (w.heap.size + 1, 1, .int .i64 0), (w1.heap.size, 0, .int .i64 0), (w1.heap.size, 1, .int .i64 0)]) hB2 (by simp [Cls, go_sem, F1, y1w1, y1w0, y1wp1, y1wp2])
  have F2 := C2
  simp only [Cls, and_true] at F2
  have y2w1 : w.heap.size + 1 < w2.heap.size := C2.blk (b := w.heap.size + 1) (k := 0) (v := .int .i64 0) (by simp)
  have y2w0 : w.heap.size < w2.heap.size := (by omega)
  have y2wp1 : w.heap.size < w2.heap.size + 1 := (by omega)
  have y2wp2 : w.heap.size < w2.heap.size + 1 + 1 := (by omega)
  have y2w10 : w1.heap.size < w2.heap.size := C2.blk (b := w1.heap.size) (k := 0) (v := .int .i64 0) (by simp)
  have y2w1p1 : w1.heap.size < w2.heap.size + 1 := (by omega)
  have y2w1p2 : w1.heap.size < w2.heap.size + 1 + 1 := (by omega)
  have hll := landV_len n t
  obtain ⟨A2, c2, rfl, hnil2, hI2⟩ := ho2.form
  clear hnil2 ho2
  have hll2 : (landV n t).length ≤ 9223372036854775807 := by omega
  go_wp2_with fail
  go_loopw [5, 21] (fun v i wr => ∃ k : Nat, k ≤ (landV n t).length ∧ i = .int .i64 k ∧ OwnLL w2.heap.size wr v (((landV n t).take k).map (achV t)) ∧ Below w2.heap.size w2 wr ∧ Cls wr [(w.heap.size, 0, .int .i64 t.facts), (w.heap.size, 1, .slice Ai t.init.length ci), (w.heap.size, 2, .slice Ag t.goal.length cg), (w.heap.size, 3, .slice Ao t.ops.length co), (w.heap.size + 1, 0, .int .i64 0), (w.heap.size + 1, 1, .int .i64 0), (w1.heap.size, 0, .int .i64 0), (w1.heap.size, 1, .int .i64 0)]) (fun _ i _ => (landV n t).length - (intOf i).toNat)
  case atStart => exact ⟨0, Nat.zero_le _, rfl, OwnEs.nil _ _, (by repeat (first | with_reducible exact Below.refl _ _ | with_reducible apply bdrew | with_reducible apply bdrewN | with_reducible apply balloc | ((with_reducible refine bset ?_ ?_ _); rotate_left; (first | omega | (simp <;> omega))))), (by simp [Cls, go_sem, F2, y2w1, y2w0, y2wp1, y2wp2, y2w10, y2w1p1, y2w1p2])⟩
  case round =>
    obtain ⟨k, hk, rfl, hown, hBr, hCr⟩ := hrel
    obtain ⟨w3, rfl⟩ : ∃ wo : World, wo = wr := ⟨_, rfl⟩
    have drs := hBr.size
    have Fr := hCr
    simp only [Cls, and_true] at Fr
    have yrw1 : w.heap.size + 1 < w3.heap.size := hCr.blk (b := w.heap.size + 1) (k := 0) (v := .int .i64 0) (by simp)
    have yrw0 : w.heap.size < w3.heap.size := (by omega)
    have yrwp1 : w.heap.size < w3.heap.size + 1 := (by omega)
    have yrwp2 : w.heap.size < w3.heap.size + 1 + 1 := (by omega)
    have yrw10 : w1.heap.size < w3.heap.size := hCr.blk (b := w1.heap.size) (k := 0) (v := .int .i64 0) (by simp)
    have yrw1p1 : w1.heap.size < w3.heap.size + 1 := (by omega)
    have yrw1p2 : w1.heap.size < w3.heap.size + 1 + 1 := (by omega)
    have DR := D2.trans (hBr.mono D2.size)
    have hq23 := hBr.size
    by_cases hlt : k < (landV n t).length
    · obtain ⟨pd, p, rfl, hp, hpc⟩ := (hI2.below hBr).at_ hlt
      go_wp2_with fail
      refine (without_any _ t Ai Ag Ao ci cg co (hT.below (by repeat (first | with_reducible exact DR | with_reducible apply bdrew | with_reducible apply bdrewN | with_reducible apply balloc | ((with_reducible refine bset ?_ ?_ _); rotate_left; (first | omega | (simp <;> omega)))))) n HN.out HV.out p).mono ?_
      rintro e w4 ⟨g4, rfl, hg4, hA4, hB4⟩
      have D4 := dstep w hB4 (by repeat (first | with_reducible exact DR | with_reducible apply bdrew | with_reducible apply bdrewN | with_reducible apply balloc | ((with_reducible refine bset ?_ ?_ _); rotate_left; (first | omega | (simp <;> omega)))))
      have d4s := D4.size
      have Ew3_4 := dstep w3 hB4 (by repeat (first | with_reducible exact Below.refl _ _ | with_reducible apply bdrew | with_reducible apply bdrewN | with_reducible apply balloc | ((with_reducible refine bset ?_ ?_ _); rotate_left; (first | omega | (simp <;> omega)))))
      have C4 := Cls.below (l := [(w.heap.size, 0, .int .i64 t.facts), (w.heap.size, 1, .slice Ai t.init.length ci), (w.heap.size, 2, .slice Ag t.goal.length cg), (w.heap.size, 3, .slice Ao t.ops.length co), (w.heap.size + 1, 0, .int .i64 0), (w.heap.size + 1, 1, .int .i64 0), (w1.heap.size, 0, .int .i64 0), (w1.heap.size, 1, .int .i64 0)]) hB4 (by simp [Cls, go_sem, Fr, yrw1, yrw0, yrwp1, yrwp2, yrw10, yrw1p1, yrw1p2])
      have F4 := C4
      simp only [Cls, and_true] at F4
      have y4w1 : w.heap.size + 1 < w4.heap.size := C4.blk (b := w.heap.size + 1) (k := 0) (v := .int .i64 0) (by simp)
      have y4w0 : w.heap.size < w4.heap.size := (by omega)
      have y4wp1 : w.heap.size < w4.heap.size + 1 := (by omega)
      have y4wp2 : w.heap.size < w4.heap.size + 1 + 1 := (by omega)
      have y4w10 : w1.heap.size < w4.heap.size := C4.blk (b := w1.heap.size) (k := 0) (v := .int .i64 0) (by simp)
      have y4w1p1 : w1.heap.size < w4.heap.size + 1 := (by omega)
      have y4w1p2 : w1.heap.size < w4.heap.size + 1 + 1 := (by omega)
      have hcl := closeV_len n t.init t.ops (useNot t.ops p)
      go_wp2_with fail
      go_loopw [8, 31] (fun v i wr => ∃ j : Nat, j ≤ t.ops.length ∧ i = .int .i64 j ∧ OwnI w4.heap.size wr v (achTo t p j) ∧ Below w4.heap.size w4 wr ∧ Cls wr [(w.heap.size, 0, .int .i64 t.facts), (w.heap.size, 1, .slice Ai t.init.length ci), (w.heap.size, 2, .slice Ag t.goal.length cg), (w.heap.size, 3, .slice Ao t.ops.length co), (w.heap.size + 1, 0, .int .i64 0), (w.heap.size + 1, 1, .int .i64 0), (w1.heap.size, 0, .int .i64 0), (w1.heap.size, 1, .int .i64 0)]) (fun _ i _ => t.ops.length - (intOf i).toNat)
      case atStart => exact ⟨0, Nat.zero_le _, rfl, OwnI.nil _ _, (by repeat (first | with_reducible exact Below.refl _ _ | with_reducible apply bdrew | with_reducible apply bdrewN | with_reducible apply balloc | ((with_reducible refine bset ?_ ?_ _); rotate_left; (first | omega | (simp <;> omega))))), (by simp [Cls, go_sem, F4, y4w1, y4w0, y4wp1, y4wp2, y4w10, y4w1p1, y4w1p2])⟩
      case round =>
        obtain ⟨j, hj, rfl, hl4, hBs, hCs⟩ := hrel
        obtain ⟨w5, rfl⟩ : ∃ wo : World, wo = wr := ⟨_, rfl⟩
        have dss := hBs.size
        have Fs := hCs
        simp only [Cls, and_true] at Fs
        have ysw1 : w.heap.size + 1 < w5.heap.size := hCs.blk (b := w.heap.size + 1) (k := 0) (v := .int .i64 0) (by simp)
        have ysw0 : w.heap.size < w5.heap.size := (by omega)
        have yswp1 : w.heap.size < w5.heap.size + 1 := (by omega)
        have yswp2 : w.heap.size < w5.heap.size + 1 + 1 := (by omega)
        have ysw10 : w1.heap.size < w5.heap.size := hCs.blk (b := w1.heap.size) (k := 0) (v := .int .i64 0) (by simp)
        have ysw1p1 : w1.heap.size < w5.heap.size + 1 := (by omega)
        have ysw1p2 : w1.heap.size < w5.heap.size + 1 + 1 := (by omega)
        have DS := D4.trans (hBs.mono D4.size)
        have ES := Ew3_4.trans (hBs.mono Ew3_4.size)
        by_cases hlj : j < t.ops.length
        · obtain ⟨ad, o, A5, c5, A6, c6, A7, c7, rfl, ho, hc0, hc1, hc2, hc3, hm⟩ := hT.ops.at2 DS hlj
          have hoo := Lib.hid (HOPS.out o (List.mem_of_getElem? ho.out))
          have hla := hm.ladd.le
          have hlp := hm.lpre
          have hlen := Nat.lt_of_le_of_lt (achTo_len t p j) (show j < 1000000000000 by omega)
          by_cases hi : p ∈ t.init
          · have HD1 := Lib.hid (decide_eq_true hi)
            have HL := Lib.hid (achTo_no (t := t) (p := p) (k := j) (fun ⟨o', _, h2, _⟩ => h2 hi))
            clear hi
            go_wp2_with fail
            refine (contains_v _ _ _ _ _ true (hT.init.below (by repeat (first | with_reducible exact DS | with_reducible apply bdrew | with_reducible apply bdrewN | with_reducible apply balloc | ((with_reducible refine bset ?_ ?_ _); rotate_left; (first | omega | (simp <;> omega)))))) hli HD1.out).mono ?_
            rintro e w9 ⟨rfl, hW⟩
            subst hW
            go_wp2
            go_roundw
            case rel => exact ⟨j + 1, by omega, by go_num, by rw [HL.out]; exact hl4.below (by repeat (first | with_reducible exact Below.refl _ _ | with_reducible apply bdrew | with_reducible apply bdrewN | with_reducible apply balloc | ((with_reducible refine bset ?_ ?_ _); rotate_left; (first | omega | (simp <;> omega))))), (by repeat (first | with_reducible exact hBs | with_reducible apply bdrew | with_reducible apply bdrewN | with_reducible apply balloc | ((with_reducible refine bset ?_ ?_ _); rotate_left; (first | omega | (simp <;> omega))))), (by simp [Cls, go_sem, Fs, ysw1, ysw0, yswp1, yswp2, ysw10, ysw1p1, ysw1p2])⟩
            case measure => simp [intOf]; omega
          · have HD1 := Lib.hid (decide_eq_false hi)
            have HI := Lib.hid hi
            clear hi
            by_cases had : p ∈ o.add
            · have HD2 := Lib.hid (decide_eq_true had)
              have HA := Lib.hid had
              clear had
              by_cases hall : ∀ q ∈ o.pre, Reach t.init t.ops (useNot t.ops p) q
              · have HAll := Lib.hid hall
                clear hall
                have HL := Lib.hid (achTo_yes (t := t) (p := p) (k := j) ⟨o, ho.out, HI.out, HA.out, HAll.out⟩)
                go_wp2_with fail
                refine (contains_v _ _ _ _ _ false (hT.init.below (by repeat (first | with_reducible exact DS | with_reducible apply bdrew | with_reducible apply bdrewN | with_reducible apply balloc | ((with_reducible refine bset ?_ ?_ _); rotate_left; (first | omega | (simp <;> omega)))))) hli HD1.out).mono ?_
                rintro e w9 ⟨rfl, hW⟩
                subst hW
                go_wp2_with fail
                refine (contains_v _ _ _ _ _ true (hm.add.below (by repeat (first | with_reducible exact DS | with_reducible apply bdrew | with_reducible apply bdrewN | with_reducible apply balloc | ((with_reducible refine bset ?_ ?_ _); rotate_left; (first | omega | (simp <;> omega)))))) hla HD2.out).mono ?_
                rintro e w9 ⟨rfl, hW⟩
                subst hW
                go_wp2_with fail
                refine (all_at _ _ _ _ n _ _ _ (hA4.below (by repeat (first | with_reducible exact hBs | with_reducible apply bdrew | with_reducible apply bdrewN | with_reducible apply balloc | ((with_reducible refine bset ?_ ?_ _); rotate_left; (first | omega | (simp <;> omega)))))).bools (hm.pre.below (by repeat (first | with_reducible exact DS | with_reducible apply bdrew | with_reducible apply bdrewN | with_reducible apply balloc | ((with_reducible refine bset ?_ ?_ _); rotate_left; (first | omega | (simp <;> omega)))))) hcl hlp hn12 hoo.out.1 true (by rw [allIn_close hoo.out.1]; exact ⟨fun _ => HAll.out, fun _ => rfl⟩)).mono ?_
                rintro e w6 ⟨rfl, hB6⟩
                have D6 := dstep w hB6 (by repeat (first | with_reducible exact DS | with_reducible apply bdrew | with_reducible apply bdrewN | with_reducible apply balloc | ((with_reducible refine bset ?_ ?_ _); rotate_left; (first | omega | (simp <;> omega)))))
                have d6s := D6.size
                have Ew4_6 := dstep w4 hB6 (by repeat (first | with_reducible exact hBs | with_reducible apply bdrew | with_reducible apply bdrewN | with_reducible apply balloc | ((with_reducible refine bset ?_ ?_ _); rotate_left; (first | omega | (simp <;> omega)))))
                have Ew5_6 := dstep w5 hB6 (by repeat (first | with_reducible exact Below.refl _ _ | with_reducible apply bdrew | with_reducible apply bdrewN | with_reducible apply balloc | ((with_reducible refine bset ?_ ?_ _); rotate_left; (first | omega | (simp <;> omega)))))
                have C6 := Cls.below (l := [(w.heap.size, 0, .int .i64 t.facts), (w.heap.size, 1, .slice Ai t.init.length ci), (w.heap.size, 2, .slice Ag t.goal.length cg), (w.heap.size, 3, .slice (some ad) t.ops.length co), (w.heap.size + 1, 0, .int .i64 0), (w.heap.size + 1, 1, .int .i64 0), (w1.heap.size, 0, .int .i64 0), (w1.heap.size, 1, .int .i64 0), (w5.heap.size, 0, .slice A5 o.pre.length c5), (w5.heap.size, 1, .slice A6 o.add.length c6), (w5.heap.size, 2, .slice A7 o.del.length c7), (w5.heap.size, 3, .int .i64 o.cost)]) hB6 (by simp [Cls, go_sem, Fs, ysw1, ysw0, yswp1, yswp2, ysw10, ysw1p1, ysw1p2])
                have F6 := C6
                simp only [Cls, and_true] at F6
                have y6w1 : w.heap.size + 1 < w6.heap.size := C6.blk (b := w.heap.size + 1) (k := 0) (v := .int .i64 0) (by simp)
                have y6w0 : w.heap.size < w6.heap.size := (by omega)
                have y6wp1 : w.heap.size < w6.heap.size + 1 := (by omega)
                have y6wp2 : w.heap.size < w6.heap.size + 1 + 1 := (by omega)
                have y6w10 : w1.heap.size < w6.heap.size := C6.blk (b := w1.heap.size) (k := 0) (v := .int .i64 0) (by simp)
                have y6w1p1 : w1.heap.size < w6.heap.size + 1 := (by omega)
                have y6w1p2 : w1.heap.size < w6.heap.size + 1 + 1 := (by omega)
                have y6w50 : w5.heap.size < w6.heap.size := C6.blk (b := w5.heap.size) (k := 0) (v := .slice A5 o.pre.length c5) (by simp)
                have y6w5p1 : w5.heap.size < w6.heap.size + 1 := (by omega)
                have y6w5p2 : w5.heap.size < w6.heap.size + 1 + 1 := (by omega)
                have hl6 := hl4.below (by repeat (first | with_reducible exact Ew5_6 | with_reducible apply bdrew | with_reducible apply bdrewN | with_reducible apply balloc | ((with_reducible refine bset ?_ ?_ _); rotate_left; (first | omega | (simp <;> omega)))))
                go_wp2_with (at_builtin; go_must (refine wpList_push rfl (.tmp 53) (.tmp 55) rfl w4 [(w.heap.size, 0, .int .i64 t.facts), (w.heap.size, 1, .slice Ai t.init.length ci), (w.heap.size, 2, .slice Ag t.goal.length cg), (w.heap.size, 3, .slice (some ad) t.ops.length co), (w.heap.size + 1, 0, .int .i64 0), (w.heap.size + 1, 1, .int .i64 0), (w1.heap.size, 0, .int .i64 0), (w1.heap.size, 1, .int .i64 0)] (w4.heap.size) u8 _ ((j : Int)) rfl (OwnI.below hl6 ?p1) ⟨w6.heap.size, 0, none⟩ 1 rfl ?p2 hlen ?p3 ?p4 ?p5 ?p6 ?p7 ?_; (case p1 => repeat (first | with_reducible exact Below.refl _ _ | with_reducible apply bdrew | with_reducible apply bdrewN | with_reducible apply balloc | ((with_reducible refine bset ?_ ?_ _); rotate_left; (first | omega | (simp <;> omega))))); (case p2 => simp [Cls, go_sem, F6, y6w1, y6w0, y6wp1, y6wp2, y6w10, y6w1p1, y6w1p2, y6w50, y6w5p1, y6w5p2]); (case p3 => (first | omega | (simp <;> omega))); (case p4 => (first | omega | (simp <;> omega))); (case p5 => repeat (first | with_reducible exact Ew4_6 | with_reducible apply bdrew | with_reducible apply bdrewN | with_reducible apply balloc | ((with_reducible refine bset ?_ ?_ _); rotate_left; (first | omega | (simp <;> omega))))); (case p6 => simp [Cls, go_sem, F6, y6w1, y6w0, y6wp1, y6wp2, y6w10, y6w1p1, y6w1p2, y6w50, y6w5p1, y6w5p2]); (case p7 => (simp <;> omega)); intro v7 w7 o7 D7 C7 sz7; have d7s := D7.size; have F7 := C7; simp only [Cls, and_true] at F7; have y7w1 : w.heap.size + 1 < w7.heap.size := C7.blk (b := w.heap.size + 1) (k := 0) (v := .int .i64 0) (by simp); have y7w0 : w.heap.size < w7.heap.size := (by omega); have y7wp1 : w.heap.size < w7.heap.size + 1 := (by omega); have y7wp2 : w.heap.size < w7.heap.size + 1 + 1 := (by omega); have y7w10 : w1.heap.size < w7.heap.size := C7.blk (b := w1.heap.size) (k := 0) (v := .int .i64 0) (by simp); have y7w1p1 : w1.heap.size < w7.heap.size + 1 := (by omega); have y7w1p2 : w1.heap.size < w7.heap.size + 1 + 1 := (by omega)))
                go_roundw
                case rel => exact ⟨j + 1, by omega, by go_num, by rw [← HL.out]; exact o7, (by repeat (first | with_reducible exact D7 | with_reducible apply bdrew | with_reducible apply bdrewN | with_reducible apply balloc | ((with_reducible refine bset ?_ ?_ _); rotate_left; (first | omega | (simp <;> omega))))), (by simp [Cls, go_sem, F7, y7w1, y7w0, y7wp1, y7wp2, y7w10, y7w1p1, y7w1p2])⟩
                case measure => simp [intOf]; omega
              · have HAll := Lib.hid hall
                clear hall
                have HL := Lib.hid (achTo_no (t := t) (p := p) (k := j) (fun ⟨o', h1, _, _, h4⟩ => HAll.out (by rw [ho.out] at h1; injection h1 with h1; rw [h1]; exact h4)))
                go_wp2_with fail
                refine (contains_v _ _ _ _ _ false (hT.init.below (by repeat (first | with_reducible exact DS | with_reducible apply bdrew | with_reducible apply bdrewN | with_reducible apply balloc | ((with_reducible refine bset ?_ ?_ _); rotate_left; (first | omega | (simp <;> omega)))))) hli HD1.out).mono ?_
                rintro e w9 ⟨rfl, hW⟩
                subst hW
                go_wp2_with fail
                refine (contains_v _ _ _ _ _ true (hm.add.below (by repeat (first | with_reducible exact DS | with_reducible apply bdrew | with_reducible apply bdrewN | with_reducible apply balloc | ((with_reducible refine bset ?_ ?_ _); rotate_left; (first | omega | (simp <;> omega)))))) hla HD2.out).mono ?_
                rintro e w9 ⟨rfl, hW⟩
                subst hW
                go_wp2_with fail
                refine (all_at _ _ _ _ n _ _ _ (hA4.below (by repeat (first | with_reducible exact hBs | with_reducible apply bdrew | with_reducible apply bdrewN | with_reducible apply balloc | ((with_reducible refine bset ?_ ?_ _); rotate_left; (first | omega | (simp <;> omega)))))).bools (hm.pre.below (by repeat (first | with_reducible exact DS | with_reducible apply bdrew | with_reducible apply bdrewN | with_reducible apply balloc | ((with_reducible refine bset ?_ ?_ _); rotate_left; (first | omega | (simp <;> omega)))))) hcl hlp hn12 hoo.out.1 false (by rw [allIn_close hoo.out.1]; exact ⟨fun h => (by cases h), fun h => absurd h HAll.out⟩)).mono ?_
                rintro e w6 ⟨rfl, hB6⟩
                have D6 := dstep w hB6 (by repeat (first | with_reducible exact DS | with_reducible apply bdrew | with_reducible apply bdrewN | with_reducible apply balloc | ((with_reducible refine bset ?_ ?_ _); rotate_left; (first | omega | (simp <;> omega)))))
                have d6s := D6.size
                have Ew4_6 := dstep w4 hB6 (by repeat (first | with_reducible exact hBs | with_reducible apply bdrew | with_reducible apply bdrewN | with_reducible apply balloc | ((with_reducible refine bset ?_ ?_ _); rotate_left; (first | omega | (simp <;> omega)))))
                have Ew5_6 := dstep w5 hB6 (by repeat (first | with_reducible exact Below.refl _ _ | with_reducible apply bdrew | with_reducible apply bdrewN | with_reducible apply balloc | ((with_reducible refine bset ?_ ?_ _); rotate_left; (first | omega | (simp <;> omega)))))
                have C6 := Cls.below (l := [(w.heap.size, 0, .int .i64 t.facts), (w.heap.size, 1, .slice Ai t.init.length ci), (w.heap.size, 2, .slice Ag t.goal.length cg), (w.heap.size, 3, .slice (some ad) t.ops.length co), (w.heap.size + 1, 0, .int .i64 0), (w.heap.size + 1, 1, .int .i64 0), (w1.heap.size, 0, .int .i64 0), (w1.heap.size, 1, .int .i64 0), (w5.heap.size, 0, .slice A5 o.pre.length c5), (w5.heap.size, 1, .slice A6 o.add.length c6), (w5.heap.size, 2, .slice A7 o.del.length c7), (w5.heap.size, 3, .int .i64 o.cost)]) hB6 (by simp [Cls, go_sem, Fs, ysw1, ysw0, yswp1, yswp2, ysw10, ysw1p1, ysw1p2])
                have F6 := C6
                simp only [Cls, and_true] at F6
                have y6w1 : w.heap.size + 1 < w6.heap.size := C6.blk (b := w.heap.size + 1) (k := 0) (v := .int .i64 0) (by simp)
                have y6w0 : w.heap.size < w6.heap.size := (by omega)
                have y6wp1 : w.heap.size < w6.heap.size + 1 := (by omega)
                have y6wp2 : w.heap.size < w6.heap.size + 1 + 1 := (by omega)
                have y6w10 : w1.heap.size < w6.heap.size := C6.blk (b := w1.heap.size) (k := 0) (v := .int .i64 0) (by simp)
                have y6w1p1 : w1.heap.size < w6.heap.size + 1 := (by omega)
                have y6w1p2 : w1.heap.size < w6.heap.size + 1 + 1 := (by omega)
                have y6w50 : w5.heap.size < w6.heap.size := C6.blk (b := w5.heap.size) (k := 0) (v := .slice A5 o.pre.length c5) (by simp)
                have y6w5p1 : w5.heap.size < w6.heap.size + 1 := (by omega)
                have y6w5p2 : w5.heap.size < w6.heap.size + 1 + 1 := (by omega)
                go_wp2
                go_roundw
                case rel => exact ⟨j + 1, by omega, by go_num, by rw [HL.out]; exact hl4.below (by repeat (first | with_reducible exact Ew5_6 | with_reducible apply bdrew | with_reducible apply bdrewN | with_reducible apply balloc | ((with_reducible refine bset ?_ ?_ _); rotate_left; (first | omega | (simp <;> omega))))), (by repeat (first | with_reducible exact Ew4_6 | with_reducible apply bdrew | with_reducible apply bdrewN | with_reducible apply balloc | ((with_reducible refine bset ?_ ?_ _); rotate_left; (first | omega | (simp <;> omega))))), (by simp [Cls, go_sem, F6, y6w1, y6w0, y6wp1, y6wp2, y6w10, y6w1p1, y6w1p2, y6w50, y6w5p1, y6w5p2])⟩
                case measure => simp [intOf]; omega
            · have HD2 := Lib.hid (decide_eq_false had)
              have HL := Lib.hid (achTo_no (t := t) (p := p) (k := j) (fun ⟨o', h1, _, h3, _⟩ => had (by rw [ho.out] at h1; injection h1 with h1; rw [h1]; exact h3)))
              clear had
              go_wp2_with fail
              refine (contains_v _ _ _ _ _ false (hT.init.below (by repeat (first | with_reducible exact DS | with_reducible apply bdrew | with_reducible apply bdrewN | with_reducible apply balloc | ((with_reducible refine bset ?_ ?_ _); rotate_left; (first | omega | (simp <;> omega)))))) hli HD1.out).mono ?_
              rintro e w9 ⟨rfl, hW⟩
              subst hW
              go_wp2_with fail
              refine (contains_v _ _ _ _ _ false (hm.add.below (by repeat (first | with_reducible exact DS | with_reducible apply bdrew | with_reducible apply bdrewN | with_reducible apply balloc | ((with_reducible refine bset ?_ ?_ _); rotate_left; (first | omega | (simp <;> omega)))))) hla HD2.out).mono ?_
              rintro e w9 ⟨rfl, hW⟩
              subst hW
              go_wp2
              go_roundw
              case rel => exact ⟨j + 1, by omega, by go_num, by rw [HL.out]; exact hl4.below (by repeat (first | with_reducible exact Below.refl _ _ | with_reducible apply bdrew | with_reducible apply bdrewN | with_reducible apply balloc | ((with_reducible refine bset ?_ ?_ _); rotate_left; (first | omega | (simp <;> omega))))), (by repeat (first | with_reducible exact hBs | with_reducible apply bdrew | with_reducible apply bdrewN | with_reducible apply balloc | ((with_reducible refine bset ?_ ?_ _); rotate_left; (first | omega | (simp <;> omega))))), (by simp [Cls, go_sem, Fs, ysw1, ysw0, yswp1, yswp2, ysw10, ysw1p1, ysw1p2])⟩
              case measure => simp [intOf]; omega
        · have hje : j = t.ops.length := by omega
          rw [hje] at hl4
          clear hje
          obtain ⟨A8, c8, rfl, hnil8, hI8⟩ := hl4.form
          clear hnil8 hI8
          have hl4' : OwnI w4.heap.size w5 (.slice A8 (achTo t p t.ops.length).length c8) (achV t p) := hl4
          have hownS := hown.below ES
          have hrow : ∀ b, u5.ownBlock = some b → b < w4.heap.size := fun b hb => by
            have h1 := (OwnEs.lt hown b hb).2
            have h2 := Ew3_4.size
            omega
          have HY := Lib.hid (plist_of (B := w2.heap.size) (row := u5.ownBlock) hl4' (by have := Ew3_4.size; omega) hrow)
          have hlen : (((landV n t).take k).map (achV t)).length < 1000000000000 := by rw [List.length_map, List.length_take]; omega
          have HT1 := Lib.hid (show ((landV n t).take k).map (achV t) ++ [achV t p] = ((landV n t).take (k + 1)).map (achV t) by rw [List.take_add_one, hp.out]; simp)
          have hB25 := hBr.trans (ES.mono hBr.size)
          have hs25 := hB25.size
          go_wp2_with (at_builtin; go_must (refine wpList_el (plist_stable _) 44 24 (.slice none 0 0) Try.underlying44 info_list rfl (by decide) (by decide) rfl (.tmp 58) (.tmp 60) rfl w2 [(w.heap.size, 0, .int .i64 t.facts), (w.heap.size, 1, .slice Ai t.init.length ci), (w.heap.size, 2, .slice Ag t.goal.length cg), (w.heap.size, 3, .slice Ao t.ops.length co), (w.heap.size + 1, 0, .int .i64 0), (w.heap.size + 1, 1, .int .i64 0), (w1.heap.size, 0, .int .i64 0), (w1.heap.size, 1, .int .i64 0)] rfl (OwnLL.below hownS ?p1) ⟨w5.heap.size, 0, none⟩ 1 rfl [.slice A8 (achTo t p t.ops.length).length c8] (achV t p) rfl (cells_one ?p2) ?p8 ((plist_stable _).below HY.out ?p9) hlen ?p3 (Nat.le_refl _) ?p5 ?p6 ?p7 ?_; (case p1 => repeat (first | with_reducible exact Below.refl _ _ | with_reducible apply bdrew | with_reducible apply bdrewN | with_reducible apply balloc | ((with_reducible refine bset ?_ ?_ _); rotate_left; (first | omega | (simp <;> omega))))); (case p2 => simp [go_sem]); (case p3 => (simp <;> omega)); (case p5 => repeat (first | with_reducible exact hB25 | with_reducible apply bdrew | with_reducible apply bdrewN | with_reducible apply balloc | ((with_reducible refine bset ?_ ?_ _); rotate_left; (first | omega | (simp <;> omega))))); (case p6 => simp [Cls, go_sem, Fs, ysw1, ysw0, yswp1, yswp2, ysw10, ysw1p1, ysw1p2]); (case p7 => (simp <;> omega)); (case p8 => intro u hu; simp at hu; subst hu; rfl); (case p9 => repeat (first | with_reducible exact Below.refl _ _ | with_reducible apply bdrew | with_reducible apply bdrewN | with_reducible apply balloc | ((with_reducible refine bset ?_ ?_ _); rotate_left; (first | omega | (simp <;> omega))))); intro v6 w6 o6 D6 C6 sz6 G6 at6; clear G6 at6; have d6s := D6.size))
          go_roundw
          case rel => exact ⟨k + 1, by omega, by go_num, by rw [← HT1.out]; exact o6, D6, C6⟩
          case measure => simp [intOf]; omega
    · have hke : k = (landV n t).length := by omega
      rw [hke, List.take_length] at hown
      clear hke
      go_wp2_with fail
      refine region_still_tail 3 (by kernel_rfl) (by kernel_rfl) ?_
      simp only [List.take_succ_cons, List.take_zero, List.drop_succ_cons, List.drop_zero]
      repeat still_step
      refine wpStill_nil ?_
      go_wp2
      refine bodyPost_ret (v := .tuple #[u5, .agg #[.int .i64 0, .int .i64 0]]) ?_ rfl ⟨_, rfl, ?_, by repeat (first | with_reducible exact DR | with_reducible apply bdrew | with_reducible apply bdrewN | with_reducible apply balloc | ((with_reducible refine bset ?_ ?_ _); rotate_left; (first | omega | (simp <;> omega))))⟩
      · simp [results, Try.results43, go_sem, Fr, yrw1, yrw0, yrwp1, yrwp2, yrw10, yrw1p1, yrw1p2]
      · refine ⟨w2.heap.size, by omega, ?_⟩
        repeat (first | with_reducible exact hown | with_reducible apply OwnLL.drew | (with_reducible refine OwnLL.far ?_ ?_ _; rotate_left; (first | omega | (simp; omega))))


end Go.Proofs.Ytiaokmofoaeifaa
