/-
  landmark.Orders: what it returns.
-/
import Derived.Test.YtiaokmofoaeifaaLm4
namespace Go.Proofs.Ytiaokmofoaeifaa
open Go.RowKit
set_option linter.unusedVariables false
set_option linter.unusedSimpArgs false

/-- The landmark q is not reached ahead of p. -/
def OrdP (t : TaskV) (p q : Int) : Prop := ¬ q = p ∧ ¬ Reach t.init t.ops (useNot t.ops p) q
open Classical in
noncomputable def ordPart (t : TaskV) (p : Int) (l : List Int) : List (Int × Int) := (l.filter fun q => decide (OrdP t p q)).map fun q => (p, q)
open Classical in
noncomputable def ordRow (t : TaskV) (l : List Int) (p : Int) : List (Int × Int) := if p ∈ t.init then [] else ordPart t p l
noncomputable def ordTo (t : TaskV) (l : List Int) (k : Nat) : List (Int × Int) := (l.take k).flatMap (ordRow t l)
noncomputable def ordV (n : Nat) (t : TaskV) : List (Int × Int) := (landV n t).flatMap (ordRow t (landV n t))
theorem ordPart_yes {t : TaskV} {p q : Int} {l : List Int} {j : Nat} (hq : l[j]? = some q) (h : OrdP t p q) : ordPart t p (l.take j) ++ [(p, q)] = ordPart t p (l.take (j + 1)) := by
  unfold ordPart
  rw [List.take_add_one, hq, Option.toList, List.filter_append, List.map_append]
  simp [h]
theorem ordPart_no {t : TaskV} {p q : Int} {l : List Int} {j : Nat} (hq : l[j]? = some q) (h : ¬ OrdP t p q) : ordPart t p (l.take (j + 1)) = ordPart t p (l.take j) := by
  unfold ordPart
  rw [List.take_add_one, hq, Option.toList, List.filter_append, List.map_append]
  simp [h]
theorem ordTo_init {t : TaskV} {p : Int} {l : List Int} {k : Nat} (hp : l[k]? = some p) (h : p ∈ t.init) : ordTo t l (k + 1) = ordTo t l k := by
  unfold ordTo
  rw [List.take_add_one, hp, Option.toList, List.flatMap_append]
  simp [ordRow, h]
theorem ordTo_succ {t : TaskV} {p : Int} {l : List Int} {k : Nat} (hp : l[k]? = some p) (h : ¬ p ∈ t.init) : ordTo t l k ++ ordPart t p l = ordTo t l (k + 1) := by
  unfold ordTo
  rw [List.take_add_one, hp, Option.toList, List.flatMap_append]
  simp [ordRow, h]
theorem ordPart_len (t : TaskV) (p : Int) (l : List Int) : (ordPart t p l).length ≤ l.length := by
  unfold ordPart
  rw [List.length_map]
  exact List.length_filter_le _ _
theorem ordTo_len (t : TaskV) (l : List Int) (k : Nat) : (ordTo t l k).length ≤ k * l.length := by
  induction k with
  | zero => simp [ordTo]
  | succ k ih =>
    rcases Nat.lt_or_ge k l.length with h | h
    · have hp := List.getElem?_eq_getElem h
      by_cases hi : l[k] ∈ t.init
      · rw [ordTo_init hp hi, Nat.succ_mul]; omega
      · rw [← ordTo_succ hp hi, List.length_append, Nat.succ_mul]
        have := ordPart_len t l[k] l
        omega
    · have : ordTo t l (k + 1) = ordTo t l k := by unfold ordTo; rw [List.take_of_length_le (by omega), List.take_of_length_le (by omega)]
      rw [this, Nat.succ_mul]; omega
set_option maxRecDepth 100000 in
set_option maxHeartbeats 400000 in
theorem orders_1 (w : World) (t : TaskV) (Ai Ag Ao : Option Addr) (ci cg co : Nat) (hT : TaskMem w Ai Ag Ao t) (h : ¬ (tfault t).1 = 0) :
    Calls Try.prog 45 #[.agg #[.int .i64 t.facts, .slice Ai t.init.length ci, .slice Ag t.goal.length cg, .slice Ao t.ops.length co]] w fun e w' => e = .returned (.tuple #[.slice none 0 0, .agg #[.int .i64 (tfault t).1, .int .i64 (tfault t).2]]) ∧ Below w.heap.size w w' := by
  have N := bb_no h
  have N' := bn_yes h
  go_enter Try.func45, Try.ntmps45
  go_wp2_with fail
  refine (validate_any _ _ _ _ _ _ _ _ (hT.below (by repeat (first | with_reducible exact Below.refl _ _ | with_reducible apply bdrew | with_reducible apply bdrewN | with_reducible apply balloc | ((with_reducible refine bset ?_ ?_ _); rotate_left; (first | omega | (simp <;> omega))))))).mono ?_
  rintro e w1 ⟨rfl, hB1⟩
  have D1 := dstep w hB1 (by repeat (first | with_reducible exact Below.refl _ _ | with_reducible apply bdrew | with_reducible apply bdrewN | with_reducible apply balloc | ((with_reducible refine bset ?_ ?_ _); rotate_left; (first | omega | (simp <;> omega)))))
  have d1s := D1.size
  have C1 := Cls.below (l := [(w.heap.size, 0, .int .i64 t.facts), (w.heap.size, 1, .slice Ai t.init.length ci), (w.heap.size, 2, .slice Ag t.goal.length cg), (w.heap.size, 3, .slice Ao t.ops.length co), (w.heap.size + 1, 0, .int .i64 0), (w.heap.size + 1, 1, .int .i64 0)]) hB1 (by simp [Cls, go_sem])
  have F1 := C1
  simp only [Cls, and_true] at F1
  have y1w1 : w.heap.size + 1 < w1.heap.size := C1.blk (b := w.heap.size + 1) (k := 0) (v := .int .i64 0) (by simp)
  have y1w0 : w.heap.size < w1.heap.size := (by omega)
  have y1wp1 : w.heap.size < w1.heap.size + 1 := (by omega)
  have y1wp2 : w.heap.size < w1.heap.size + 1 + 1 := (by omega)
  go_wp2_with fail
  refine region_still_tail 2 (by kernel_rfl) (by kernel_rfl) ?_
  simp only [List.take_succ_cons, List.take_zero, List.drop_succ_cons, List.drop_zero]
  repeat still_step
  refine wpStill_nil ?_
  go_wp2
  refine bodyPost_ret (v := .tuple #[.slice none 0 0, .agg #[.int .i64 (tfault t).1, .int .i64 (tfault t).2]]) ?_ rfl ⟨rfl, by repeat (first | with_reducible exact D1 | with_reducible apply bdrew | with_reducible apply bdrewN | with_reducible apply balloc | ((with_reducible refine bset ?_ ?_ _); rotate_left; (first | omega | (simp <;> omega))))⟩
  simp [results, Try.results45, go_sem, F1, y1w1, y1w0, y1wp1, y1wp2]

set_option maxRecDepth 100000 in
set_option maxHeartbeats 4000000 in
theorem orders_2 (w : World) (t : TaskV) (Ai Ag Ao : Option Addr) (ci cg co : Nat) (hT : TaskMem w Ai Ag Ao t) (n : Nat) (hn : t.facts = n) (hv : Valid t) :
    Calls Try.prog 45 #[.agg #[.int .i64 t.facts, .slice Ai t.init.length ci, .slice Ag t.goal.length cg, .slice Ao t.ops.length co]] w fun e w' => ∃ v, e = .returned (.tuple #[v, .agg #[.int .i64 0, .int .i64 0]]) ∧ (∃ B, w.heap.size ≤ B ∧ OwnPP B w' v (ordV n t)) ∧ Below w.heap.size w w' := by
  have HT0 := Lib.hid (tfault_valid hv)
  have hn24 : n ≤ 24 := by have := hv.f1; omega
  have hn12 : n ≤ 1000000000000 := by omega
  have HN := Lib.hid hn
  have HV := Lib.hid hv
  have hli := hT.linit.le
  clear hv hn
  go_enter Try.func45, Try.ntmps45
  go_wp2_with fail
  refine (validate_any _ _ _ _ _ _ _ _ (hT.below (by repeat (first | with_reducible exact Below.refl _ _ | with_reducible apply bdrew | with_reducible apply bdrewN | with_reducible apply balloc | ((with_reducible refine bset ?_ ?_ _); rotate_left; (first | omega | (simp <;> omega))))))).mono ?_
  rintro e w1 ⟨he, hB1⟩
  rw [HT0.out] at he
  subst he
  have D1 := dstep w hB1 (by repeat (first | with_reducible exact Below.refl _ _ | with_reducible apply bdrew | with_reducible apply bdrewN | with_reducible apply balloc | ((with_reducible refine bset ?_ ?_ _); rotate_left; (first | omega | (simp <;> omega)))))
  have d1s := D1.size
  have C1 := Cls.below (l := [(w.heap.size, 0, .int .i64 t.facts), (w.heap.size, 1, .slice Ai t.init.length ci), (w.heap.size, 2, .slice Ag t.goal.length cg), (w.heap.size, 3, .slice Ao t.ops.length co), (w.heap.size + 1, 0, .int .i64 0), (w.heap.size + 1, 1, .int .i64 0)]) hB1 (by simp [Cls, go_sem])
  have F1 := C1
  simp only [Cls, and_true] at F1
  have y1w1 : w.heap.size + 1 < w1.heap.size := C1.blk (b := w.heap.size + 1) (k := 0) (v := .int .i64 0) (by simp)
  have y1w0 : w.heap.size < w1.heap.size := (by omega)
  have y1wp1 : w.heap.size < w1.heap.size + 1 := (by omega)
  have y1wp2 : w.heap.size < w1.heap.size + 1 + 1 := (by omega)
  go_wp2_with fail
  refine (facts_any _ t Ai Ag Ao ci cg co (hT.below (by repeat (first | with_reducible exact D1 | with_reducible apply bdrew | with_reducible apply bdrewN | with_reducible apply balloc | ((with_reducible refine bset ?_ ?_ _); rotate_left; (first | omega | (simp <;> omega)))))) n HN.out HV.out).mono ?_
  rintro e w2 ⟨v2, rfl, ho2, hB2⟩
  have D2 := dstep w hB2 (by repeat (first | with_reducible exact D1 | with_reducible apply bdrew | with_reducible apply bdrewN | with_reducible apply balloc | ((with_reducible refine bset ?_ ?_ _); rotate_left; (first | omega | (simp <;> omega)))))
  have d2s := D2.size
  have C2 := Cls.below (l := [(w.heap.size, 0, .int .i64 t.facts), (w.heap.size, 1, .slice Ai t.init.length ci), (w.heap.size, 2, .slice Ag t.goal.length cg), (w.heap.size, 3, .slice Ao t.ops.length co), (w.heap.size + 1, 0, .int .i64 0), (w.heap.size + 1, 1, .int .i64 0), (w1.heap.size, 0, .int .i64 0), (w1.heap.size, 1, .int .i64 0)]) hB2 (by simp [Cls, go_sem, F1, y1w1, y1w0, y1wp1, y1wp2])
  have F2 := C2
  simp only [Cls, and_true] at F2
  have y2w1 : w.heap.size + 1 < w2.heap.size := C2.blk (b := w.heap.size + 1) (k := 0) (v := .int .i64 0) (by simp)
  have y2w0 : w.heap.size < w2.heap.size := (by omega)
  have y2wp1 : w.heap.size < w2.heap.size + 1 := (by omega)
  have y2wp2 : w.heap.size < w2.heap.size + 1 + 1 := (by omega)
  have y2w10 : w1.heap.size < w2.heap.size := C2.blk (b := w1.heap.size) (k := 0) (v := .int .i64 0) (by simp)
  have y2w1p1 : w1.heap.size < w2.heap.size + 1 := (by omega)
  have y2w1p2 : w1.heap.size < w2.heap.size + 1 + 1 := (by omega)
  have hll := landV_len n t
  have HSET := Lib.hid (landV_set (n := n) (t := t))
  obtain ⟨l, hl⟩ : ∃ l, Hid (landV n t = l) := ⟨_, Lib.hid rfl⟩
  rw [hl.out] at ho2 hll HSET
  obtain ⟨A2, c2, rfl, hnil2, hI2⟩ := ho2.form
  clear hnil2 ho2
  have hll2 : l.length ≤ 9223372036854775807 := by omega
  go_wp2_with fail
  go_loopw [5, 22] (fun v i wr => ∃ k : Nat, k ≤ l.length ∧ i = .int .i64 k ∧ OwnPP w2.heap.size wr v (ordTo t l k) ∧ Below w2.heap.size w2 wr ∧ Cls wr [(w.heap.size, 0, .int .i64 t.facts), (w.heap.size, 1, .slice Ai t.init.length ci), (w.heap.size, 2, .slice Ag t.goal.length cg), (w.heap.size, 3, .slice Ao t.ops.length co), (w.heap.size + 1, 0, .int .i64 0), (w.heap.size + 1, 1, .int .i64 0), (w1.heap.size, 0, .int .i64 0), (w1.heap.size, 1, .int .i64 0)]) (fun _ i _ => l.length - (intOf i).toNat)
  case atStart => exact ⟨0, Nat.zero_le _, rfl, OwnEs.nil _ _, (by repeat (first | with_reducible exact Below.refl _ _ | with_reducible apply bdrew | with_reducible apply bdrewN | with_reducible apply balloc | ((with_reducible refine bset ?_ ?_ _); rotate_left; (first | omega | (simp <;> omega))))), (by simp [Cls, go_sem, F2, y2w1, y2w0, y2wp1, y2wp2, y2w10, y2w1p1, y2w1p2])⟩
  case round =>
    obtain ⟨k, hk, rfl, hown, hBr, hCr⟩ := hrel
    obtain ⟨w3, rfl⟩ : ∃ wo : World, wo = wr := ⟨_, rfl⟩
    have drs := hBr.size
    have Fr := hCr
    simp only [Cls, and_true] at Fr
    have yrw1 : w.heap.size + 1 < w3.heap.size := hCr.blk (b := w.heap.size + 1) (k := 0) (v := .int .i64 0) (by simp)
    have yrw0 : w.heap.size < w3.heap.size := (by omega)
    have yrwp1 : w.heap.size < w3.heap.size + 1 := (by omega)
    have yrwp2 : w.heap.size < w3.heap.size + 1 + 1 := (by omega)
    have yrw10 : w1.heap.size < w3.heap.size := hCr.blk (b := w1.heap.size) (k := 0) (v := .int .i64 0) (by simp)
    have yrw1p1 : w1.heap.size < w3.heap.size + 1 := (by omega)
    have yrw1p2 : w1.heap.size < w3.heap.size + 1 + 1 := (by omega)
    have DR := D2.trans (hBr.mono D2.size)
    have hq23 := hBr.size
    by_cases hlt : k < l.length
    · obtain ⟨pd, p, rfl, hp, hpc⟩ := (hI2.below hBr).at_ hlt
      by_cases hi : p ∈ t.init
      · have HD1 := Lib.hid (decide_eq_true hi)
        have HL := Lib.hid (ordTo_init hp.out hi)
        clear hi
        go_wp2_with fail
        refine (contains_v _ _ _ _ _ true (hT.init.below (by repeat (first | with_reducible exact DR | with_reducible apply bdrew | with_reducible apply bdrewN | with_reducible apply balloc | ((with_reducible refine bset ?_ ?_ _); rotate_left; (first | omega | (simp <;> omega)))))) hli HD1.out).mono ?_
        rintro e w9 ⟨rfl, hW⟩
        rw [hW]
        clear hW w9
        go_wp2
        go_roundw
        case rel => exact ⟨k + 1, by omega, by go_num, by rw [HL.out]; exact hown, (by repeat (first | with_reducible exact hBr | with_reducible apply bdrew | with_reducible apply bdrewN | with_reducible apply balloc | ((with_reducible refine bset ?_ ?_ _); rotate_left; (first | omega | (simp <;> omega))))), (by simp [Cls, go_sem, Fr, yrw1, yrw0, yrwp1, yrwp2, yrw10, yrw1p1, yrw1p2])⟩
        case measure => simp [intOf]; omega
      · have HD1 := Lib.hid (decide_eq_false hi)
        have HL := Lib.hid (ordTo_succ hp.out hi)
        clear hi
        go_wp2_with fail
        refine (contains_v _ _ _ _ _ false (hT.init.below (by repeat (first | with_reducible exact DR | with_reducible apply bdrew | with_reducible apply bdrewN | with_reducible apply balloc | ((with_reducible refine bset ?_ ?_ _); rotate_left; (first | omega | (simp <;> omega)))))) hli HD1.out).mono ?_
        rintro e w9 ⟨rfl, hW⟩
        rw [hW]
        clear hW w9
        go_wp2_with fail
        refine (without_any _ t Ai Ag Ao ci cg co (hT.below (by repeat (first | with_reducible exact DR | with_reducible apply bdrew | with_reducible apply bdrewN | with_reducible apply balloc | ((with_reducible refine bset ?_ ?_ _); rotate_left; (first | omega | (simp <;> omega)))))) n HN.out HV.out p).mono ?_
        rintro e w4 ⟨g4, rfl, hg4, hA4, hB4⟩
        have D4 := dstep w hB4 (by repeat (first | with_reducible exact DR | with_reducible apply bdrew | with_reducible apply bdrewN | with_reducible apply balloc | ((with_reducible refine bset ?_ ?_ _); rotate_left; (first | omega | (simp <;> omega)))))
        have d4s := D4.size
        have Ew3_4 := dstep w3 hB4 (by repeat (first | with_reducible exact Below.refl _ _ | with_reducible apply bdrew | with_reducible apply bdrewN | with_reducible apply balloc | ((with_reducible refine bset ?_ ?_ _); rotate_left; (first | omega | (simp <;> omega)))))
        have C4 := Cls.below (l := [(w.heap.size, 0, .int .i64 t.facts), (w.heap.size, 1, .slice Ai t.init.length ci), (w.heap.size, 2, .slice Ag t.goal.length cg), (w.heap.size, 3, .slice Ao t.ops.length co), (w.heap.size + 1, 0, .int .i64 0), (w.heap.size + 1, 1, .int .i64 0), (w1.heap.size, 0, .int .i64 0), (w1.heap.size, 1, .int .i64 0)]) hB4 (by simp [Cls, go_sem, Fr, yrw1, yrw0, yrwp1, yrwp2, yrw10, yrw1p1, yrw1p2])
        have F4 := C4
        simp only [Cls, and_true] at F4
        have y4w1 : w.heap.size + 1 < w4.heap.size := C4.blk (b := w.heap.size + 1) (k := 0) (v := .int .i64 0) (by simp)
        have y4w0 : w.heap.size < w4.heap.size := (by omega)
        have y4wp1 : w.heap.size < w4.heap.size + 1 := (by omega)
        have y4wp2 : w.heap.size < w4.heap.size + 1 + 1 := (by omega)
        have y4w10 : w1.heap.size < w4.heap.size := C4.blk (b := w1.heap.size) (k := 0) (v := .int .i64 0) (by simp)
        have y4w1p1 : w1.heap.size < w4.heap.size + 1 := (by omega)
        have y4w1p2 : w1.heap.size < w4.heap.size + 1 + 1 := (by omega)
        have hcl := closeV_len n t.init t.ops (useNot t.ops p)
        have DB := hBr.trans (Ew3_4.mono hBr.size)
        have hown4 := hown.below Ew3_4
        have hne0 : Hid (u5.ownBlock ≠ some g4) := Lib.hid (fun e => by have := (OwnEs.lt hown g4 e).2; omega)
        have ho0 : OwnPP w2.heap.size w4 u5 (ordTo t l k ++ ordPart t p (l.take 0)) := by
          have : ordTo t l k ++ ordPart t p (l.take 0) = ordTo t l k := by simp [ordPart]
          rw [this]; exact hown4
        go_wp2_with fail
        go_loopw [5, 35] (fun v i wr => ∃ j : Nat, j ≤ l.length ∧ i = .int .i64 j ∧ OwnPP w2.heap.size wr v (ordTo t l k ++ ordPart t p (l.take j)) ∧ BArr wr g4 (closeV n t.init t.ops (useNot t.ops p)) ∧ Hid (v.ownBlock ≠ some g4) ∧ Below w2.heap.size w2 wr ∧ Cls wr [(w.heap.size, 0, .int .i64 t.facts), (w.heap.size, 1, .slice Ai t.init.length ci), (w.heap.size, 2, .slice Ag t.goal.length cg), (w.heap.size, 3, .slice Ao t.ops.length co), (w.heap.size + 1, 0, .int .i64 0), (w.heap.size + 1, 1, .int .i64 0), (w1.heap.size, 0, .int .i64 0), (w1.heap.size, 1, .int .i64 0)]) (fun _ i _ => l.length - (intOf i).toNat)
        case atStart => exact ⟨0, Nat.zero_le _, rfl, ho0, hA4, hne0, (by repeat (first | with_reducible exact DB | with_reducible apply bdrew | with_reducible apply bdrewN | with_reducible apply balloc | ((with_reducible refine bset ?_ ?_ _); rotate_left; (first | omega | (simp <;> omega))))), (by simp [Cls, go_sem, F4, y4w1, y4w0, y4wp1, y4wp2, y4w10, y4w1p1, y4w1p2])⟩
        case round =>
          clear hne0 ho0 hown4 hown
          obtain ⟨j, hj, rfl, ho5, hA5, hne, hBs, hCs⟩ := hrel
          obtain ⟨w5, rfl⟩ : ∃ wo : World, wo = wr := ⟨_, rfl⟩
          have dss := hBs.size
          have Fs := hCs
          simp only [Cls, and_true] at Fs
          have ysw1 : w.heap.size + 1 < w5.heap.size := hCs.blk (b := w.heap.size + 1) (k := 0) (v := .int .i64 0) (by simp)
          have ysw0 : w.heap.size < w5.heap.size := (by omega)
          have yswp1 : w.heap.size < w5.heap.size + 1 := (by omega)
          have yswp2 : w.heap.size < w5.heap.size + 1 + 1 := (by omega)
          have ysw10 : w1.heap.size < w5.heap.size := hCs.blk (b := w1.heap.size) (k := 0) (v := .int .i64 0) (by simp)
          have ysw1p1 : w1.heap.size < w5.heap.size + 1 := (by omega)
          have ysw1p2 : w1.heap.size < w5.heap.size + 1 + 1 := (by omega)
          by_cases hlj : j < l.length
          · obtain ⟨qd, q, hqe, hq, hqc⟩ := (hI2.below hBs).at_ hlj
            obtain rfl := Option.some.inj hqe
            have hqr := HSET.out.1 q (List.mem_of_getElem? hq.out)
            obtain ⟨q0, q1⟩ := hqr
            have hlen : (ordTo t l k ++ ordPart t p (l.take j)).length < 1000000000000 := by
              rw [List.length_append]
              have h1 := ordTo_len t l k
              have h2 := ordPart_len t p (l.take j)
              rw [List.length_take] at h2
              have h3 := Nat.mul_le_mul (show k ≤ 24 by omega) (show l.length ≤ 24 by omega)
              omega
            by_cases hqp : q = p
            · have hb : (q != p) = false := by simpa using hqp
              have HO := Lib.hid (ordPart_no (t := t) (p := p) hq.out (fun h => h.1 hqp))
              have hqp' := Lib.hid hqp
              clear hqp
              go_wp2
              go_roundw
              case rel => exact ⟨j + 1, by omega, by go_num, by rw [HO.out]; exact ho5, hA5, hne, (by repeat (first | with_reducible exact hBs | with_reducible apply bdrew | with_reducible apply bdrewN | with_reducible apply balloc | ((with_reducible refine bset ?_ ?_ _); rotate_left; (first | omega | (simp <;> omega))))), (by simp [Cls, go_sem, Fs, ysw1, ysw0, yswp1, yswp2, ysw10, ysw1p1, ysw1p2])⟩
              case measure => simp [intOf]; omega
            · have hb : (q != p) = true := by simpa using hqp
              obtain ⟨y, hy, hyc, hyf⟩ := hA5.cell (i := q.toNat) (by rw [hcl]; omega)
              have hyr : y = true ↔ Reach t.init t.ops (useNot t.ops p) q := by
                have h1 := closeV_get (n := n) (st := t.init) (ops := t.ops) (use := useNot t.ops p) (p := q.toNat) (by omega)
                rw [hy.out, Int.toNat_of_nonneg q0] at h1
                rw [← h1]
                exact ⟨fun e => by rw [e], fun e => by injection e⟩
              have HYR := Lib.hid hyr
              have hqp' := Lib.hid hqp
              clear hyr hqp
              cases y with
              | true =>
                have HO := Lib.hid (ordPart_no (t := t) (p := p) hq.out (fun h => h.2 (HYR.out.1 rfl)))
                go_wp2
                go_roundw
                case rel => exact ⟨j + 1, by omega, by go_num, by rw [HO.out]; exact ho5, hA5, hne, (by repeat (first | with_reducible exact hBs | with_reducible apply bdrew | with_reducible apply bdrewN | with_reducible apply balloc | ((with_reducible refine bset ?_ ?_ _); rotate_left; (first | omega | (simp <;> omega))))), (by simp [Cls, go_sem, Fs, ysw1, ysw0, yswp1, yswp2, ysw10, ysw1p1, ysw1p2])⟩
                case measure => simp [intOf]; omega
              | false =>
                have HO := Lib.hid (ordPart_yes (t := t) (p := p) hq.out ⟨hqp'.out, fun h => by have := HYR.out.2 h; cases this⟩)
                go_wp2_with (at_builtin; go_must (refine wpList_el ppair_stable 49 16 (.agg #[.int .i64 0, .int .i64 0]) Try.underlying49 info_pair rfl (by decide) (by decide) rfl (.tmp 49) (.tmp 53) rfl w2 [(w.heap.size, 0, .int .i64 t.facts), (w.heap.size, 1, .slice Ai t.init.length ci), (w.heap.size, 2, .slice Ag t.goal.length cg), (w.heap.size, 3, .slice Ao t.ops.length co), (w.heap.size + 1, 0, .int .i64 0), (w.heap.size + 1, 1, .int .i64 0), (w1.heap.size, 0, .int .i64 0), (w1.heap.size, 1, .int .i64 0)] rfl (OwnPP.below ho5 ?p1) ⟨w5.heap.size, 0, none⟩ 1 rfl [.int .i64 p, .int .i64 q] (p, q) rfl (cells_two ?p2 ?p10) ?p8 rfl hlen ?p3 (Nat.le_refl _) ?p5 ?p6 ?p7 ?_; (case p1 => repeat (first | with_reducible exact Below.refl _ _ | with_reducible apply bdrew | with_reducible apply bdrewN | with_reducible apply balloc | ((with_reducible refine bset ?_ ?_ _); rotate_left; (first | omega | (simp <;> omega))))); (case p2 => simp [go_sem]); (case p10 => simp [go_sem]); (case p3 => (simp <;> omega)); (case p5 => repeat (first | with_reducible exact hBs | with_reducible apply bdrew | with_reducible apply bdrewN | with_reducible apply balloc | ((with_reducible refine bset ?_ ?_ _); rotate_left; (first | omega | (simp <;> omega))))); (case p6 => simp [Cls, go_sem, Fs, ysw1, ysw0, yswp1, yswp2, ysw10, ysw1p1, ysw1p2]); (case p7 => (simp <;> omega)); (case p8 => intro u hu; simp at hu; rcases hu with rfl | rfl <;> rfl); intro v6 w6 o6 D6 C6 sz6 G6 at6; have hA6 := Lib.hid (show BArr w6 g4 _ from Arr.grown (BArr.below hA5 (by repeat (first | with_reducible exact Below.refl _ _ | with_reducible apply bdrew | with_reducible apply bdrewN | with_reducible apply balloc | ((with_reducible refine bset ?_ ?_ _); rotate_left; (first | omega | (simp <;> omega)))))) G6 hne.out); have hg5 := hA5.lt; have hne6 := Lib.hid (show v6.ownBlock ≠ some g4 from fun e => by rcases at6 with h | h; exact hne.out (h.symm.trans e); rw [h] at e; injection e with e; simp at e; omega); clear G6 at6 hg5))
                go_roundw
                case rel => exact ⟨j + 1, by omega, by go_num, by rw [← HO.out, ← List.append_assoc]; exact o6, hA6.out, hne6, D6, C6⟩
                case measure => simp [intOf]; omega
          · rw [List.take_of_length_le (by omega), HL.out] at ho5
            go_wp2
            go_roundw
            case rel => exact ⟨k + 1, by omega, by go_num, ho5, (by repeat (first | with_reducible exact hBs | with_reducible apply bdrew | with_reducible apply bdrewN | with_reducible apply balloc | ((with_reducible refine bset ?_ ?_ _); rotate_left; (first | omega | (simp <;> omega))))), (by simp [Cls, go_sem, Fs, ysw1, ysw0, yswp1, yswp2, ysw10, ysw1p1, ysw1p2])⟩
            case measure => simp [intOf]; omega
    · have hke : k = l.length := by omega
      have hown' : OwnPP w2.heap.size w3 u5 (ordV n t) := by
        have h1 : ordTo t l k = ordV n t := by rw [hke]; unfold ordTo ordV; rw [List.take_length, hl.out]
        rw [← h1]; exact hown
      clear hke hown
      go_wp2_with fail
      refine region_still_tail 3 (by kernel_rfl) (by kernel_rfl) ?_
      simp only [List.take_succ_cons, List.take_zero, List.drop_succ_cons, List.drop_zero]
      repeat still_step
      refine wpStill_nil ?_
      go_wp2
      refine bodyPost_ret (v := .tuple #[u5, .agg #[.int .i64 0, .int .i64 0]]) ?_ rfl ⟨_, rfl, ?_, by repeat (first | with_reducible exact DR | with_reducible apply bdrew | with_reducible apply bdrewN | with_reducible apply balloc | ((with_reducible refine bset ?_ ?_ _); rotate_left; (first | omega | (simp <;> omega))))⟩
      · simp [results, Try.results45, go_sem, Fr, yrw1, yrw0, yrwp1, yrwp2, yrw10, yrw1p1, yrw1p2]
      · refine ⟨w2.heap.size, by omega, ?_⟩
        repeat (first | with_reducible exact hown' | with_reducible apply OwnPP.drew | (with_reducible refine OwnPP.far ?_ ?_ _; rotate_left; (first | omega | (simp; omega))))


end Go.Proofs.Ytiaokmofoaeifaa
