/-
  S.FirstAchievers: what it returns.
-/
import Derived.Test.YthnhhohnjiigcaaLm8
namespace Go.Proofs.Ythnhhohnjiigcaa
open Go.RowKit
set_option linter.unusedVariables false
set_option linter.unusedSimpArgs false

set_option maxRecDepth 100000 in
set_option maxHeartbeats 4000000 in
theorem firstach_any (w : World) (t : TaskV) (Ai Ag Ao : Option Addr) (ci cg co : Nat) (hT : TaskMem w Ai Ag Ao t) (n : Nat) (hn : t.facts = n) (hv : Valid t) (hnil : Ai = none → t.init = [] ∧ ci = 0) (p : Int) :
    Calls Try.prog 22 #[.agg #[.int .i64 t.facts, .slice Ai t.init.length ci, .slice Ag t.goal.length cg, .slice Ao t.ops.length co], .int .i64 p] w fun e w' => ∃ v, e = .returned v ∧ OwnI w.heap.size w' v (achV t p) ∧ Below w.heap.size w w' := by
  have hli := hT.linit.le
  have hlg := hT.lgoal.le
  have hn9 : n ≤ 1000000000 := by have := hv.f1; omega
  have h12 : t.ops.length ≤ 100000000000 := by have := hv.nops; omega
  have HSI := Lib.hid (show SetP t.init (n : Int) by rw [← hn]; exact hv.init)
  have HNI := Lib.hid hnil
  have HOPS := Lib.hid (ops_in hv hn)
  have HGOAL := Lib.hid (goal_in hv hn)
  have HN := Lib.hid hn
  clear hv hn hnil
  have h40 := h12
  have hlo := hT.lops.le
  have hwl : (withinV n t.init t.ops (useNot t.ops p)).length ≤ 9223372036854775807 := Nat.le_trans withinV_len (by omega)
  go_enter Try.func22, Try.ntmps22
  go_wp2_with fail
  go_region_held3 (fun W => W.cell? ⟨w.heap.size, 0, none⟩ = some (.int .i64 t.facts) ∧ W.cell? ⟨w.heap.size, 1, none⟩ = some (.slice Ai t.init.length ci) ∧ W.cell? ⟨w.heap.size, 2, none⟩ = some (.slice Ag t.goal.length cg) ∧ W.cell? ⟨w.heap.size, 3, none⟩ = some (.slice Ao t.ops.length co)) (first | exact hK | go_keep) (first | (go_at_call 55; refine (adders_any _ t Ai Ag Ao ci cg co (hT.below (by repeat (first | with_reducible exact Below.refl _ _ | with_reducible apply bdrew | with_reducible apply bdrewN | with_reducible apply balloc | ((with_reducible refine bset ?_ ?_ _); rotate_left; (first | omega | (simp <;> omega)))))) p h12).mono ?_; rintro e w1 ⟨v1, rfl, ho1, hB1⟩; obtain ⟨A1, c1, rfl⟩ := OwnEs.form ho1; have hbl1 := OwnBs.bools ho1; have HAL := Lib.hid (addersV_len t.ops p); have D1 := dstep w hB1 (by repeat (first | with_reducible exact Below.refl _ _ | with_reducible apply bdrew | with_reducible apply bdrewN | with_reducible apply balloc | ((with_reducible refine bset ?_ ?_ _); rotate_left; (first | omega | (simp <;> omega))))); have C1 := Cls.below (l := [(w.heap.size, 0, .int .i64 t.facts), (w.heap.size, 1, .slice Ai t.init.length ci), (w.heap.size, 2, .slice Ag t.goal.length cg), (w.heap.size, 3, .slice Ao t.ops.length co)]) hB1 (by simp [Cls, go_sem]); have F1 := C1; simp only [Cls, and_true] at F1; have hK : w1.cell? ⟨w.heap.size, 0, none⟩ = some (.int .i64 t.facts) ∧ w1.cell? ⟨w.heap.size, 1, none⟩ = some (.slice Ai t.init.length ci) ∧ w1.cell? ⟨w.heap.size, 2, none⟩ = some (.slice Ag t.goal.length cg) ∧ w1.cell? ⟨w.heap.size, 3, none⟩ = some (.slice Ao t.ops.length co) := (by simp [F1])) | (go_at_call 37; refine (within_at _ t Ai Ag Ao ci cg co (hT.below (by repeat (first | with_reducible exact D1 | with_reducible apply bdrew | with_reducible apply bdrewN | with_reducible apply balloc | ((with_reducible refine bset ?_ ?_ _); rotate_left; (first | omega | (simp <;> omega)))))) n HN.out hn9 _ _ _ (hT.init.below (by repeat (first | with_reducible exact D1 | with_reducible apply bdrew | with_reducible apply bdrewN | with_reducible apply balloc | ((with_reducible refine bset ?_ ?_ _); rotate_left; (first | omega | (simp <;> omega)))))) HSI.out HNI.out HOPS.out _ _ _ _ hbl1 HAL.out (by first | with_reducible rfl | exact HAL.out.symm) (useNot t.ops p) (fun k d h => adders_use h)).mono ?_; rintro e w2 ⟨v2, rfl, ho2, hB2⟩; obtain ⟨A2, c2, rfl, hnil2, hI2⟩ := ho2.form; clear hnil2 ho2; have D2 := dstep w hB2 (by repeat (first | with_reducible exact D1 | with_reducible apply bdrew | with_reducible apply bdrewN | with_reducible apply balloc | ((with_reducible refine bset ?_ ?_ _); rotate_left; (first | omega | (simp <;> omega))))); have C2 := C1.below hB2; have F2 := C2; simp only [Cls, and_true] at F2; have hK : w2.cell? ⟨w.heap.size, 0, none⟩ = some (.int .i64 t.facts) ∧ w2.cell? ⟨w.heap.size, 1, none⟩ = some (.slice Ai t.init.length ci) ∧ w2.cell? ⟨w.heap.size, 2, none⟩ = some (.slice Ag t.goal.length cg) ∧ w2.cell? ⟨w.heap.size, 3, none⟩ = some (.slice Ao t.ops.length co) := (by simp [F2])))
  clear hK
  have F2 := C2
  simp only [Cls, and_true] at F2
  have y2w0 : w.heap.size < w2.heap.size := C2.blk (b := w.heap.size) (k := 0) (v := .int .i64 t.facts) (by simp)
  have y2wp1 : w.heap.size < w2.heap.size + 1 := (by omega)
  have y2wp2 : w.heap.size < w2.heap.size + 1 + 1 := (by omega)
  go_wp2_with fail
  go_loopw [5, 7] (fun v i wr => ∃ k : Nat, k ≤ t.ops.length ∧ i = .int .i64 k ∧ OwnI w2.heap.size wr v (achTo t p k) ∧ Below w2.heap.size w2 wr ∧ Cls wr [(w.heap.size, 0, .int .i64 t.facts), (w.heap.size, 1, .slice Ai t.init.length ci), (w.heap.size, 2, .slice Ag t.goal.length cg), (w.heap.size, 3, .slice Ao t.ops.length co)]) (fun _ i _ => t.ops.length - (intOf i).toNat)
  case atStart => exact ⟨0, Nat.zero_le _, rfl, OwnI.nil _ _, (by repeat (first | with_reducible exact Below.refl _ _ | with_reducible apply bdrew | with_reducible apply bdrewN | with_reducible apply balloc | ((with_reducible refine bset ?_ ?_ _); rotate_left; (first | omega | (simp <;> omega))))), (by simp [Cls, go_sem, F2, y2w0, y2wp1, y2wp2])⟩
  case round =>
    obtain ⟨k, hk, rfl, hown, hBr, hCr⟩ := hrel
    obtain ⟨w3, rfl⟩ : ∃ wo : World, wo = wr := ⟨_, rfl⟩
    have drs := hBr.size
    have Fr := hCr
    simp only [Cls, and_true] at Fr
    have yrw0 : w.heap.size < w3.heap.size := hCr.blk (b := w.heap.size) (k := 0) (v := .int .i64 t.facts) (by simp)
    have yrwp1 : w.heap.size < w3.heap.size + 1 := (by omega)
    have yrwp2 : w.heap.size < w3.heap.size + 1 + 1 := (by omega)
    have DR := D2.trans (hBr.mono D2.size)
    by_cases hlt : k < t.ops.length
    · obtain ⟨ad, o, A0, c0, A5, c5, A6, c6, rfl, ho, hc0, hc1, hc2, hc3, hm⟩ := hT.ops.at2 DR hlt
      have hla := hm.ladd.le
      have hlp := hm.lpre.le
      have hoo := Lib.hid (HOPS.out o (List.mem_of_getElem? ho.out))
      have hlen := Nat.lt_of_le_of_lt (achTo_len t p k) (show k < 1000000000000 by omega)
      by_cases hi : p ∈ t.init
      · have HI := Lib.hid hi
        have HL := Lib.hid (achTo_no (t := t) (p := p) (k := k) (fun ⟨o', _, h2, _⟩ => h2 hi))
        clear hi
        go_wp2_with fail
        refine (has_yes _ _ _ _ _ (hT.init.below (by repeat (first | with_reducible exact DR | with_reducible apply bdrew | with_reducible apply bdrewN | with_reducible apply balloc | ((with_reducible refine bset ?_ ?_ _); rotate_left; (first | omega | (simp <;> omega)))))) hli HI.out).mono ?_
        rintro e w9 ⟨rfl, rfl⟩
        go_wp2
        go_roundw
        case rel => exact ⟨k + 1, by omega, by go_num, by rw [HL.out]; exact hown, (by repeat (first | with_reducible exact hBr | with_reducible apply bdrew | with_reducible apply bdrewN | with_reducible apply balloc | ((with_reducible refine bset ?_ ?_ _); rotate_left; (first | omega | (simp <;> omega))))), hCr⟩
        case measure => simp [intOf]; omega
      · have HI := Lib.hid hi
        clear hi
        by_cases had : p ∈ o.add
        · have HA := Lib.hid had
          clear had
          by_cases hall : ∀ q ∈ o.pre, q ∈ withinV n t.init t.ops (useNot t.ops p)
          · have HD := Lib.hid (decide_eq_true hall)
            have HL := Lib.hid (achTo_yes (t := t) (p := p) (k := k) ⟨o, ho.out, HI.out, HA.out, (sub_within hoo.out.1).1 hall⟩)
            clear hall
            go_wp2_with fail
            refine (has_no _ _ _ _ _ (hT.init.below (by repeat (first | with_reducible exact DR | with_reducible apply bdrew | with_reducible apply bdrewN | with_reducible apply balloc | ((with_reducible refine bset ?_ ?_ _); rotate_left; (first | omega | (simp <;> omega)))))) hli HI.out).mono ?_
            rintro e w9 ⟨rfl, rfl⟩
            go_wp2_with fail
            refine (has_yes _ _ _ _ _ (hm.add.below (by repeat (first | with_reducible exact DR | with_reducible apply bdrew | with_reducible apply bdrewN | with_reducible apply balloc | ((with_reducible refine bset ?_ ?_ _); rotate_left; (first | omega | (simp <;> omega)))))) hla HA.out).mono ?_
            rintro e w9 ⟨rfl, rfl⟩
            go_wp2_with fail
            refine (subset_any _ _ _ _ _ _ _ (hm.pre.below (by repeat (first | with_reducible exact DR | with_reducible apply bdrew | with_reducible apply bdrewN | with_reducible apply balloc | ((with_reducible refine bset ?_ ?_ _); rotate_left; (first | omega | (simp <;> omega)))))) (hI2.below (by repeat (first | with_reducible exact hBr | with_reducible apply bdrew | with_reducible apply bdrewN | with_reducible apply balloc | ((with_reducible refine bset ?_ ?_ _); rotate_left; (first | omega | (simp <;> omega)))))) hlp hwl).mono ?_
            rintro e w9 ⟨he, rfl⟩
            rw [HD.out] at he
            subst he
            go_wp2_with (at_builtin; go_must (refine wpList_push rfl (.tmp 47) (.tmp 49) rfl w2 [(w.heap.size, 0, .int .i64 t.facts), (w.heap.size, 1, .slice Ai t.init.length ci), (w.heap.size, 2, .slice Ag t.goal.length cg), (w.heap.size, 3, .slice (some ad) t.ops.length co)] (w2.heap.size) u5 _ ((k : Int)) rfl (OwnI.below hown ?p1) ⟨w3.heap.size, 0, none⟩ 1 rfl ?p2 hlen ?p3 ?p4 ?p5 ?p6 ?p7 ?_; (case p1 => repeat (first | with_reducible exact Below.refl _ _ | with_reducible apply bdrew | with_reducible apply bdrewN | with_reducible apply balloc | ((with_reducible refine bset ?_ ?_ _); rotate_left; (first | omega | (simp <;> omega))))); (case p2 => simp [Cls, go_sem, Fr, yrw0, yrwp1, yrwp2]); (case p3 => (first | omega | (simp <;> omega))); (case p4 => (first | omega | (simp <;> omega))); (case p5 => repeat (first | with_reducible exact hBr | with_reducible apply bdrew | with_reducible apply bdrewN | with_reducible apply balloc | ((with_reducible refine bset ?_ ?_ _); rotate_left; (first | omega | (simp <;> omega))))); (case p6 => simp [Cls, go_sem, Fr, yrw0, yrwp1, yrwp2]); (case p7 => (simp <;> omega)); intro v4 w4 o4 D4 C4 sz4; have d4s := D4.size; have F4 := C4; simp only [Cls, and_true] at F4; have y4w0 : w.heap.size < w4.heap.size := C4.blk (b := w.heap.size) (k := 0) (v := .int .i64 t.facts) (by simp); have y4wp1 : w.heap.size < w4.heap.size + 1 := (by omega); have y4wp2 : w.heap.size < w4.heap.size + 1 + 1 := (by omega)))
            go_roundw
            case rel => exact ⟨k + 1, by omega, by go_num, by rw [← HL.out]; exact o4, (by repeat (first | with_reducible exact D4 | with_reducible apply bdrew | with_reducible apply bdrewN | with_reducible apply balloc | ((with_reducible refine bset ?_ ?_ _); rotate_left; (first | omega | (simp <;> omega))))), (by simp [Cls, go_sem, F4, y4w0, y4wp1, y4wp2])⟩
            case measure => simp [intOf]; omega
          · have HD := Lib.hid (decide_eq_false hall)
            have HL := Lib.hid (achTo_no (t := t) (p := p) (k := k) (fun ⟨o', h1, _, _, h4⟩ => hall (by rw [ho.out] at h1; injection h1 with h1; rw [h1]; exact (sub_within (by rw [← h1]; exact hoo.out.1)).2 h4)))
            clear hall
            go_wp2_with fail
            refine (has_no _ _ _ _ _ (hT.init.below (by repeat (first | with_reducible exact DR | with_reducible apply bdrew | with_reducible apply bdrewN | with_reducible apply balloc | ((with_reducible refine bset ?_ ?_ _); rotate_left; (first | omega | (simp <;> omega)))))) hli HI.out).mono ?_
            rintro e w9 ⟨rfl, rfl⟩
            go_wp2_with fail
            refine (has_yes _ _ _ _ _ (hm.add.below (by repeat (first | with_reducible exact DR | with_reducible apply bdrew | with_reducible apply bdrewN | with_reducible apply balloc | ((with_reducible refine bset ?_ ?_ _); rotate_left; (first | omega | (simp <;> omega)))))) hla HA.out).mono ?_
            rintro e w9 ⟨rfl, rfl⟩
            go_wp2_with fail
            refine (subset_any _ _ _ _ _ _ _ (hm.pre.below (by repeat (first | with_reducible exact DR | with_reducible apply bdrew | with_reducible apply bdrewN | with_reducible apply balloc | ((with_reducible refine bset ?_ ?_ _); rotate_left; (first | omega | (simp <;> omega)))))) (hI2.below (by repeat (first | with_reducible exact hBr | with_reducible apply bdrew | with_reducible apply bdrewN | with_reducible apply balloc | ((with_reducible refine bset ?_ ?_ _); rotate_left; (first | omega | (simp <;> omega)))))) hlp hwl).mono ?_
            rintro e w9 ⟨he, rfl⟩
            rw [HD.out] at he
            subst he
            go_wp2
            go_roundw
            case rel => exact ⟨k + 1, by omega, by go_num, by rw [HL.out]; exact hown, (by repeat (first | with_reducible exact hBr | with_reducible apply bdrew | with_reducible apply bdrewN | with_reducible apply balloc | ((with_reducible refine bset ?_ ?_ _); rotate_left; (first | omega | (simp <;> omega))))), hCr⟩
            case measure => simp [intOf]; omega
        · have HA := Lib.hid had
          have HL := Lib.hid (achTo_no (t := t) (p := p) (k := k) (fun ⟨o', h1, _, h3, _⟩ => had (by rw [ho.out] at h1; injection h1 with h1; rw [h1]; exact h3)))
          clear had
          go_wp2_with fail
          refine (has_no _ _ _ _ _ (hT.init.below (by repeat (first | with_reducible exact DR | with_reducible apply bdrew | with_reducible apply bdrewN | with_reducible apply balloc | ((with_reducible refine bset ?_ ?_ _); rotate_left; (first | omega | (simp <;> omega)))))) hli HI.out).mono ?_
          rintro e w9 ⟨rfl, rfl⟩
          go_wp2_with fail
          refine (has_no _ _ _ _ _ (hm.add.below (by repeat (first | with_reducible exact DR | with_reducible apply bdrew | with_reducible apply bdrewN | with_reducible apply balloc | ((with_reducible refine bset ?_ ?_ _); rotate_left; (first | omega | (simp <;> omega)))))) hla HA.out).mono ?_
          rintro e w9 ⟨rfl, rfl⟩
          go_wp2
          go_roundw
          case rel => exact ⟨k + 1, by omega, by go_num, by rw [HL.out]; exact hown, (by repeat (first | with_reducible exact hBr | with_reducible apply bdrew | with_reducible apply bdrewN | with_reducible apply balloc | ((with_reducible refine bset ?_ ?_ _); rotate_left; (first | omega | (simp <;> omega))))), hCr⟩
          case measure => simp [intOf]; omega
    · have hke : k = t.ops.length := by omega
      rw [hke] at hown
      clear hke
      go_wp2
      go_ret
      exact ⟨_, rfl, OwnI.mono hown (by omega), by repeat (first | with_reducible exact DR | with_reducible apply bdrew | with_reducible apply bdrewN | with_reducible apply balloc | ((with_reducible refine bset ?_ ?_ _); rotate_left; (first | omega | (simp <;> omega))))⟩


end Go.Proofs.Ythnhhohnjiigcaa
