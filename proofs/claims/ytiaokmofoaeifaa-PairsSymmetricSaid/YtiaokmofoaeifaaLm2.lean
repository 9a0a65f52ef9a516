/-
  landmark.facts, Facts: what they return.
-/
import Derived.Test.YtiaokmofoaeifaaLm1
import Derived.Test.YtiaokmofoaeifaaTpure
namespace Go.Proofs.Ytiaokmofoaeifaa
open Go.RowKit
set_option linter.unusedVariables false
set_option linter.unusedSimpArgs false

set_option maxRecDepth 100000 in
set_option maxHeartbeats 2000000 in
theorem facts_any (w : World) (t : TaskV) (Ai Ag Ao : Option Addr) (ci cg co : Nat) (hT : TaskMem w Ai Ag Ao t) (n : Nat) (hn : t.facts = n) (hv : Valid t) :
    Calls Try.prog 58 #[.agg #[.int .i64 t.facts, .slice Ai t.init.length ci, .slice Ag t.goal.length cg, .slice Ao t.ops.length co]] w fun e w' => ∃ v, e = .returned v ∧ OwnI w.heap.size w' v (landV n t) ∧ Below w.heap.size w w' := by
  have HV := Lib.hid hv
  have HN := Lib.hid hn
  have hn24 : n ≤ 24 := by have := hv.f1; omega
  have HGOAL := Lib.hid (goal_in hv hn)
  have hli := hT.linit.le
  have hlg := hT.lgoal
  have hn12 : n ≤ 1000000000000 := by omega
  clear hv hn
  go_enter Try.func58, Try.ntmps58
  go_wp2_with fail
  go_loopw [3, 7] (fun v i wr => ∃ k : Nat, k ≤ n ∧ i = .int .i64 k ∧ OwnI (w.heap.size + 1) wr v (landTo n t k) ∧ Below w.heap.size w wr ∧ Cls wr [(w.heap.size, 0, .int .i64 t.facts), (w.heap.size, 1, .slice Ai t.init.length ci), (w.heap.size, 2, .slice Ag t.goal.length cg), (w.heap.size, 3, .slice Ao t.ops.length co)]) (fun _ i _ => n - (intOf i).toNat)
  case atStart => exact ⟨0, Nat.zero_le _, rfl, OwnI.nil _ _, (by repeat (first | with_reducible exact Below.refl _ _ | with_reducible apply bdrew | with_reducible apply bdrewN | with_reducible apply balloc | ((with_reducible refine bset ?_ ?_ _); rotate_left; (first | omega | (simp <;> omega))))), (by simp [Cls, go_sem])⟩
  case round =>
    obtain ⟨k, hk, rfl, hown, hBr, hCr⟩ := hrel
    obtain ⟨w2, rfl⟩ : ∃ wo : World, wo = wr := ⟨_, rfl⟩
    have drs := hBr.size
    have Fr := hCr
    simp only [Cls, and_true] at Fr
    have yrw0 : w.heap.size < w2.heap.size := hCr.blk (b := w.heap.size) (k := 0) (v := .int .i64 t.facts) (by simp)
    have yrwp1 : w.heap.size < w2.heap.size + 1 := (by omega)
    have yrwp2 : w.heap.size < w2.heap.size + 1 + 1 := (by omega)
    by_cases hlt : k < n
    · have hltf : (k : Int) < t.facts := by have := HN.out; omega
      have hlen := Nat.lt_of_le_of_lt (landTo_len n t k) (show k < 1000000000000 by omega)
      cases hd : decide ((k : Int) ∈ t.init) with
      | true =>
        have HD := Lib.hid hd
        have HL := Lib.hid (landTo_yes (n := n) (t := t) (k := k) (.inl (by simpa using hd)))
        clear hd
        go_wp2_with fail
        go_quiet ((go_at_call 78; exact Calls.quiet_of_same (contains_v _ _ _ _ _ true (hT.init.below (by repeat (first | with_reducible exact hBr | with_reducible apply bdrew | with_reducible apply bdrewN | with_reducible apply balloc | ((with_reducible refine bset ?_ ?_ _); rotate_left; (first | omega | (simp <;> omega)))))) hli HD.out)))
        go_wp2_with (at_builtin; go_must (refine wpList_push rfl (.tmp 23) (.tmp 25) rfl w [(w.heap.size, 0, .int .i64 t.facts), (w.heap.size, 1, .slice Ai t.init.length ci), (w.heap.size, 2, .slice Ag t.goal.length cg), (w.heap.size, 3, .slice Ao t.ops.length co)] (w.heap.size + 1) u3 _ ((k : Int)) rfl (OwnI.below hown ?p1) ⟨w2.heap.size, 0, none⟩ 1 rfl ?p2 hlen ?p3 ?p4 ?p5 ?p6 ?p7 ?_; (case p1 => repeat (first | with_reducible exact Below.refl _ _ | with_reducible apply bdrew | with_reducible apply bdrewN | with_reducible apply balloc | ((with_reducible refine bset ?_ ?_ _); rotate_left; (first | omega | (simp <;> omega))))); (case p2 => (first | simp [Cls, go_sem, Fr, yrw0, yrwp1, yrwp2] | exact cell_new_at _ _ _ _ rfl)); (case p3 => (first | omega | (simp <;> omega))); (case p4 => (first | omega | (simp <;> omega))); (case p5 => repeat (first | with_reducible exact hBr | with_reducible apply bdrew | with_reducible apply bdrewN | with_reducible apply balloc | ((with_reducible refine bset ?_ ?_ _); rotate_left; (first | omega | (simp <;> omega))))); (case p6 => exact Cls.below (w := w2) (by repeat (first | with_reducible exact Below.refl _ _ | with_reducible apply bdrew | with_reducible apply bdrewN | with_reducible apply balloc | ((with_reducible refine bset ?_ ?_ _); rotate_left; (first | omega | (simp <;> omega))))) hCr); (case p7 => (simp <;> omega)); intro v1 w1 o1 D1 C1 sz1; have d1s := D1.size; have F1 := C1; simp only [Cls, and_true] at F1; have y1w0 : w.heap.size < w1.heap.size := C1.blk (b := w.heap.size) (k := 0) (v := .int .i64 t.facts) (by simp); have y1wp1 : w.heap.size < w1.heap.size + 1 := (by omega); have y1wp2 : w.heap.size < w1.heap.size + 1 + 1 := (by omega)))
        go_roundw
        case rel => exact ⟨k + 1, by omega, by go_num, by rw [← HL.out]; exact o1, (by repeat (first | with_reducible exact D1 | with_reducible apply bdrew | with_reducible apply bdrewN | with_reducible apply balloc | ((with_reducible refine bset ?_ ?_ _); rotate_left; (first | omega | (simp <;> omega))))), (by simp [Cls, go_sem, F1, y1w0, y1wp1, y1wp2])⟩
        case measure => simp [intOf]; omega
      | false =>
        have HD := Lib.hid hd
        have HNI := Lib.hid (show ¬ (k : Int) ∈ t.init by simpa using hd)
        clear hd
        have hcl := closeV_len n t.init t.ops (useNot t.ops k)
        by_cases hall : ∀ q ∈ t.goal, Reach t.init t.ops (useNot t.ops k) q
        · have HAll := Lib.hid hall
          clear hall
          have HL := Lib.hid (landTo_no (n := n) (t := t) (k := k) (fun h => h.elim HNI.out (fun h => h HAll.out)))
          go_wp2_with fail
          go_region_held3 (fun W => W.cell? ⟨w.heap.size, 0, none⟩ = some (.int .i64 t.facts) ∧ W.cell? ⟨w.heap.size, 1, none⟩ = some (.slice Ai t.init.length ci) ∧ W.cell? ⟨w.heap.size, 2, none⟩ = some (.slice Ag t.goal.length cg) ∧ W.cell? ⟨w.heap.size, 3, none⟩ = some (.slice Ao t.ops.length co)) (first | exact hK | go_keep) (first | (go_at_call 78; refine (contains_v _ _ _ _ _ false (hT.init.below (by repeat (first | with_reducible exact hBr | with_reducible apply bdrew | with_reducible apply bdrewN | with_reducible apply balloc | ((with_reducible refine bset ?_ ?_ _); rotate_left; (first | omega | (simp <;> omega)))))) hli HD.out).mono ?_; rintro e w9 ⟨rfl, rfl⟩) | (go_at_call 77; refine (without_any _ t Ai Ag Ao ci cg co (hT.below (by repeat (first | with_reducible exact hBr | with_reducible apply bdrew | with_reducible apply bdrewN | with_reducible apply balloc | ((with_reducible refine bset ?_ ?_ _); rotate_left; (first | omega | (simp <;> omega)))))) n HN.out HV.out (k : Int)).mono ?_; rintro e w3 ⟨g3, rfl, hg3, hA3, hB3⟩; have D3 := dstep w hB3 (by repeat (first | with_reducible exact hBr | with_reducible apply bdrew | with_reducible apply bdrewN | with_reducible apply balloc | ((with_reducible refine bset ?_ ?_ _); rotate_left; (first | omega | (simp <;> omega))))); have E3 := dstep w2 hB3 (by repeat (first | with_reducible exact Below.refl _ _ | with_reducible apply bdrew | with_reducible apply bdrewN | with_reducible apply balloc | ((with_reducible refine bset ?_ ?_ _); rotate_left; (first | omega | (simp <;> omega))))); have C3 := Cls.below (l := [(w.heap.size, 0, .int .i64 t.facts), (w.heap.size, 1, .slice Ai t.init.length ci), (w.heap.size, 2, .slice Ag t.goal.length cg), (w.heap.size, 3, .slice Ao t.ops.length co)]) hB3 (by simp [Cls, go_sem, Fr, yrw0, yrwp1, yrwp2]); have F3 := C3; simp only [Cls, and_true] at F3; have hK : w3.cell? ⟨w.heap.size, 0, none⟩ = some (.int .i64 t.facts) ∧ w3.cell? ⟨w.heap.size, 1, none⟩ = some (.slice Ai t.init.length ci) ∧ w3.cell? ⟨w.heap.size, 2, none⟩ = some (.slice Ag t.goal.length cg) ∧ w3.cell? ⟨w.heap.size, 3, none⟩ = some (.slice Ao t.ops.length co) := (by simp [F3])) | (go_at_call 79; refine (all_at _ _ _ _ n _ _ _ hA3.bools (hT.goal.below D3) hcl hlg hn12 HGOAL.out true (by rw [allIn_close HGOAL.out]; exact ⟨fun _ => HAll.out, fun _ => rfl⟩)).mono ?_; rintro e w4 ⟨rfl, hB4⟩; have D4 := dstep w hB4 (by repeat (first | with_reducible exact D3 | with_reducible apply bdrew | with_reducible apply bdrewN | with_reducible apply balloc | ((with_reducible refine bset ?_ ?_ _); rotate_left; (first | omega | (simp <;> omega))))); have E4 := dstep w2 hB4 (by repeat (first | with_reducible exact E3 | with_reducible apply bdrew | with_reducible apply bdrewN | with_reducible apply balloc | ((with_reducible refine bset ?_ ?_ _); rotate_left; (first | omega | (simp <;> omega))))); have C4 := C3.below hB4; have F4 := C4; simp only [Cls, and_true] at F4; have hK : w4.cell? ⟨w.heap.size, 0, none⟩ = some (.int .i64 t.facts) ∧ w4.cell? ⟨w.heap.size, 1, none⟩ = some (.slice Ai t.init.length ci) ∧ w4.cell? ⟨w.heap.size, 2, none⟩ = some (.slice Ag t.goal.length cg) ∧ w4.cell? ⟨w.heap.size, 3, none⟩ = some (.slice Ao t.ops.length co) := (by simp [F4])))
          have F4 := C4
          simp only [Cls, and_true] at F4
          have y4w0 : w.heap.size < w4.heap.size := C4.blk (b := w.heap.size) (k := 0) (v := .int .i64 t.facts) (by simp)
          have y4wp1 : w.heap.size < w4.heap.size + 1 := (by omega)
          have y4wp2 : w.heap.size < w4.heap.size + 1 + 1 := (by omega)
          go_wp2
          go_roundw
          case rel => exact ⟨k + 1, by omega, by go_num, by rw [HL.out]; exact hown.below (by repeat (first | with_reducible exact E4 | with_reducible apply bdrew | with_reducible apply bdrewN | with_reducible apply balloc | ((with_reducible refine bset ?_ ?_ _); rotate_left; (first | omega | (simp <;> omega))))), (by repeat (first | with_reducible exact D4 | with_reducible apply bdrew | with_reducible apply bdrewN | with_reducible apply balloc | ((with_reducible refine bset ?_ ?_ _); rotate_left; (first | omega | (simp <;> omega))))), (by simp [Cls, go_sem, F4, y4w0, y4wp1, y4wp2])⟩
          case measure => simp [intOf]; omega
        · have HAll := Lib.hid hall
          clear hall
          have HL := Lib.hid (landTo_yes (n := n) (t := t) (k := k) (.inr HAll.out))
          go_wp2_with fail
          go_region_held3 (fun W => W.cell? ⟨w.heap.size, 0, none⟩ = some (.int .i64 t.facts) ∧ W.cell? ⟨w.heap.size, 1, none⟩ = some (.slice Ai t.init.length ci) ∧ W.cell? ⟨w.heap.size, 2, none⟩ = some (.slice Ag t.goal.length cg) ∧ W.cell? ⟨w.heap.size, 3, none⟩ = some (.slice Ao t.ops.length co)) (first | exact hK | go_keep) (first | (go_at_call 78; refine (contains_v _ _ _ _ _ false (hT.init.below (by repeat (first | with_reducible exact hBr | with_reducible apply bdrew | with_reducible apply bdrewN | with_reducible apply balloc | ((with_reducible refine bset ?_ ?_ _); rotate_left; (first | omega | (simp <;> omega)))))) hli HD.out).mono ?_; rintro e w9 ⟨rfl, rfl⟩) | (go_at_call 77; refine (without_any _ t Ai Ag Ao ci cg co (hT.below (by repeat (first | with_reducible exact hBr | with_reducible apply bdrew | with_reducible apply bdrewN | with_reducible apply balloc | ((with_reducible refine bset ?_ ?_ _); rotate_left; (first | omega | (simp <;> omega)))))) n HN.out HV.out (k : Int)).mono ?_; rintro e w3 ⟨g3, rfl, hg3, hA3, hB3⟩; have D3 := dstep w hB3 (by repeat (first | with_reducible exact hBr | with_reducible apply bdrew | with_reducible apply bdrewN | with_reducible apply balloc | ((with_reducible refine bset ?_ ?_ _); rotate_left; (first | omega | (simp <;> omega))))); have E3 := dstep w2 hB3 (by repeat (first | with_reducible exact Below.refl _ _ | with_reducible apply bdrew | with_reducible apply bdrewN | with_reducible apply balloc | ((with_reducible refine bset ?_ ?_ _); rotate_left; (first | omega | (simp <;> omega))))); have C3 := Cls.below (l := [(w.heap.size, 0, .int .i64 t.facts), (w.heap.size, 1, .slice Ai t.init.length ci), (w.heap.size, 2, .slice Ag t.goal.length cg), (w.heap.size, 3, .slice Ao t.ops.length co)]) hB3 (by simp [Cls, go_sem, Fr, yrw0, yrwp1, yrwp2]); have F3 := C3; simp only [Cls, and_true] at F3; have hK : w3.cell? ⟨w.heap.size, 0, none⟩ = some (.int .i64 t.facts) ∧ w3.cell? ⟨w.heap.size, 1, none⟩ = some (.slice Ai t.init.length ci) ∧ w3.cell? ⟨w.heap.size, 2, none⟩ = some (.slice Ag t.goal.length cg) ∧ w3.cell? ⟨w.heap.size, 3, none⟩ = some (.slice Ao t.ops.length co) := (by simp [F3])) | (go_at_call 79; refine (all_at _ _ _ _ n _ _ _ hA3.bools (hT.goal.below D3) hcl hlg hn12 HGOAL.out false (by rw [allIn_close HGOAL.out]; exact ⟨fun h => (by cases h), fun h => absurd h HAll.out⟩)).mono ?_; rintro e w4 ⟨rfl, hB4⟩; have D4 := dstep w hB4 (by repeat (first | with_reducible exact D3 | with_reducible apply bdrew | with_reducible apply bdrewN | with_reducible apply balloc | ((with_reducible refine bset ?_ ?_ _); rotate_left; (first | omega | (simp <;> omega))))); have E4 := dstep w2 hB4 (by repeat (first | with_reducible exact E3 | with_reducible apply bdrew | with_reducible apply bdrewN | with_reducible apply balloc | ((with_reducible refine bset ?_ ?_ _); rotate_left; (first | omega | (simp <;> omega))))); have C4 := C3.below hB4; have F4 := C4; simp only [Cls, and_true] at F4; have hK : w4.cell? ⟨w.heap.size, 0, none⟩ = some (.int .i64 t.facts) ∧ w4.cell? ⟨w.heap.size, 1, none⟩ = some (.slice Ai t.init.length ci) ∧ w4.cell? ⟨w.heap.size, 2, none⟩ = some (.slice Ag t.goal.length cg) ∧ w4.cell? ⟨w.heap.size, 3, none⟩ = some (.slice Ao t.ops.length co) := (by simp [F4])))
          have F4 := C4
          simp only [Cls, and_true] at F4
          have y4w0 : w.heap.size < w4.heap.size := C4.blk (b := w.heap.size) (k := 0) (v := .int .i64 t.facts) (by simp)
          have y4wp1 : w.heap.size < w4.heap.size + 1 := (by omega)
          have y4wp2 : w.heap.size < w4.heap.size + 1 + 1 := (by omega)
          have hown4 := hown.below E4
          go_wp2_with (at_builtin; go_must (refine wpList_push rfl (.tmp 23) (.tmp 25) rfl w [(w.heap.size, 0, .int .i64 t.facts), (w.heap.size, 1, .slice Ai t.init.length ci), (w.heap.size, 2, .slice Ag t.goal.length cg), (w.heap.size, 3, .slice Ao t.ops.length co)] (w.heap.size + 1) u3 _ ((k : Int)) rfl (OwnI.below hown4 ?p1) ⟨w4.heap.size, 0, none⟩ 1 rfl ?p2 hlen ?p3 ?p4 ?p5 ?p6 ?p7 ?_; (case p1 => repeat (first | with_reducible exact Below.refl _ _ | with_reducible apply bdrew | with_reducible apply bdrewN | with_reducible apply balloc | ((with_reducible refine bset ?_ ?_ _); rotate_left; (first | omega | (simp <;> omega))))); (case p2 => simp [Cls, go_sem, F4, y4w0, y4wp1, y4wp2]); (case p3 => (first | omega | (simp <;> omega))); (case p4 => (first | omega | (simp <;> omega))); (case p5 => repeat (first | with_reducible exact D4 | with_reducible apply bdrew | with_reducible apply bdrewN | with_reducible apply balloc | ((with_reducible refine bset ?_ ?_ _); rotate_left; (first | omega | (simp <;> omega))))); (case p6 => simp [Cls, go_sem, F4, y4w0, y4wp1, y4wp2]); (case p7 => (simp <;> omega)); intro v5 w5 o5 D5 C5 sz5; have d5s := D5.size; have F5 := C5; simp only [Cls, and_true] at F5; have y5w0 : w.heap.size < w5.heap.size := C5.blk (b := w.heap.size) (k := 0) (v := .int .i64 t.facts) (by simp); have y5wp1 : w.heap.size < w5.heap.size + 1 := (by omega); have y5wp2 : w.heap.size < w5.heap.size + 1 + 1 := (by omega)))
          go_roundw
          case rel => exact ⟨k + 1, by omega, by go_num, by rw [← HL.out]; exact o5, (by repeat (first | with_reducible exact D5 | with_reducible apply bdrew | with_reducible apply bdrewN | with_reducible apply balloc | ((with_reducible refine bset ?_ ?_ _); rotate_left; (first | omega | (simp <;> omega))))), (by simp [Cls, go_sem, F5, y5w0, y5wp1, y5wp2])⟩
          case measure => simp [intOf]; omega
    · have hltf : ¬ (k : Int) < t.facts := by have := HN.out; omega
      obtain rfl : k = n := by omega
      go_wp2
      go_ret
      exact ⟨_, rfl, OwnI.mono hown (by omega), by repeat (first | with_reducible exact hBr | with_reducible apply bdrew | with_reducible apply bdrewN | with_reducible apply balloc | ((with_reducible refine bset ?_ ?_ _); rotate_left; (first | omega | (simp <;> omega))))⟩


end Go.Proofs.Ytiaokmofoaeifaa
