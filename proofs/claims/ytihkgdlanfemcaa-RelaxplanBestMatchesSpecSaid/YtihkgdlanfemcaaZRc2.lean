/-
  helmsmanref3.Relax: the task without deletions.
-/
import Derived.Test.YtihkgdlanfemcaaZRc1
import Derived.Test.YtihkgdlanfemcaaZCp4
namespace Go.Proofs.Ytihkgdlanfemcaa
open Go.RowKit
set_option linter.unusedVariables false
set_option linter.unusedSimpArgs false

set_option maxRecDepth 100000 in
set_option maxHeartbeats 2000000 in
theorem rrelax_any (w : World) (t : TaskV) (Ai Ag Ao : Option Addr) (ci cg co : Nat) (hR : TaskRead w Ai Ag Ao ci cg co t) (hv : Valid t) :
    Calls Try.prog 36 #[.agg #[.int .i64 t.facts, .slice Ai t.init.length ci, .slice Ag t.goal.length cg, .slice Ao t.ops.length co]] w fun e w' => ∃ u Ai' ci' Ag' cg' Ao' co', Hid (u = rxT t) ∧ e = .returned (.agg #[.int .i64 u.facts, .slice Ai' u.init.length ci', .slice Ag' u.goal.length cg', .slice Ao' u.ops.length co']) ∧ TaskMem w' Ai' Ag' Ao' u ∧ Below w.heap.size w w' := by
  have hT := hR.mem
  have h40 := hv.nops
  have hl1 : t.init.length ≤ 1000000000000 := by have := SetP.length hv.init hv.f0; have := hv.f1; omega
  have hl2 : t.goal.length ≤ 1000000000000 := by have := SetP.length hv.goal hv.f0; have := hv.f1; omega
  have HOL := Lib.hid (valid_lens hv)
  clear hv
  go_enter Try.func36, Try.ntmps36
  go_wp2_with fail
  refine (rclone_any _ t Ai Ag Ao ci cg co (hR.below (by repeat (first | with_reducible exact Below.refl _ _ | with_reducible apply bdrew | with_reducible apply bdrewN | with_reducible apply balloc | ((with_reducible refine bset ?_ ?_ _); rotate_left; (first | omega | (simp <;> omega)))))) hl1 hl2 HOL.out (by omega)).mono ?_
  rintro e w1 ⟨A1, c1, A2, c2, A3, c3, rfl, hF1, hF2, hO, hdis, hB1⟩
  have D1 := dstep w hB1 (by repeat (first | with_reducible exact Below.refl _ _ | with_reducible apply bdrew | with_reducible apply bdrewN | with_reducible apply balloc | ((with_reducible refine bset ?_ ?_ _); rotate_left; (first | omega | (simp <;> omega)))))
  have d1s := D1.size
  have C1 := Cls.below (l := [(w.heap.size, 0, .int .i64 t.facts), (w.heap.size, 1, .slice Ai t.init.length ci), (w.heap.size, 2, .slice Ag t.goal.length cg), (w.heap.size, 3, .slice Ao t.ops.length co), (w.heap.size + 1, 0, .int .i64 0), (w.heap.size + 1, 1, .slice none 0 0), (w.heap.size + 1, 2, .slice none 0 0), (w.heap.size + 1, 3, .slice none 0 0)]) hB1 (by simp [Cls, go_sem])
  have F1 := C1
  simp only [Cls, and_true] at F1
  have y1w1 : w.heap.size + 1 < w1.heap.size := C1.blk (b := w.heap.size + 1) (k := 0) (v := .int .i64 0) (by simp)
  have y1w0 : w.heap.size < w1.heap.size := (by omega)
  have y1wp1 : w.heap.size < w1.heap.size + 1 := (by omega)
  have y1wp2 : w.heap.size < w1.heap.size + 1 + 1 := (by omega)
  have hdl := fun k hk => OwnEs.lt hO k hk
  go_wp2_with fail
  go_loopw [4] (fun i wr => ∃ k : Nat, k ≤ t.ops.length ∧ i = .int .i64 k ∧ OwnOps (w.heap.size + 1 + 1) wr (.slice A3 t.ops.length c3) (mapTo rxO k t.ops) ∧ Fresh (w.heap.size + 1 + 1) wr A1 c1 t.init ∧ Fresh (w.heap.size + 1 + 1) wr A2 c2 t.goal ∧ w1.heap.size < wr.heap.size ∧ Below w.heap.size w wr ∧ Cls wr [(w.heap.size, 0, .int .i64 t.facts), (w.heap.size, 1, .slice Ai t.init.length ci), (w.heap.size, 2, .slice Ag t.goal.length cg), (w.heap.size, 3, .slice Ao t.ops.length co), (w.heap.size + 1, 0, .int .i64 0), (w.heap.size + 1, 1, .slice none 0 0), (w.heap.size + 1, 2, .slice none 0 0), (w.heap.size + 1, 3, .slice none 0 0), (w1.heap.size, 0, .int .i64 t.facts), (w1.heap.size, 1, .slice A1 t.init.length c1), (w1.heap.size, 2, .slice A2 t.goal.length c2), (w1.heap.size, 3, .slice A3 t.ops.length c3)]) (fun i _ => t.ops.length - (intOf i).toNat)
  case atStart => exact ⟨0, Nat.zero_le _, rfl, by rw [mapTo_zero]; exact (hO.mono (by (first | omega | (simp <;> omega)))).below (by repeat (first | with_reducible exact Below.refl _ _ | with_reducible apply bdrew | with_reducible apply bdrewN | with_reducible apply balloc | ((with_reducible refine bset ?_ ?_ _); rotate_left; (first | omega | (simp <;> omega))))), (hF1.mono (by (first | omega | (simp <;> omega)))).below (by repeat (first | with_reducible exact Below.refl _ _ | with_reducible apply bdrew | with_reducible apply bdrewN | with_reducible apply balloc | ((with_reducible refine bset ?_ ?_ _); rotate_left; (first | omega | (simp <;> omega))))), (hF2.mono (by (first | omega | (simp <;> omega)))).below (by repeat (first | with_reducible exact Below.refl _ _ | with_reducible apply bdrew | with_reducible apply bdrewN | with_reducible apply balloc | ((with_reducible refine bset ?_ ?_ _); rotate_left; (first | omega | (simp <;> omega))))), (by simp), (by repeat (first | with_reducible exact D1 | with_reducible apply bdrew | with_reducible apply bdrewN | with_reducible apply balloc | ((with_reducible refine bset ?_ ?_ _); rotate_left; (first | omega | (simp <;> omega))))), (by simp [Cls, go_sem, F1, y1w1, y1w0, y1wp1, y1wp2])⟩
  case round =>
    obtain ⟨k, hk, rfl, hown, hX1, hX2, hsz, hBr, hCr⟩ := hrel
    obtain ⟨w3, rfl⟩ : ∃ wo : World, wo = wr := ⟨_, rfl⟩
    have drs := hBr.size
    have Fr := hCr
    simp only [Cls, and_true] at Fr
    have yrw1 : w.heap.size + 1 < w3.heap.size := hCr.blk (b := w.heap.size + 1) (k := 0) (v := .int .i64 0) (by simp)
    have yrw0 : w.heap.size < w3.heap.size := (by omega)
    have yrwp1 : w.heap.size < w3.heap.size + 1 := (by omega)
    have yrwp2 : w.heap.size < w3.heap.size + 1 + 1 := (by omega)
    have yrw10 : w1.heap.size < w3.heap.size := hCr.blk (b := w1.heap.size) (k := 0) (v := .int .i64 t.facts) (by simp)
    have yrw1p1 : w1.heap.size < w3.heap.size + 1 := (by omega)
    have yrw1p2 : w1.heap.size < w3.heap.size + 1 + 1 := (by omega)
    by_cases hlt : k < t.ops.length
    · have hltm : k < (mapTo rxO k t.ops).length := by rw [mapTo_len]; exact hlt
      obtain ⟨g, cs, a, rfl, hg1, hg2, ha, hcl, hcs, hpa⟩ := OwnEs.at_ hown hltm
      obtain ⟨q0, q1, q2, q3, q4, q5, rfl, p0, p1, p2⟩ := hpa
      have hc2 : w3.cell? ⟨g, k * 4 + 2, none⟩ = some (.slice q4 a.del.length q5) := hcs 2 _ rfl
      have hfr : w3.frozen? ⟨g, k * 4 + 2, none⟩ = false := OwnEs.free (A := none) hown _
      have hadd : ((⟨g, 0, none⟩ : Addr).add (k * 4)) = ⟨g, k * 4, none⟩ := add_off g _
      have hset := Lib.hid (OwnOps.set_del hown k hltm)
      have hgd := hdis g rfl
      have hgl := hdl g rfl
      have hgw2 : g < w1.heap.size := hgl.2
      have HX1 := Lib.hid (hX1.away (p := ⟨g, k * 4 + 2, none⟩) hgd.1 (.slice none 0 0))
      have HX2 := Lib.hid (hX2.away (p := ⟨g, k * 4 + 2, none⟩) hgd.2 (.slice none 0 0))
      have HMS := Lib.hid (show (mapTo rxO k t.ops).set k (rxO (mapTo rxO k t.ops)[k]) = mapTo rxO (k + 1) t.ops by
        have := mapTo_at rxO hlt
        rw [List.getElem?_eq_getElem hltm] at this
        injection this with this
        rw [this]; exact mapTo_set rxO hlt)
      clear hcs hdis hdl hcl
      go_wp2_with fail
      go_roundw
      case rel => exact ⟨k + 1, by omega, by go_num, by rw [← HMS.out]; exact hset.out, HX1.out, HX2.out, (by simpa using hsz), (by repeat (first | with_reducible exact hBr | with_reducible apply bdrew | with_reducible apply bdrewN | with_reducible apply balloc | ((with_reducible refine bset ?_ ?_ _); rotate_left; (first | omega | (simp <;> omega))))), (by simp [Cls, go_sem, Fr, yrw1, yrw0, yrwp1, yrwp2, yrw10, yrw1p1, yrw1p2])⟩
      case measure => simp [intOf]; omega
    · have hke := Lib.hid (mapTo_all rxO (xs := t.ops) (k := k) (by omega))
      rw [hke.out] at hown
      have hon : lenOk (rxT t).ops.length := by simp [rxT]; exact hT.lops
      have HTM : OwnT (w.heap.size + 1 + 1) w3 A1 A2 A3 c1 c2 c3 (rxT t) := ⟨hX1, hX2, by simpa [rxT] using hown⟩
      have hb1 : w.heap.size + 1 < w.heap.size + 1 + 1 := by omega
      go_wp2_with fail
      refine bodyPost_ret (v := .agg #[.int .i64 t.facts, .slice A1 t.init.length c1, .slice A2 t.goal.length c2, .slice A3 t.ops.length c3]) ?_ rfl ⟨rxT t, A1, c1, A2, c2, A3, c3, Lib.hid rfl, (by simp [rxT]), OwnT.mem (base := w.heap.size + 1 + 1) ((((HTM.far (p := ⟨w.heap.size + 1, 0, none⟩) hb1 _).far (p := ⟨w.heap.size + 1, 1, none⟩) hb1 _).far (p := ⟨w.heap.size + 1, 2, none⟩) hb1 _).far (p := ⟨w.heap.size + 1, 3, none⟩) hb1 _) (rx_lens (fun o ho => by have := HOL.out o ho; simp only [lenOk]; omega)) hT.linit hT.lgoal hon, by repeat (first | with_reducible exact hBr | with_reducible apply bdrew | with_reducible apply bdrewN | with_reducible apply balloc | ((with_reducible refine bset ?_ ?_ _); rotate_left; (first | omega | (simp <;> omega))))⟩
      simp [results, Try.results36, go_sem, Fr, yrw1, yrw0, yrwp1, yrwp2, yrw10, yrw1p1, yrw1p2]


end Go.Proofs.Ytihkgdlanfemcaa
