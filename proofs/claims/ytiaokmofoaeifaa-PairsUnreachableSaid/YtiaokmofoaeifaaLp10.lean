/-
  Facts that cannot be reached without deletions have infinite values and are exclusive with all others.
-/
import Derived.Test.YtiaokmofoaeifaaPt6
import Derived.Test.YtiaokmofoaeifaaNver
import Derived.Test.YtiaokmofoaeifaaBlaw
import Derived.Test.YtiaokmofoaeifaaMA
namespace Go.Proofs.Ytiaokmofoaeifaa
open Go.RowKit
set_option linter.unusedVariables false
set_option linter.unusedSimpArgs false

theorem PBest.reach {n : Nat} {st : List Int} {ops : List OpV} {V : Int → Int → Int} (h : PBest n st ops V) (hops : OpsIn n ops) {p q : Int} (hp : Rng n p) (hq : Rng n q) (hlt : V p q < 1000000000) : Reach st ops (fun _ => true) p ∧ Reach st ops (fun _ => true) q := by
  let U : Int → Int → Int := fun a b => @ite _ (Reach st ops (fun _ => true) a ∧ Reach st ops (fun _ => true) b) (Classical.propDecidable _) 0 1000000000
  have uy : ∀ a b, Reach st ops (fun _ => true) a ∧ Reach st ops (fun _ => true) b → U a b = 0 := fun a b h => if_pos h
  have un : ∀ a b, ¬ (Reach st ops (fun _ => true) a ∧ Reach st ops (fun _ => true) b) → U a b = 1000000000 := fun a b h => if_neg h
  have uin : ∀ a b, InV (U a b) := fun a b => by
    by_cases h : Reach st ops (fun _ => true) a ∧ Reach st ops (fun _ => true) b
    · rw [uy a b h]; unfold InV; omega
    · rw [un a b h]; unfold InV; omega
  have key : PFix n st ops U := by
    refine ⟨fun a b _ _ => uin a b, fun a ha b hb => uy a b ⟨.init ha, .init hb⟩, fun o ho a b l ha hb harc => ?_⟩
    have hoo := hops o ho
    have hlr := harc.rng hoo.1 ha hb
    have hvin := valP_in (V := U) (fun p q _ _ => uin p q) hlr
    by_cases hall : ∀ x ∈ l, Reach st ops (fun _ => true) x
    · obtain ⟨i, hi⟩ := List.getElem?_of_mem ho
      have hr : ∀ x, x ∈ o.add ∨ x ∈ l → Reach st ops (fun _ => true) x := fun x hx => by
        rcases hx with e | e
        · exact .step hi rfl (fun q hq => hall q (harc.sub q hq)) e
        · exact hall x e
      rw [uy a b ⟨hr a harc.ends.1, hr b harc.ends.2⟩]
      exact (plusV_in hvin (costIn hops ho)).1
    · obtain ⟨x, hx, hn⟩ : ∃ x ∈ l, ¬ Reach st ops (fun _ => true) x := Classical.byContradiction fun hc => hall fun x hx => Classical.byContradiction fun h => hc ⟨x, hx, h⟩
      have h1 : valP U l = 1000000000 := by
        have h2 := valP_ge (V := U) hx hx
        rw [un x x (fun h => hn h.1)] at h2
        have := hvin.2
        omega
      rw [(plusV_inf_iff hvin (costIn hops ho)).2 (.inl h1)]
      exact (uin a b).2
  have h1 := h.great U key p q hp hq
  refine Classical.byContradiction fun hc => ?_
  rw [un p q hc] at h1
  omega
set_option maxRecDepth 100000 in
set_option maxHeartbeats 1000000 in
theorem walk_punr_1 (w : World) (t : TaskV) (Ai Ag Ao : Option Addr) (ci cg co : Nat) (hR : TaskRead w Ai Ag Ao ci cg co t) (h : ¬ (tfault t).1 = 0) :
    Calls Try.prog 10 #[.agg #[.int .i64 t.facts, .slice Ai t.init.length ci, .slice Ag t.goal.length cg, .slice Ao t.ops.length co]] w fun e w' => e = .returned (.bool true) ∧ Below w.heap.size w w' := by
  have h' : ¬ (sfault t t.init).1 = 0 := by rw [sfault_task h]; exact h
  have e' : sfault t t.init = tfault t := sfault_task h
  have N := bb_no h
  have N' := bn_yes h
  have hT := hR.mem
  have hli := hT.linit
  have HPV := Lib.hid (fun (w0 : World) (hT0 : TaskMem w0 Ai Ag Ao t) => by have q := pvalues_1 w0 t Ai Ag Ao ci cg co hT0 Ai ci t.init hT0.init hli h'; rw [e'] at q; exact q)
  have HRE := Lib.hid (fun (w0 : World) (hT0 : TaskMem w0 Ai Ag Ao t) => by have q := reachable_1 w0 t Ai Ag Ao ci cg co hT0 Ai ci t.init hT0.init hli h'; rw [e'] at q; exact q)
  clear e'
  go_enter Try.func10, Try.ntmps10
  go_wp2_with fail
  refine (pexample_any _).mono ?_
  rintro e w1 ⟨rfl, hB1⟩
  have D1 := dstep w hB1 (by repeat (first | with_reducible exact Below.refl _ _ | with_reducible apply bdrew | with_reducible apply bdrewN | with_reducible apply balloc | ((with_reducible refine bset ?_ ?_ _); rotate_left; (first | omega | (simp <;> omega)))))
  have d1s := D1.size
  have C1 := Cls.below (l := [(w.heap.size, 0, .int .i64 t.facts), (w.heap.size, 1, .slice Ai t.init.length ci), (w.heap.size, 2, .slice Ag t.goal.length cg), (w.heap.size, 3, .slice Ao t.ops.length co)]) hB1 (by simp [Cls, go_sem])
  have F1 := C1
  simp only [Cls, and_true] at F1
  have y1w0 : w.heap.size < w1.heap.size := C1.blk (b := w.heap.size) (k := 0) (v := .int .i64 t.facts) (by simp)
  have y1wp1 : w.heap.size < w1.heap.size + 1 := (by omega)
  have y1wp2 : w.heap.size < w1.heap.size + 1 + 1 := (by omega)
  go_wp2_with fail
  refine (HPV.out _ (hT.below (by repeat (first | with_reducible exact D1 | with_reducible apply bdrew | with_reducible apply bdrewN | with_reducible apply balloc | ((with_reducible refine bset ?_ ?_ _); rotate_left; (first | omega | (simp <;> omega))))))).mono ?_
  rintro e w2 ⟨rfl, hB2⟩
  have D2 := dstep w hB2 (by repeat (first | with_reducible exact D1 | with_reducible apply bdrew | with_reducible apply bdrewN | with_reducible apply balloc | ((with_reducible refine bset ?_ ?_ _); rotate_left; (first | omega | (simp <;> omega)))))
  have d2s := D2.size
  have C2 := Cls.below (l := [(w.heap.size, 0, .int .i64 t.facts), (w.heap.size, 1, .slice Ai t.init.length ci), (w.heap.size, 2, .slice Ag t.goal.length cg), (w.heap.size, 3, .slice Ao t.ops.length co)]) hB2 (by simp [Cls, go_sem, F1, y1w0, y1wp1, y1wp2])
  have F2 := C2
  simp only [Cls, and_true] at F2
  have y2w0 : w.heap.size < w2.heap.size := C2.blk (b := w.heap.size) (k := 0) (v := .int .i64 t.facts) (by simp)
  have y2wp1 : w.heap.size < w2.heap.size + 1 := (by omega)
  have y2wp2 : w.heap.size < w2.heap.size + 1 + 1 := (by omega)
  go_wp2_with fail
  refine (pexcl_1 _ t Ai Ag Ao ci cg co (hT.below (by repeat (first | with_reducible exact D2 | with_reducible apply bdrew | with_reducible apply bdrewN | with_reducible apply balloc | ((with_reducible refine bset ?_ ?_ _); rotate_left; (first | omega | (simp <;> omega)))))) h).mono ?_
  rintro e w3 ⟨rfl, hB3⟩
  have D3 := dstep w hB3 (by repeat (first | with_reducible exact D2 | with_reducible apply bdrew | with_reducible apply bdrewN | with_reducible apply balloc | ((with_reducible refine bset ?_ ?_ _); rotate_left; (first | omega | (simp <;> omega)))))
  have d3s := D3.size
  have C3 := Cls.below (l := [(w.heap.size, 0, .int .i64 t.facts), (w.heap.size, 1, .slice Ai t.init.length ci), (w.heap.size, 2, .slice Ag t.goal.length cg), (w.heap.size, 3, .slice Ao t.ops.length co), (w2.heap.size, 0, .int .i64 (tfault t).1), (w2.heap.size, 1, .int .i64 (tfault t).2)]) hB3 (by simp [Cls, go_sem, F2, y2w0, y2wp1, y2wp2])
  have F3 := C3
  simp only [Cls, and_true] at F3
  have y3w0 : w.heap.size < w3.heap.size := C3.blk (b := w.heap.size) (k := 0) (v := .int .i64 t.facts) (by simp)
  have y3wp1 : w.heap.size < w3.heap.size + 1 := (by omega)
  have y3wp2 : w.heap.size < w3.heap.size + 1 + 1 := (by omega)
  have y3w20 : w2.heap.size < w3.heap.size := C3.blk (b := w2.heap.size) (k := 0) (v := .int .i64 (tfault t).1) (by simp)
  have y3w2p1 : w2.heap.size < w3.heap.size + 1 := (by omega)
  have y3w2p2 : w2.heap.size < w3.heap.size + 1 + 1 := (by omega)
  go_wp2_with fail
  refine (HRE.out _ (hT.below (by repeat (first | with_reducible exact D3 | with_reducible apply bdrew | with_reducible apply bdrewN | with_reducible apply balloc | ((with_reducible refine bset ?_ ?_ _); rotate_left; (first | omega | (simp <;> omega))))))).mono ?_
  rintro e w4 ⟨rfl, hB4⟩
  have D4 := dstep w hB4 (by repeat (first | with_reducible exact D3 | with_reducible apply bdrew | with_reducible apply bdrewN | with_reducible apply balloc | ((with_reducible refine bset ?_ ?_ _); rotate_left; (first | omega | (simp <;> omega)))))
  have d4s := D4.size
  have C4 := Cls.below (l := [(w.heap.size, 0, .int .i64 t.facts), (w.heap.size, 1, .slice Ai t.init.length ci), (w.heap.size, 2, .slice Ag t.goal.length cg), (w.heap.size, 3, .slice Ao t.ops.length co), (w2.heap.size, 0, .int .i64 (tfault t).1), (w2.heap.size, 1, .int .i64 (tfault t).2), (w3.heap.size, 0, .int .i64 (tfault t).1), (w3.heap.size, 1, .int .i64 (tfault t).2)]) hB4 (by simp [Cls, go_sem, F3, y3w0, y3wp1, y3wp2, y3w20, y3w2p1, y3w2p2])
  have F4 := C4
  simp only [Cls, and_true] at F4
  have y4w0 : w.heap.size < w4.heap.size := C4.blk (b := w.heap.size) (k := 0) (v := .int .i64 t.facts) (by simp)
  have y4wp1 : w.heap.size < w4.heap.size + 1 := (by omega)
  have y4wp2 : w.heap.size < w4.heap.size + 1 + 1 := (by omega)
  have y4w20 : w2.heap.size < w4.heap.size := C4.blk (b := w2.heap.size) (k := 0) (v := .int .i64 (tfault t).1) (by simp)
  have y4w2p1 : w2.heap.size < w4.heap.size + 1 := (by omega)
  have y4w2p2 : w2.heap.size < w4.heap.size + 1 + 1 := (by omega)
  have y4w30 : w3.heap.size < w4.heap.size := C4.blk (b := w3.heap.size) (k := 0) (v := .int .i64 (tfault t).1) (by simp)
  have y4w3p1 : w3.heap.size < w4.heap.size + 1 := (by omega)
  have y4w3p2 : w3.heap.size < w4.heap.size + 1 + 1 := (by omega)
  go_wp2
  go_ret
  exact ⟨by simp, by repeat (first | with_reducible exact D4 | with_reducible apply bdrew | with_reducible apply bdrewN | with_reducible apply balloc | ((with_reducible refine bset ?_ ?_ _); rotate_left; (first | omega | (simp <;> omega))))⟩

set_option maxRecDepth 100000 in
set_option maxHeartbeats 4000000 in
theorem walk_punr_2 (w : World) (t : TaskV) (Ai Ag Ao : Option Addr) (ci cg co : Nat) (hR : TaskRead w Ai Ag Ao ci cg co t) (n : Nat) (hn : t.facts = n) (hv : Valid t) :
    Calls Try.prog 10 #[.agg #[.int .i64 t.facts, .slice Ai t.init.length ci, .slice Ag t.goal.length cg, .slice Ao t.ops.length co]] w fun e w' => e = .returned (.bool true) ∧ Below w.heap.size w w' := by
  have hT := hR.mem
  have hn24 : n ≤ 24 := by have := hv.f1; omega
  have HO := Lib.hid (opsIn_of hv hn)
  have HN := Lib.hid hn
  have HV := Lib.hid hv
  have H2 := Lib.hid hv.init
  have hli := hT.linit
  rw [hn]
  clear hv hn
  go_enter Try.func10, Try.ntmps10
  go_wp2_with fail
  refine (pexample_any _).mono ?_
  rintro e w1 ⟨rfl, hB1⟩
  have D1 := dstep w hB1 (by repeat (first | with_reducible exact Below.refl _ _ | with_reducible apply bdrew | with_reducible apply bdrewN | with_reducible apply balloc | ((with_reducible refine bset ?_ ?_ _); rotate_left; (first | omega | (simp <;> omega)))))
  have d1s := D1.size
  have C1 := Cls.below (l := [(w.heap.size, 0, .int .i64 (n : Int)), (w.heap.size, 1, .slice Ai t.init.length ci), (w.heap.size, 2, .slice Ag t.goal.length cg), (w.heap.size, 3, .slice Ao t.ops.length co)]) hB1 (by simp [Cls, go_sem])
  have F1 := C1
  simp only [Cls, and_true] at F1
  have y1w0 : w.heap.size < w1.heap.size := C1.blk (b := w.heap.size) (k := 0) (v := .int .i64 (n : Int)) (by simp)
  have y1wp1 : w.heap.size < w1.heap.size + 1 := (by omega)
  have y1wp2 : w.heap.size < w1.heap.size + 1 + 1 := (by omega)
  go_wp2_with fail
  refine (pvalues_2n _ t Ai Ag Ao ci cg co (hT.below (by repeat (first | with_reducible exact D1 | with_reducible apply bdrew | with_reducible apply bdrewN | with_reducible apply balloc | ((with_reducible refine bset ?_ ?_ _); rotate_left; (first | omega | (simp <;> omega)))))) (hR.ops.below (by repeat (first | with_reducible exact D1 | with_reducible apply bdrew | with_reducible apply bdrewN | with_reducible apply balloc | ((with_reducible refine bset ?_ ?_ _); rotate_left; (first | omega | (simp <;> omega)))))) _ _ _ (hT.init.below (by repeat (first | with_reducible exact D1 | with_reducible apply bdrew | with_reducible apply bdrewN | with_reducible apply balloc | ((with_reducible refine bset ?_ ?_ _); rotate_left; (first | omega | (simp <;> omega)))))) hli n HN.out HV.out H2.out).mono ?_
  rintro e w2 ⟨g2, V, rfl, hTA, hbest, hB2⟩
  have D2 := dstep w hB2 (by repeat (first | with_reducible exact D1 | with_reducible apply bdrew | with_reducible apply bdrewN | with_reducible apply balloc | ((with_reducible refine bset ?_ ?_ _); rotate_left; (first | omega | (simp <;> omega)))))
  have d2s := D2.size
  have C2 := Cls.below (l := [(w.heap.size, 0, .int .i64 (n : Int)), (w.heap.size, 1, .slice Ai t.init.length ci), (w.heap.size, 2, .slice Ag t.goal.length cg), (w.heap.size, 3, .slice Ao t.ops.length co)]) hB2 (by simp [Cls, go_sem, F1, y1w0, y1wp1, y1wp2])
  have F2 := C2
  simp only [Cls, and_true] at F2
  have y2w0 : w.heap.size < w2.heap.size := C2.blk (b := w.heap.size) (k := 0) (v := .int .i64 (n : Int)) (by simp)
  have y2wp1 : w.heap.size < w2.heap.size + 1 := (by omega)
  have y2wp2 : w.heap.size < w2.heap.size + 1 + 1 := (by omega)
  have HBE := Lib.hid hbest
  clear hbest
  go_wp2_with fail
  refine (pexcl_2n _ t Ai Ag Ao ci cg co (hT.below (by repeat (first | with_reducible exact D2 | with_reducible apply bdrew | with_reducible apply bdrewN | with_reducible apply balloc | ((with_reducible refine bset ?_ ?_ _); rotate_left; (first | omega | (simp <;> omega)))))) (hR.ops.below (by repeat (first | with_reducible exact D2 | with_reducible apply bdrew | with_reducible apply bdrewN | with_reducible apply balloc | ((with_reducible refine bset ?_ ?_ _); rotate_left; (first | omega | (simp <;> omega)))))) n HN.out HV.out).mono ?_
  rintro e w3 ⟨v3, V3, rfl, ⟨bX, hbX, ho3⟩, hbest, hB3⟩
  have D3 := dstep w hB3 (by repeat (first | with_reducible exact D2 | with_reducible apply bdrew | with_reducible apply bdrewN | with_reducible apply balloc | ((with_reducible refine bset ?_ ?_ _); rotate_left; (first | omega | (simp <;> omega)))))
  have d3s := D3.size
  have Ew2_3 := dstep w2 hB3 (by repeat (first | with_reducible exact Below.refl _ _ | with_reducible apply bdrew | with_reducible apply bdrewN | with_reducible apply balloc | ((with_reducible refine bset ?_ ?_ _); rotate_left; (first | omega | (simp <;> omega)))))
  have C3 := Cls.below (l := [(w.heap.size, 0, .int .i64 (n : Int)), (w.heap.size, 1, .slice Ai t.init.length ci), (w.heap.size, 2, .slice Ag t.goal.length cg), (w.heap.size, 3, .slice Ao t.ops.length co), (w2.heap.size, 0, .int .i64 0), (w2.heap.size, 1, .int .i64 0)]) hB3 (by simp [Cls, go_sem, F2, y2w0, y2wp1, y2wp2])
  have F3 := C3
  simp only [Cls, and_true] at F3
  have y3w0 : w.heap.size < w3.heap.size := C3.blk (b := w.heap.size) (k := 0) (v := .int .i64 (n : Int)) (by simp)
  have y3wp1 : w.heap.size < w3.heap.size + 1 := (by omega)
  have y3wp2 : w.heap.size < w3.heap.size + 1 + 1 := (by omega)
  have y3w20 : w2.heap.size < w3.heap.size := C3.blk (b := w2.heap.size) (k := 0) (v := .int .i64 0) (by simp)
  have y3w2p1 : w2.heap.size < w3.heap.size + 1 := (by omega)
  have y3w2p2 : w2.heap.size < w3.heap.size + 1 + 1 := (by omega)
  have HBE3 := Lib.hid hbest
  clear hbest
  obtain ⟨ps, hps⟩ : ∃ ps, Hid (exTo n V3 n = ps) := ⟨_, Lib.hid rfl⟩
  have hpl : ps.length ≤ 1000000 := by
    have h1 := exTo_len n V3 n
    have h2 := Nat.mul_le_mul hn24 hn24
    rw [hps.out] at h1; omega
  rw [hps.out] at ho3
  obtain ⟨A3, c3, rfl⟩ := OwnEs.form ho3
  go_wp2_with fail
  refine (reachable_2n _ t Ai Ag Ao ci cg co (hT.below (by repeat (first | with_reducible exact D3 | with_reducible apply bdrew | with_reducible apply bdrewN | with_reducible apply balloc | ((with_reducible refine bset ?_ ?_ _); rotate_left; (first | omega | (simp <;> omega)))))) _ _ _ (hT.init.below (by repeat (first | with_reducible exact D3 | with_reducible apply bdrew | with_reducible apply bdrewN | with_reducible apply balloc | ((with_reducible refine bset ?_ ?_ _); rotate_left; (first | omega | (simp <;> omega)))))) hli n HN.out HV.out H2.out).mono ?_
  rintro e w4 ⟨v4, rfl, ho4, hB4⟩
  have D4 := dstep w hB4 (by repeat (first | with_reducible exact D3 | with_reducible apply bdrew | with_reducible apply bdrewN | with_reducible apply balloc | ((with_reducible refine bset ?_ ?_ _); rotate_left; (first | omega | (simp <;> omega)))))
  have d4s := D4.size
  have Ew2_4 := dstep w2 hB4 (by repeat (first | with_reducible exact Ew2_3 | with_reducible apply bdrew | with_reducible apply bdrewN | with_reducible apply balloc | ((with_reducible refine bset ?_ ?_ _); rotate_left; (first | omega | (simp <;> omega)))))
  have Ew3_4 := dstep w3 hB4 (by repeat (first | with_reducible exact Below.refl _ _ | with_reducible apply bdrew | with_reducible apply bdrewN | with_reducible apply balloc | ((with_reducible refine bset ?_ ?_ _); rotate_left; (first | omega | (simp <;> omega)))))
  have C4 := Cls.below (l := [(w.heap.size, 0, .int .i64 (n : Int)), (w.heap.size, 1, .slice Ai t.init.length ci), (w.heap.size, 2, .slice Ag t.goal.length cg), (w.heap.size, 3, .slice Ao t.ops.length co), (w2.heap.size, 0, .int .i64 0), (w2.heap.size, 1, .int .i64 0), (w3.heap.size, 0, .int .i64 0), (w3.heap.size, 1, .int .i64 0)]) hB4 (by simp [Cls, go_sem, F3, y3w0, y3wp1, y3wp2, y3w20, y3w2p1, y3w2p2])
  have F4 := C4
  simp only [Cls, and_true] at F4
  have y4w0 : w.heap.size < w4.heap.size := C4.blk (b := w.heap.size) (k := 0) (v := .int .i64 (n : Int)) (by simp)
  have y4wp1 : w.heap.size < w4.heap.size + 1 := (by omega)
  have y4wp2 : w.heap.size < w4.heap.size + 1 + 1 := (by omega)
  have y4w20 : w2.heap.size < w4.heap.size := C4.blk (b := w2.heap.size) (k := 0) (v := .int .i64 0) (by simp)
  have y4w2p1 : w2.heap.size < w4.heap.size + 1 := (by omega)
  have y4w2p2 : w2.heap.size < w4.heap.size + 1 + 1 := (by omega)
  have y4w30 : w3.heap.size < w4.heap.size := C4.blk (b := w3.heap.size) (k := 0) (v := .int .i64 0) (by simp)
  have y4w3p1 : w3.heap.size < w4.heap.size + 1 := (by omega)
  have y4w3p2 : w3.heap.size < w4.heap.size + 1 + 1 := (by omega)
  obtain ⟨rs, hrs⟩ : ∃ rs, Hid (withinV n t.init t.ops (fun _ => true) = rs) := ⟨_, Lib.hid rfl⟩
  have hrl : rs.length ≤ 9223372036854775807 := by
    have h1 := withinV_len (n := n) (st := t.init) (ops := t.ops) (use := fun _ => true)
    rw [hrs.out] at h1; omega
  rw [hrs.out] at ho4
  obtain ⟨A4, c4, rfl, hn4, hI4⟩ := ho4.form
  clear hn4 ho4
  have hTA4 := hTA.below (by repeat (first | with_reducible exact Ew2_4 | with_reducible apply bdrew | with_reducible apply bdrewN | with_reducible apply balloc | ((with_reducible refine bset ?_ ?_ _); rotate_left; (first | omega | (simp <;> omega)))))
  have ho34 := OwnPP.below ho3 (by repeat (first | with_reducible exact Ew3_4 | with_reducible apply bdrew | with_reducible apply bdrewN | with_reducible apply balloc | ((with_reducible refine bset ?_ ?_ _); rotate_left; (first | omega | (simp <;> omega)))))
  go_wp2_with fail
  go_loopw [9] (fun i wr => ∃ k : Nat, k ≤ n ∧ i = .int .i64 k ∧ Below w4.heap.size w4 wr ∧ Cls wr [(w.heap.size, 0, .int .i64 (n : Int)), (w.heap.size, 1, .slice Ai t.init.length ci), (w.heap.size, 2, .slice Ag t.goal.length cg), (w.heap.size, 3, .slice Ao t.ops.length co), (w2.heap.size, 0, .int .i64 0), (w2.heap.size, 1, .int .i64 0), (w3.heap.size, 0, .int .i64 0), (w3.heap.size, 1, .int .i64 0), (w4.heap.size, 0, .int .i64 0), (w4.heap.size, 1, .int .i64 0)]) (fun i _ => n - (intOf i).toNat)
  case atStart => exact ⟨0, Nat.zero_le _, rfl, (by repeat (first | with_reducible exact Below.refl _ _ | with_reducible apply bdrew | with_reducible apply bdrewN | with_reducible apply balloc | ((with_reducible refine bset ?_ ?_ _); rotate_left; (first | omega | (simp <;> omega))))), (by simp [Cls, go_sem, F4, y4w0, y4wp1, y4wp2, y4w20, y4w2p1, y4w2p2, y4w30, y4w3p1, y4w3p2])⟩
  case round =>
    obtain ⟨k, hk, rfl, hBr, hCr⟩ := hrel
    obtain ⟨w5, rfl⟩ : ∃ wo : World, wo = wr := ⟨_, rfl⟩
    have drs := hBr.size
    have Fr := hCr
    simp only [Cls, and_true] at Fr
    have yrw0 : w.heap.size < w5.heap.size := hCr.blk (b := w.heap.size) (k := 0) (v := .int .i64 (n : Int)) (by simp)
    have yrwp1 : w.heap.size < w5.heap.size + 1 := (by omega)
    have yrwp2 : w.heap.size < w5.heap.size + 1 + 1 := (by omega)
    have yrw20 : w2.heap.size < w5.heap.size := hCr.blk (b := w2.heap.size) (k := 0) (v := .int .i64 0) (by simp)
    have yrw2p1 : w2.heap.size < w5.heap.size + 1 := (by omega)
    have yrw2p2 : w2.heap.size < w5.heap.size + 1 + 1 := (by omega)
    have yrw30 : w3.heap.size < w5.heap.size := hCr.blk (b := w3.heap.size) (k := 0) (v := .int .i64 0) (by simp)
    have yrw3p1 : w3.heap.size < w5.heap.size + 1 := (by omega)
    have yrw3p2 : w3.heap.size < w5.heap.size + 1 + 1 := (by omega)
    have yrw40 : w4.heap.size < w5.heap.size := hCr.blk (b := w4.heap.size) (k := 0) (v := .int .i64 0) (by simp)
    have yrw4p1 : w4.heap.size < w5.heap.size + 1 := (by omega)
    have yrw4p2 : w4.heap.size < w5.heap.size + 1 + 1 := (by omega)
    have hTr := hTA4.below hBr
    by_cases hlt : k < n
    · obtain ⟨b, hgc, hI⟩ := hTr.row hlt
      go_wp2_with fail
      go_quiet (fail)
      go_wp2
      go_roundw
      case rel => exact ⟨k + 1, by omega, by go_num, (by repeat (first | with_reducible exact hBr | with_reducible apply bdrew | with_reducible apply bdrewN | with_reducible apply balloc | ((with_reducible refine bset ?_ ?_ _); rotate_left; (first | omega | (simp <;> omega))))), (Cls.below (w := w5) (by repeat (first | with_reducible exact Below.refl _ _ | with_reducible apply bdrew | with_reducible apply bdrewN | with_reducible apply balloc | ((with_reducible refine bset ?_ ?_ _); rotate_left; (first | omega | (simp <;> omega))))) hCr)⟩
      case measure => simp [intOf]; omega
    · go_wp2_with fail
      go_loopw [10] (fun i wr => ∃ k : Nat, k ≤ n ∧ i = .int .i64 k ∧ Below w4.heap.size w4 wr ∧ Cls wr [(w.heap.size, 0, .int .i64 (n : Int)), (w.heap.size, 1, .slice Ai t.init.length ci), (w.heap.size, 2, .slice Ag t.goal.length cg), (w.heap.size, 3, .slice Ao t.ops.length co), (w2.heap.size, 0, .int .i64 0), (w2.heap.size, 1, .int .i64 0), (w3.heap.size, 0, .int .i64 0), (w3.heap.size, 1, .int .i64 0), (w4.heap.size, 0, .int .i64 0), (w4.heap.size, 1, .int .i64 0)]) (fun i _ => n - (intOf i).toNat)
      case atStart => exact ⟨0, Nat.zero_le _, rfl, (by repeat (first | with_reducible exact hBr | with_reducible apply bdrew | with_reducible apply bdrewN | with_reducible apply balloc | ((with_reducible refine bset ?_ ?_ _); rotate_left; (first | omega | (simp <;> omega))))), (Cls.below (w := w5) (by repeat (first | with_reducible exact Below.refl _ _ | with_reducible apply bdrew | with_reducible apply bdrewN | with_reducible apply balloc | ((with_reducible refine bset ?_ ?_ _); rotate_left; (first | omega | (simp <;> omega))))) hCr)⟩
      case round =>
        obtain ⟨p, hp, rfl, hBs, hCs⟩ := hrel
        obtain ⟨w6, rfl⟩ : ∃ wo : World, wo = wr := ⟨_, rfl⟩
        have dss := hBs.size
        have Fs := hCs
        simp only [Cls, and_true] at Fs
        have ysw0 : w.heap.size < w6.heap.size := hCs.blk (b := w.heap.size) (k := 0) (v := .int .i64 (n : Int)) (by simp)
        have yswp1 : w.heap.size < w6.heap.size + 1 := (by omega)
        have yswp2 : w.heap.size < w6.heap.size + 1 + 1 := (by omega)
        have ysw20 : w2.heap.size < w6.heap.size := hCs.blk (b := w2.heap.size) (k := 0) (v := .int .i64 0) (by simp)
        have ysw2p1 : w2.heap.size < w6.heap.size + 1 := (by omega)
        have ysw2p2 : w2.heap.size < w6.heap.size + 1 + 1 := (by omega)
        have ysw30 : w3.heap.size < w6.heap.size := hCs.blk (b := w3.heap.size) (k := 0) (v := .int .i64 0) (by simp)
        have ysw3p1 : w3.heap.size < w6.heap.size + 1 := (by omega)
        have ysw3p2 : w3.heap.size < w6.heap.size + 1 + 1 := (by omega)
        have ysw40 : w4.heap.size < w6.heap.size := hCs.blk (b := w4.heap.size) (k := 0) (v := .int .i64 0) (by simp)
        have ysw4p1 : w4.heap.size < w6.heap.size + 1 := (by omega)
        have ysw4p2 : w4.heap.size < w6.heap.size + 1 + 1 := (by omega)
        by_cases hlp : p < n
        · go_wp2_with fail
          go_loopw [11] (fun i wr => ∃ q : Nat, p < q ∧ q ≤ n ∧ i = .int .i64 q ∧ Below w4.heap.size w4 wr ∧ Cls wr [(w.heap.size, 0, .int .i64 (n : Int)), (w.heap.size, 1, .slice Ai t.init.length ci), (w.heap.size, 2, .slice Ag t.goal.length cg), (w.heap.size, 3, .slice Ao t.ops.length co), (w2.heap.size, 0, .int .i64 0), (w2.heap.size, 1, .int .i64 0), (w3.heap.size, 0, .int .i64 0), (w3.heap.size, 1, .int .i64 0), (w4.heap.size, 0, .int .i64 0), (w4.heap.size, 1, .int .i64 0)]) (fun i _ => n - (intOf i).toNat)
          case atStart => exact ⟨p + 1, by omega, by omega, by go_num, (by repeat (first | with_reducible exact hBs | with_reducible apply bdrew | with_reducible apply bdrewN | with_reducible apply balloc | ((with_reducible refine bset ?_ ?_ _); rotate_left; (first | omega | (simp <;> omega))))), (Cls.below (w := w6) (by repeat (first | with_reducible exact Below.refl _ _ | with_reducible apply bdrew | with_reducible apply bdrewN | with_reducible apply balloc | ((with_reducible refine bset ?_ ?_ _); rotate_left; (first | omega | (simp <;> omega))))) hCs)⟩
          case round =>
            obtain ⟨q, hpq, hq, rfl, hBt, hCt⟩ := hrel
            obtain ⟨w7, rfl⟩ : ∃ wo : World, wo = wr := ⟨_, rfl⟩
            have dts := hBt.size
            have Ft := hCt
            simp only [Cls, and_true] at Ft
            have ytw0 : w.heap.size < w7.heap.size := hCt.blk (b := w.heap.size) (k := 0) (v := .int .i64 (n : Int)) (by simp)
            have ytwp1 : w.heap.size < w7.heap.size + 1 := (by omega)
            have ytwp2 : w.heap.size < w7.heap.size + 1 + 1 := (by omega)
            have ytw20 : w2.heap.size < w7.heap.size := hCt.blk (b := w2.heap.size) (k := 0) (v := .int .i64 0) (by simp)
            have ytw2p1 : w2.heap.size < w7.heap.size + 1 := (by omega)
            have ytw2p2 : w2.heap.size < w7.heap.size + 1 + 1 := (by omega)
            have ytw30 : w3.heap.size < w7.heap.size := hCt.blk (b := w3.heap.size) (k := 0) (v := .int .i64 0) (by simp)
            have ytw3p1 : w3.heap.size < w7.heap.size + 1 := (by omega)
            have ytw3p2 : w3.heap.size < w7.heap.size + 1 + 1 := (by omega)
            have ytw40 : w4.heap.size < w7.heap.size := hCt.blk (b := w4.heap.size) (k := 0) (v := .int .i64 0) (by simp)
            have ytw4p1 : w4.heap.size < w7.heap.size + 1 := (by omega)
            have ytw4p2 : w4.heap.size < w7.heap.size + 1 + 1 := (by omega)
            by_cases hlq : q < n
            · have HMEM := Lib.hid (show ((p : Int), (q : Int)) ∈ ps ↔ V (p : Int) (q : Int) = 1000000000 by
                rw [← hps.out, exTo_mem, HBE.out.same HBE3.out (p := (p : Int)) (q := (q : Int)) ⟨by omega, by omega⟩ ⟨by omega, by omega⟩]
                constructor
                · rintro ⟨p', q', h1, h2, h3, h4⟩
                  injection h4 with e1 e2
                  have e1 : p = p' := by omega
                  have e2 : q = q' := by omega
                  subst e1; subst e2; exact h3
                · exact fun h => ⟨p, q, hpq, hlq, h, rfl⟩)
              go_wp2_with fail
              go_loopw [12, 13] (fun ch i wr => ∃ (j : Nat) (b : Bool), j ≤ ps.length ∧ i = .int .i64 j ∧ ch = .bool b ∧ Hid (b = true ↔ ((p : Int), (q : Int)) ∈ ps.take j) ∧ Below w4.heap.size w4 wr ∧ Cls wr [(w.heap.size, 0, .int .i64 (n : Int)), (w.heap.size, 1, .slice Ai t.init.length ci), (w.heap.size, 2, .slice Ag t.goal.length cg), (w.heap.size, 3, .slice Ao t.ops.length co), (w2.heap.size, 0, .int .i64 0), (w2.heap.size, 1, .int .i64 0), (w3.heap.size, 0, .int .i64 0), (w3.heap.size, 1, .int .i64 0), (w4.heap.size, 0, .int .i64 0), (w4.heap.size, 1, .int .i64 0)]) (fun _ i _ => ps.length - (intOf i).toNat)
              case atStart => exact ⟨0, false, Nat.zero_le _, rfl, rfl, Lib.hid (by simp), (by repeat (first | with_reducible exact hBt | with_reducible apply bdrew | with_reducible apply bdrewN | with_reducible apply balloc | ((with_reducible refine bset ?_ ?_ _); rotate_left; (first | omega | (simp <;> omega))))), (Cls.below (w := w7) (by repeat (first | with_reducible exact Below.refl _ _ | with_reducible apply bdrew | with_reducible apply bdrewN | with_reducible apply balloc | ((with_reducible refine bset ?_ ?_ _); rotate_left; (first | omega | (simp <;> omega))))) hCt)⟩
              case round =>
                obtain ⟨j, bx, hj, rfl, rfl, hbx, hBu, hCu⟩ := hrel
                obtain ⟨w8, rfl⟩ : ∃ wo : World, wo = wr := ⟨_, rfl⟩
                have dus := hBu.size
                have Fu := hCu
                simp only [Cls, and_true] at Fu
                have yuw0 : w.heap.size < w8.heap.size := hCu.blk (b := w.heap.size) (k := 0) (v := .int .i64 (n : Int)) (by simp)
                have yuwp1 : w.heap.size < w8.heap.size + 1 := (by omega)
                have yuwp2 : w.heap.size < w8.heap.size + 1 + 1 := (by omega)
                have yuw20 : w2.heap.size < w8.heap.size := hCu.blk (b := w2.heap.size) (k := 0) (v := .int .i64 0) (by simp)
                have yuw2p1 : w2.heap.size < w8.heap.size + 1 := (by omega)
                have yuw2p2 : w2.heap.size < w8.heap.size + 1 + 1 := (by omega)
                have yuw30 : w3.heap.size < w8.heap.size := hCu.blk (b := w3.heap.size) (k := 0) (v := .int .i64 0) (by simp)
                have yuw3p1 : w3.heap.size < w8.heap.size + 1 := (by omega)
                have yuw3p2 : w3.heap.size < w8.heap.size + 1 + 1 := (by omega)
                have yuw40 : w4.heap.size < w8.heap.size := hCu.blk (b := w4.heap.size) (k := 0) (v := .int .i64 0) (by simp)
                have yuw4p1 : w4.heap.size < w8.heap.size + 1 := (by omega)
                have yuw4p2 : w4.heap.size < w8.heap.size + 1 + 1 := (by omega)
                by_cases hjl : j < ps.length
                · obtain ⟨g, cs1, pq, rfl, _, _, hpqe, _, hc, hpp⟩ := OwnEs.at_ (OwnPP.below ho34 hBu) (i := j) hjl
                  obtain ⟨x, y⟩ := pq
                  subst hpp
                  have z0 := hc 0 _ rfl
                  have z1 := hc 1 _ rfl
                  simp only [Nat.add_zero] at z0
                  have heq := eq_pair x y (p : Int) (q : Int)
                  have HT := Lib.hid (show ps.take (j + 1) = ps.take j ++ [(x, y)] by rw [List.take_add_one, hpqe.out]; rfl)
                  clear hc hpqe
                  cases bx with
                  | true =>
                    have HN9 := Lib.hid (show true = true ↔ ((p : Int), (q : Int)) ∈ ps.take (j + 1) from ⟨fun _ => by rw [HT.out]; exact List.mem_append_left _ (hbx.out.1 rfl), fun _ => rfl⟩)
                    clear hbx
                    go_wp2
                    go_roundw
                    case rel => exact ⟨j + 1, true, by omega, by go_num, rfl, HN9, (by repeat (first | with_reducible exact hBu | with_reducible apply bdrew | with_reducible apply bdrewN | with_reducible apply balloc | ((with_reducible refine bset ?_ ?_ _); rotate_left; (first | omega | (simp <;> omega))))), (Cls.below (w := w8) (by repeat (first | with_reducible exact Below.refl _ _ | with_reducible apply bdrew | with_reducible apply bdrewN | with_reducible apply balloc | ((with_reducible refine bset ?_ ?_ _); rotate_left; (first | omega | (simp <;> omega))))) hCu)⟩
                    case measure => simp [intOf]; omega
                  | false =>
                    have hno : ¬ ((p : Int), (q : Int)) ∈ ps.take j := fun h => by have := hbx.out.2 h; cases this
                    by_cases he : x = (p : Int) ∧ y = (q : Int)
                    · have hb1 : (x == (p : Int) && y == (q : Int)) = true := by simp [he.1, he.2]
                      have HN9 := Lib.hid (show true = true ↔ ((p : Int), (q : Int)) ∈ ps.take (j + 1) from ⟨fun _ => by rw [HT.out, he.1, he.2]; exact List.mem_append_right _ (List.mem_singleton.2 rfl), fun _ => rfl⟩)
                      rw [hb1] at heq
                      clear hbx he hno hb1
                      go_wp2
                      go_roundw
                      case rel => exact ⟨j + 1, true, by omega, by go_num, rfl, HN9, (by repeat (first | with_reducible exact hBu | with_reducible apply bdrew | with_reducible apply bdrewN | with_reducible apply balloc | ((with_reducible refine bset ?_ ?_ _); rotate_left; (first | omega | (simp <;> omega))))), (Cls.below (w := w8) (by repeat (first | with_reducible exact Below.refl _ _ | with_reducible apply bdrew | with_reducible apply bdrewN | with_reducible apply balloc | ((with_reducible refine bset ?_ ?_ _); rotate_left; (first | omega | (simp <;> omega))))) hCu)⟩
                      case measure => simp [intOf]; omega
                    · have hb1 : (x == (p : Int) && y == (q : Int)) = false := by
                        rw [Bool.eq_false_iff]
                        intro h
                        rw [Bool.and_eq_true, beq_iff_eq, beq_iff_eq] at h
                        exact he h
                      have HN9 := Lib.hid (show false = true ↔ ((p : Int), (q : Int)) ∈ ps.take (j + 1) from ⟨fun h => (by cases h), fun h => by
                        rw [HT.out] at h
                        rcases List.mem_append.1 h with h | h
                        · exact absurd h hno
                        · have := List.mem_singleton.1 h
                          injection this with e1 e2
                          exact absurd ⟨e1.symm, e2.symm⟩ he⟩)
                      rw [hb1] at heq
                      clear hbx he hno hb1
                      go_wp2
                      go_roundw
                      case rel => exact ⟨j + 1, false, by omega, by go_num, rfl, HN9, (by repeat (first | with_reducible exact hBu | with_reducible apply bdrew | with_reducible apply bdrewN | with_reducible apply balloc | ((with_reducible refine bset ?_ ?_ _); rotate_left; (first | omega | (simp <;> omega))))), (Cls.below (w := w8) (by repeat (first | with_reducible exact Below.refl _ _ | with_reducible apply bdrew | with_reducible apply bdrewN | with_reducible apply balloc | ((with_reducible refine bset ?_ ?_ _); rotate_left; (first | omega | (simp <;> omega))))) hCu)⟩
                      case measure => simp [intOf]; omega
                · have HB9 := Lib.hid (show bx = true ↔ V (p : Int) (q : Int) = 1000000000 by
                    have h := hbx.out
                    rw [List.take_of_length_le (by omega), HMEM.out] at h
                    exact h)
                  obtain ⟨b2, hg2, hv2⟩ := (hTA4.below hBu).at_ (p := (p : Int)) (q := (q : Int)) ⟨by omega, by omega⟩ ⟨by omega, by omega⟩
                  simp only [Int.toNat_natCast] at hg2 hv2
                  clear hbx
                  cases bx with
                  | true =>
                    have hve := HB9.out.1 rfl
                    rw [hve] at hv2
                    clear hve
                    go_wp2
                    go_roundw
                    case rel => exact ⟨q + 1, by omega, by omega, by go_num, (by repeat (first | with_reducible exact hBu | with_reducible apply bdrew | with_reducible apply bdrewN | with_reducible apply balloc | ((with_reducible refine bset ?_ ?_ _); rotate_left; (first | omega | (simp <;> omega))))), (Cls.below (w := w8) (by repeat (first | with_reducible exact Below.refl _ _ | with_reducible apply bdrew | with_reducible apply bdrewN | with_reducible apply balloc | ((with_reducible refine bset ?_ ?_ _); rotate_left; (first | omega | (simp <;> omega))))) hCu)⟩
                    case measure => simp [intOf]; omega
                  | false =>
                    have hvn : ¬ V (p : Int) (q : Int) = 1000000000 := fun h => by have := HB9.out.2 h; cases this
                    have hvb : (V (p : Int) (q : Int) == 1000000000) = false := by simpa using hvn
                    have HREA := Lib.hid (HBE.out.reach HO.out (p := (p : Int)) (q := (q : Int)) ⟨by omega, by omega⟩ ⟨by omega, by omega⟩ (by
                      have := HBE.out.fix.all (p : Int) (q : Int) ⟨by omega, by omega⟩ ⟨by omega, by omega⟩
                      unfold InV at this
                      omega))
                    have HP := Lib.hid (show (p : Int) ∈ rs by rw [← hrs.out]; exact withinV_mem.2 ⟨by omega, by omega, HREA.out.1⟩)
                    have HQ := Lib.hid (show (q : Int) ∈ rs by rw [← hrs.out]; exact withinV_mem.2 ⟨by omega, by omega, HREA.out.2⟩)
                    clear hvn
                    go_wp2_with fail
                    refine (has_yes _ _ _ _ _ (hI4.below (by repeat (first | with_reducible exact hBu | with_reducible apply bdrew | with_reducible apply bdrewN | with_reducible apply balloc | ((with_reducible refine bset ?_ ?_ _); rotate_left; (first | omega | (simp <;> omega)))))) hrl HP.out).mono ?_
                    rintro e w9 ⟨rfl, hW⟩
                    rw [← hW]
                    clear hW w9
                    go_wp2_with fail
                    refine (has_yes _ _ _ _ _ (hI4.below (by repeat (first | with_reducible exact hBu | with_reducible apply bdrew | with_reducible apply bdrewN | with_reducible apply balloc | ((with_reducible refine bset ?_ ?_ _); rotate_left; (first | omega | (simp <;> omega)))))) hrl HQ.out).mono ?_
                    rintro e w9 ⟨rfl, hW⟩
                    rw [← hW]
                    clear hW w9
                    go_wp2
                    go_roundw
                    case rel => exact ⟨q + 1, by omega, by omega, by go_num, (by repeat (first | with_reducible exact hBu | with_reducible apply bdrew | with_reducible apply bdrewN | with_reducible apply balloc | ((with_reducible refine bset ?_ ?_ _); rotate_left; (first | omega | (simp <;> omega))))), (Cls.below (w := w8) (by repeat (first | with_reducible exact Below.refl _ _ | with_reducible apply bdrew | with_reducible apply bdrewN | with_reducible apply balloc | ((with_reducible refine bset ?_ ?_ _); rotate_left; (first | omega | (simp <;> omega))))) hCu)⟩
                    case measure => simp [intOf]; omega
            · go_wp2
              go_roundw
              case rel => exact ⟨p + 1, by omega, by go_num, (by repeat (first | with_reducible exact hBt | with_reducible apply bdrew | with_reducible apply bdrewN | with_reducible apply balloc | ((with_reducible refine bset ?_ ?_ _); rotate_left; (first | omega | (simp <;> omega))))), (Cls.below (w := w7) (by repeat (first | with_reducible exact Below.refl _ _ | with_reducible apply bdrew | with_reducible apply bdrewN | with_reducible apply balloc | ((with_reducible refine bset ?_ ?_ _); rotate_left; (first | omega | (simp <;> omega))))) hCt)⟩
              case measure => simp [intOf]; omega
        · have DR := D4.trans (hBs.mono D4.size)
          go_wp2
          go_ret
          exact ⟨rfl, by repeat (first | with_reducible exact DR | with_reducible apply bdrew | with_reducible apply bdrewN | with_reducible apply balloc | ((with_reducible refine bset ?_ ?_ _); rotate_left; (first | omega | (simp <;> omega))))⟩

theorem walk_punr (w : World) (t : TaskV) (Ai Ag Ao : Option Addr) (ci cg co : Nat) (hR : TaskRead w Ai Ag Ao ci cg co t) :
    Calls Try.prog 10 #[.agg #[.int .i64 t.facts, .slice Ai t.init.length ci, .slice Ag t.goal.length cg, .slice Ao t.ops.length co]] w fun e w' => e = .returned (.bool true) ∧ Below w.heap.size w w' := by
  by_cases h : (tfault t).1 = 0
  · have hv := tfault_zero.1 h
    obtain ⟨n, hn⟩ := Int.eq_ofNat_of_zero_le hv.f0
    exact walk_punr_2 w t Ai Ag Ao ci cg co hR n hn hv
  · exact walk_punr_1 w t Ai Ag Ao ci cg co hR h

namespace pairsUnreachable
open Go.ChangeShapes Go.WideShapes Go.ChangeAt Go.RowKit

set_option maxRecDepth 100000 in
theorem lifted (os : Os) (started : os.Started) (H : Type) (enc : TypeId × Value → H) :
    ReturnsInHanded {} Try.checked os 10 .any (Rows.pairsUnreachableSpec.pre6 enc Try.prog Try.f10 Rows.pairsUnreachableRow.domain false) (Rows.pairsUnreachableSpec.post enc Try.prog Try.f10 false true false false) := by
  refine returnsInHanded_of_change (C := Try.checked) own_knob started (by kernel_rfl) Try.func10
    (ChangeSpec.witness6 (enc := enc) (C := Try.checked) false ⟨#[], #[.agg #[.int .i64 0, .slice none 0 0, .slice none 0 0, .slice none 0 0]], []⟩ 8 (by kernel_rfl) (by kernel_rfl) (by kernel_rfl) (by kernel_rfl)) ?_
  intro W base args ds gs before hval0 hW _ hsz
  have hval : ∀ (j : Nat) t v, Try.f10.params[j]? = some t → args[j]? = some v → Value.okWide Try.prog W .any base t v := hval0
  have hpost := fun (W' : World) (hfn : gs = [] → Rows.pairsUnreachableSpec.fn H (ds ++ gs) = { results := [.lit (.bool true)], args := ds }) (hb : Below W.heap.size W W') => law_post (f := Try.f10) (tb := 4) laid_out_B Try.underlying4 rfl (by kernel_rfl) rfl hfn hW hb
  obtain ⟨p, q, hA0, hV, hpq, hfz, hnd⟩ := hW
  have hA : DataW.TrodAll enc Try.prog W 0 (fun _ => true) true Try.f10.params.toList args.toList ds p := hA0
  rw [Try.params10] at hA hval
  obtain ⟨v0, vs0, d0, ds0, p0, q0, hargs, rfl, hp0, h0, r0⟩ := trodAll_cons hA
  obtain ⟨rfl, rfl, hpn⟩ := trodAll_nil r0
  obtain rfl : args = #[v0] := by cases args; simp_all
  obtain ⟨t, Ai, Ag, Ao, ci, cg, co, rfl, hR⟩ := open_taskW (hval 0 25 v0 rfl rfl) h0
  refine (walk_punr W t Ai Ag Ao ci cg co hR).mono fun e W' ⟨he, hb⟩ => ?_
  subst he
  exact ⟨_, rfl, hpost W' (fun hg => by subst hg; rfl) hb⟩

theorem proved : Rows.PairsUnreachableSaid :=
  OpenClaim.holds_of_wide 10 Try.f10 rfl rfl rfl rfl rfl rfl rfl ⟨rfl, rfl, rfl, rfl, rfl⟩ rfl rfl rfl rfl rfl (by kernel_rfl) Try.func10 (by kernel_rfl)
    (of_decide_eq_true (by kernel_rfl)) (by unfold Func.isWrapper; first | (rw [if_pos (by decide +kernel)]; kernel_rfl) | (rw [if_neg (by decide +kernel)]; exact ⟨rfl, rfl⟩))
    (fun os started H enc _ => lifted os started H enc)
#print axioms proved
end pairsUnreachable

end Go.Proofs.Ytiaokmofoaeifaa
