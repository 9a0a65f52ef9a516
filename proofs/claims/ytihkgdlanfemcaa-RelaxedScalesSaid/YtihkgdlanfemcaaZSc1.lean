/-
  compile.Scale: what it returns.
-/
import Derived.Test.YtihkgdlanfemcaaZCp4
namespace Go.Proofs.Ytihkgdlanfemcaa
open Go.RowKit
set_option linter.unusedVariables false
set_option linter.unusedSimpArgs false

/-- An operator whose cost is multiplied. -/
def scO (by_ : Int) (o : OpV) : OpV := { o with cost := o.cost * by_ }
def scT (by_ : Int) (t : TaskV) : TaskV := { t with ops := t.ops.map (scO by_) }
theorem OwnOps.set_cost {base n c g : Nat} {w : World} {ops : List OpV} (h : OwnOps base w (.slice (some ⟨g, 0, none⟩) n c) ops) (i : Nat) (hi : i < ops.length) (by_ : Int) :
    OwnOps base (w.setCell ⟨g, i * 4 + 3, none⟩ (.int .i64 (ops[i].cost * by_))) (.slice (some ⟨g, 0, none⟩) n c) (ops.set i (scO by_ ops[i])) :=
  OwnEs.set_ (pop_stable _) h i 3 hi (by decide) (.int .i64 (ops[i].cost * by_)) (scO by_ ops[i]) (fun w' cs a ha hp => by
    rw [List.getElem?_eq_getElem hi] at ha
    injection ha with ha
    rw [ha]
    obtain ⟨A0, c0, A1, c1, A2, c2, e, h0, h1, h2⟩ := hp
    subst e
    exact ⟨A0, c0, A1, c1, A2, c2, rfl, h0, h1, h2⟩)
theorem sc_lens {by_ : Int} {t : TaskV} (h : ∀ o ∈ t.ops, lenOk o.pre.length ∧ lenOk o.add.length ∧ lenOk o.del.length) : ∀ o ∈ (scT by_ t).ops, lenOk o.pre.length ∧ lenOk o.add.length ∧ lenOk o.del.length := fun o ho => by
  obtain ⟨p, hp, rfl⟩ := List.mem_map.1 ho
  exact h p hp
set_option maxRecDepth 100000 in
set_option maxHeartbeats 1000000 in
theorem scale_1 (w : World) (t : TaskV) (Ai Ag Ao : Option Addr) (ci cg co : Nat) (hT : TaskMem w Ai Ag Ao t) (by_ : Int) (h : ¬ (tfault t).1 = 0) :
    Calls Try.prog 47 #[.agg #[.int .i64 t.facts, .slice Ai t.init.length ci, .slice Ag t.goal.length cg, .slice Ao t.ops.length co], .int .i64 by_] w fun e w' => e = .returned (.tuple #[.agg #[.int .i64 0, .slice none 0 0, .slice none 0 0, .slice none 0 0], .agg #[.int .i64 (tfault t).1, .int .i64 (tfault t).2]]) ∧ Below w.heap.size w w' := by
  have N := bb_no h
  have N' := bn_yes h
  go_enter Try.func47, Try.ntmps47
  go_wp2_with fail
  refine (validate_any _ _ _ _ _ _ _ _ (hT.below (by repeat (first | with_reducible exact Below.refl _ _ | with_reducible apply bdrew | with_reducible apply bdrewN | with_reducible apply balloc | ((with_reducible refine bset ?_ ?_ _); rotate_left; (first | omega | (simp <;> omega))))))).mono ?_
  rintro e w1 ⟨rfl, hB1⟩
  have D1 := dstep w hB1 (by repeat (first | with_reducible exact Below.refl _ _ | with_reducible apply bdrew | with_reducible apply bdrewN | with_reducible apply balloc | ((with_reducible refine bset ?_ ?_ _); rotate_left; (first | omega | (simp <;> omega)))))
  have d1s := D1.size
  have C1 := Cls.below (l := [(w.heap.size, 0, .int .i64 t.facts), (w.heap.size, 1, .slice Ai t.init.length ci), (w.heap.size, 2, .slice Ag t.goal.length cg), (w.heap.size, 3, .slice Ao t.ops.length co), (w.heap.size + 1, 0, .int .i64 0), (w.heap.size + 1, 1, .slice none 0 0), (w.heap.size + 1, 2, .slice none 0 0), (w.heap.size + 1, 3, .slice none 0 0), (w.heap.size + 1 + 1, 0, .int .i64 0), (w.heap.size + 1 + 1, 1, .int .i64 0)]) hB1 (by simp [Cls, go_sem])
  have F1 := C1
  simp only [Cls, and_true] at F1
  have y1w2 : w.heap.size + 1 + 1 < w1.heap.size := C1.blk (b := w.heap.size + 1 + 1) (k := 0) (v := .int .i64 0) (by simp)
  have y1w1 : w.heap.size + 1 < w1.heap.size := (by omega)
  have y1w0 : w.heap.size < w1.heap.size := (by omega)
  have y1wp1 : w.heap.size < w1.heap.size + 1 := (by omega)
  have y1wp2 : w.heap.size < w1.heap.size + 1 + 1 := (by omega)
  go_wp2_with fail
  go_region
  all_goals (go_wp2_with fail)
  all_goals first | done | skip
  all_goals (refine bodyPost_ret (v := .tuple #[.agg #[.int .i64 0, .slice none 0 0, .slice none 0 0, .slice none 0 0], .agg #[.int .i64 (tfault t).1, .int .i64 (tfault t).2]]) ?_ rfl ⟨rfl, by repeat (first | with_reducible exact D1 | with_reducible apply bdrew | with_reducible apply bdrewN | with_reducible apply balloc | ((with_reducible refine bset ?_ ?_ _); rotate_left; (first | omega | (simp <;> omega))))⟩; simp [results, Try.results47, go_sem, F1, y1w2, y1w1, y1w0, y1wp1, y1wp2])

set_option maxRecDepth 100000 in
set_option maxHeartbeats 1000000 in
theorem scale_2 (w : World) (t : TaskV) (Ai Ag Ao : Option Addr) (ci cg co : Nat) (hT : TaskMem w Ai Ag Ao t) (by_ : Int) (hv : Valid t) (h : by_ < 0 ∨ by_ > 100) :
    Calls Try.prog 47 #[.agg #[.int .i64 t.facts, .slice Ai t.init.length ci, .slice Ag t.goal.length cg, .slice Ao t.ops.length co], .int .i64 by_] w fun e w' => e = .returned (.tuple #[.agg #[.int .i64 0, .slice none 0 0, .slice none 0 0, .slice none 0 0], .agg #[.int .i64 3, .int .i64 (-8)]]) ∧ Below w.heap.size w w' := by
  have HT0 := Lib.hid (tfault_valid hv)
  clear hv
  go_enter Try.func47, Try.ntmps47
  go_wp2_with fail
  refine (validate_any _ _ _ _ _ _ _ _ (hT.below (by repeat (first | with_reducible exact Below.refl _ _ | with_reducible apply bdrew | with_reducible apply bdrewN | with_reducible apply balloc | ((with_reducible refine bset ?_ ?_ _); rotate_left; (first | omega | (simp <;> omega))))))).mono ?_
  rintro e w1 ⟨he, hB1⟩
  rw [HT0.out] at he
  subst he
  have D1 := dstep w hB1 (by repeat (first | with_reducible exact Below.refl _ _ | with_reducible apply bdrew | with_reducible apply bdrewN | with_reducible apply balloc | ((with_reducible refine bset ?_ ?_ _); rotate_left; (first | omega | (simp <;> omega)))))
  have d1s := D1.size
  have C1 := Cls.below (l := [(w.heap.size, 0, .int .i64 t.facts), (w.heap.size, 1, .slice Ai t.init.length ci), (w.heap.size, 2, .slice Ag t.goal.length cg), (w.heap.size, 3, .slice Ao t.ops.length co), (w.heap.size + 1, 0, .int .i64 0), (w.heap.size + 1, 1, .slice none 0 0), (w.heap.size + 1, 2, .slice none 0 0), (w.heap.size + 1, 3, .slice none 0 0), (w.heap.size + 1 + 1, 0, .int .i64 0), (w.heap.size + 1 + 1, 1, .int .i64 0)]) hB1 (by simp [Cls, go_sem])
  have F1 := C1
  simp only [Cls, and_true] at F1
  have y1w2 : w.heap.size + 1 + 1 < w1.heap.size := C1.blk (b := w.heap.size + 1 + 1) (k := 0) (v := .int .i64 0) (by simp)
  have y1w1 : w.heap.size + 1 < w1.heap.size := (by omega)
  have y1w0 : w.heap.size < w1.heap.size := (by omega)
  have y1wp1 : w.heap.size < w1.heap.size + 1 := (by omega)
  have y1wp2 : w.heap.size < w1.heap.size + 1 + 1 := (by omega)
  by_cases h0 : by_ < 0
  · have h0' : decide (by_ < 0) = true := decide_eq_true h0
    go_wp2_with fail
    refine bodyPost_ret (v := .tuple #[.agg #[.int .i64 0, .slice none 0 0, .slice none 0 0, .slice none 0 0], .agg #[.int .i64 3, .int .i64 (-8)]]) ?_ rfl ⟨rfl, by repeat (first | with_reducible exact D1 | with_reducible apply bdrew | with_reducible apply bdrewN | with_reducible apply balloc | ((with_reducible refine bset ?_ ?_ _); rotate_left; (first | omega | (simp <;> omega))))⟩
    simp [results, Try.results47, go_sem, F1, y1w2, y1w1, y1w0, y1wp1, y1wp2]
  · have h0' : decide (by_ < 0) = false := decide_eq_false h0
    have h1 : by_ > 100 := by omega
    have h1' : decide (by_ > 100) = true := decide_eq_true h1
    go_wp2_with fail
    refine bodyPost_ret (v := .tuple #[.agg #[.int .i64 0, .slice none 0 0, .slice none 0 0, .slice none 0 0], .agg #[.int .i64 3, .int .i64 (-8)]]) ?_ rfl ⟨rfl, by repeat (first | with_reducible exact D1 | with_reducible apply bdrew | with_reducible apply bdrewN | with_reducible apply balloc | ((with_reducible refine bset ?_ ?_ _); rotate_left; (first | omega | (simp <;> omega))))⟩
    simp [results, Try.results47, go_sem, F1, y1w2, y1w1, y1w0, y1wp1, y1wp2]

set_option maxRecDepth 100000 in
set_option maxHeartbeats 4000000 in
theorem scale_3 (w : World) (t : TaskV) (Ai Ag Ao : Option Addr) (ci cg co : Nat) (hT : TaskMem w Ai Ag Ao t) (by_ : Int) (hv : Valid t) (h0 : 0 ≤ by_) (h1 : by_ ≤ 100) :
    Calls Try.prog 47 #[.agg #[.int .i64 t.facts, .slice Ai t.init.length ci, .slice Ag t.goal.length cg, .slice Ao t.ops.length co], .int .i64 by_] w fun e w' => (∃ c j, ¬ c = 0 ∧ e = .returned (.tuple #[.agg #[.int .i64 0, .slice none 0 0, .slice none 0 0, .slice none 0 0], .agg #[.int .i64 c, .int .i64 j]]) ∧ Below w.heap.size w w') ∨ (∃ u Ai' ci' Ag' cg' Ao' co', Hid (u = scT by_ t) ∧ Hid (∀ o ∈ t.ops, o.cost * by_ ≤ 100) ∧ e = .returned (.tuple #[.agg #[.int .i64 u.facts, .slice Ai' u.init.length ci', .slice Ag' u.goal.length cg', .slice Ao' u.ops.length co'], .agg #[.int .i64 0, .int .i64 0]]) ∧ TaskMem w' Ai' Ag' Ao' u ∧ Below w.heap.size w w') := by
  have HT0 := Lib.hid (tfault_valid hv)
  have HV := Lib.hid hv
  have h40 := hv.nops
  have hl1 : t.init.length ≤ 1000000000000 := by have := SetP.length hv.init hv.f0; have := hv.f1; omega
  have hl2 : t.goal.length ≤ 1000000000000 := by have := SetP.length hv.goal hv.f0; have := hv.f1; omega
  have HOL := Lib.hid (valid_lens hv)
  clear hv
  have h0' : decide (by_ < 0) = false := decide_eq_false (by omega)
  have h1' : decide (by_ > 100) = false := decide_eq_false (by omega)
  go_enter Try.func47, Try.ntmps47
  go_wp2_with fail
  refine (validate_any _ _ _ _ _ _ _ _ (hT.below (by repeat (first | with_reducible exact Below.refl _ _ | with_reducible apply bdrew | with_reducible apply bdrewN | with_reducible apply balloc | ((with_reducible refine bset ?_ ?_ _); rotate_left; (first | omega | (simp <;> omega))))))).mono ?_
  rintro e w1 ⟨he, hB1⟩
  rw [HT0.out] at he
  subst he
  have D1 := dstep w hB1 (by repeat (first | with_reducible exact Below.refl _ _ | with_reducible apply bdrew | with_reducible apply bdrewN | with_reducible apply balloc | ((with_reducible refine bset ?_ ?_ _); rotate_left; (first | omega | (simp <;> omega)))))
  have d1s := D1.size
  have C1 := Cls.below (l := [(w.heap.size, 0, .int .i64 t.facts), (w.heap.size, 1, .slice Ai t.init.length ci), (w.heap.size, 2, .slice Ag t.goal.length cg), (w.heap.size, 3, .slice Ao t.ops.length co), (w.heap.size + 1, 0, .int .i64 0), (w.heap.size + 1, 1, .slice none 0 0), (w.heap.size + 1, 2, .slice none 0 0), (w.heap.size + 1, 3, .slice none 0 0), (w.heap.size + 1 + 1, 0, .int .i64 0), (w.heap.size + 1 + 1, 1, .int .i64 0)]) hB1 (by simp [Cls, go_sem])
  have F1 := C1
  simp only [Cls, and_true] at F1
  have y1w2 : w.heap.size + 1 + 1 < w1.heap.size := C1.blk (b := w.heap.size + 1 + 1) (k := 0) (v := .int .i64 0) (by simp)
  have y1w1 : w.heap.size + 1 < w1.heap.size := (by omega)
  have y1w0 : w.heap.size < w1.heap.size := (by omega)
  have y1wp1 : w.heap.size < w1.heap.size + 1 := (by omega)
  have y1wp2 : w.heap.size < w1.heap.size + 1 + 1 := (by omega)
  go_wp2_with fail
  refine (tclone_any _ t Ai Ag Ao ci cg co (hT.below (by repeat (first | with_reducible exact D1 | with_reducible apply bdrew | with_reducible apply bdrewN | with_reducible apply balloc | ((with_reducible refine bset ?_ ?_ _); rotate_left; (first | omega | (simp <;> omega)))))) hl1 hl2 HOL.out (by omega)).mono ?_
  rintro e w2 ⟨A1, c1, A2, c2, A3, c3, rfl, hF1, hF2, hO, hdis, hB2⟩
  have D2 := dstep w hB2 (by repeat (first | with_reducible exact D1 | with_reducible apply bdrew | with_reducible apply bdrewN | with_reducible apply balloc | ((with_reducible refine bset ?_ ?_ _); rotate_left; (first | omega | (simp <;> omega)))))
  have d2s := D2.size
  have C2 := Cls.below (l := [(w.heap.size, 0, .int .i64 t.facts), (w.heap.size, 1, .slice Ai t.init.length ci), (w.heap.size, 2, .slice Ag t.goal.length cg), (w.heap.size, 3, .slice Ao t.ops.length co), (w.heap.size + 1, 0, .int .i64 0), (w.heap.size + 1, 1, .slice none 0 0), (w.heap.size + 1, 2, .slice none 0 0), (w.heap.size + 1, 3, .slice none 0 0), (w.heap.size + 1 + 1, 0, .int .i64 0), (w.heap.size + 1 + 1, 1, .int .i64 0), (w1.heap.size, 0, .int .i64 0), (w1.heap.size, 1, .int .i64 0)]) hB2 (by simp [Cls, go_sem, F1, y1w2, y1w1, y1w0, y1wp1, y1wp2])
  have F2 := C2
  simp only [Cls, and_true] at F2
  have y2w2 : w.heap.size + 1 + 1 < w2.heap.size := C2.blk (b := w.heap.size + 1 + 1) (k := 0) (v := .int .i64 0) (by simp)
  have y2w1 : w.heap.size + 1 < w2.heap.size := (by omega)
  have y2w0 : w.heap.size < w2.heap.size := (by omega)
  have y2wp1 : w.heap.size < w2.heap.size + 1 := (by omega)
  have y2wp2 : w.heap.size < w2.heap.size + 1 + 1 := (by omega)
  have y2w10 : w1.heap.size < w2.heap.size := C2.blk (b := w1.heap.size) (k := 0) (v := .int .i64 0) (by simp)
  have y2w1p1 : w1.heap.size < w2.heap.size + 1 := (by omega)
  have y2w1p2 : w1.heap.size < w2.heap.size + 1 + 1 := (by omega)
  have hbase : w.heap.size ≤ w1.heap.size := by omega
  have hdl := fun k hk => OwnEs.lt hO k hk
  go_wp2_with fail
  go_loopw [29] (fun i wr => ∃ k : Nat, k ≤ t.ops.length ∧ i = .int .i64 k ∧ OwnOps w1.heap.size wr (.slice A3 t.ops.length c3) (mapTo (scO by_) k t.ops) ∧ Fresh w1.heap.size wr A1 c1 t.init ∧ Fresh w1.heap.size wr A2 c2 t.goal ∧ Hid (∀ o ∈ t.ops.take k, o.cost * by_ ≤ 100) ∧ w2.heap.size < wr.heap.size ∧ Below w.heap.size w wr ∧ Cls wr [(w.heap.size, 0, .int .i64 t.facts), (w.heap.size, 1, .slice Ai t.init.length ci), (w.heap.size, 2, .slice Ag t.goal.length cg), (w.heap.size, 3, .slice Ao t.ops.length co), (w.heap.size + 1, 0, .int .i64 0), (w.heap.size + 1, 1, .slice none 0 0), (w.heap.size + 1, 2, .slice none 0 0), (w.heap.size + 1, 3, .slice none 0 0), (w.heap.size + 1 + 1, 0, .int .i64 0), (w.heap.size + 1 + 1, 1, .int .i64 0), (w1.heap.size, 0, .int .i64 0), (w1.heap.size, 1, .int .i64 0), (w2.heap.size, 0, .int .i64 t.facts), (w2.heap.size, 1, .slice A1 t.init.length c1), (w2.heap.size, 2, .slice A2 t.goal.length c2), (w2.heap.size, 3, .slice A3 t.ops.length c3)]) (fun i _ => t.ops.length - (intOf i).toNat)
  case atStart => exact ⟨0, Nat.zero_le _, rfl, by rw [mapTo_zero]; exact (hO.mono (by (first | omega | (simp <;> omega)))).below (by repeat (first | with_reducible exact Below.refl _ _ | with_reducible apply bdrew | with_reducible apply bdrewN | with_reducible apply balloc | ((with_reducible refine bset ?_ ?_ _); rotate_left; (first | omega | (simp <;> omega))))), (hF1.mono (by (first | omega | (simp <;> omega)))).below (by repeat (first | with_reducible exact Below.refl _ _ | with_reducible apply bdrew | with_reducible apply bdrewN | with_reducible apply balloc | ((with_reducible refine bset ?_ ?_ _); rotate_left; (first | omega | (simp <;> omega))))), (hF2.mono (by (first | omega | (simp <;> omega)))).below (by repeat (first | with_reducible exact Below.refl _ _ | with_reducible apply bdrew | with_reducible apply bdrewN | with_reducible apply balloc | ((with_reducible refine bset ?_ ?_ _); rotate_left; (first | omega | (simp <;> omega))))), Lib.hid (by simp), (by simp), (by repeat (first | with_reducible exact D2 | with_reducible apply bdrew | with_reducible apply bdrewN | with_reducible apply balloc | ((with_reducible refine bset ?_ ?_ _); rotate_left; (first | omega | (simp <;> omega))))), (by simp [Cls, go_sem, F2, y2w2, y2w1, y2w0, y2wp1, y2wp2, y2w10, y2w1p1, y2w1p2])⟩
  case round =>
    obtain ⟨k, hk, rfl, hown, hX1, hX2, hall, hsz, hBr, hCr⟩ := hrel
    obtain ⟨w3, rfl⟩ : ∃ wo : World, wo = wr := ⟨_, rfl⟩
    have drs := hBr.size
    have Fr := hCr
    simp only [Cls, and_true] at Fr
    have yrw2 : w.heap.size + 1 + 1 < w3.heap.size := hCr.blk (b := w.heap.size + 1 + 1) (k := 0) (v := .int .i64 0) (by simp)
    have yrw1 : w.heap.size + 1 < w3.heap.size := (by omega)
    have yrw0 : w.heap.size < w3.heap.size := (by omega)
    have yrwp1 : w.heap.size < w3.heap.size + 1 := (by omega)
    have yrwp2 : w.heap.size < w3.heap.size + 1 + 1 := (by omega)
    have yrw10 : w1.heap.size < w3.heap.size := hCr.blk (b := w1.heap.size) (k := 0) (v := .int .i64 0) (by simp)
    have yrw1p1 : w1.heap.size < w3.heap.size + 1 := (by omega)
    have yrw1p2 : w1.heap.size < w3.heap.size + 1 + 1 := (by omega)
    have yrw20 : w2.heap.size < w3.heap.size := hCr.blk (b := w2.heap.size) (k := 0) (v := .int .i64 t.facts) (by simp)
    have yrw2p1 : w2.heap.size < w3.heap.size + 1 := (by omega)
    have yrw2p2 : w2.heap.size < w3.heap.size + 1 + 1 := (by omega)
    by_cases hlt : k < t.ops.length
    · have hltm : k < (mapTo (scO by_) k t.ops).length := by rw [mapTo_len]; exact hlt
      have HEL := Lib.hid (show (mapTo (scO by_) k t.ops)[k] = t.ops[k] by
        have := mapTo_at (scO by_) hlt
        rw [List.getElem?_eq_getElem hltm] at this
        injection this)
      obtain ⟨g, cs, a, rfl, hg1, hg2, ha, hcl, hcs, hpa⟩ := OwnEs.at_ hown hltm
      obtain ⟨q0, q1, q2, q3, q4, q5, rfl, p0, p1, p2⟩ := hpa
      have hae : a = t.ops[k] := by
        have h := ha.out
        rw [List.getElem?_eq_getElem hltm, HEL.out] at h
        injection h with h
        exact h.symm
      have hcost := (HV.out.ops t.ops[k] (List.getElem_mem hlt)).2
      have hset := Lib.hid (OwnOps.set_cost hown k hltm by_)
      rw [HEL.out] at hset
      have hmul : 0 ≤ t.ops[k].cost * by_ ∧ t.ops[k].cost * by_ ≤ 100 * 100 := ⟨Int.mul_nonneg hcost.1 (by omega), Int.mul_le_mul hcost.2 (by omega) (by omega) (by omega)⟩
      have HLA := Lib.hid (show t.ops[k].cost * by_ ≤ 100 → ∀ o ∈ t.ops.take (k + 1), o.cost * by_ ≤ 100 from fun h o ho => by
        rw [List.take_add_one, List.getElem?_eq_getElem hlt] at ho
        rcases List.mem_append.1 ho with h1 | h1
        · exact hall.out o h1
        · have : o = t.ops[k] := by simpa using h1
          rw [this]; exact h)
      have hc3' : w3.cell? ⟨g, k * 4 + 3, none⟩ = some (.int .i64 t.ops[k].cost) := by rw [← hae]; exact hcs 3 _ rfl
      obtain ⟨co1, hco1⟩ : ∃ x, Hid (t.ops[k].cost = x) := ⟨_, Lib.hid rfl⟩
      have HMS := Lib.hid (show (mapTo (scO by_) k t.ops).set k (scO by_ t.ops[k]) = mapTo (scO by_) (k + 1) t.ops from mapTo_set (scO by_) hlt)
      rw [HMS.out] at hset
      rw [hco1.out] at hset hmul HLA hc3'
      clear hae ha hcost
      have hfr : w3.frozen? ⟨g, k * 4 + 3, none⟩ = false := OwnEs.free (A := none) hown _
      have hadd : ((⟨g, 0, none⟩ : Addr).add (k * 4)) = ⟨g, k * 4, none⟩ := add_off g _
      have hgd := hdis g rfl
      have hgl := hdl g rfl
      have hgw2 : g < w2.heap.size := hgl.2
      have hgw1 : w1.heap.size ≤ g := by have := hgl.1; (first | omega | (simp at this; omega))
      have hgb : g < w3.heap.size := by omega
      have HX1 := Lib.hid (hX1.away (p := ⟨g, k * 4 + 3, none⟩) hgd.1 (.int .i64 (co1 * by_)))
      have HX2 := Lib.hid (hX2.away (p := ⟨g, k * 4 + 3, none⟩) hgd.2 (.int .i64 (co1 * by_)))
      obtain ⟨x, hx⟩ : ∃ x, co1 * by_ = x := ⟨_, rfl⟩
      rw [hx] at hset hmul HLA HX1 HX2
      clear hcs hdis hdl hcl
      by_cases hgt : x > 100
      · have hgt' : decide (x > 100) = true := decide_eq_true hgt
        go_wp2_with fail
        refine bodyPost_ret (v := .tuple #[.agg #[.int .i64 0, .slice none 0 0, .slice none 0 0, .slice none 0 0], .agg #[.int .i64 10, .int .i64 (k : Int)]]) ?_ rfl (.inl ⟨10, (k : Int), by omega, rfl, by repeat (first | with_reducible exact hBr | with_reducible apply bdrew | with_reducible apply bdrewN | with_reducible apply balloc | ((with_reducible refine bset ?_ ?_ _); rotate_left; (first | omega | (simp <;> omega))))⟩)
        simp [results, Try.results47, go_sem, Fr, yrw2, yrw1, yrw0, yrwp1, yrwp2, yrw10, yrw1p1, yrw1p2, yrw20, yrw2p1, yrw2p2]
      · have hgt' : decide (x > 100) = false := decide_eq_false hgt
        go_wp2_with fail
        go_roundw
        case rel => exact ⟨k + 1, by omega, by go_num, hset.out, HX1.out, HX2.out, Lib.hid (HLA.out (by omega)), (by simpa using hsz), (by repeat (first | with_reducible exact hBr | with_reducible apply bdrew | with_reducible apply bdrewN | with_reducible apply balloc | ((with_reducible refine bset ?_ ?_ _); rotate_left; (first | omega | (simp <;> omega))))), (by simp [Cls, go_sem, Fr, yrw2, yrw1, yrw0, yrwp1, yrwp2, yrw10, yrw1p1, yrw1p2, yrw20, yrw2p1, yrw2p2])⟩
        case measure => simp [intOf]; omega
    · have hke := Lib.hid (mapTo_all (scO by_) (xs := t.ops) (k := k) (by omega))
      have HALL := Lib.hid (show ∀ o ∈ t.ops, o.cost * by_ ≤ 100 from fun o ho => hall.out o (by rw [List.take_of_length_le (by omega)]; exact ho))
      rw [hke.out] at hown
      have hon : lenOk (scT by_ t).ops.length := by simp [scT]; exact hT.lops
      have HTM : OwnT w1.heap.size w3 A1 A2 A3 c1 c2 c3 (scT by_ t) := ⟨hX1, hX2, by simpa [scT] using hown⟩
      have hb1 : w.heap.size + 1 < w1.heap.size := by omega
      have hb2 : w.heap.size + 1 + 1 < w1.heap.size := by omega
      go_wp2_with fail
      refine bodyPost_ret (v := .tuple #[.agg #[.int .i64 t.facts, .slice A1 t.init.length c1, .slice A2 t.goal.length c2, .slice A3 t.ops.length c3], .agg #[.int .i64 0, .int .i64 0]]) ?_ rfl (.inr ⟨scT by_ t, A1, c1, A2, c2, A3, c3, Lib.hid rfl, HALL, (by simp [scT]), OwnT.mem (base := w1.heap.size) ((((((HTM.far (p := ⟨w.heap.size + 1, 0, none⟩) hb1 _).far (p := ⟨w.heap.size + 1, 1, none⟩) hb1 _).far (p := ⟨w.heap.size + 1, 2, none⟩) hb1 _).far (p := ⟨w.heap.size + 1, 3, none⟩) hb1 _).far (p := ⟨w.heap.size + 1 + 1, 0, none⟩) hb2 _).far (p := ⟨w.heap.size + 1 + 1, 1, none⟩) hb2 _) (sc_lens (fun o ho => by have := HOL.out o ho; simp only [lenOk]; omega)) hT.linit hT.lgoal hon, by repeat (first | with_reducible exact hBr | with_reducible apply bdrew | with_reducible apply bdrewN | with_reducible apply balloc | ((with_reducible refine bset ?_ ?_ _); rotate_left; (first | omega | (simp <;> omega))))⟩)
      simp [results, Try.results47, go_sem, Fr, yrw2, yrw1, yrw0, yrwp1, yrwp2, yrw10, yrw1p1, yrw1p2, yrw20, yrw2p1, yrw2p2]


end Go.Proofs.Ytihkgdlanfemcaa
