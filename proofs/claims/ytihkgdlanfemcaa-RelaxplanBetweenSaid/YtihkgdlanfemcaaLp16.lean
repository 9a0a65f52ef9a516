/-
  The least cost of a relaxed plan is between the value of relaxed.Max and the costs of a relaxed plan and of all plans.
-/
import Derived.Test.YtihkgdlanfemcaaRex
import Derived.Test.YtihkgdlanfemcaaRxv
import Derived.Test.YtihkgdlanfemcaaME
import Derived.Test.YtihkgdlanfemcaaBf7
import Derived.Test.YtihkgdlanfemcaaBlaw
import Derived.Test.YtihkgdlanfemcaaMA
import Derived.Test.YtihkgdlanfemcaaPfacts
namespace Go.Proofs.Ytihkgdlanfemcaa
open Go.RowKit
set_option linter.unusedVariables false
set_option linter.unusedSimpArgs false

set_option maxRecDepth 100000 in
set_option maxHeartbeats 1000000 in
theorem walk_rbt_1 (w : World) (t : TaskV) (Ai Ag Ao : Option Addr) (ci cg co : Nat) (hR : TaskRead w Ai Ag Ao ci cg co t) (S : Option Addr) (cs : Nat) (st : List Int) (hS : Ints w S st) (hSn : NilOk S st cs) (h : ¬ (sfault t st).1 = 0) :
    Calls Try.prog 7 #[.agg #[.int .i64 t.facts, .slice Ai t.init.length ci, .slice Ag t.goal.length cg, .slice Ao t.ops.length co], .slice S st.length cs] w fun e w' => e = .returned (.bool true) ∧ Below w.heap.size w w' := by
  have N := bb_no h
  have N' := bn_yes h
  have hT := hR.mem
  have hls : lenOk st.length := Nat.le_trans hSn.2.1 hSn.2.2
  go_enter Try.func7, Try.ntmps7
  go_wp2_with fail
  refine (pxexample_any _).mono ?_
  rintro e w1 ⟨rfl, hB1⟩
  have D1 := dstep w hB1 (by repeat (first | with_reducible exact Below.refl _ _ | with_reducible apply bdrew | with_reducible apply bdrewN | with_reducible apply balloc | ((with_reducible refine bset ?_ ?_ _); rotate_left; (first | omega | (simp <;> omega)))))
  have d1s := D1.size
  have C1 := Cls.below (l := [(w.heap.size, 0, .int .i64 t.facts), (w.heap.size, 1, .slice Ai t.init.length ci), (w.heap.size, 2, .slice Ag t.goal.length cg), (w.heap.size, 3, .slice Ao t.ops.length co)]) hB1 (by simp [Cls, go_sem])
  have F1 := C1
  simp only [Cls, and_true] at F1
  have y1w0 : w.heap.size < w1.heap.size := C1.blk (b := w.heap.size) (k := 0) (v := .int .i64 t.facts) (by simp)
  have y1wp1 : w.heap.size < w1.heap.size + 1 := (by omega)
  have y1wp2 : w.heap.size < w1.heap.size + 1 + 1 := (by omega)
  go_wp2_with fail
  refine (rbest_1 _ t Ai Ag Ao ci cg co (hT.below (by repeat (first | with_reducible exact D1 | with_reducible apply bdrew | with_reducible apply bdrewN | with_reducible apply balloc | ((with_reducible refine bset ?_ ?_ _); rotate_left; (first | omega | (simp <;> omega)))))) _ _ _ (hS.below (by repeat (first | with_reducible exact D1 | with_reducible apply bdrew | with_reducible apply bdrewN | with_reducible apply balloc | ((with_reducible refine bset ?_ ?_ _); rotate_left; (first | omega | (simp <;> omega)))))) hls h).mono ?_
  rintro e w2 ⟨rfl, hB2⟩
  have D2 := dstep w hB2 (by repeat (first | with_reducible exact D1 | with_reducible apply bdrew | with_reducible apply bdrewN | with_reducible apply balloc | ((with_reducible refine bset ?_ ?_ _); rotate_left; (first | omega | (simp <;> omega)))))
  have d2s := D2.size
  have C2 := Cls.below (l := [(w.heap.size, 0, .int .i64 t.facts), (w.heap.size, 1, .slice Ai t.init.length ci), (w.heap.size, 2, .slice Ag t.goal.length cg), (w.heap.size, 3, .slice Ao t.ops.length co)]) hB2 (by simp [Cls, go_sem, F1, y1w0, y1wp1, y1wp2])
  have F2 := C2
  simp only [Cls, and_true] at F2
  have y2w0 : w.heap.size < w2.heap.size := C2.blk (b := w.heap.size) (k := 0) (v := .int .i64 t.facts) (by simp)
  have y2wp1 : w.heap.size < w2.heap.size + 1 := (by omega)
  have y2wp2 : w.heap.size < w2.heap.size + 1 + 1 := (by omega)
  go_wp2
  go_ret
  exact ⟨by simp, by repeat (first | with_reducible exact D2 | with_reducible apply bdrew | with_reducible apply bdrewN | with_reducible apply balloc | ((with_reducible refine bset ?_ ?_ _); rotate_left; (first | omega | (simp <;> omega))))⟩


/-! ### The law, plain -/
theorem rx_low2 {n : Nat} {t : TaskV} {st : List Int} {a d : Int} (hv : Valid t) (hn : t.facts = n) (h0 : 0 ≤ d) (hb : BestOut n t st d) (hr : RBest n (t.ops.map rxO) t.goal st a) : a ≤ d := by
  have h1 := hb.low h0 (rdist_hcons hv hn)
  have h2 := hr.uniq (rdist_spec (n := n) (rx_cost (fun o ho => (hv.ops o ho).2.1)) t.goal st)
  omega
theorem costP_take {ops : List OpV} {pl : List Int} {k op : Nat} {o : OpV} (h : pl[k]? = some (op : Int)) (ho : ops[op]? = some o) : costP ops (pl.take (k + 1)) = costP ops (pl.take k) + o.cost := by
  rw [List.take_add_one, h]
  show costP ops (pl.take k ++ [(op : Int)]) = _
  rw [costP_snoc, opAt_of (o := o) (by simpa using ho)]
set_option maxRecDepth 100000 in
set_option maxHeartbeats 4000000 in
theorem walk_rbt_2 (w : World) (t : TaskV) (Ai Ag Ao : Option Addr) (ci cg co : Nat) (hR : TaskRead w Ai Ag Ao ci cg co t) (S : Option Addr) (cs : Nat) (st : List Int) (hS : Ints w S st) (hSn : NilOk S st cs) (n : Nat) (hn : t.facts = n) (hv : Valid t) (h2 : SetP st t.facts) :
    Calls Try.prog 7 #[.agg #[.int .i64 t.facts, .slice Ai t.init.length ci, .slice Ag t.goal.length cg, .slice Ao t.ops.length co], .slice S st.length cs] w fun e w' => e = .returned (.bool true) ∧ Below w.heap.size w w' := by
  have hT := hR.mem
  have hls : lenOk st.length := Nat.le_trans hSn.2.1 hSn.2.2
  have HN := Lib.hid hn
  have HV := Lib.hid hv
  have H2 := Lib.hid h2
  have HST := Lib.hid (show SetP st (n : Int) by rw [← hn]; exact h2)
  have h40 := hv.nops
  have HCO := Lib.hid (show ∀ o ∈ t.ops, 0 ≤ o.cost ∧ o.cost ≤ 100 from fun o ho => (hv.ops o ho).2)
  have hfd : ∀ w : World, (Instr.field 29 (.agg #[.int .i64 0, .int .i64 0]) 0).run Try.prog w = .ok (.int .i64 0) w := fun _ => by kernel_rfl
  clear hv h2 hn
  go_enter Try.func7, Try.ntmps7
  go_wp2_with fail
  refine (pxexample_any _).mono ?_
  rintro e w1 ⟨rfl, hB1⟩
  have D1 := dstep w hB1 (by repeat (first | with_reducible exact Below.refl _ _ | with_reducible apply bdrew | with_reducible apply bdrewN | with_reducible apply balloc | ((with_reducible refine bset ?_ ?_ _); rotate_left; (first | omega | (simp <;> omega)))))
  have d1s := D1.size
  have C1 := Cls.below (l := [(w.heap.size, 0, .int .i64 t.facts), (w.heap.size, 1, .slice Ai t.init.length ci), (w.heap.size, 2, .slice Ag t.goal.length cg), (w.heap.size, 3, .slice Ao t.ops.length co)]) hB1 (by simp [Cls, go_sem])
  have F1 := C1
  simp only [Cls, and_true] at F1
  have y1w0 : w.heap.size < w1.heap.size := C1.blk (b := w.heap.size) (k := 0) (v := .int .i64 t.facts) (by simp)
  have y1wp1 : w.heap.size < w1.heap.size + 1 := (by omega)
  have y1wp2 : w.heap.size < w1.heap.size + 1 + 1 := (by omega)
  go_wp2_with fail
  refine (rbest_2 _ t Ai Ag Ao ci cg co (hT.below (by repeat (first | with_reducible exact D1 | with_reducible apply bdrew | with_reducible apply bdrewN | with_reducible apply balloc | ((with_reducible refine bset ?_ ?_ _); rotate_left; (first | omega | (simp <;> omega)))))) _ _ _ (hS.below (by repeat (first | with_reducible exact D1 | with_reducible apply bdrew | with_reducible apply bdrewN | with_reducible apply balloc | ((with_reducible refine bset ?_ ?_ _); rotate_left; (first | omega | (simp <;> omega)))))) hls n HN.out HV.out H2.out).mono ?_
  rintro e w2 ⟨d, c, j, rfl, hrb, hB2⟩
  have D2 := dstep w hB2 (by repeat (first | with_reducible exact D1 | with_reducible apply bdrew | with_reducible apply bdrewN | with_reducible apply balloc | ((with_reducible refine bset ?_ ?_ _); rotate_left; (first | omega | (simp <;> omega)))))
  have d2s := D2.size
  have C2 := Cls.below (l := [(w.heap.size, 0, .int .i64 t.facts), (w.heap.size, 1, .slice Ai t.init.length ci), (w.heap.size, 2, .slice Ag t.goal.length cg), (w.heap.size, 3, .slice Ao t.ops.length co)]) hB2 (by simp [Cls, go_sem, F1, y1w0, y1wp1, y1wp2])
  have F2 := C2
  simp only [Cls, and_true] at F2
  have y2w0 : w.heap.size < w2.heap.size := C2.blk (b := w.heap.size) (k := 0) (v := .int .i64 t.facts) (by simp)
  have y2wp1 : w.heap.size < w2.heap.size + 1 := (by omega)
  have y2wp2 : w.heap.size < w2.heap.size + 1 + 1 := (by omega)
  rcases hrb with ⟨⟨rfl, rfl⟩, h1, _⟩ | ⟨⟨rfl, rfl, rfl⟩, _⟩
  · have HRB := Lib.hid h1
    clear h1
    go_wp2_with fail
    refine (rstatefault_3 _ t Ai Ag Ao ci cg co (hT.below (by repeat (first | with_reducible exact D2 | with_reducible apply bdrew | with_reducible apply bdrewN | with_reducible apply balloc | ((with_reducible refine bset ?_ ?_ _); rotate_left; (first | omega | (simp <;> omega)))))) _ _ _ (hS.below (by repeat (first | with_reducible exact D2 | with_reducible apply bdrew | with_reducible apply bdrewN | with_reducible apply balloc | ((with_reducible refine bset ?_ ?_ _); rotate_left; (first | omega | (simp <;> omega)))))) hls HV.out H2.out).mono ?_
    rintro e w3 ⟨rfl, hB3⟩
    have D3 := dstep w hB3 (by repeat (first | with_reducible exact D2 | with_reducible apply bdrew | with_reducible apply bdrewN | with_reducible apply balloc | ((with_reducible refine bset ?_ ?_ _); rotate_left; (first | omega | (simp <;> omega)))))
    have d3s := D3.size
    have C3 := Cls.below (l := [(w.heap.size, 0, .int .i64 t.facts), (w.heap.size, 1, .slice Ai t.init.length ci), (w.heap.size, 2, .slice Ag t.goal.length cg), (w.heap.size, 3, .slice Ao t.ops.length co), (w2.heap.size, 0, .int .i64 0), (w2.heap.size, 1, .int .i64 0)]) hB3 (by simp [Cls, go_sem, F2, y2w0, y2wp1, y2wp2])
    have F3 := C3
    simp only [Cls, and_true] at F3
    have y3w0 : w.heap.size < w3.heap.size := C3.blk (b := w.heap.size) (k := 0) (v := .int .i64 t.facts) (by simp)
    have y3wp1 : w.heap.size < w3.heap.size + 1 := (by omega)
    have y3wp2 : w.heap.size < w3.heap.size + 1 + 1 := (by omega)
    have y3w20 : w2.heap.size < w3.heap.size := C3.blk (b := w2.heap.size) (k := 0) (v := .int .i64 0) (by simp)
    have y3w2p1 : w2.heap.size < w3.heap.size + 1 := (by omega)
    have y3w2p2 : w2.heap.size < w3.heap.size + 1 + 1 := (by omega)
    go_wp2_with fail
    refine (max_2 _ t Ai Ag Ao ci cg co (hT.below (by repeat (first | with_reducible exact D3 | with_reducible apply bdrew | with_reducible apply bdrewN | with_reducible apply balloc | ((with_reducible refine bset ?_ ?_ _); rotate_left; (first | omega | (simp <;> omega)))))) _ _ _ (hS.below (by repeat (first | with_reducible exact D3 | with_reducible apply bdrew | with_reducible apply bdrewN | with_reducible apply balloc | ((with_reducible refine bset ?_ ?_ _); rotate_left; (first | omega | (simp <;> omega)))))) hls n HN.out HV.out H2.out).mono ?_
    rintro e w4 ⟨g4, rfl, hg4, hA4, hb4, hB4⟩
    have D4 := dstep w hB4 (by repeat (first | with_reducible exact D3 | with_reducible apply bdrew | with_reducible apply bdrewN | with_reducible apply balloc | ((with_reducible refine bset ?_ ?_ _); rotate_left; (first | omega | (simp <;> omega)))))
    have d4s := D4.size
    have C4 := Cls.below (l := [(w.heap.size, 0, .int .i64 t.facts), (w.heap.size, 1, .slice Ai t.init.length ci), (w.heap.size, 2, .slice Ag t.goal.length cg), (w.heap.size, 3, .slice Ao t.ops.length co), (w2.heap.size, 0, .int .i64 0), (w2.heap.size, 1, .int .i64 0)]) hB4 (by simp [Cls, go_sem, F3, y3w0, y3wp1, y3wp2, y3w20, y3w2p1, y3w2p2])
    have F4 := C4
    simp only [Cls, and_true] at F4
    have y4w0 : w.heap.size < w4.heap.size := C4.blk (b := w.heap.size) (k := 0) (v := .int .i64 t.facts) (by simp)
    have y4wp1 : w.heap.size < w4.heap.size + 1 := (by omega)
    have y4wp2 : w.heap.size < w4.heap.size + 1 + 1 := (by omega)
    have y4w20 : w2.heap.size < w4.heap.size := C4.blk (b := w2.heap.size) (k := 0) (v := .int .i64 0) (by simp)
    have y4w2p1 : w2.heap.size < w4.heap.size + 1 := (by omega)
    have y4w2p2 : w2.heap.size < w4.heap.size + 1 + 1 := (by omega)
    clear hb4 hA4 hg4
    have hlow := max_rbest HV.out HN.out HST.out HRB.out
    obtain ⟨lo, hlo⟩ : ∃ a, Hid (combV false (valuesV false n st t.ops (t.ops.map (·.cost))) t.goal = a) := ⟨_, Lib.hid rfl⟩
    rw [hlo.out] at hlow ⊢
    have hg1 : ¬ (lo > d) := by omega
    have hg2 : decide (lo > d) = false := decide_eq_false hg1
    go_wp2_with fail
    refine (plan_2 _ t Ai Ag Ao ci cg co (hT.below (by repeat (first | with_reducible exact D4 | with_reducible apply bdrew | with_reducible apply bdrewN | with_reducible apply balloc | ((with_reducible refine bset ?_ ?_ _); rotate_left; (first | omega | (simp <;> omega)))))) _ _ _ (hS.below (by repeat (first | with_reducible exact D4 | with_reducible apply bdrew | with_reducible apply bdrewN | with_reducible apply balloc | ((with_reducible refine bset ?_ ?_ _); rotate_left; (first | omega | (simp <;> omega)))))) hls n HN.out HV.out H2.out).mono ?_
    rintro e w5 ⟨v5, ok, rfl, hok, ho5, hB5⟩
    have D5 := dstep w hB5 (by repeat (first | with_reducible exact D4 | with_reducible apply bdrew | with_reducible apply bdrewN | with_reducible apply balloc | ((with_reducible refine bset ?_ ?_ _); rotate_left; (first | omega | (simp <;> omega)))))
    have d5s := D5.size
    have C5 := Cls.below (l := [(w.heap.size, 0, .int .i64 t.facts), (w.heap.size, 1, .slice Ai t.init.length ci), (w.heap.size, 2, .slice Ag t.goal.length cg), (w.heap.size, 3, .slice Ao t.ops.length co), (w2.heap.size, 0, .int .i64 0), (w2.heap.size, 1, .int .i64 0), (w4.heap.size, 0, .int .i64 0), (w4.heap.size, 1, .int .i64 0)]) hB5 (by simp [Cls, go_sem, F4, y4w0, y4wp1, y4wp2, y4w20, y4w2p1, y4w2p2])
    have F5 := C5
    simp only [Cls, and_true] at F5
    have y5w0 : w.heap.size < w5.heap.size := C5.blk (b := w.heap.size) (k := 0) (v := .int .i64 t.facts) (by simp)
    have y5wp1 : w.heap.size < w5.heap.size + 1 := (by omega)
    have y5wp2 : w.heap.size < w5.heap.size + 1 + 1 := (by omega)
    have y5w20 : w2.heap.size < w5.heap.size := C5.blk (b := w2.heap.size) (k := 0) (v := .int .i64 0) (by simp)
    have y5w2p1 : w2.heap.size < w5.heap.size + 1 := (by omega)
    have y5w2p2 : w2.heap.size < w5.heap.size + 1 + 1 := (by omega)
    have y5w40 : w4.heap.size < w5.heap.size := C5.blk (b := w4.heap.size) (k := 0) (v := .int .i64 0) (by simp)
    have y5w4p1 : w4.heap.size < w5.heap.size + 1 := (by omega)
    have y5w4p2 : w4.heap.size < w5.heap.size + 1 + 1 := (by omega)
    obtain ⟨pl, hpl⟩ : ∃ l, Hid ((if ok then planTo (levV n st t.ops) t.ops n t.goal else []) = l) := ⟨_, Lib.hid rfl⟩
    have HPR : Hid (∀ x ∈ pl, 0 ≤ x ∧ x < (t.ops.length : Int)) := Lib.hid (by
      rw [← hpl.out]
      cases ok with
      | false => simp
      | true => exact (plan_tells HV.out HN.out HST.out (hok.1 rfl)).rng)
    have HPN : Hid (pl.length ≤ t.ops.length) := Lib.hid (by
      rw [← hpl.out]
      cases ok with
      | false => simp
      | true => have h := plan_tells HV.out HN.out HST.out (hok.1 rfl); exact nodup_len h.nodup h.rng)
    have HOK : Hid (decide (d < 1000000000) = ok ∧ (ok = true → d ≤ costP t.ops pl)) := Lib.hid (by
      have h := plan_best HV.out HN.out HST.out HRB.out
      rw [← hpl.out]
      cases ok with
      | false => exact ⟨decide_eq_false (fun h3 => by have := hok.2 (h.1.2 h3); cases this), fun h => by cases h⟩
      | true => exact ⟨decide_eq_true (h.1.1 (hok.1 rfl)), fun _ => h.2 (hok.1 rfl)⟩)
    rw [hpl.out] at ho5
    clear hok hpl
    obtain ⟨A5, c5, rfl, hnil5, hI5⟩ := ho5.form
    clear hnil5 ho5
    have hok1 := HOK.out.1
    have hpl40 : pl.length ≤ 40 := by have := HPN.out; omega
    have hne : (ok != ok) = false := by cases ok <;> rfl
    have hokd : (decide (ok = ok)) = true := by simp
    go_wp2_with fail
    go_loopw [13, 14] (fun h i wr => ∃ k : Nat, k ≤ pl.length ∧ i = .int .i64 k ∧ h = .int .i64 (costP t.ops (pl.take k)) ∧ Below w5.heap.size w5 wr ∧ Cls wr [(w.heap.size, 0, .int .i64 t.facts), (w.heap.size, 1, .slice Ai t.init.length ci), (w.heap.size, 2, .slice Ag t.goal.length cg), (w.heap.size, 3, .slice Ao t.ops.length co), (w2.heap.size, 0, .int .i64 0), (w2.heap.size, 1, .int .i64 0), (w4.heap.size, 0, .int .i64 0), (w4.heap.size, 1, .int .i64 0), (w5.heap.size, 0, .int .i64 0), (w5.heap.size, 1, .int .i64 0)]) (fun _ i _ => pl.length - (intOf i).toNat)
    case atStart => exact ⟨0, Nat.zero_le _, rfl, by simp [costP], (by repeat (first | with_reducible exact Below.refl _ _ | with_reducible apply bdrew | with_reducible apply bdrewN | with_reducible apply balloc | ((with_reducible refine bset ?_ ?_ _); rotate_left; (first | omega | (simp <;> omega))))), (by simp [Cls, go_sem, F5, y5w0, y5wp1, y5wp2, y5w20, y5w2p1, y5w2p2, y5w40, y5w4p1, y5w4p2])⟩
    case round =>
      obtain ⟨k, hk, rfl, rfl, hBr, hCr⟩ := hrel
      obtain ⟨w6, rfl⟩ : ∃ wo : World, wo = wr := ⟨_, rfl⟩
      have drs := hBr.size
      have Fr := hCr
      simp only [Cls, and_true] at Fr
      have yrw0 : w.heap.size < w6.heap.size := hCr.blk (b := w.heap.size) (k := 0) (v := .int .i64 t.facts) (by simp)
      have yrwp1 : w.heap.size < w6.heap.size + 1 := (by omega)
      have yrwp2 : w.heap.size < w6.heap.size + 1 + 1 := (by omega)
      have yrw20 : w2.heap.size < w6.heap.size := hCr.blk (b := w2.heap.size) (k := 0) (v := .int .i64 0) (by simp)
      have yrw2p1 : w2.heap.size < w6.heap.size + 1 := (by omega)
      have yrw2p2 : w2.heap.size < w6.heap.size + 1 + 1 := (by omega)
      have yrw40 : w4.heap.size < w6.heap.size := hCr.blk (b := w4.heap.size) (k := 0) (v := .int .i64 0) (by simp)
      have yrw4p1 : w4.heap.size < w6.heap.size + 1 := (by omega)
      have yrw4p2 : w4.heap.size < w6.heap.size + 1 + 1 := (by omega)
      have yrw50 : w5.heap.size < w6.heap.size := hCr.blk (b := w5.heap.size) (k := 0) (v := .int .i64 0) (by simp)
      have yrw5p1 : w5.heap.size < w6.heap.size + 1 := (by omega)
      have yrw5p2 : w5.heap.size < w6.heap.size + 1 + 1 := (by omega)
      have DR := D5.trans (hBr.mono D5.size)
      obtain ⟨cc, hcc⟩ : ∃ a, Hid (costP t.ops (pl.take k) = a) := ⟨_, Lib.hid rfl⟩
      rw [hcc.out]
      by_cases hlt : k < pl.length
      · obtain ⟨pd, x, rfl, hx, hxc⟩ := (hI5.below hBr).at_ hlt
        have hxr := HPR.out x (List.mem_of_getElem? hx.out)
        obtain ⟨hx0, hx1⟩ := hxr
        obtain ⟨op, rfl⟩ := Int.eq_ofNat_of_zero_le hx0
        have hol : op < t.ops.length := by omega
        obtain ⟨ad, o, A0, c0, A2, c2, A4, c4, rfl, ho, hc0, hc1, hc2, hc3, hm⟩ := hT.ops.at_ hol
        have HSN := Lib.hid (costP_take hx.out ho.out)
        rw [hcc.out] at HSN
        have hco := HCO.out o (List.mem_of_getElem? ho.out)
        have hcr : 0 ≤ cc ∧ cc ≤ 100 * 40 := by
          have h := costP_le HCO.out (pl.take k) (fun x hx => HPR.out x (List.mem_of_mem_take hx))
          rw [hcc.out, List.length_take] at h
          omega
        have hc3' : w6.cell? ⟨(ad.add (op * 4)).block, (ad.add (op * 4)).off + 3, none⟩ = some (.int .i64 o.cost) := (DR.cell (World.block_lt_of_cell? w _ hc3)).trans hc3
        have hob : (ad.add (op * 4)).block < w6.heap.size := World.block_lt_of_cell? w6 ⟨(ad.add (op * 4)).block, (ad.add (op * 4)).off + 3, none⟩ hc3'
        clear hm hc0 hc1 hc2 hc3
        go_wp2_with fail
        go_quiet ((go_at_call 42; exact Calls.quiet_of_same ((in_yes _ _ _ _ (by omega) (by omega)).mono fun _ _ h => ⟨h.1, h.2.symm⟩)))
        go_wp2_with fail
        go_quiet (fail)
        go_wp2
        go_roundw
        case rel => exact ⟨k + 1, by omega, by go_num, by rw [HSN.out], (by repeat (first | with_reducible exact hBr | with_reducible apply bdrew | with_reducible apply bdrewN | with_reducible apply balloc | ((with_reducible refine bset ?_ ?_ _); rotate_left; (first | omega | (simp <;> omega))))), (Cls.below (w := w6) (by repeat (first | with_reducible exact Below.refl _ _ | with_reducible apply bdrew | with_reducible apply bdrewN | with_reducible apply balloc | ((with_reducible refine bset ?_ ?_ _); rotate_left; (first | omega | (simp <;> omega))))) hCr)⟩
        case measure => simp [intOf]; omega
      · have hcp : cc = costP t.ops pl := by rw [← hcc.out, List.take_of_length_le (by omega)]
        have HLE := Lib.hid (show ok = true → d ≤ cc by rw [hcp]; exact HOK.out.2)
        clear hcp
        go_wp2_with fail
        refine (cost_any _ t Ai Ag Ao ci cg co (hT.below (by repeat (first | with_reducible exact DR | with_reducible apply bdrew | with_reducible apply bdrewN | with_reducible apply balloc | ((with_reducible refine bset ?_ ?_ _); rotate_left; (first | omega | (simp <;> omega)))))) _ _ _ (hS.below (by repeat (first | with_reducible exact DR | with_reducible apply bdrew | with_reducible apply bdrewN | with_reducible apply balloc | ((with_reducible refine bset ?_ ?_ _); rotate_left; (first | omega | (simp <;> omega)))))) n HN.out HV.out HST.out).mono ?_
        rintro e w6 ⟨e6, v, rfl, he6, hB6⟩
        have D6 := dstep w hB6 (by repeat (first | with_reducible exact DR | with_reducible apply bdrew | with_reducible apply bdrewN | with_reducible apply balloc | ((with_reducible refine bset ?_ ?_ _); rotate_left; (first | omega | (simp <;> omega)))))
        have d6s := D6.size
        have C6 := Cls.below (l := [(w.heap.size, 0, .int .i64 t.facts), (w.heap.size, 1, .slice Ai t.init.length ci), (w.heap.size, 2, .slice Ag t.goal.length cg), (w.heap.size, 3, .slice Ao t.ops.length co), (w2.heap.size, 0, .int .i64 0), (w2.heap.size, 1, .int .i64 0), (w4.heap.size, 0, .int .i64 0), (w4.heap.size, 1, .int .i64 0), (w5.heap.size, 0, .int .i64 0), (w5.heap.size, 1, .int .i64 0)]) hB6 (by simp [Cls, go_sem, Fr, yrw0, yrwp1, yrwp2, yrw20, yrw2p1, yrw2p2, yrw40, yrw4p1, yrw4p2, yrw50, yrw5p1, yrw5p2])
        have F6 := C6
        simp only [Cls, and_true] at F6
        have y6w0 : w.heap.size < w6.heap.size := C6.blk (b := w.heap.size) (k := 0) (v := .int .i64 t.facts) (by simp)
        have y6wp1 : w.heap.size < w6.heap.size + 1 := (by omega)
        have y6wp2 : w.heap.size < w6.heap.size + 1 + 1 := (by omega)
        have y6w20 : w2.heap.size < w6.heap.size := C6.blk (b := w2.heap.size) (k := 0) (v := .int .i64 0) (by simp)
        have y6w2p1 : w2.heap.size < w6.heap.size + 1 := (by omega)
        have y6w2p2 : w2.heap.size < w6.heap.size + 1 + 1 := (by omega)
        have y6w40 : w4.heap.size < w6.heap.size := C6.blk (b := w4.heap.size) (k := 0) (v := .int .i64 0) (by simp)
        have y6w4p1 : w4.heap.size < w6.heap.size + 1 := (by omega)
        have y6w4p2 : w4.heap.size < w6.heap.size + 1 + 1 := (by omega)
        have y6w50 : w5.heap.size < w6.heap.size := C6.blk (b := w5.heap.size) (k := 0) (v := .int .i64 0) (by simp)
        have y6w5p1 : w5.heap.size < w6.heap.size + 1 := (by omega)
        have y6w5p2 : w5.heap.size < w6.heap.size + 1 + 1 := (by omega)
        have HLF := Lib.hid (show v = true → d ≤ e6 from fun h => rx_low2 HV.out HN.out (he6.out h).1 (he6.out h).2 HRB.out)
        clear he6
        cases ok <;> cases v
        · go_wp2
          go_ret
          exact ⟨by simp, by repeat (first | with_reducible exact D6 | with_reducible apply bdrew | with_reducible apply bdrewN | with_reducible apply balloc | ((with_reducible refine bset ?_ ?_ _); rotate_left; (first | omega | (simp <;> omega))))⟩
        · have hlf : d ≤ e6 := HLF.out rfl
          have hlf' : decide (d ≤ e6) = true := decide_eq_true hlf
          go_wp2
          go_ret
          exact ⟨by simp, by repeat (first | with_reducible exact D6 | with_reducible apply bdrew | with_reducible apply bdrewN | with_reducible apply balloc | ((with_reducible refine bset ?_ ?_ _); rotate_left; (first | omega | (simp <;> omega))))⟩
        · have hle : d ≤ cc := HLE.out rfl
          have hle' : decide (d ≤ cc) = true := decide_eq_true hle
          go_wp2
          go_ret
          exact ⟨by simp, by repeat (first | with_reducible exact D6 | with_reducible apply bdrew | with_reducible apply bdrewN | with_reducible apply balloc | ((with_reducible refine bset ?_ ?_ _); rotate_left; (first | omega | (simp <;> omega))))⟩
        · have hle : d ≤ cc := HLE.out rfl
          have hle' : decide (d ≤ cc) = true := decide_eq_true hle
          have hlf : d ≤ e6 := HLF.out rfl
          have hlf' : decide (d ≤ e6) = true := decide_eq_true hlf
          go_wp2
          go_ret
          exact ⟨by simp, by repeat (first | with_reducible exact D6 | with_reducible apply bdrew | with_reducible apply bdrewN | with_reducible apply balloc | ((with_reducible refine bset ?_ ?_ _); rotate_left; (first | omega | (simp <;> omega))))⟩
  · go_wp2
    go_ret
    exact ⟨by simp, by repeat (first | with_reducible exact D2 | with_reducible apply bdrew | with_reducible apply bdrewN | with_reducible apply balloc | ((with_reducible refine bset ?_ ?_ _); rotate_left; (first | omega | (simp <;> omega))))⟩

theorem walk_rbt (w : World) (t : TaskV) (Ai Ag Ao : Option Addr) (ci cg co : Nat) (hR : TaskRead w Ai Ag Ao ci cg co t) (S : Option Addr) (cs : Nat) (st : List Int) (hS : Ints w S st) (hSn : NilOk S st cs) :
    Calls Try.prog 7 #[.agg #[.int .i64 t.facts, .slice Ai t.init.length ci, .slice Ag t.goal.length cg, .slice Ao t.ops.length co], .slice S st.length cs] w fun e w' => e = .returned (.bool true) ∧ Below w.heap.size w w' := by
  by_cases h : (sfault t st).1 = 0
  · obtain ⟨hv, h2⟩ := sfault_zero.1 h
    obtain ⟨n, hn⟩ := Int.eq_ofNat_of_zero_le hv.f0
    exact walk_rbt_2 w t Ai Ag Ao ci cg co hR S cs st hS hSn n hn hv h2
  · exact walk_rbt_1 w t Ai Ag Ao ci cg co hR S cs st hS hSn h

namespace relaxplanBetween
open Go.ChangeShapes Go.WideShapes Go.ChangeAt Go.RowKit

set_option maxRecDepth 100000 in
theorem lifted (os : Os) (started : os.Started) (H : Type) (enc : TypeId × Value → H) :
    ReturnsInHanded {} Try.checked os 7 .any (Rows.relaxplanBetweenSpec.pre6 enc Try.prog Try.f7 Rows.relaxplanBetweenRow.domain false) (Rows.relaxplanBetweenSpec.post enc Try.prog Try.f7 false true false false) := by
  refine returnsInHanded_of_change (C := Try.checked) own_knob started (by kernel_rfl) Try.func7
    (ChangeSpec.witness6 (enc := enc) (C := Try.checked) false ⟨#[], #[.agg #[.int .i64 0, .slice none 0 0, .slice none 0 0, .slice none 0 0], .slice none 0 0], []⟩ 8 (by kernel_rfl) (by kernel_rfl) (by kernel_rfl) (by kernel_rfl)) ?_
  intro W base args ds gs before hval0 hW _ hsz
  have hval : ∀ (j : Nat) t v, Try.f7.params[j]? = some t → args[j]? = some v → Value.okWide Try.prog W .any base t v := hval0
  have hpost := fun (W' : World) (hfn : gs = [] → Rows.relaxplanBetweenSpec.fn H (ds ++ gs) = { results := [.lit (.bool true)], args := ds }) (hb : Below W.heap.size W W') => law_post (f := Try.f7) (tb := 4) laid_out_B Try.underlying4 rfl (by kernel_rfl) rfl hfn hW hb
  obtain ⟨p, q, hA0, hV, hpq, hfz, hnd⟩ := hW
  have hA : DataW.TrodAll enc Try.prog W 0 (fun _ => true) true Try.f7.params.toList args.toList ds p := hA0
  rw [Try.params7] at hA hval
  obtain ⟨v0, vs0, d0, ds0, p0, q0, hargs, rfl, hp0, h0, r0⟩ := trodAll_cons hA
  obtain ⟨v1, vs1, d1, ds1, p1, q1, rfl, rfl, hp1, h1, r1⟩ := trodAll_cons r0
  obtain ⟨rfl, rfl, hpn⟩ := trodAll_nil r1
  obtain rfl : args = #[v0, v1] := by cases args; simp_all
  obtain ⟨t, Ai, Ag, Ao, ci, cg, co, rfl, hR⟩ := open_taskW (hval 0 25 v0 rfl rfl) h0
  obtain ⟨S, cs, st, rfl, hSc, hSl, hSnn, hS, hSi⟩ := open_intsW (hval 1 22 v1 rfl rfl) h1
  refine (walk_rbt W t Ai Ag Ao ci cg co hR S cs st hS ⟨hSnn, hSc, hSl⟩).mono fun e W' ⟨he, hb⟩ => ?_
  subst he
  exact ⟨_, rfl, hpost W' (fun hg => by subst hg; rfl) hb⟩

theorem closed : joinedFacts Try.checked.prog 7 Try.f7 Rows.relaxplanBetweenSpec Rows.relaxplanBetweenRow = true := by
  unfold joinedFacts
  rw [pf_enter, pf_lifts, pf_make]
  kernel_rfl
theorem proved : Rows.RelaxplanBetweenSaid :=
  OpenClaim.holds_of_wide 7 Try.f7 rfl rfl rfl rfl rfl rfl rfl ⟨rfl, rfl, rfl, rfl, rfl⟩ rfl rfl rfl rfl rfl (by kernel_rfl) Try.func7 closed
    (of_decide_eq_true (by kernel_rfl)) (by unfold Func.isWrapper; first | (rw [if_pos (by decide +kernel)]; kernel_rfl) | (rw [if_neg (by decide +kernel)]; exact ⟨rfl, rfl⟩))
    (fun os started H enc _ => lifted os started H enc)
#print axioms proved
end relaxplanBetween

end Go.Proofs.Ytihkgdlanfemcaa
