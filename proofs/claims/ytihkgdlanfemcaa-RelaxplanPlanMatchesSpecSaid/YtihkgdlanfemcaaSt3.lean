/-
  strips.Can, Next, Steps, PlanFault; R.StepsFault, R.PlanFault: what they return.
-/
import Derived.Test.YtihkgdlanfemcaaMJ
import Derived.Test.YtihkgdlanfemcaaMA
import Derived.Test.YtihkgdlanfemcaaMD
namespace Go.Proofs.Ytihkgdlanfemcaa
open Go.RowKit
set_option linter.unusedVariables false
set_option linter.unusedSimpArgs false

theorem OpsRead.below {w w' : World} {A : Option Addr} {ops : List OpV} (h : OpsRead w A ops) (hb : Below w.heap.size w w') : OpsRead w' A ops := fun k o hk => by
  obtain ⟨ad, A0, c0, A1, c1, A2, c2, e, h0, h1, h2, h3, hm, hr⟩ := h k o hk
  exact ⟨ad, A0, c0, A1, c1, A2, c2, e, (hb.cell (World.block_lt_of_cell? w _ h0)).trans h0, (hb.cell (World.block_lt_of_cell? w _ h1)).trans h1, (hb.cell (World.block_lt_of_cell? w _ h2)).trans h2, (hb.cell (World.block_lt_of_cell? w _ h3)).trans h3, hm.below hb, hr⟩
theorem OpsRead.at2 {w w' : World} {A : Option Addr} {ops : List OpV} {k : Nat} (h : OpsRead w A ops) (hb : Below w.heap.size w w') (hk : k < ops.length) : ∃ ad o A0 c0 A1 c1 A2 c2, A = some ad ∧ Hid (ops[k]? = some o) ∧ w'.cell? (ad.add (k * 4)) = some (.slice A0 o.pre.length c0) ∧ w'.cell? ⟨(ad.add (k * 4)).block, (ad.add (k * 4)).off + 1, none⟩ = some (.slice A1 o.add.length c1) ∧
    w'.cell? ⟨(ad.add (k * 4)).block, (ad.add (k * 4)).off + 2, none⟩ = some (.slice A2 o.del.length c2) ∧ w'.cell? ⟨(ad.add (k * 4)).block, (ad.add (k * 4)).off + 3, none⟩ = some (.int .i64 o.cost) ∧ OpMem w A0 A1 A2 o ∧ Hid (A1 = none → c1 = 0) := by
  obtain ⟨ad, A0, c0, A1, c1, A2, c2, e, h0, h1, h2, h3, hm, hr⟩ := h k _ (List.getElem?_eq_getElem hk)
  exact ⟨ad, ops[k], A0, c0, A1, c1, A2, c2, e, Lib.hid (List.getElem?_eq_getElem hk), (hb.cell (World.block_lt_of_cell? w _ h0)).trans h0, (hb.cell (World.block_lt_of_cell? w _ h1)).trans h1, (hb.cell (World.block_lt_of_cell? w _ h2)).trans h2, (hb.cell (World.block_lt_of_cell? w _ h3)).trans h3, hm, Lib.hid (fun e => (hr.2.1.1 e).2)⟩
theorem scontains_v (A B : Option Addr) (c d : Nat) (s part : List Int) (w : World) (v : Bool) (hI : Ints w A s) (hJ : Ints w B part) (hl : s.length ≤ 9223372036854775807) (hm : part.length ≤ 9223372036854775807) (hs : s.Pairwise (· < ·)) (hp : part.Pairwise (· < ·)) (hv : (∀ q ∈ part, q ∈ s) ↔ v = true) :
    Calls Try.prog 99 #[.slice A s.length c, .slice B part.length d] w fun e w' => e = .returned (.bool v) ∧ w = w' :=
  (scontains_any A B c d s part w hI hJ hl hm hs hp).mono fun e w' h => ⟨by
    rw [h.1]
    cases v with
    | true => rw [decide_eq_true (hv.2 rfl)]
    | false => rw [decide_eq_false (fun h => by have := hv.1 h; cases this)], h.2⟩
set_option maxRecDepth 100000 in
set_option maxHeartbeats 1000000 in
theorem can_any (w : World) (t : TaskV) (Ai Ag Ao : Option Addr) (ci cg co : Nat) (hT : TaskMem w Ai Ag Ao t) (S : Option Addr) (cs : Nat) (st : List Int) (hS : Ints w S st) (hst : SetP st t.facts) (hv : Valid t) (k : Nat) (hlt : k < t.ops.length) (v : Bool) (hval : CanV t.ops st (k : Int) ↔ v = true) :
    Calls Try.prog 149 #[.agg #[.int .i64 t.facts, .slice Ai t.init.length ci, .slice Ag t.goal.length cg, .slice Ao t.ops.length co], .slice S st.length cs, .int .i64 (k : Int)] w fun e w' => e = .returned (.bool v) ∧ Below w.heap.size w w' := by
  have HST := Lib.hid (SetP.pairwise hst)
  have HV := Lib.hid hv
  have hlS : st.length ≤ 9223372036854775807 := by have := SetP.length hst hv.f0; have := hv.f1; omega
  obtain ⟨ad, o, A0, c0, A1, c1, A2, c2, rfl, ho, hc0, hc1, hc2, hc3, hm⟩ := hT.ops.at2 (w' := (w.alloc (.cells #[.int .i64 t.facts, .slice Ai t.init.length ci, .slice Ag t.goal.length cg, .slice Ao t.ops.length co] 25))) (by repeat (first | with_reducible exact Below.refl _ _ | with_reducible apply bdrew | with_reducible apply bdrewN | with_reducible apply balloc | ((with_reducible refine bset ?_ ?_ _); rotate_left; (first | omega | (simp <;> omega))))) hlt
  have HO := Lib.hid (hv.ops o (List.mem_of_getElem? ho.out)).1
  have hlp := hm.lpre.le
  have HC : Hid ((∀ q ∈ o.pre, q ∈ st) ↔ v = true) := Lib.hid (by
    rw [← hval]
    constructor
    · exact fun h => ⟨o, by simpa using ho.out, h⟩
    · rintro ⟨o', h1, h2⟩
      have h3 := ho.out
      simp only [Int.toNat_natCast] at h1
      rw [h1] at h3
      injection h3 with h3
      rw [← h3]; exact h2)
  clear hval hst hv
  go_enter Try.func149, Try.ntmps149
  go_wp2_with fail
  refine (scontains_v _ _ _ _ _ _ _ v (hS.below (by repeat (first | with_reducible exact Below.refl _ _ | with_reducible apply bdrew | with_reducible apply bdrewN | with_reducible apply balloc | ((with_reducible refine bset ?_ ?_ _); rotate_left; (first | omega | (simp <;> omega)))))) (hm.pre.below (by repeat (first | with_reducible exact Below.refl _ _ | with_reducible apply bdrew | with_reducible apply bdrewN | with_reducible apply balloc | ((with_reducible refine bset ?_ ?_ _); rotate_left; (first | omega | (simp <;> omega)))))) hlS hlp HST.out (SetP.pairwise HO.out.1) HC.out).mono ?_
  rintro e w9 ⟨rfl, rfl⟩
  go_wp2
  refine bodyPost_ret (v := .bool v) ?_ rfl ⟨rfl, by repeat (first | with_reducible exact Below.refl _ _ | with_reducible apply bdrew | with_reducible apply bdrewN | with_reducible apply balloc | ((with_reducible refine bset ?_ ?_ _); rotate_left; (first | omega | (simp <;> omega))))⟩
  simp [results, Try.results149, go_sem]

set_option maxRecDepth 100000 in
set_option maxHeartbeats 1000000 in
theorem next_any (w : World) (t : TaskV) (Ai Ag Ao : Option Addr) (ci cg co : Nat) (hR : OpsRead w Ao t.ops) (S : Option Addr) (cs : Nat) (st : List Int) (hS : Ints w S st) (hst : SetP st t.facts) (n : Nat) (hn : t.facts = n) (hv : Valid t) (k : Nat) (hlt : k < t.ops.length) :
    Calls Try.prog 150 #[.agg #[.int .i64 t.facts, .slice Ai t.init.length ci, .slice Ag t.goal.length cg, .slice Ao t.ops.length co], .slice S st.length cs, .int .i64 (k : Int)] w fun e w' => ∃ v, e = .returned v ∧ OwnI w.heap.size w' v (nextV n st (opAt t.ops (k : Int))) ∧ Below w.heap.size w w' := by
  have hlS : st.length ≤ 100000000000 := by have := SetP.length hst hv.f0; have := hv.f1; omega
  obtain ⟨ad, o, A0, c0, A1, c1, A2, c2, rfl, ho, hc0, hc1, hc2, hc3, hm, hnil⟩ := hR.at2 (w' := (w.alloc (.cells #[.int .i64 t.facts, .slice Ai t.init.length ci, .slice Ag t.goal.length cg, .slice Ao t.ops.length co] 25))) (by repeat (first | with_reducible exact Below.refl _ _ | with_reducible apply bdrew | with_reducible apply bdrewN | with_reducible apply balloc | ((with_reducible refine bset ?_ ?_ _); rotate_left; (first | omega | (simp <;> omega))))) hlt
  have HO := Lib.hid (hv.ops o (List.mem_of_getElem? ho.out)).1
  have hla : o.add.length ≤ 100000000000 := by have := SetP.length HO.out.2.1 hv.f0; have := hv.f1; omega
  have hld : o.del.length ≤ 100000000000 := by have := SetP.length HO.out.2.2.1 hv.f0; have := hv.f1; omega
  have HU : Hid (updV st o.add o.del = nextV n st (opAt t.ops (k : Int))) := Lib.hid (by
    rw [opAt_of (o := o) (by simpa using ho.out)]
    rw [hn] at hst
    refine updV_next hst.1 ?_
    have := HO.out.2.1
    rw [hn] at this
    exact this.1)
  clear hst hv hn
  go_enter Try.func150, Try.ntmps150
  go_wp2_with fail
  refine (update_any _ _ _ _ _ _ _ _ _ _ (hS.below (by repeat (first | with_reducible exact Below.refl _ _ | with_reducible apply bdrew | with_reducible apply bdrewN | with_reducible apply balloc | ((with_reducible refine bset ?_ ?_ _); rotate_left; (first | omega | (simp <;> omega)))))) (hm.add.below (by repeat (first | with_reducible exact Below.refl _ _ | with_reducible apply bdrew | with_reducible apply bdrewN | with_reducible apply balloc | ((with_reducible refine bset ?_ ?_ _); rotate_left; (first | omega | (simp <;> omega)))))) (hm.del.below (by repeat (first | with_reducible exact Below.refl _ _ | with_reducible apply bdrew | with_reducible apply bdrewN | with_reducible apply balloc | ((with_reducible refine bset ?_ ?_ _); rotate_left; (first | omega | (simp <;> omega)))))) hlS hla hld (SetP.pairwise HO.out.2.2.1) hnil.out).mono ?_
  rintro e w9 ⟨v9, rfl, ho9, hB9⟩
  have D9 := dstep w hB9 (by repeat (first | with_reducible exact Below.refl _ _ | with_reducible apply bdrew | with_reducible apply bdrewN | with_reducible apply balloc | ((with_reducible refine bset ?_ ?_ _); rotate_left; (first | omega | (simp <;> omega)))))
  go_wp2
  refine bodyPost_ret (v := v9) ?_ rfl ⟨_, rfl, ?_, by repeat (first | with_reducible exact D9 | with_reducible apply bdrew | with_reducible apply bdrewN | with_reducible apply balloc | ((with_reducible refine bset ?_ ?_ _); rotate_left; (first | omega | (simp <;> omega))))⟩
  · simp [results, Try.results150, go_sem]
  · rw [← HU.out]; exact OwnI.mono ho9 (by simp; omega)

/-- The steps of a plan are operators, and there are not too many. -/
def StepsOk (m : Nat) (plan : List Int) : Prop := plan.length ≤ 60 ∧ ∀ op ∈ plan, 0 ≤ op ∧ op < (m : Int)
set_option maxRecDepth 100000 in
set_option maxHeartbeats 400000 in
theorem steps_yes (w : World) (m : Nat) (A : Option Addr) (c : Nat) (plan : List Int) (hI : Ints w A plan) (hmm : m ≤ 1000000) (hok : StepsOk m plan) :
    Calls Try.prog 120 #[.int .i64 (m : Int), .slice A plan.length c] w fun e w' => e = .returned (.agg #[.int .i64 0, .int .i64 0]) ∧ Below w.heap.size w w' := by
  have hl60 := hok.1
  have HOK := Lib.hid hok.2
  clear hok
  go_enter Try.func120, Try.ntmps120
  go_wp2_with fail
  go_loopw [13] (fun i wr => ∃ k : Nat, k ≤ plan.length ∧ i = .int .i64 k ∧ Below w.heap.size w wr ∧ Cls wr [(w.heap.size, 0, .int .i64 0), (w.heap.size, 1, .int .i64 0)]) (fun i _ => plan.length - (intOf i).toNat)
  case atStart => exact ⟨0, Nat.zero_le _, rfl, (by repeat (first | with_reducible exact Below.refl _ _ | with_reducible apply bdrew | with_reducible apply bdrewN | with_reducible apply balloc | ((with_reducible refine bset ?_ ?_ _); rotate_left; (first | omega | (simp <;> omega))))), (by simp [Cls, go_sem])⟩
  case round =>
    obtain ⟨k, hk, rfl, hBr, hCr⟩ := hrel
    have drs := hBr.size
    have Fr := hCr
    simp only [Cls, and_true] at Fr
    have yrw0 : w.heap.size < wr.heap.size := hCr.blk (b := w.heap.size) (k := 0) (v := .int .i64 0) (by simp)
    have yrwp1 : w.heap.size < wr.heap.size + 1 := (by omega)
    have yrwp2 : w.heap.size < wr.heap.size + 1 + 1 := (by omega)
    by_cases hlt : k < plan.length
    · obtain ⟨ad, x, rfl, hx, hcx⟩ := (hI.below hBr).at_ hlt
      have hx0 := (HOK.out x (List.mem_of_getElem? hx.out)).1
      have hx1 := (HOK.out x (List.mem_of_getElem? hx.out)).2
      go_wp2
      go_roundw
      case rel => exact ⟨k + 1, by omega, by go_num, (by repeat (first | with_reducible exact hBr | with_reducible apply bdrew | with_reducible apply bdrewN | with_reducible apply balloc | ((with_reducible refine bset ?_ ?_ _); rotate_left; (first | omega | (simp <;> omega))))), (by simp [Cls, go_sem, Fr, yrw0, yrwp1, yrwp2])⟩
      case measure => simp [intOf]; omega
    · have hge : ¬ k < plan.length := hlt
      go_wp2
      refine bodyPost_ret (v := .agg #[.int .i64 0, .int .i64 0]) ?_ rfl ⟨rfl, by repeat (first | with_reducible exact hBr | with_reducible apply bdrew | with_reducible apply bdrewN | with_reducible apply balloc | ((with_reducible refine bset ?_ ?_ _); rotate_left; (first | omega | (simp <;> omega))))⟩
      simp [results, Try.results120, go_sem, Fr, yrw0, yrwp1, yrwp2]

set_option maxRecDepth 100000 in
set_option maxHeartbeats 400000 in
theorem steps_long (w : World) (m : Nat) (A : Option Addr) (c : Nat) (plan : List Int) (hl : plan.length ≤ 9223372036854775807) (hm : 60 < plan.length) :
    Calls Try.prog 120 #[.int .i64 (m : Int), .slice A plan.length c] w fun e w' => e = .returned (.agg #[.int .i64 2, .int .i64 (-5)]) ∧ Below w.heap.size w w' := by
  go_enter Try.func120, Try.ntmps120
  go_wp2
  refine bodyPost_ret (v := .agg #[.int .i64 2, .int .i64 (-5)]) ?_ rfl ⟨rfl, by repeat (first | with_reducible exact Below.refl _ _ | with_reducible apply bdrew | with_reducible apply bdrewN | with_reducible apply balloc | ((with_reducible refine bset ?_ ?_ _); rotate_left; (first | omega | (simp <;> omega))))⟩
  simp [results, Try.results120, go_sem]

set_option maxRecDepth 100000 in
set_option maxHeartbeats 400000 in
theorem steps_no (w : World) (m : Nat) (A : Option Addr) (c : Nat) (plan : List Int) (hI : Ints w A plan) (hmm : m ≤ 1000000) (hl : plan.length ≤ 60) (hno : ¬ ∀ op ∈ plan, 0 ≤ op ∧ op < (m : Int)) :
    Calls Try.prog 120 #[.int .i64 (m : Int), .slice A plan.length c] w fun e w' => e = .returned (.agg #[.int .i64 3, .int .i64 (-6)]) ∧ Below w.heap.size w w' := by
  have HNO := Lib.hid hno
  clear hno
  go_enter Try.func120, Try.ntmps120
  go_wp2_with fail
  go_loopw [13] (fun i wr => ∃ k : Nat, k ≤ plan.length ∧ i = .int .i64 k ∧ Hid (∀ op ∈ plan.take k, 0 ≤ op ∧ op < (m : Int)) ∧ Below w.heap.size w wr ∧ Cls wr [(w.heap.size, 0, .int .i64 0), (w.heap.size, 1, .int .i64 0)]) (fun i _ => plan.length - (intOf i).toNat)
  case atStart => exact ⟨0, Nat.zero_le _, rfl, Lib.hid (by simp), (by repeat (first | with_reducible exact Below.refl _ _ | with_reducible apply bdrew | with_reducible apply bdrewN | with_reducible apply balloc | ((with_reducible refine bset ?_ ?_ _); rotate_left; (first | omega | (simp <;> omega))))), (by simp [Cls, go_sem])⟩
  case round =>
    obtain ⟨k, hk, rfl, HK, hBr, hCr⟩ := hrel
    have drs := hBr.size
    have Fr := hCr
    simp only [Cls, and_true] at Fr
    have yrw0 : w.heap.size < wr.heap.size := hCr.blk (b := w.heap.size) (k := 0) (v := .int .i64 0) (by simp)
    have yrwp1 : w.heap.size < wr.heap.size + 1 := (by omega)
    have yrwp2 : w.heap.size < wr.heap.size + 1 + 1 := (by omega)
    by_cases hlt : k < plan.length
    · obtain ⟨ad, x, rfl, hx, hcx⟩ := (hI.below hBr).at_ hlt
      by_cases h0 : x < 0
      · go_wp2
        refine bodyPost_ret (v := .agg #[.int .i64 3, .int .i64 (-6)]) ?_ rfl ⟨rfl, by repeat (first | with_reducible exact hBr | with_reducible apply bdrew | with_reducible apply bdrewN | with_reducible apply balloc | ((with_reducible refine bset ?_ ?_ _); rotate_left; (first | omega | (simp <;> omega))))⟩
        simp [results, Try.results120, go_sem, Fr, yrw0, yrwp1, yrwp2]
      · by_cases h1 : x < (m : Int)
        · have HK' : Hid (∀ op ∈ plan.take (k + 1), 0 ≤ op ∧ op < (m : Int)) := Lib.hid (fun q hq => by
            rw [List.take_add_one, hx.out] at hq
            rcases List.mem_append.1 hq with h | h
            · exact HK.out q h
            · have h' : q = x := by simpa using h
              omega)
          go_wp2
          go_roundw
          case rel => exact ⟨k + 1, by omega, by go_num, HK', (by repeat (first | with_reducible exact hBr | with_reducible apply bdrew | with_reducible apply bdrewN | with_reducible apply balloc | ((with_reducible refine bset ?_ ?_ _); rotate_left; (first | omega | (simp <;> omega))))), (by simp [Cls, go_sem, Fr, yrw0, yrwp1, yrwp2])⟩
          case measure => simp [intOf]; omega
        · go_wp2
          refine bodyPost_ret (v := .agg #[.int .i64 3, .int .i64 (-6)]) ?_ rfl ⟨rfl, by repeat (first | with_reducible exact hBr | with_reducible apply bdrew | with_reducible apply bdrewN | with_reducible apply balloc | ((with_reducible refine bset ?_ ?_ _); rotate_left; (first | omega | (simp <;> omega))))⟩
          simp [results, Try.results120, go_sem, Fr, yrw0, yrwp1, yrwp2]
    · exact absurd (fun op hop => HK.out op (by rw [List.take_of_length_le (by omega)]; exact hop)) HNO.out

/-- The fault of the steps of a plan. -/
def stepsF (plan : List Int) : Int × Int := if plan.length ≤ 60 then (3, -6) else (2, -5)
theorem stepsF_ne (plan : List Int) : ¬ (stepsF plan).1 = 0 := by unfold stepsF; split <;> simp
theorem steps_any (w : World) (m : Nat) (A : Option Addr) (c : Nat) (plan : List Int) (hI : Ints w A plan) (hmm : m ≤ 1000000) (hl : plan.length ≤ 9223372036854775807) (hno : ¬ StepsOk m plan) :
    Calls Try.prog 120 #[.int .i64 (m : Int), .slice A plan.length c] w fun e w' => e = .returned (.agg #[.int .i64 (stepsF plan).1, .int .i64 (stepsF plan).2]) ∧ Below w.heap.size w w' := by
  by_cases h : plan.length ≤ 60
  · unfold stepsF; rw [if_pos h]; exact steps_no w m A c plan hI hmm h (fun k => hno ⟨h, k⟩)
  · unfold stepsF; rw [if_neg h]; exact steps_long w m A c plan hl (by omega)
set_option maxRecDepth 100000 in
set_option maxHeartbeats 400000 in
theorem planfault_1 (w : World) (t : TaskV) (Ai Ag Ao : Option Addr) (ci cg co : Nat) (hT : TaskMem w Ai Ag Ao t) (P : Option Addr) (cp : Nat) (plan : List Int) (hP : Ints w P plan) (hlP : plan.length ≤ 9223372036854775807) (h : ¬ (tfault t).1 = 0) :
    Calls Try.prog 96 #[.agg #[.int .i64 t.facts, .slice Ai t.init.length ci, .slice Ag t.goal.length cg, .slice Ao t.ops.length co], .slice P plan.length cp] w fun e w' => e = .returned (.agg #[.int .i64 (tfault t).1, .int .i64 (tfault t).2]) ∧ Below w.heap.size w w' := by
  have N := bb_no h
  have N' := bn_yes h
  go_enter Try.func96, Try.ntmps96
  go_wp2_with fail
  refine (validate_any _ _ _ _ _ _ _ _ (hT.below (by repeat (first | with_reducible exact Below.refl _ _ | with_reducible apply bdrew | with_reducible apply bdrewN | with_reducible apply balloc | ((with_reducible refine bset ?_ ?_ _); rotate_left; (first | omega | (simp <;> omega))))))).mono ?_
  rintro e w1 ⟨rfl, hB1⟩
  have D1 := dstep w hB1 (by repeat (first | with_reducible exact Below.refl _ _ | with_reducible apply bdrew | with_reducible apply bdrewN | with_reducible apply balloc | ((with_reducible refine bset ?_ ?_ _); rotate_left; (first | omega | (simp <;> omega)))))
  have d1s := D1.size
  have C1 := Cls.below (l := [(w.heap.size, 0, .int .i64 t.facts), (w.heap.size, 1, .slice Ai t.init.length ci), (w.heap.size, 2, .slice Ag t.goal.length cg), (w.heap.size, 3, .slice Ao t.ops.length co), (w.heap.size + 1, 0, .int .i64 0), (w.heap.size + 1, 1, .int .i64 0)]) hB1 (by simp [Cls, go_sem])
  have F1 := C1
  simp only [Cls, and_true] at F1
  have y1w1 : w.heap.size + 1 < w1.heap.size := C1.blk (b := w.heap.size + 1) (k := 0) (v := .int .i64 0) (by simp)
  have y1w0 : w.heap.size < w1.heap.size := (by omega)
  have y1wp1 : w.heap.size < w1.heap.size + 1 := (by omega)
  have y1wp2 : w.heap.size < w1.heap.size + 1 + 1 := (by omega)
  go_wp2
  refine bodyPost_ret (v := .agg #[.int .i64 (tfault t).1, .int .i64 (tfault t).2]) ?_ rfl ⟨rfl, by repeat (first | with_reducible exact D1 | with_reducible apply bdrew | with_reducible apply bdrewN | with_reducible apply balloc | ((with_reducible refine bset ?_ ?_ _); rotate_left; (first | omega | (simp <;> omega))))⟩
  simp [results, Try.results96, go_sem, F1, y1w1, y1w0, y1wp1, y1wp2]

set_option maxRecDepth 100000 in
set_option maxHeartbeats 400000 in
theorem planfault_2 (w : World) (t : TaskV) (Ai Ag Ao : Option Addr) (ci cg co : Nat) (hT : TaskMem w Ai Ag Ao t) (P : Option Addr) (cp : Nat) (plan : List Int) (hP : Ints w P plan) (hlP : plan.length ≤ 9223372036854775807) (hv : Valid t) (hs : ¬ StepsOk t.ops.length plan) :
    Calls Try.prog 96 #[.agg #[.int .i64 t.facts, .slice Ai t.init.length ci, .slice Ag t.goal.length cg, .slice Ao t.ops.length co], .slice P plan.length cp] w fun e w' => e = .returned (.agg #[.int .i64 (stepsF plan).1, .int .i64 (stepsF plan).2]) ∧ Below w.heap.size w w' := by
  have HV := Lib.hid (tfault_valid hv)
  have h40 : t.ops.length ≤ 1000000 := by have := hv.nops; omega
  have HS := Lib.hid hs
  clear hs
  go_enter Try.func96, Try.ntmps96
  go_wp2_with fail
  refine (validate_any _ _ _ _ _ _ _ _ (hT.below (by repeat (first | with_reducible exact Below.refl _ _ | with_reducible apply bdrew | with_reducible apply bdrewN | with_reducible apply balloc | ((with_reducible refine bset ?_ ?_ _); rotate_left; (first | omega | (simp <;> omega))))))).mono ?_
  rintro e w1 ⟨he, hB1⟩
  rw [HV.out] at he
  subst he
  have D1 := dstep w hB1 (by repeat (first | with_reducible exact Below.refl _ _ | with_reducible apply bdrew | with_reducible apply bdrewN | with_reducible apply balloc | ((with_reducible refine bset ?_ ?_ _); rotate_left; (first | omega | (simp <;> omega)))))
  have d1s := D1.size
  have C1 := Cls.below (l := [(w.heap.size, 0, .int .i64 t.facts), (w.heap.size, 1, .slice Ai t.init.length ci), (w.heap.size, 2, .slice Ag t.goal.length cg), (w.heap.size, 3, .slice Ao t.ops.length co), (w.heap.size + 1, 0, .int .i64 0), (w.heap.size + 1, 1, .int .i64 0)]) hB1 (by simp [Cls, go_sem])
  have F1 := C1
  simp only [Cls, and_true] at F1
  have y1w1 : w.heap.size + 1 < w1.heap.size := C1.blk (b := w.heap.size + 1) (k := 0) (v := .int .i64 0) (by simp)
  have y1w0 : w.heap.size < w1.heap.size := (by omega)
  have y1wp1 : w.heap.size < w1.heap.size + 1 := (by omega)
  have y1wp2 : w.heap.size < w1.heap.size + 1 + 1 := (by omega)
  go_wp2_with fail
  refine (steps_any _ _ _ _ _ (hP.below (by repeat (first | with_reducible exact D1 | with_reducible apply bdrew | with_reducible apply bdrewN | with_reducible apply balloc | ((with_reducible refine bset ?_ ?_ _); rotate_left; (first | omega | (simp <;> omega)))))) h40 hlP HS.out).mono ?_
  rintro e w2 ⟨rfl, hB2⟩
  have D2 := dstep w hB2 (by repeat (first | with_reducible exact D1 | with_reducible apply bdrew | with_reducible apply bdrewN | with_reducible apply balloc | ((with_reducible refine bset ?_ ?_ _); rotate_left; (first | omega | (simp <;> omega)))))
  have d2s := D2.size
  have C2 := Cls.below (l := [(w.heap.size, 0, .int .i64 t.facts), (w.heap.size, 1, .slice Ai t.init.length ci), (w.heap.size, 2, .slice Ag t.goal.length cg), (w.heap.size, 3, .slice Ao t.ops.length co), (w.heap.size + 1, 0, .int .i64 0), (w.heap.size + 1, 1, .int .i64 0), (w1.heap.size, 0, .int .i64 0), (w1.heap.size, 1, .int .i64 0)]) hB2 (by simp [Cls, go_sem, F1, y1w1, y1w0, y1wp1, y1wp2])
  have F2 := C2
  simp only [Cls, and_true] at F2
  have y2w1 : w.heap.size + 1 < w2.heap.size := C2.blk (b := w.heap.size + 1) (k := 0) (v := .int .i64 0) (by simp)
  have y2w0 : w.heap.size < w2.heap.size := (by omega)
  have y2wp1 : w.heap.size < w2.heap.size + 1 := (by omega)
  have y2wp2 : w.heap.size < w2.heap.size + 1 + 1 := (by omega)
  have y2w10 : w1.heap.size < w2.heap.size := C2.blk (b := w1.heap.size) (k := 0) (v := .int .i64 0) (by simp)
  have y2w1p1 : w1.heap.size < w2.heap.size + 1 := (by omega)
  have y2w1p2 : w1.heap.size < w2.heap.size + 1 + 1 := (by omega)
  go_wp2
  refine bodyPost_ret (v := .agg #[.int .i64 (stepsF plan).1, .int .i64 (stepsF plan).2]) ?_ rfl ⟨rfl, by repeat (first | with_reducible exact D2 | with_reducible apply bdrew | with_reducible apply bdrewN | with_reducible apply balloc | ((with_reducible refine bset ?_ ?_ _); rotate_left; (first | omega | (simp <;> omega))))⟩
  simp [results, Try.results96, go_sem, F2, y2w1, y2w0, y2wp1, y2wp2, y2w10, y2w1p1, y2w1p2]

set_option maxRecDepth 100000 in
set_option maxHeartbeats 400000 in
theorem planfault_3 (w : World) (t : TaskV) (Ai Ag Ao : Option Addr) (ci cg co : Nat) (hT : TaskMem w Ai Ag Ao t) (P : Option Addr) (cp : Nat) (plan : List Int) (hP : Ints w P plan) (hlP : plan.length ≤ 9223372036854775807) (hv : Valid t) (hs : StepsOk t.ops.length plan) :
    Calls Try.prog 96 #[.agg #[.int .i64 t.facts, .slice Ai t.init.length ci, .slice Ag t.goal.length cg, .slice Ao t.ops.length co], .slice P plan.length cp] w fun e w' => e = .returned (.agg #[.int .i64 0, .int .i64 0]) ∧ Below w.heap.size w w' := by
  have HV := Lib.hid (tfault_valid hv)
  have h40 : t.ops.length ≤ 1000000 := by have := hv.nops; omega
  have HS := Lib.hid hs
  clear hs
  go_enter Try.func96, Try.ntmps96
  go_wp2_with fail
  refine (validate_any _ _ _ _ _ _ _ _ (hT.below (by repeat (first | with_reducible exact Below.refl _ _ | with_reducible apply bdrew | with_reducible apply bdrewN | with_reducible apply balloc | ((with_reducible refine bset ?_ ?_ _); rotate_left; (first | omega | (simp <;> omega))))))).mono ?_
  rintro e w1 ⟨he, hB1⟩
  rw [HV.out] at he
  subst he
  have D1 := dstep w hB1 (by repeat (first | with_reducible exact Below.refl _ _ | with_reducible apply bdrew | with_reducible apply bdrewN | with_reducible apply balloc | ((with_reducible refine bset ?_ ?_ _); rotate_left; (first | omega | (simp <;> omega)))))
  have d1s := D1.size
  have C1 := Cls.below (l := [(w.heap.size, 0, .int .i64 t.facts), (w.heap.size, 1, .slice Ai t.init.length ci), (w.heap.size, 2, .slice Ag t.goal.length cg), (w.heap.size, 3, .slice Ao t.ops.length co), (w.heap.size + 1, 0, .int .i64 0), (w.heap.size + 1, 1, .int .i64 0)]) hB1 (by simp [Cls, go_sem])
  have F1 := C1
  simp only [Cls, and_true] at F1
  have y1w1 : w.heap.size + 1 < w1.heap.size := C1.blk (b := w.heap.size + 1) (k := 0) (v := .int .i64 0) (by simp)
  have y1w0 : w.heap.size < w1.heap.size := (by omega)
  have y1wp1 : w.heap.size < w1.heap.size + 1 := (by omega)
  have y1wp2 : w.heap.size < w1.heap.size + 1 + 1 := (by omega)
  go_wp2_with fail
  refine (steps_yes _ _ _ _ _ (hP.below (by repeat (first | with_reducible exact D1 | with_reducible apply bdrew | with_reducible apply bdrewN | with_reducible apply balloc | ((with_reducible refine bset ?_ ?_ _); rotate_left; (first | omega | (simp <;> omega)))))) h40 HS.out).mono ?_
  rintro e w2 ⟨rfl, hB2⟩
  have D2 := dstep w hB2 (by repeat (first | with_reducible exact D1 | with_reducible apply bdrew | with_reducible apply bdrewN | with_reducible apply balloc | ((with_reducible refine bset ?_ ?_ _); rotate_left; (first | omega | (simp <;> omega)))))
  have d2s := D2.size
  have C2 := Cls.below (l := [(w.heap.size, 0, .int .i64 t.facts), (w.heap.size, 1, .slice Ai t.init.length ci), (w.heap.size, 2, .slice Ag t.goal.length cg), (w.heap.size, 3, .slice Ao t.ops.length co), (w.heap.size + 1, 0, .int .i64 0), (w.heap.size + 1, 1, .int .i64 0), (w1.heap.size, 0, .int .i64 0), (w1.heap.size, 1, .int .i64 0)]) hB2 (by simp [Cls, go_sem, F1, y1w1, y1w0, y1wp1, y1wp2])
  have F2 := C2
  simp only [Cls, and_true] at F2
  have y2w1 : w.heap.size + 1 < w2.heap.size := C2.blk (b := w.heap.size + 1) (k := 0) (v := .int .i64 0) (by simp)
  have y2w0 : w.heap.size < w2.heap.size := (by omega)
  have y2wp1 : w.heap.size < w2.heap.size + 1 := (by omega)
  have y2wp2 : w.heap.size < w2.heap.size + 1 + 1 := (by omega)
  have y2w10 : w1.heap.size < w2.heap.size := C2.blk (b := w1.heap.size) (k := 0) (v := .int .i64 0) (by simp)
  have y2w1p1 : w1.heap.size < w2.heap.size + 1 := (by omega)
  have y2w1p2 : w1.heap.size < w2.heap.size + 1 + 1 := (by omega)
  go_wp2
  refine bodyPost_ret (v := .agg #[.int .i64 0, .int .i64 0]) ?_ rfl ⟨rfl, by repeat (first | with_reducible exact D2 | with_reducible apply bdrew | with_reducible apply bdrewN | with_reducible apply balloc | ((with_reducible refine bset ?_ ?_ _); rotate_left; (first | omega | (simp <;> omega))))⟩
  simp [results, Try.results96, go_sem, F2, y2w1, y2w0, y2wp1, y2wp2, y2w10, y2w1p1, y2w1p2]

end Go.Proofs.Ytihkgdlanfemcaa
