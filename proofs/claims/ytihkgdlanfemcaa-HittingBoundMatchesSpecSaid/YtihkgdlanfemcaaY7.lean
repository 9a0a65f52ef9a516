/-
  Validate and TaskFault: the fault of a task.
  strips.Validate: the fault of a task.
  The reference's TaskFault; both StateFault: the fault of a task, of a task with a state.
  Both StateFault; relaxed.Costs: what they return.
  Sums and greatest values, the program's and the reference's: what they return.
-/
import Derived.Test.YtihkgdlanfemcaaY1
import Derived.Test.YtihkgdlanfemcaaY2
namespace Go.Proofs.Ytihkgdlanfemcaa
open Go.RowKit
set_option linter.unusedVariables false
set_option linter.unusedSimpArgs false

/-- The error code of an operator. -/
noncomputable def opc (o : OpV) (f : Int) : Int := @ite _ (SetP o.pre f ∧ SetP o.add f ∧ SetP o.del f ∧ ∀ x ∈ o.add, ¬ x ∈ o.del) (Classical.propDecidable _) (if o.cost < 0 ∨ 100 < o.cost then 3 else 0) 5
theorem opc_bad {o : OpV} {f : Int} (h : ¬ (SetP o.pre f ∧ SetP o.add f ∧ SetP o.del f ∧ ∀ x ∈ o.add, ¬ x ∈ o.del)) : opc o f = 5 := by unfold opc; exact if_neg h
theorem opc_good {o : OpV} {f : Int} (h : SetP o.pre f ∧ SetP o.add f ∧ SetP o.del f ∧ ∀ x ∈ o.add, ¬ x ∈ o.del) : opc o f = if o.cost < 0 ∨ 100 < o.cost then 3 else 0 := by unfold opc; exact if_pos h
theorem opc_zero {o : OpV} {f : Int} : opc o f = 0 ↔ (SetP o.pre f ∧ SetP o.add f ∧ SetP o.del f ∧ ∀ x ∈ o.add, ¬ x ∈ o.del) ∧ 0 ≤ o.cost ∧ o.cost ≤ 100 := by
  by_cases h : SetP o.pre f ∧ SetP o.add f ∧ SetP o.del f ∧ ∀ x ∈ o.add, ¬ x ∈ o.del
  · rw [opc_good h]
    split
    · constructor
      · intro h; cases h
      · intro h2; omega
    · constructor
      · intro _; exact ⟨h, by omega⟩
      · intro _; rfl
  · rw [opc_bad h]
    constructor
    · intro h; cases h
    · intro h2; exact absurd h2.1 h
/-- The first operator with an error. -/
noncomputable def opsFault (f : Int) : List OpV → Nat → Int × Int
  | [], _ => (0, 0)
  | o :: r, k => if opc o f = 0 then opsFault f r (k + 1) else (opc o f, (k : Int))
theorem opsFault_good {f : Int} : ∀ (l : List OpV) (k : Nat), (∀ o ∈ l, opc o f = 0) → opsFault f l k = (0, 0)
  | [], _, _ => rfl
  | o :: r, k, h => by unfold opsFault; rw [if_pos (h o (by simp))]; exact opsFault_good r (k + 1) (fun o ho => h o (by simp [ho]))
theorem opsFault_at {f : Int} : ∀ (l : List OpV) (s k : Nat) (o : OpV), (∀ o ∈ l.take k, opc o f = 0) → l[k]? = some o → ¬ opc o f = 0 → opsFault f l s = (opc o f, ((s + k : Nat) : Int))
  | [], _, _, _, _, h, _ => by simp at h
  | a :: r, s, 0, o, _, h, hn => by
    simp at h; subst h
    unfold opsFault; rw [if_neg hn]; rfl
  | a :: r, s, k + 1, o, h1, h, hn => by
    unfold opsFault
    rw [if_pos (h1 a (by simp))]
    have := opsFault_at r (s + 1) k o (fun o ho => h1 o (by simp [ho])) (by simpa using h) hn
    rw [this]
    congr 1
    omega
theorem opsFault_zero {f : Int} : ∀ (l : List OpV) (k : Nat), (opsFault f l k).1 = 0 → ∀ o ∈ l, opc o f = 0
  | [], _, _ => by simp
  | o :: r, k, h => by
    unfold opsFault at h
    by_cases hc : opc o f = 0
    · rw [if_pos hc] at h
      intro x hx
      rcases List.mem_cons.1 hx with e | e
      · subst e; exact hc
      · exact opsFault_zero r (k + 1) h x e
    · rw [if_neg hc] at h; exact absurd h hc
/-- The fault of a task: code and index. -/
noncomputable def tfault (t : TaskV) : Int × Int :=
  if t.facts < 0 ∨ 24 < t.facts then (3, -1) else
  @ite _ (SetP t.init t.facts) (Classical.propDecidable _) (@ite _ (SetP t.goal t.facts) (Classical.propDecidable _) (if 40 < t.ops.length then (2, -1) else opsFault t.facts t.ops 0) (5, -3)) (5, -2)
theorem tfault_1 {t : TaskV} (h : t.facts < 0 ∨ 24 < t.facts) : tfault t = (3, -1) := by unfold tfault; rw [if_pos h]
theorem tfault_2 {t : TaskV} (h : ¬ (t.facts < 0 ∨ 24 < t.facts)) (h1 : ¬ SetP t.init t.facts) : tfault t = (5, -2) := by unfold tfault; rw [if_neg h, if_neg h1]
theorem tfault_3 {t : TaskV} (h : ¬ (t.facts < 0 ∨ 24 < t.facts)) (h1 : SetP t.init t.facts) (h2 : ¬ SetP t.goal t.facts) : tfault t = (5, -3) := by unfold tfault; rw [if_neg h, if_pos h1, if_neg h2]
theorem tfault_4 {t : TaskV} (h : ¬ (t.facts < 0 ∨ 24 < t.facts)) (h1 : SetP t.init t.facts) (h2 : SetP t.goal t.facts) (h3 : 40 < t.ops.length) : tfault t = (2, -1) := by unfold tfault; rw [if_neg h, if_pos h1, if_pos h2, if_pos h3]
theorem tfault_5 {t : TaskV} (h : ¬ (t.facts < 0 ∨ 24 < t.facts)) (h1 : SetP t.init t.facts) (h2 : SetP t.goal t.facts) (h3 : ¬ 40 < t.ops.length) : tfault t = opsFault t.facts t.ops 0 := by unfold tfault; rw [if_neg h, if_pos h1, if_pos h2, if_neg h3]
/-- A valid task. -/
structure Valid (t : TaskV) : Prop where
  f0 : 0 ≤ t.facts
  f1 : t.facts ≤ 24
  init : SetP t.init t.facts
  goal : SetP t.goal t.facts
  nops : t.ops.length ≤ 40
  ops : ∀ o ∈ t.ops, (SetP o.pre t.facts ∧ SetP o.add t.facts ∧ SetP o.del t.facts ∧ ∀ x ∈ o.add, ¬ x ∈ o.del) ∧ 0 ≤ o.cost ∧ o.cost ≤ 100
theorem tfault_zero {t : TaskV} : (tfault t).1 = 0 ↔ Valid t := by
  by_cases h : t.facts < 0 ∨ 24 < t.facts
  · rw [tfault_1 h]
    exact ⟨fun h => by simp at h, fun v => by have := v.f0; have := v.f1; omega⟩
  · by_cases h1 : SetP t.init t.facts
    · by_cases h2 : SetP t.goal t.facts
      · by_cases h3 : 40 < t.ops.length
        · rw [tfault_4 h h1 h2 h3]
          exact ⟨fun h => by simp at h, fun v => by have := v.nops; omega⟩
        · rw [tfault_5 h h1 h2 h3]
          constructor
          · intro hz
            exact ⟨by omega, by omega, h1, h2, by omega, fun o ho => opc_zero.1 (opsFault_zero _ _ hz o ho)⟩
          · intro v
            rw [opsFault_good _ _ (fun o ho => opc_zero.2 (v.ops o ho))]
      · rw [tfault_3 h h1 h2]
        exact ⟨fun h => by simp at h, fun v => absurd v.goal h2⟩
    · rw [tfault_2 h h1]
      exact ⟨fun h => by simp at h, fun v => absurd v.init h1⟩
theorem tfault_valid {t : TaskV} (v : Valid t) : tfault t = (0, 0) := by
  rw [tfault_5 (by have := v.f0; have := v.f1; omega) v.init v.goal (by have := v.nops; omega)]
  exact opsFault_good _ _ (fun o ho => opc_zero.2 (v.ops o ho))

set_option maxHeartbeats 400000 in
theorem operator_pre (w : World) (o : OpV) (A0 A1 A2 : Option Addr) (c0 c1 c2 : Nat) (f : Int) (hM : OpMem w A0 A1 A2 o) (hpre : ¬ SetP o.pre f) :
    Calls Try.prog 101 #[.agg #[.slice A0 o.pre.length c0, .slice A1 o.add.length c1, .slice A2 o.del.length c2, .int .i64 o.cost], .int .i64 f] w fun e w' => e = .returned (.int .i64 5) ∧ Below w.heap.size w w' := by
  have Hpre := Lib.hid hpre
  clear hpre
  go_enter Try.func101, Try.ntmps101
  go_wp2_with fail
  refine (isset_no _ _ _ _ _ (hM.pre.below (by repeat (first | with_reducible exact Below.refl _ _ | with_reducible apply bdrew | with_reducible apply bdrewN | with_reducible apply balloc | ((with_reducible refine bset ?_ ?_ _); rotate_left; (first | omega | (simp <;> omega)))))) hM.lpre.le Hpre.out).mono ?_
  rintro e w' ⟨rfl, rfl⟩
  go_wp2
  go_ret
  exact ⟨rfl, by repeat (first | with_reducible exact Below.refl _ _ | with_reducible apply bdrew | with_reducible apply bdrewN | with_reducible apply balloc | ((with_reducible refine bset ?_ ?_ _); rotate_left; (first | omega | (simp <;> omega))))⟩
set_option maxHeartbeats 400000 in
theorem operator_add (w : World) (o : OpV) (A0 A1 A2 : Option Addr) (c0 c1 c2 : Nat) (f : Int) (hM : OpMem w A0 A1 A2 o) (hpre : SetP o.pre f) (hadd : ¬ SetP o.add f) :
    Calls Try.prog 101 #[.agg #[.slice A0 o.pre.length c0, .slice A1 o.add.length c1, .slice A2 o.del.length c2, .int .i64 o.cost], .int .i64 f] w fun e w' => e = .returned (.int .i64 5) ∧ Below w.heap.size w w' := by
  have Hpre := Lib.hid hpre
  clear hpre
  have Hadd := Lib.hid hadd
  clear hadd
  go_enter Try.func101, Try.ntmps101
  go_wp2_with fail
  refine (isset_yes _ _ _ _ _ (hM.pre.below (by repeat (first | with_reducible exact Below.refl _ _ | with_reducible apply bdrew | with_reducible apply bdrewN | with_reducible apply balloc | ((with_reducible refine bset ?_ ?_ _); rotate_left; (first | omega | (simp <;> omega)))))) hM.lpre.le Hpre.out).mono ?_
  rintro e w' ⟨rfl, rfl⟩
  go_wp2_with fail
  refine (isset_no _ _ _ _ _ (hM.add.below (by repeat (first | with_reducible exact Below.refl _ _ | with_reducible apply bdrew | with_reducible apply bdrewN | with_reducible apply balloc | ((with_reducible refine bset ?_ ?_ _); rotate_left; (first | omega | (simp <;> omega)))))) hM.ladd.le Hadd.out).mono ?_
  rintro e w' ⟨rfl, rfl⟩
  go_wp2
  go_ret
  exact ⟨rfl, by repeat (first | with_reducible exact Below.refl _ _ | with_reducible apply bdrew | with_reducible apply bdrewN | with_reducible apply balloc | ((with_reducible refine bset ?_ ?_ _); rotate_left; (first | omega | (simp <;> omega))))⟩
set_option maxHeartbeats 400000 in
theorem operator_del (w : World) (o : OpV) (A0 A1 A2 : Option Addr) (c0 c1 c2 : Nat) (f : Int) (hM : OpMem w A0 A1 A2 o) (hpre : SetP o.pre f) (hadd : SetP o.add f) (hdel : ¬ SetP o.del f) :
    Calls Try.prog 101 #[.agg #[.slice A0 o.pre.length c0, .slice A1 o.add.length c1, .slice A2 o.del.length c2, .int .i64 o.cost], .int .i64 f] w fun e w' => e = .returned (.int .i64 5) ∧ Below w.heap.size w w' := by
  have Hpre := Lib.hid hpre
  clear hpre
  have Hadd := Lib.hid hadd
  clear hadd
  have Hdel := Lib.hid hdel
  clear hdel
  go_enter Try.func101, Try.ntmps101
  go_wp2_with fail
  refine (isset_yes _ _ _ _ _ (hM.pre.below (by repeat (first | with_reducible exact Below.refl _ _ | with_reducible apply bdrew | with_reducible apply bdrewN | with_reducible apply balloc | ((with_reducible refine bset ?_ ?_ _); rotate_left; (first | omega | (simp <;> omega)))))) hM.lpre.le Hpre.out).mono ?_
  rintro e w' ⟨rfl, rfl⟩
  go_wp2_with fail
  refine (isset_yes _ _ _ _ _ (hM.add.below (by repeat (first | with_reducible exact Below.refl _ _ | with_reducible apply bdrew | with_reducible apply bdrewN | with_reducible apply balloc | ((with_reducible refine bset ?_ ?_ _); rotate_left; (first | omega | (simp <;> omega)))))) hM.ladd.le Hadd.out).mono ?_
  rintro e w' ⟨rfl, rfl⟩
  go_wp2_with fail
  refine (isset_no _ _ _ _ _ (hM.del.below (by repeat (first | with_reducible exact Below.refl _ _ | with_reducible apply bdrew | with_reducible apply bdrewN | with_reducible apply balloc | ((with_reducible refine bset ?_ ?_ _); rotate_left; (first | omega | (simp <;> omega)))))) hM.ldel.le Hdel.out).mono ?_
  rintro e w' ⟨rfl, rfl⟩
  go_wp2
  go_ret
  exact ⟨rfl, by repeat (first | with_reducible exact Below.refl _ _ | with_reducible apply bdrew | with_reducible apply bdrewN | with_reducible apply balloc | ((with_reducible refine bset ?_ ?_ _); rotate_left; (first | omega | (simp <;> omega))))⟩
set_option maxHeartbeats 400000 in
theorem operator_meet (w : World) (o : OpV) (A0 A1 A2 : Option Addr) (c0 c1 c2 : Nat) (f : Int) (hf : 0 ≤ f) (hf2 : f ≤ 24) (hM : OpMem w A0 A1 A2 o) (hpre : SetP o.pre f) (hadd : SetP o.add f) (hdel : SetP o.del f) (hm : ∃ x ∈ o.add, x ∈ o.del)  :
    Calls Try.prog 101 #[.agg #[.slice A0 o.pre.length c0, .slice A1 o.add.length c1, .slice A2 o.del.length c2, .int .i64 o.cost], .int .i64 f] w fun e w' => e = .returned (.int .i64 5) ∧ Below w.heap.size w w' := by
  have Hl : Hid ((o.del.length : Int) ≤ f) := Lib.hid (hdel.length hf)
  have Hpre := Lib.hid hpre
  clear hpre
  have Hadd := Lib.hid hadd
  clear hadd
  have Hdel := Lib.hid hdel
  clear hdel
  have HM := Lib.hid hm
  clear hm
  go_enter Try.func101, Try.ntmps101
  go_wp2_with fail
  refine (isset_yes _ _ _ _ _ (hM.pre.below (by repeat (first | with_reducible exact Below.refl _ _ | with_reducible apply bdrew | with_reducible apply bdrewN | with_reducible apply balloc | ((with_reducible refine bset ?_ ?_ _); rotate_left; (first | omega | (simp <;> omega)))))) hM.lpre.le Hpre.out).mono ?_
  rintro e w' ⟨rfl, rfl⟩
  go_wp2_with fail
  refine (isset_yes _ _ _ _ _ (hM.add.below (by repeat (first | with_reducible exact Below.refl _ _ | with_reducible apply bdrew | with_reducible apply bdrewN | with_reducible apply balloc | ((with_reducible refine bset ?_ ?_ _); rotate_left; (first | omega | (simp <;> omega)))))) hM.ladd.le Hadd.out).mono ?_
  rintro e w' ⟨rfl, rfl⟩
  go_wp2_with fail
  refine (isset_yes _ _ _ _ _ (hM.del.below (by repeat (first | with_reducible exact Below.refl _ _ | with_reducible apply bdrew | with_reducible apply bdrewN | with_reducible apply balloc | ((with_reducible refine bset ?_ ?_ _); rotate_left; (first | omega | (simp <;> omega)))))) hM.ldel.le Hdel.out).mono ?_
  rintro e w' ⟨rfl, rfl⟩
  go_wp2_with fail
  refine (meets_any _ _ _ _ _ _ _ (hM.add.below (by repeat (first | with_reducible exact Below.refl _ _ | with_reducible apply bdrew | with_reducible apply bdrewN | with_reducible apply balloc | ((with_reducible refine bset ?_ ?_ _); rotate_left; (first | omega | (simp <;> omega)))))) (hM.del.below (by repeat (first | with_reducible exact Below.refl _ _ | with_reducible apply bdrew | with_reducible apply bdrewN | with_reducible apply balloc | ((with_reducible refine bset ?_ ?_ _); rotate_left; (first | omega | (simp <;> omega)))))) hM.ladd.le (by have := hM.ldel.le2; have := Hl.out; omega) Hdel.out.pairwise).mono ?_
  rintro e w1 ⟨he, hB1⟩
  rw [decide_eq_true HM.out] at he
  subst he
  have D1 := dstep w hB1 (by repeat (first | with_reducible exact Below.refl _ _ | with_reducible apply bdrew | with_reducible apply bdrewN | with_reducible apply balloc | ((with_reducible refine bset ?_ ?_ _); rotate_left; (first | omega | (simp <;> omega)))))
  have d1s := D1.size
  have C1 := Cls.below (l := [(w.heap.size, 0, .slice A0 o.pre.length c0), (w.heap.size, 1, .slice A1 o.add.length c1), (w.heap.size, 2, .slice A2 o.del.length c2), (w.heap.size, 3, .int .i64 o.cost)]) hB1 (by simp [Cls, go_sem])
  have F1 := C1
  simp only [Cls, and_true] at F1
  have y1w0 : w.heap.size < w1.heap.size := C1.blk (b := w.heap.size) (k := 0) (v := .slice A0 o.pre.length c0) (by simp)
  have y1wp1 : w.heap.size < w1.heap.size + 1 := (by omega)
  have y1wp2 : w.heap.size < w1.heap.size + 1 + 1 := (by omega)
  go_wp2
  go_ret
  exact ⟨rfl, by repeat (first | with_reducible exact D1 | with_reducible apply bdrew | with_reducible apply bdrewN | with_reducible apply balloc | ((with_reducible refine bset ?_ ?_ _); rotate_left; (first | omega | (simp <;> omega))))⟩
set_option maxHeartbeats 400000 in
theorem operator_lo (w : World) (o : OpV) (A0 A1 A2 : Option Addr) (c0 c1 c2 : Nat) (f : Int) (hf : 0 ≤ f) (hf2 : f ≤ 24) (hM : OpMem w A0 A1 A2 o) (hpre : SetP o.pre f) (hadd : SetP o.add f) (hdel : SetP o.del f) (hm : ¬ ∃ x ∈ o.add, x ∈ o.del) (h1 : o.cost < 0) :
    Calls Try.prog 101 #[.agg #[.slice A0 o.pre.length c0, .slice A1 o.add.length c1, .slice A2 o.del.length c2, .int .i64 o.cost], .int .i64 f] w fun e w' => e = .returned (.int .i64 3) ∧ Below w.heap.size w w' := by
  have Hl : Hid ((o.del.length : Int) ≤ f) := Lib.hid (hdel.length hf)
  have Hpre := Lib.hid hpre
  clear hpre
  have Hadd := Lib.hid hadd
  clear hadd
  have Hdel := Lib.hid hdel
  clear hdel
  have HM := Lib.hid hm
  clear hm
  go_enter Try.func101, Try.ntmps101
  go_wp2_with fail
  refine (isset_yes _ _ _ _ _ (hM.pre.below (by repeat (first | with_reducible exact Below.refl _ _ | with_reducible apply bdrew | with_reducible apply bdrewN | with_reducible apply balloc | ((with_reducible refine bset ?_ ?_ _); rotate_left; (first | omega | (simp <;> omega)))))) hM.lpre.le Hpre.out).mono ?_
  rintro e w' ⟨rfl, rfl⟩
  go_wp2_with fail
  refine (isset_yes _ _ _ _ _ (hM.add.below (by repeat (first | with_reducible exact Below.refl _ _ | with_reducible apply bdrew | with_reducible apply bdrewN | with_reducible apply balloc | ((with_reducible refine bset ?_ ?_ _); rotate_left; (first | omega | (simp <;> omega)))))) hM.ladd.le Hadd.out).mono ?_
  rintro e w' ⟨rfl, rfl⟩
  go_wp2_with fail
  refine (isset_yes _ _ _ _ _ (hM.del.below (by repeat (first | with_reducible exact Below.refl _ _ | with_reducible apply bdrew | with_reducible apply bdrewN | with_reducible apply balloc | ((with_reducible refine bset ?_ ?_ _); rotate_left; (first | omega | (simp <;> omega)))))) hM.ldel.le Hdel.out).mono ?_
  rintro e w' ⟨rfl, rfl⟩
  go_wp2_with fail
  refine (meets_any _ _ _ _ _ _ _ (hM.add.below (by repeat (first | with_reducible exact Below.refl _ _ | with_reducible apply bdrew | with_reducible apply bdrewN | with_reducible apply balloc | ((with_reducible refine bset ?_ ?_ _); rotate_left; (first | omega | (simp <;> omega)))))) (hM.del.below (by repeat (first | with_reducible exact Below.refl _ _ | with_reducible apply bdrew | with_reducible apply bdrewN | with_reducible apply balloc | ((with_reducible refine bset ?_ ?_ _); rotate_left; (first | omega | (simp <;> omega)))))) hM.ladd.le (by have := hM.ldel.le2; have := Hl.out; omega) Hdel.out.pairwise).mono ?_
  rintro e w1 ⟨he, hB1⟩
  rw [decide_eq_false HM.out] at he
  subst he
  have D1 := dstep w hB1 (by repeat (first | with_reducible exact Below.refl _ _ | with_reducible apply bdrew | with_reducible apply bdrewN | with_reducible apply balloc | ((with_reducible refine bset ?_ ?_ _); rotate_left; (first | omega | (simp <;> omega)))))
  have d1s := D1.size
  have C1 := Cls.below (l := [(w.heap.size, 0, .slice A0 o.pre.length c0), (w.heap.size, 1, .slice A1 o.add.length c1), (w.heap.size, 2, .slice A2 o.del.length c2), (w.heap.size, 3, .int .i64 o.cost)]) hB1 (by simp [Cls, go_sem])
  have F1 := C1
  simp only [Cls, and_true] at F1
  have y1w0 : w.heap.size < w1.heap.size := C1.blk (b := w.heap.size) (k := 0) (v := .slice A0 o.pre.length c0) (by simp)
  have y1wp1 : w.heap.size < w1.heap.size + 1 := (by omega)
  have y1wp2 : w.heap.size < w1.heap.size + 1 + 1 := (by omega)
  go_wp2
  go_ret
  exact ⟨rfl, by repeat (first | with_reducible exact D1 | with_reducible apply bdrew | with_reducible apply bdrewN | with_reducible apply balloc | ((with_reducible refine bset ?_ ?_ _); rotate_left; (first | omega | (simp <;> omega))))⟩
set_option maxHeartbeats 400000 in
theorem operator_hi (w : World) (o : OpV) (A0 A1 A2 : Option Addr) (c0 c1 c2 : Nat) (f : Int) (hf : 0 ≤ f) (hf2 : f ≤ 24) (hM : OpMem w A0 A1 A2 o) (hpre : SetP o.pre f) (hadd : SetP o.add f) (hdel : SetP o.del f) (hm : ¬ ∃ x ∈ o.add, x ∈ o.del) (h1 : 0 ≤ o.cost) (h2 : 100 < o.cost) :
    Calls Try.prog 101 #[.agg #[.slice A0 o.pre.length c0, .slice A1 o.add.length c1, .slice A2 o.del.length c2, .int .i64 o.cost], .int .i64 f] w fun e w' => e = .returned (.int .i64 3) ∧ Below w.heap.size w w' := by
  have Hl : Hid ((o.del.length : Int) ≤ f) := Lib.hid (hdel.length hf)
  have Hpre := Lib.hid hpre
  clear hpre
  have Hadd := Lib.hid hadd
  clear hadd
  have Hdel := Lib.hid hdel
  clear hdel
  have HM := Lib.hid hm
  clear hm
  go_enter Try.func101, Try.ntmps101
  go_wp2_with fail
  refine (isset_yes _ _ _ _ _ (hM.pre.below (by repeat (first | with_reducible exact Below.refl _ _ | with_reducible apply bdrew | with_reducible apply bdrewN | with_reducible apply balloc | ((with_reducible refine bset ?_ ?_ _); rotate_left; (first | omega | (simp <;> omega)))))) hM.lpre.le Hpre.out).mono ?_
  rintro e w' ⟨rfl, rfl⟩
  go_wp2_with fail
  refine (isset_yes _ _ _ _ _ (hM.add.below (by repeat (first | with_reducible exact Below.refl _ _ | with_reducible apply bdrew | with_reducible apply bdrewN | with_reducible apply balloc | ((with_reducible refine bset ?_ ?_ _); rotate_left; (first | omega | (simp <;> omega)))))) hM.ladd.le Hadd.out).mono ?_
  rintro e w' ⟨rfl, rfl⟩
  go_wp2_with fail
  refine (isset_yes _ _ _ _ _ (hM.del.below (by repeat (first | with_reducible exact Below.refl _ _ | with_reducible apply bdrew | with_reducible apply bdrewN | with_reducible apply balloc | ((with_reducible refine bset ?_ ?_ _); rotate_left; (first | omega | (simp <;> omega)))))) hM.ldel.le Hdel.out).mono ?_
  rintro e w' ⟨rfl, rfl⟩
  go_wp2_with fail
  refine (meets_any _ _ _ _ _ _ _ (hM.add.below (by repeat (first | with_reducible exact Below.refl _ _ | with_reducible apply bdrew | with_reducible apply bdrewN | with_reducible apply balloc | ((with_reducible refine bset ?_ ?_ _); rotate_left; (first | omega | (simp <;> omega)))))) (hM.del.below (by repeat (first | with_reducible exact Below.refl _ _ | with_reducible apply bdrew | with_reducible apply bdrewN | with_reducible apply balloc | ((with_reducible refine bset ?_ ?_ _); rotate_left; (first | omega | (simp <;> omega)))))) hM.ladd.le (by have := hM.ldel.le2; have := Hl.out; omega) Hdel.out.pairwise).mono ?_
  rintro e w1 ⟨he, hB1⟩
  rw [decide_eq_false HM.out] at he
  subst he
  have D1 := dstep w hB1 (by repeat (first | with_reducible exact Below.refl _ _ | with_reducible apply bdrew | with_reducible apply bdrewN | with_reducible apply balloc | ((with_reducible refine bset ?_ ?_ _); rotate_left; (first | omega | (simp <;> omega)))))
  have d1s := D1.size
  have C1 := Cls.below (l := [(w.heap.size, 0, .slice A0 o.pre.length c0), (w.heap.size, 1, .slice A1 o.add.length c1), (w.heap.size, 2, .slice A2 o.del.length c2), (w.heap.size, 3, .int .i64 o.cost)]) hB1 (by simp [Cls, go_sem])
  have F1 := C1
  simp only [Cls, and_true] at F1
  have y1w0 : w.heap.size < w1.heap.size := C1.blk (b := w.heap.size) (k := 0) (v := .slice A0 o.pre.length c0) (by simp)
  have y1wp1 : w.heap.size < w1.heap.size + 1 := (by omega)
  have y1wp2 : w.heap.size < w1.heap.size + 1 + 1 := (by omega)
  go_wp2
  go_ret
  exact ⟨rfl, by repeat (first | with_reducible exact D1 | with_reducible apply bdrew | with_reducible apply bdrewN | with_reducible apply balloc | ((with_reducible refine bset ?_ ?_ _); rotate_left; (first | omega | (simp <;> omega))))⟩
set_option maxHeartbeats 400000 in
theorem operator_ok (w : World) (o : OpV) (A0 A1 A2 : Option Addr) (c0 c1 c2 : Nat) (f : Int) (hf : 0 ≤ f) (hf2 : f ≤ 24) (hM : OpMem w A0 A1 A2 o) (hpre : SetP o.pre f) (hadd : SetP o.add f) (hdel : SetP o.del f) (hm : ¬ ∃ x ∈ o.add, x ∈ o.del) (h1 : 0 ≤ o.cost) (h2 : o.cost ≤ 100) :
    Calls Try.prog 101 #[.agg #[.slice A0 o.pre.length c0, .slice A1 o.add.length c1, .slice A2 o.del.length c2, .int .i64 o.cost], .int .i64 f] w fun e w' => e = .returned (.int .i64 0) ∧ Below w.heap.size w w' := by
  have Hl : Hid ((o.del.length : Int) ≤ f) := Lib.hid (hdel.length hf)
  have Hpre := Lib.hid hpre
  clear hpre
  have Hadd := Lib.hid hadd
  clear hadd
  have Hdel := Lib.hid hdel
  clear hdel
  have HM := Lib.hid hm
  clear hm
  go_enter Try.func101, Try.ntmps101
  go_wp2_with fail
  refine (isset_yes _ _ _ _ _ (hM.pre.below (by repeat (first | with_reducible exact Below.refl _ _ | with_reducible apply bdrew | with_reducible apply bdrewN | with_reducible apply balloc | ((with_reducible refine bset ?_ ?_ _); rotate_left; (first | omega | (simp <;> omega)))))) hM.lpre.le Hpre.out).mono ?_
  rintro e w' ⟨rfl, rfl⟩
  go_wp2_with fail
  refine (isset_yes _ _ _ _ _ (hM.add.below (by repeat (first | with_reducible exact Below.refl _ _ | with_reducible apply bdrew | with_reducible apply bdrewN | with_reducible apply balloc | ((with_reducible refine bset ?_ ?_ _); rotate_left; (first | omega | (simp <;> omega)))))) hM.ladd.le Hadd.out).mono ?_
  rintro e w' ⟨rfl, rfl⟩
  go_wp2_with fail
  refine (isset_yes _ _ _ _ _ (hM.del.below (by repeat (first | with_reducible exact Below.refl _ _ | with_reducible apply bdrew | with_reducible apply bdrewN | with_reducible apply balloc | ((with_reducible refine bset ?_ ?_ _); rotate_left; (first | omega | (simp <;> omega)))))) hM.ldel.le Hdel.out).mono ?_
  rintro e w' ⟨rfl, rfl⟩
  go_wp2_with fail
  refine (meets_any _ _ _ _ _ _ _ (hM.add.below (by repeat (first | with_reducible exact Below.refl _ _ | with_reducible apply bdrew | with_reducible apply bdrewN | with_reducible apply balloc | ((with_reducible refine bset ?_ ?_ _); rotate_left; (first | omega | (simp <;> omega)))))) (hM.del.below (by repeat (first | with_reducible exact Below.refl _ _ | with_reducible apply bdrew | with_reducible apply bdrewN | with_reducible apply balloc | ((with_reducible refine bset ?_ ?_ _); rotate_left; (first | omega | (simp <;> omega)))))) hM.ladd.le (by have := hM.ldel.le2; have := Hl.out; omega) Hdel.out.pairwise).mono ?_
  rintro e w1 ⟨he, hB1⟩
  rw [decide_eq_false HM.out] at he
  subst he
  have D1 := dstep w hB1 (by repeat (first | with_reducible exact Below.refl _ _ | with_reducible apply bdrew | with_reducible apply bdrewN | with_reducible apply balloc | ((with_reducible refine bset ?_ ?_ _); rotate_left; (first | omega | (simp <;> omega)))))
  have d1s := D1.size
  have C1 := Cls.below (l := [(w.heap.size, 0, .slice A0 o.pre.length c0), (w.heap.size, 1, .slice A1 o.add.length c1), (w.heap.size, 2, .slice A2 o.del.length c2), (w.heap.size, 3, .int .i64 o.cost)]) hB1 (by simp [Cls, go_sem])
  have F1 := C1
  simp only [Cls, and_true] at F1
  have y1w0 : w.heap.size < w1.heap.size := C1.blk (b := w.heap.size) (k := 0) (v := .slice A0 o.pre.length c0) (by simp)
  have y1wp1 : w.heap.size < w1.heap.size + 1 := (by omega)
  have y1wp2 : w.heap.size < w1.heap.size + 1 + 1 := (by omega)
  go_wp2
  go_ret
  exact ⟨rfl, by repeat (first | with_reducible exact D1 | with_reducible apply bdrew | with_reducible apply bdrewN | with_reducible apply balloc | ((with_reducible refine bset ?_ ?_ _); rotate_left; (first | omega | (simp <;> omega))))⟩
theorem operator_any (o : OpV) (A0 A1 A2 : Option Addr) (c0 c1 c2 : Nat) (f : Int) (hf : 0 ≤ f) (hf2 : f ≤ 24) (w : World) (hM : OpMem w A0 A1 A2 o) :
    Calls Try.prog 101 #[.agg #[.slice A0 o.pre.length c0, .slice A1 o.add.length c1, .slice A2 o.del.length c2, .int .i64 o.cost], .int .i64 f] w fun e w' => e = .returned (.int .i64 (opc o f)) ∧ Below w.heap.size w w' := by
  by_cases h0 : SetP o.pre f
  · by_cases h1 : SetP o.add f
    · by_cases h2 : SetP o.del f
      · by_cases hm : ∃ x ∈ o.add, x ∈ o.del
        · rw [opc_bad (fun h => by obtain ⟨x, ha, hd⟩ := hm; exact h.2.2.2 x ha hd)]
          exact operator_meet w o A0 A1 A2 c0 c1 c2 f hf hf2 hM h0 h1 h2 hm
        · have hg : SetP o.pre f ∧ SetP o.add f ∧ SetP o.del f ∧ ∀ x ∈ o.add, ¬ x ∈ o.del := ⟨h0, h1, h2, fun x ha hd => hm ⟨x, ha, hd⟩⟩
          rw [opc_good hg]
          by_cases c : o.cost < 0
          · rw [if_pos (Or.inl c)]; exact operator_lo w o A0 A1 A2 c0 c1 c2 f hf hf2 hM h0 h1 h2 hm c
          · by_cases c' : 100 < o.cost
            · rw [if_pos (Or.inr c')]; exact operator_hi w o A0 A1 A2 c0 c1 c2 f hf hf2 hM h0 h1 h2 hm (by omega) c'
            · rw [if_neg (by omega)]; exact operator_ok w o A0 A1 A2 c0 c1 c2 f hf hf2 hM h0 h1 h2 hm (by omega) (by omega)
      · rw [opc_bad (fun h => h2 h.2.2.1)]; exact operator_del w o A0 A1 A2 c0 c1 c2 f hM h0 h1 h2
    · rw [opc_bad (fun h => h1 h.2.1)]; exact operator_add w o A0 A1 A2 c0 c1 c2 f hM h0 h1
  · rw [opc_bad (fun h => h0 h.1)]; exact operator_pre w o A0 A1 A2 c0 c1 c2 f hM h0


end Go.Proofs.Ytihkgdlanfemcaa

namespace Go.Proofs.Ytihkgdlanfemcaa
open Go.RowKit
set_option linter.unusedVariables false
set_option linter.unusedSimpArgs false

set_option maxRecDepth 100000 in
set_option maxHeartbeats 400000 in
theorem validate_1 (w : World) (t : TaskV) (Ai Ag Ao : Option Addr) (ci cg co : Nat) (hT : TaskMem w Ai Ag Ao t) (h : t.facts < 0) :
    Calls Try.prog 61 #[.agg #[.int .i64 t.facts, .slice Ai t.init.length ci, .slice Ag t.goal.length cg, .slice Ao t.ops.length co]] w fun e w' => e = .returned (.agg #[.int .i64 3, .int .i64 (-1)]) ∧ Below w.heap.size w w' := by
  go_enter Try.func61, Try.ntmps61
  go_wp2
  refine bodyPost_ret (v := .agg #[.int .i64 3, .int .i64 (-1)]) ?_ rfl ⟨rfl, by repeat (first | with_reducible exact Below.refl _ _ | with_reducible apply bdrew | with_reducible apply bdrewN | with_reducible apply balloc | ((with_reducible refine bset ?_ ?_ _); rotate_left; (first | omega | (simp <;> omega))))⟩
  simp [results, Try.results61, go_sem]

set_option maxRecDepth 100000 in
set_option maxHeartbeats 400000 in
theorem validate_2 (w : World) (t : TaskV) (Ai Ag Ao : Option Addr) (ci cg co : Nat) (hT : TaskMem w Ai Ag Ao t) (h : 0 ≤ t.facts) (h2 : 24 < t.facts) :
    Calls Try.prog 61 #[.agg #[.int .i64 t.facts, .slice Ai t.init.length ci, .slice Ag t.goal.length cg, .slice Ao t.ops.length co]] w fun e w' => e = .returned (.agg #[.int .i64 3, .int .i64 (-1)]) ∧ Below w.heap.size w w' := by
  go_enter Try.func61, Try.ntmps61
  go_wp2
  refine bodyPost_ret (v := .agg #[.int .i64 3, .int .i64 (-1)]) ?_ rfl ⟨rfl, by repeat (first | with_reducible exact Below.refl _ _ | with_reducible apply bdrew | with_reducible apply bdrewN | with_reducible apply balloc | ((with_reducible refine bset ?_ ?_ _); rotate_left; (first | omega | (simp <;> omega))))⟩
  simp [results, Try.results61, go_sem]

set_option maxRecDepth 100000 in
set_option maxHeartbeats 400000 in
theorem validate_3 (w : World) (t : TaskV) (Ai Ag Ao : Option Addr) (ci cg co : Nat) (hT : TaskMem w Ai Ag Ao t) (h : 0 ≤ t.facts) (h2 : t.facts ≤ 24) (hinit : ¬ SetP t.init t.facts) :
    Calls Try.prog 61 #[.agg #[.int .i64 t.facts, .slice Ai t.init.length ci, .slice Ag t.goal.length cg, .slice Ao t.ops.length co]] w fun e w' => e = .returned (.agg #[.int .i64 5, .int .i64 (-2)]) ∧ Below w.heap.size w w' := by
  have HINIT := Lib.hid hinit
  clear hinit
  go_enter Try.func61, Try.ntmps61
  go_wp2_with fail
  refine (isset_no _ _ _ _ _ (hT.init.below (by repeat (first | with_reducible exact Below.refl _ _ | with_reducible apply bdrew | with_reducible apply bdrewN | with_reducible apply balloc | ((with_reducible refine bset ?_ ?_ _); rotate_left; (first | omega | (simp <;> omega)))))) hT.linit.le HINIT.out).mono ?_
  rintro e w' ⟨rfl, rfl⟩
  go_wp2
  refine bodyPost_ret (v := .agg #[.int .i64 5, .int .i64 (-2)]) ?_ rfl ⟨rfl, by repeat (first | with_reducible exact Below.refl _ _ | with_reducible apply bdrew | with_reducible apply bdrewN | with_reducible apply balloc | ((with_reducible refine bset ?_ ?_ _); rotate_left; (first | omega | (simp <;> omega))))⟩
  simp [results, Try.results61, go_sem]

set_option maxRecDepth 100000 in
set_option maxHeartbeats 400000 in
theorem validate_4 (w : World) (t : TaskV) (Ai Ag Ao : Option Addr) (ci cg co : Nat) (hT : TaskMem w Ai Ag Ao t) (h : 0 ≤ t.facts) (h2 : t.facts ≤ 24) (hinit : SetP t.init t.facts) (hgoal : ¬ SetP t.goal t.facts) :
    Calls Try.prog 61 #[.agg #[.int .i64 t.facts, .slice Ai t.init.length ci, .slice Ag t.goal.length cg, .slice Ao t.ops.length co]] w fun e w' => e = .returned (.agg #[.int .i64 5, .int .i64 (-3)]) ∧ Below w.heap.size w w' := by
  have HINIT := Lib.hid hinit
  clear hinit
  have HGOAL := Lib.hid hgoal
  clear hgoal
  go_enter Try.func61, Try.ntmps61
  go_wp2_with fail
  refine (isset_yes _ _ _ _ _ (hT.init.below (by repeat (first | with_reducible exact Below.refl _ _ | with_reducible apply bdrew | with_reducible apply bdrewN | with_reducible apply balloc | ((with_reducible refine bset ?_ ?_ _); rotate_left; (first | omega | (simp <;> omega)))))) hT.linit.le HINIT.out).mono ?_
  rintro e w' ⟨rfl, rfl⟩
  go_wp2_with fail
  refine (isset_no _ _ _ _ _ (hT.goal.below (by repeat (first | with_reducible exact Below.refl _ _ | with_reducible apply bdrew | with_reducible apply bdrewN | with_reducible apply balloc | ((with_reducible refine bset ?_ ?_ _); rotate_left; (first | omega | (simp <;> omega)))))) hT.lgoal.le HGOAL.out).mono ?_
  rintro e w' ⟨rfl, rfl⟩
  go_wp2
  refine bodyPost_ret (v := .agg #[.int .i64 5, .int .i64 (-3)]) ?_ rfl ⟨rfl, by repeat (first | with_reducible exact Below.refl _ _ | with_reducible apply bdrew | with_reducible apply bdrewN | with_reducible apply balloc | ((with_reducible refine bset ?_ ?_ _); rotate_left; (first | omega | (simp <;> omega))))⟩
  simp [results, Try.results61, go_sem]

set_option maxRecDepth 100000 in
set_option maxHeartbeats 400000 in
theorem validate_5 (w : World) (t : TaskV) (Ai Ag Ao : Option Addr) (ci cg co : Nat) (hT : TaskMem w Ai Ag Ao t) (h : 0 ≤ t.facts) (h2 : t.facts ≤ 24) (hinit : SetP t.init t.facts) (hgoal : SetP t.goal t.facts) (h3 : 40 < t.ops.length) :
    Calls Try.prog 61 #[.agg #[.int .i64 t.facts, .slice Ai t.init.length ci, .slice Ag t.goal.length cg, .slice Ao t.ops.length co]] w fun e w' => e = .returned (.agg #[.int .i64 2, .int .i64 (-1)]) ∧ Below w.heap.size w w' := by
  have HINIT := Lib.hid hinit
  clear hinit
  have HGOAL := Lib.hid hgoal
  clear hgoal
  go_enter Try.func61, Try.ntmps61
  go_wp2_with fail
  refine (isset_yes _ _ _ _ _ (hT.init.below (by repeat (first | with_reducible exact Below.refl _ _ | with_reducible apply bdrew | with_reducible apply bdrewN | with_reducible apply balloc | ((with_reducible refine bset ?_ ?_ _); rotate_left; (first | omega | (simp <;> omega)))))) hT.linit.le HINIT.out).mono ?_
  rintro e w' ⟨rfl, rfl⟩
  go_wp2_with fail
  refine (isset_yes _ _ _ _ _ (hT.goal.below (by repeat (first | with_reducible exact Below.refl _ _ | with_reducible apply bdrew | with_reducible apply bdrewN | with_reducible apply balloc | ((with_reducible refine bset ?_ ?_ _); rotate_left; (first | omega | (simp <;> omega)))))) hT.lgoal.le HGOAL.out).mono ?_
  rintro e w' ⟨rfl, rfl⟩
  go_wp2
  refine bodyPost_ret (v := .agg #[.int .i64 2, .int .i64 (-1)]) ?_ rfl ⟨rfl, by repeat (first | with_reducible exact Below.refl _ _ | with_reducible apply bdrew | with_reducible apply bdrewN | with_reducible apply balloc | ((with_reducible refine bset ?_ ?_ _); rotate_left; (first | omega | (simp <;> omega))))⟩
  simp [results, Try.results61, go_sem]

set_option maxRecDepth 100000 in
set_option maxRecDepth 100000 in
set_option maxHeartbeats 1000000 in
theorem validate_6 (w : World) (t : TaskV) (Ai Ag Ao : Option Addr) (ci cg co : Nat) (hT : TaskMem w Ai Ag Ao t) (h : 0 ≤ t.facts) (h2 : t.facts ≤ 24) (hinit : SetP t.init t.facts) (hgoal : SetP t.goal t.facts) (h3 : t.ops.length ≤ 40) :
    Calls Try.prog 61 #[.agg #[.int .i64 t.facts, .slice Ai t.init.length ci, .slice Ag t.goal.length cg, .slice Ao t.ops.length co]] w fun e w' => e = .returned (.agg #[.int .i64 (opsFault t.facts t.ops 0).1, .int .i64 (opsFault t.facts t.ops 0).2]) ∧ Below w.heap.size w w' := by
  have HINIT := Lib.hid hinit
  clear hinit
  have HGOAL := Lib.hid hgoal
  clear hgoal
  go_enter Try.func61, Try.ntmps61
  go_wp2_with fail
  refine (isset_yes _ _ _ _ _ (hT.init.below (by repeat (first | with_reducible exact Below.refl _ _ | with_reducible apply bdrew | with_reducible apply bdrewN | with_reducible apply balloc | ((with_reducible refine bset ?_ ?_ _); rotate_left; (first | omega | (simp <;> omega)))))) hT.linit.le HINIT.out).mono ?_
  rintro e w' ⟨rfl, rfl⟩
  go_wp2_with fail
  refine (isset_yes _ _ _ _ _ (hT.goal.below (by repeat (first | with_reducible exact Below.refl _ _ | with_reducible apply bdrew | with_reducible apply bdrewN | with_reducible apply balloc | ((with_reducible refine bset ?_ ?_ _); rotate_left; (first | omega | (simp <;> omega)))))) hT.lgoal.le HGOAL.out).mono ?_
  rintro e w' ⟨rfl, rfl⟩
  go_wp2_with fail
  go_loopw [41] (fun i wr => ∃ k : Nat, k ≤ t.ops.length ∧ i = .int .i64 k ∧ Hid (∀ o ∈ t.ops.take k, opc o t.facts = 0) ∧ Below w.heap.size w wr ∧ Cls wr [(w.heap.size, 0, .int .i64 t.facts), (w.heap.size, 1, .slice Ai t.init.length ci), (w.heap.size, 2, .slice Ag t.goal.length cg), (w.heap.size, 3, .slice Ao t.ops.length co), (w.heap.size + 1, 0, .int .i64 0), (w.heap.size + 1, 1, .int .i64 0)]) (fun i _ => t.ops.length - (intOf i).toNat)
  case atStart => exact ⟨0, Nat.zero_le _, rfl, Lib.hid (by simp), (by repeat (first | with_reducible exact Below.refl _ _ | with_reducible apply bdrew | with_reducible apply bdrewN | with_reducible apply balloc | ((with_reducible refine bset ?_ ?_ _); rotate_left; (first | omega | (simp <;> omega))))), (by simp [Cls, go_sem])⟩
  case round =>
    obtain ⟨k, hk, rfl, hno, hBr, hCr⟩ := hrel
    have drs := hBr.size
    have Fr := hCr
    simp only [Cls, and_true] at Fr
    have yrw1 : w.heap.size + 1 < wr.heap.size := hCr.blk (b := w.heap.size + 1) (k := 0) (v := .int .i64 0) (by simp)
    have yrw0 : w.heap.size < wr.heap.size := (by omega)
    have yrwp1 : w.heap.size < wr.heap.size + 1 := (by omega)
    have yrwp2 : w.heap.size < wr.heap.size + 1 + 1 := (by omega)
    by_cases hlt : k < t.ops.length
    · obtain ⟨ad, o, A0, c0, A1, c1, A2, c2, rfl, ho, hc0, hc1, hc2, hc3, hm⟩ := (hT.ops.below hBr).at_ hlt
      by_cases hz : opc o t.facts = 0
      · have HZ := Lib.hid hz
        clear hz
        go_wp2_with fail
        refine (operator_any _ _ _ _ _ _ _ _ h h2 _ (hm.below ((Below.refl _ _).alloc (Nat.le_refl _) _))).mono ?_
        rintro e w1 ⟨he, hB1⟩
        rw [HZ.out] at he
        subst he
        have D1 := dstep w hB1 (by repeat (first | with_reducible exact hBr | with_reducible apply bdrew | with_reducible apply bdrewN | with_reducible apply balloc | ((with_reducible refine bset ?_ ?_ _); rotate_left; (first | omega | (simp <;> omega)))))
        have d1s := D1.size
        have C1 := Cls.below (l := [(w.heap.size, 0, .int .i64 t.facts), (w.heap.size, 1, .slice Ai t.init.length ci), (w.heap.size, 2, .slice Ag t.goal.length cg), (w.heap.size, 3, .slice (some ad) t.ops.length co), (w.heap.size + 1, 0, .int .i64 0), (w.heap.size + 1, 1, .int .i64 0), (wr.heap.size, 0, .slice A0 o.pre.length c0), (wr.heap.size, 1, .slice A1 o.add.length c1), (wr.heap.size, 2, .slice A2 o.del.length c2), (wr.heap.size, 3, .int .i64 o.cost)]) hB1 (by simp [Cls, go_sem, Fr, yrw1, yrw0, yrwp1, yrwp2])
        have F1 := C1
        simp only [Cls, and_true] at F1
        have y1w1 : w.heap.size + 1 < w1.heap.size := C1.blk (b := w.heap.size + 1) (k := 0) (v := .int .i64 0) (by simp)
        have y1w0 : w.heap.size < w1.heap.size := (by omega)
        have y1wp1 : w.heap.size < w1.heap.size + 1 := (by omega)
        have y1wp2 : w.heap.size < w1.heap.size + 1 + 1 := (by omega)
        have y1wr0 : wr.heap.size < w1.heap.size := C1.blk (b := wr.heap.size) (k := 0) (v := .slice A0 o.pre.length c0) (by simp)
        have y1wrp1 : wr.heap.size < w1.heap.size + 1 := (by omega)
        have y1wrp2 : wr.heap.size < w1.heap.size + 1 + 1 := (by omega)
        go_wp2
        go_roundw
        case rel => exact ⟨k + 1, by omega, by go_num, Lib.hid (forall_take_succ ho.out hno.out HZ.out), (by repeat (first | with_reducible exact D1 | with_reducible apply bdrew | with_reducible apply bdrewN | with_reducible apply balloc | ((with_reducible refine bset ?_ ?_ _); rotate_left; (first | omega | (simp <;> omega))))), (by simp [Cls, go_sem, F1, y1w1, y1w0, y1wp1, y1wp2, y1wr0, y1wrp1, y1wrp2])⟩
        case measure => simp [intOf]; omega
      · have hz' : (opc o t.facts != 0) = true := by simpa using hz
        have e := opsFault_at t.ops 0 k o hno.out ho.out hz
        have HE := Lib.hid e
        clear e
        go_wp2_with fail
        refine (operator_any _ _ _ _ _ _ _ _ h h2 _ (hm.below ((Below.refl _ _).alloc (Nat.le_refl _) _))).mono ?_
        rintro e w1 ⟨rfl, hB1⟩
        have D1 := dstep w hB1 (by repeat (first | with_reducible exact hBr | with_reducible apply bdrew | with_reducible apply bdrewN | with_reducible apply balloc | ((with_reducible refine bset ?_ ?_ _); rotate_left; (first | omega | (simp <;> omega)))))
        have d1s := D1.size
        have C1 := Cls.below (l := [(w.heap.size, 0, .int .i64 t.facts), (w.heap.size, 1, .slice Ai t.init.length ci), (w.heap.size, 2, .slice Ag t.goal.length cg), (w.heap.size, 3, .slice (some ad) t.ops.length co), (w.heap.size + 1, 0, .int .i64 0), (w.heap.size + 1, 1, .int .i64 0), (wr.heap.size, 0, .slice A0 o.pre.length c0), (wr.heap.size, 1, .slice A1 o.add.length c1), (wr.heap.size, 2, .slice A2 o.del.length c2), (wr.heap.size, 3, .int .i64 o.cost)]) hB1 (by simp [Cls, go_sem, Fr, yrw1, yrw0, yrwp1, yrwp2])
        have F1 := C1
        simp only [Cls, and_true] at F1
        have y1w1 : w.heap.size + 1 < w1.heap.size := C1.blk (b := w.heap.size + 1) (k := 0) (v := .int .i64 0) (by simp)
        have y1w0 : w.heap.size < w1.heap.size := (by omega)
        have y1wp1 : w.heap.size < w1.heap.size + 1 := (by omega)
        have y1wp2 : w.heap.size < w1.heap.size + 1 + 1 := (by omega)
        have y1wr0 : wr.heap.size < w1.heap.size := C1.blk (b := wr.heap.size) (k := 0) (v := .slice A0 o.pre.length c0) (by simp)
        have y1wrp1 : wr.heap.size < w1.heap.size + 1 := (by omega)
        have y1wrp2 : wr.heap.size < w1.heap.size + 1 + 1 := (by omega)
        go_wp2
        refine bodyPost_ret (v := .agg #[.int .i64 (opc o t.facts), .int .i64 (k : Int)]) ?_ rfl ⟨by rw [HE.out]; simp, by repeat (first | with_reducible exact D1 | with_reducible apply bdrew | with_reducible apply bdrewN | with_reducible apply balloc | ((with_reducible refine bset ?_ ?_ _); rotate_left; (first | omega | (simp <;> omega))))⟩
        simp [results, Try.results61, go_sem, F1, y1w1, y1w0, y1wp1, y1wp2, y1wr0, y1wrp1, y1wrp2]
    · have e := opsFault_good t.ops 0 (forall_take_all hlt hno.out)
      have HE := Lib.hid e
      clear e
      go_wp2
      refine bodyPost_ret (v := .agg #[.int .i64 0, .int .i64 0]) ?_ rfl ⟨by rw [HE.out], by repeat (first | with_reducible exact hBr | with_reducible apply bdrew | with_reducible apply bdrewN | with_reducible apply balloc | ((with_reducible refine bset ?_ ?_ _); rotate_left; (first | omega | (simp <;> omega))))⟩
      simp [results, Try.results61, go_sem, Fr, yrw1, yrw0, yrwp1, yrwp2]


theorem validate_any (w : World) (t : TaskV) (Ai Ag Ao : Option Addr) (ci cg co : Nat) (hT : TaskMem w Ai Ag Ao t) :
    Calls Try.prog 61 #[.agg #[.int .i64 t.facts, .slice Ai t.init.length ci, .slice Ag t.goal.length cg, .slice Ao t.ops.length co]] w fun e w' => e = .returned (.agg #[.int .i64 (tfault t).1, .int .i64 (tfault t).2]) ∧ Below w.heap.size w w' := by
  by_cases h : t.facts < 0 ∨ 24 < t.facts
  · rw [tfault_1 h]
    by_cases h0 : t.facts < 0
    · exact validate_1 w t Ai Ag Ao ci cg co hT h0
    · exact validate_2 w t Ai Ag Ao ci cg co hT (by omega) (by omega)
  · by_cases h1 : SetP t.init t.facts
    · by_cases h2 : SetP t.goal t.facts
      · by_cases h3 : 40 < t.ops.length
        · rw [tfault_4 h h1 h2 h3]; exact validate_5 w t Ai Ag Ao ci cg co hT (by omega) (by omega) h1 h2 h3
        · rw [tfault_5 h h1 h2 h3]; exact validate_6 w t Ai Ag Ao ci cg co hT (by omega) (by omega) h1 h2 (by omega)
      · rw [tfault_3 h h1 h2]; exact validate_4 w t Ai Ag Ao ci cg co hT (by omega) (by omega) h1 h2
    · rw [tfault_2 h h1]; exact validate_3 w t Ai Ag Ao ci cg co hT (by omega) (by omega) h1

end Go.Proofs.Ytihkgdlanfemcaa

namespace Go.Proofs.Ytihkgdlanfemcaa
open Go.RowKit
set_option linter.unusedVariables false
set_option linter.unusedSimpArgs false

set_option maxRecDepth 100000 in
set_option maxHeartbeats 400000 in
theorem taskfault_1 (w : World) (t : TaskV) (Ai Ag Ao : Option Addr) (ci cg co : Nat) (hT : TaskMem w Ai Ag Ao t) (h : t.facts < 0 ∨ 24 < t.facts) :
    Calls Try.prog 21 #[.agg #[.int .i64 t.facts, .slice Ai t.init.length ci, .slice Ag t.goal.length cg, .slice Ao t.ops.length co]] w fun e w' => e = .returned (.agg #[.int .i64 3, .int .i64 (-1)]) ∧ Below w.heap.size w w' := by
  go_enter Try.func21, Try.ntmps21
  go_wp2_with fail
  refine (in_no _ _ _ _ (by omega)).mono ?_
  rintro e w' ⟨rfl, rfl⟩
  go_wp2_with fail
  refine (at_any _ _ _).mono ?_
  rintro e w1 ⟨rfl, hB1⟩
  have D1 := dstep w hB1 (by repeat (first | with_reducible exact Below.refl _ _ | with_reducible apply bdrew | with_reducible apply bdrewN | with_reducible apply balloc | ((with_reducible refine bset ?_ ?_ _); rotate_left; (first | omega | (simp <;> omega)))))
  have d1s := D1.size
  have C1 := Cls.below (l := [(w.heap.size, 0, .int .i64 t.facts), (w.heap.size, 1, .slice Ai t.init.length ci), (w.heap.size, 2, .slice Ag t.goal.length cg), (w.heap.size, 3, .slice Ao t.ops.length co), (w.heap.size + 1, 0, .int .i64 0), (w.heap.size + 1, 1, .int .i64 0)]) hB1 (by simp [Cls, go_sem])
  have F1 := C1
  simp only [Cls, and_true] at F1
  have y1w1 : w.heap.size + 1 < w1.heap.size := C1.blk (b := w.heap.size + 1) (k := 0) (v := .int .i64 0) (by simp)
  have y1w0 : w.heap.size < w1.heap.size := (by omega)
  have y1wp1 : w.heap.size < w1.heap.size + 1 := (by omega)
  have y1wp2 : w.heap.size < w1.heap.size + 1 + 1 := (by omega)
  go_wp2
  refine bodyPost_ret (v := .agg #[.int .i64 3, .int .i64 (-1)]) ?_ rfl ⟨rfl, by repeat (first | with_reducible exact D1 | with_reducible apply bdrew | with_reducible apply bdrewN | with_reducible apply balloc | ((with_reducible refine bset ?_ ?_ _); rotate_left; (first | omega | (simp <;> omega))))⟩
  simp [results, Try.results21, go_sem, F1, y1w1, y1w0, y1wp1, y1wp2]

set_option maxRecDepth 100000 in
set_option maxHeartbeats 400000 in
theorem taskfault_2 (w : World) (t : TaskV) (Ai Ag Ao : Option Addr) (ci cg co : Nat) (hT : TaskMem w Ai Ag Ao t) (h : 0 ≤ t.facts) (h2 : t.facts ≤ 24) (hinit : ¬ SetP t.init t.facts) :
    Calls Try.prog 21 #[.agg #[.int .i64 t.facts, .slice Ai t.init.length ci, .slice Ag t.goal.length cg, .slice Ao t.ops.length co]] w fun e w' => e = .returned (.agg #[.int .i64 5, .int .i64 (-2)]) ∧ Below w.heap.size w w' := by
  have Hinit := Lib.hid hinit
  clear hinit
  go_enter Try.func21, Try.ntmps21
  go_wp2_with fail
  refine (in_yes _ _ _ _ (by omega) (by omega)).mono ?_
  rintro e w' ⟨rfl, rfl⟩
  go_wp2_with fail
  refine (risset_any _ _ _ _ _ (hT.init.below (by repeat (first | with_reducible exact Below.refl _ _ | with_reducible apply bdrew | with_reducible apply bdrewN | with_reducible apply balloc | ((with_reducible refine bset ?_ ?_ _); rotate_left; (first | omega | (simp <;> omega)))))) hT.linit.le (by omega) (by omega)).mono ?_
  rintro e w1 ⟨he, hB1⟩
  rw [setB_false.2 Hinit.out] at he
  subst he
  have D1 := dstep w hB1 (by repeat (first | with_reducible exact Below.refl _ _ | with_reducible apply bdrew | with_reducible apply bdrewN | with_reducible apply balloc | ((with_reducible refine bset ?_ ?_ _); rotate_left; (first | omega | (simp <;> omega)))))
  have d1s := D1.size
  have C1 := Cls.below (l := [(w.heap.size, 0, .int .i64 t.facts), (w.heap.size, 1, .slice Ai t.init.length ci), (w.heap.size, 2, .slice Ag t.goal.length cg), (w.heap.size, 3, .slice Ao t.ops.length co), (w.heap.size + 1, 0, .int .i64 0), (w.heap.size + 1, 1, .int .i64 0)]) hB1 (by simp [Cls, go_sem])
  have F1 := C1
  simp only [Cls, and_true] at F1
  have y1w1 : w.heap.size + 1 < w1.heap.size := C1.blk (b := w.heap.size + 1) (k := 0) (v := .int .i64 0) (by simp)
  have y1w0 : w.heap.size < w1.heap.size := (by omega)
  have y1wp1 : w.heap.size < w1.heap.size + 1 := (by omega)
  have y1wp2 : w.heap.size < w1.heap.size + 1 + 1 := (by omega)
  go_wp2_with fail
  refine (at_any _ _ _).mono ?_
  rintro e w2 ⟨rfl, hB2⟩
  have D2 := dstep w hB2 (by repeat (first | with_reducible exact D1 | with_reducible apply bdrew | with_reducible apply bdrewN | with_reducible apply balloc | ((with_reducible refine bset ?_ ?_ _); rotate_left; (first | omega | (simp <;> omega)))))
  have d2s := D2.size
  have C2 := Cls.below (l := [(w.heap.size, 0, .int .i64 t.facts), (w.heap.size, 1, .slice Ai t.init.length ci), (w.heap.size, 2, .slice Ag t.goal.length cg), (w.heap.size, 3, .slice Ao t.ops.length co), (w.heap.size + 1, 0, .int .i64 0), (w.heap.size + 1, 1, .int .i64 0)]) hB2 (by simp [Cls, go_sem, F1, y1w1, y1w0, y1wp1, y1wp2])
  have F2 := C2
  simp only [Cls, and_true] at F2
  have y2w1 : w.heap.size + 1 < w2.heap.size := C2.blk (b := w.heap.size + 1) (k := 0) (v := .int .i64 0) (by simp)
  have y2w0 : w.heap.size < w2.heap.size := (by omega)
  have y2wp1 : w.heap.size < w2.heap.size + 1 := (by omega)
  have y2wp2 : w.heap.size < w2.heap.size + 1 + 1 := (by omega)
  go_wp2
  refine bodyPost_ret (v := .agg #[.int .i64 5, .int .i64 (-2)]) ?_ rfl ⟨rfl, by repeat (first | with_reducible exact D2 | with_reducible apply bdrew | with_reducible apply bdrewN | with_reducible apply balloc | ((with_reducible refine bset ?_ ?_ _); rotate_left; (first | omega | (simp <;> omega))))⟩
  simp [results, Try.results21, go_sem, F2, y2w1, y2w0, y2wp1, y2wp2]

set_option maxRecDepth 100000 in
set_option maxHeartbeats 400000 in
theorem taskfault_3 (w : World) (t : TaskV) (Ai Ag Ao : Option Addr) (ci cg co : Nat) (hT : TaskMem w Ai Ag Ao t) (h : 0 ≤ t.facts) (h2 : t.facts ≤ 24) (hinit : SetP t.init t.facts) (hgoal : ¬ SetP t.goal t.facts) :
    Calls Try.prog 21 #[.agg #[.int .i64 t.facts, .slice Ai t.init.length ci, .slice Ag t.goal.length cg, .slice Ao t.ops.length co]] w fun e w' => e = .returned (.agg #[.int .i64 5, .int .i64 (-3)]) ∧ Below w.heap.size w w' := by
  have Hinit := Lib.hid hinit
  clear hinit
  have Hgoal := Lib.hid hgoal
  clear hgoal
  go_enter Try.func21, Try.ntmps21
  go_wp2_with fail
  refine (in_yes _ _ _ _ (by omega) (by omega)).mono ?_
  rintro e w' ⟨rfl, rfl⟩
  go_wp2_with fail
  refine (risset_any _ _ _ _ _ (hT.init.below (by repeat (first | with_reducible exact Below.refl _ _ | with_reducible apply bdrew | with_reducible apply bdrewN | with_reducible apply balloc | ((with_reducible refine bset ?_ ?_ _); rotate_left; (first | omega | (simp <;> omega)))))) hT.linit.le (by omega) (by omega)).mono ?_
  rintro e w1 ⟨he, hB1⟩
  rw [setB_true.2 Hinit.out] at he
  subst he
  have D1 := dstep w hB1 (by repeat (first | with_reducible exact Below.refl _ _ | with_reducible apply bdrew | with_reducible apply bdrewN | with_reducible apply balloc | ((with_reducible refine bset ?_ ?_ _); rotate_left; (first | omega | (simp <;> omega)))))
  have d1s := D1.size
  have C1 := Cls.below (l := [(w.heap.size, 0, .int .i64 t.facts), (w.heap.size, 1, .slice Ai t.init.length ci), (w.heap.size, 2, .slice Ag t.goal.length cg), (w.heap.size, 3, .slice Ao t.ops.length co), (w.heap.size + 1, 0, .int .i64 0), (w.heap.size + 1, 1, .int .i64 0)]) hB1 (by simp [Cls, go_sem])
  have F1 := C1
  simp only [Cls, and_true] at F1
  have y1w1 : w.heap.size + 1 < w1.heap.size := C1.blk (b := w.heap.size + 1) (k := 0) (v := .int .i64 0) (by simp)
  have y1w0 : w.heap.size < w1.heap.size := (by omega)
  have y1wp1 : w.heap.size < w1.heap.size + 1 := (by omega)
  have y1wp2 : w.heap.size < w1.heap.size + 1 + 1 := (by omega)
  go_wp2_with fail
  refine (risset_any _ _ _ _ _ (hT.goal.below (by repeat (first | with_reducible exact D1 | with_reducible apply bdrew | with_reducible apply bdrewN | with_reducible apply balloc | ((with_reducible refine bset ?_ ?_ _); rotate_left; (first | omega | (simp <;> omega)))))) hT.lgoal.le (by omega) (by omega)).mono ?_
  rintro e w2 ⟨he, hB2⟩
  rw [setB_false.2 Hgoal.out] at he
  subst he
  have D2 := dstep w hB2 (by repeat (first | with_reducible exact D1 | with_reducible apply bdrew | with_reducible apply bdrewN | with_reducible apply balloc | ((with_reducible refine bset ?_ ?_ _); rotate_left; (first | omega | (simp <;> omega)))))
  have d2s := D2.size
  have C2 := Cls.below (l := [(w.heap.size, 0, .int .i64 t.facts), (w.heap.size, 1, .slice Ai t.init.length ci), (w.heap.size, 2, .slice Ag t.goal.length cg), (w.heap.size, 3, .slice Ao t.ops.length co), (w.heap.size + 1, 0, .int .i64 0), (w.heap.size + 1, 1, .int .i64 0)]) hB2 (by simp [Cls, go_sem, F1, y1w1, y1w0, y1wp1, y1wp2])
  have F2 := C2
  simp only [Cls, and_true] at F2
  have y2w1 : w.heap.size + 1 < w2.heap.size := C2.blk (b := w.heap.size + 1) (k := 0) (v := .int .i64 0) (by simp)
  have y2w0 : w.heap.size < w2.heap.size := (by omega)
  have y2wp1 : w.heap.size < w2.heap.size + 1 := (by omega)
  have y2wp2 : w.heap.size < w2.heap.size + 1 + 1 := (by omega)
  go_wp2_with fail
  refine (at_any _ _ _).mono ?_
  rintro e w3 ⟨rfl, hB3⟩
  have D3 := dstep w hB3 (by repeat (first | with_reducible exact D2 | with_reducible apply bdrew | with_reducible apply bdrewN | with_reducible apply balloc | ((with_reducible refine bset ?_ ?_ _); rotate_left; (first | omega | (simp <;> omega)))))
  have d3s := D3.size
  have C3 := Cls.below (l := [(w.heap.size, 0, .int .i64 t.facts), (w.heap.size, 1, .slice Ai t.init.length ci), (w.heap.size, 2, .slice Ag t.goal.length cg), (w.heap.size, 3, .slice Ao t.ops.length co), (w.heap.size + 1, 0, .int .i64 0), (w.heap.size + 1, 1, .int .i64 0)]) hB3 (by simp [Cls, go_sem, F2, y2w1, y2w0, y2wp1, y2wp2])
  have F3 := C3
  simp only [Cls, and_true] at F3
  have y3w1 : w.heap.size + 1 < w3.heap.size := C3.blk (b := w.heap.size + 1) (k := 0) (v := .int .i64 0) (by simp)
  have y3w0 : w.heap.size < w3.heap.size := (by omega)
  have y3wp1 : w.heap.size < w3.heap.size + 1 := (by omega)
  have y3wp2 : w.heap.size < w3.heap.size + 1 + 1 := (by omega)
  go_wp2
  refine bodyPost_ret (v := .agg #[.int .i64 5, .int .i64 (-3)]) ?_ rfl ⟨rfl, by repeat (first | with_reducible exact D3 | with_reducible apply bdrew | with_reducible apply bdrewN | with_reducible apply balloc | ((with_reducible refine bset ?_ ?_ _); rotate_left; (first | omega | (simp <;> omega))))⟩
  simp [results, Try.results21, go_sem, F3, y3w1, y3w0, y3wp1, y3wp2]

set_option maxRecDepth 100000 in
set_option maxHeartbeats 400000 in
theorem taskfault_4 (w : World) (t : TaskV) (Ai Ag Ao : Option Addr) (ci cg co : Nat) (hT : TaskMem w Ai Ag Ao t) (h : 0 ≤ t.facts) (h2 : t.facts ≤ 24) (hinit : SetP t.init t.facts) (hgoal : SetP t.goal t.facts) (h3 : 40 < t.ops.length) :
    Calls Try.prog 21 #[.agg #[.int .i64 t.facts, .slice Ai t.init.length ci, .slice Ag t.goal.length cg, .slice Ao t.ops.length co]] w fun e w' => e = .returned (.agg #[.int .i64 2, .int .i64 (-1)]) ∧ Below w.heap.size w w' := by
  have Hinit := Lib.hid hinit
  clear hinit
  have Hgoal := Lib.hid hgoal
  clear hgoal
  go_enter Try.func21, Try.ntmps21
  go_wp2_with fail
  refine (in_yes _ _ _ _ (by omega) (by omega)).mono ?_
  rintro e w' ⟨rfl, rfl⟩
  go_wp2_with fail
  refine (risset_any _ _ _ _ _ (hT.init.below (by repeat (first | with_reducible exact Below.refl _ _ | with_reducible apply bdrew | with_reducible apply bdrewN | with_reducible apply balloc | ((with_reducible refine bset ?_ ?_ _); rotate_left; (first | omega | (simp <;> omega)))))) hT.linit.le (by omega) (by omega)).mono ?_
  rintro e w1 ⟨he, hB1⟩
  rw [setB_true.2 Hinit.out] at he
  subst he
  have D1 := dstep w hB1 (by repeat (first | with_reducible exact Below.refl _ _ | with_reducible apply bdrew | with_reducible apply bdrewN | with_reducible apply balloc | ((with_reducible refine bset ?_ ?_ _); rotate_left; (first | omega | (simp <;> omega)))))
  have d1s := D1.size
  have C1 := Cls.below (l := [(w.heap.size, 0, .int .i64 t.facts), (w.heap.size, 1, .slice Ai t.init.length ci), (w.heap.size, 2, .slice Ag t.goal.length cg), (w.heap.size, 3, .slice Ao t.ops.length co), (w.heap.size + 1, 0, .int .i64 0), (w.heap.size + 1, 1, .int .i64 0)]) hB1 (by simp [Cls, go_sem])
  have F1 := C1
  simp only [Cls, and_true] at F1
  have y1w1 : w.heap.size + 1 < w1.heap.size := C1.blk (b := w.heap.size + 1) (k := 0) (v := .int .i64 0) (by simp)
  have y1w0 : w.heap.size < w1.heap.size := (by omega)
  have y1wp1 : w.heap.size < w1.heap.size + 1 := (by omega)
  have y1wp2 : w.heap.size < w1.heap.size + 1 + 1 := (by omega)
  go_wp2_with fail
  refine (risset_any _ _ _ _ _ (hT.goal.below (by repeat (first | with_reducible exact D1 | with_reducible apply bdrew | with_reducible apply bdrewN | with_reducible apply balloc | ((with_reducible refine bset ?_ ?_ _); rotate_left; (first | omega | (simp <;> omega)))))) hT.lgoal.le (by omega) (by omega)).mono ?_
  rintro e w2 ⟨he, hB2⟩
  rw [setB_true.2 Hgoal.out] at he
  subst he
  have D2 := dstep w hB2 (by repeat (first | with_reducible exact D1 | with_reducible apply bdrew | with_reducible apply bdrewN | with_reducible apply balloc | ((with_reducible refine bset ?_ ?_ _); rotate_left; (first | omega | (simp <;> omega)))))
  have d2s := D2.size
  have C2 := Cls.below (l := [(w.heap.size, 0, .int .i64 t.facts), (w.heap.size, 1, .slice Ai t.init.length ci), (w.heap.size, 2, .slice Ag t.goal.length cg), (w.heap.size, 3, .slice Ao t.ops.length co), (w.heap.size + 1, 0, .int .i64 0), (w.heap.size + 1, 1, .int .i64 0)]) hB2 (by simp [Cls, go_sem, F1, y1w1, y1w0, y1wp1, y1wp2])
  have F2 := C2
  simp only [Cls, and_true] at F2
  have y2w1 : w.heap.size + 1 < w2.heap.size := C2.blk (b := w.heap.size + 1) (k := 0) (v := .int .i64 0) (by simp)
  have y2w0 : w.heap.size < w2.heap.size := (by omega)
  have y2wp1 : w.heap.size < w2.heap.size + 1 := (by omega)
  have y2wp2 : w.heap.size < w2.heap.size + 1 + 1 := (by omega)
  go_wp2_with fail
  refine (at_any _ _ _).mono ?_
  rintro e w3 ⟨rfl, hB3⟩
  have D3 := dstep w hB3 (by repeat (first | with_reducible exact D2 | with_reducible apply bdrew | with_reducible apply bdrewN | with_reducible apply balloc | ((with_reducible refine bset ?_ ?_ _); rotate_left; (first | omega | (simp <;> omega)))))
  have d3s := D3.size
  have C3 := Cls.below (l := [(w.heap.size, 0, .int .i64 t.facts), (w.heap.size, 1, .slice Ai t.init.length ci), (w.heap.size, 2, .slice Ag t.goal.length cg), (w.heap.size, 3, .slice Ao t.ops.length co), (w.heap.size + 1, 0, .int .i64 0), (w.heap.size + 1, 1, .int .i64 0)]) hB3 (by simp [Cls, go_sem, F2, y2w1, y2w0, y2wp1, y2wp2])
  have F3 := C3
  simp only [Cls, and_true] at F3
  have y3w1 : w.heap.size + 1 < w3.heap.size := C3.blk (b := w.heap.size + 1) (k := 0) (v := .int .i64 0) (by simp)
  have y3w0 : w.heap.size < w3.heap.size := (by omega)
  have y3wp1 : w.heap.size < w3.heap.size + 1 := (by omega)
  have y3wp2 : w.heap.size < w3.heap.size + 1 + 1 := (by omega)
  go_wp2
  refine bodyPost_ret (v := .agg #[.int .i64 2, .int .i64 (-1)]) ?_ rfl ⟨rfl, by repeat (first | with_reducible exact D3 | with_reducible apply bdrew | with_reducible apply bdrewN | with_reducible apply balloc | ((with_reducible refine bset ?_ ?_ _); rotate_left; (first | omega | (simp <;> omega))))⟩
  simp [results, Try.results21, go_sem, F3, y3w1, y3w0, y3wp1, y3wp2]

set_option maxRecDepth 100000 in
set_option maxRecDepth 100000 in
set_option maxHeartbeats 2000000 in
theorem taskfault_5 (w : World) (t : TaskV) (Ai Ag Ao : Option Addr) (ci cg co : Nat) (hT : TaskMem w Ai Ag Ao t) (h : 0 ≤ t.facts) (h2 : t.facts ≤ 24) (hinit : SetP t.init t.facts) (hgoal : SetP t.goal t.facts) (h3 : t.ops.length ≤ 40) :
    Calls Try.prog 21 #[.agg #[.int .i64 t.facts, .slice Ai t.init.length ci, .slice Ag t.goal.length cg, .slice Ao t.ops.length co]] w fun e w' => e = .returned (.agg #[.int .i64 (opsFault t.facts t.ops 0).1, .int .i64 (opsFault t.facts t.ops 0).2]) ∧ Below w.heap.size w w' := by
  have Hinit := Lib.hid hinit
  clear hinit
  have Hgoal := Lib.hid hgoal
  clear hgoal
  go_enter Try.func21, Try.ntmps21
  go_wp2_with fail
  refine (in_yes _ _ _ _ (by omega) (by omega)).mono ?_
  rintro e w' ⟨rfl, rfl⟩
  go_wp2_with fail
  refine (risset_any _ _ _ _ _ (hT.init.below (by repeat (first | with_reducible exact Below.refl _ _ | with_reducible apply bdrew | with_reducible apply bdrewN | with_reducible apply balloc | ((with_reducible refine bset ?_ ?_ _); rotate_left; (first | omega | (simp <;> omega)))))) hT.linit.le (by omega) (by omega)).mono ?_
  rintro e w1 ⟨he, hB1⟩
  rw [setB_true.2 Hinit.out] at he
  subst he
  have D1 := dstep w hB1 (by repeat (first | with_reducible exact Below.refl _ _ | with_reducible apply bdrew | with_reducible apply bdrewN | with_reducible apply balloc | ((with_reducible refine bset ?_ ?_ _); rotate_left; (first | omega | (simp <;> omega)))))
  have d1s := D1.size
  have C1 := Cls.below (l := [(w.heap.size, 0, .int .i64 t.facts), (w.heap.size, 1, .slice Ai t.init.length ci), (w.heap.size, 2, .slice Ag t.goal.length cg), (w.heap.size, 3, .slice Ao t.ops.length co), (w.heap.size + 1, 0, .int .i64 0), (w.heap.size + 1, 1, .int .i64 0)]) hB1 (by simp [Cls, go_sem])
  have F1 := C1
  simp only [Cls, and_true] at F1
  have y1w1 : w.heap.size + 1 < w1.heap.size := C1.blk (b := w.heap.size + 1) (k := 0) (v := .int .i64 0) (by simp)
  have y1w0 : w.heap.size < w1.heap.size := (by omega)
  have y1wp1 : w.heap.size < w1.heap.size + 1 := (by omega)
  have y1wp2 : w.heap.size < w1.heap.size + 1 + 1 := (by omega)
  go_wp2_with fail
  refine (risset_any _ _ _ _ _ (hT.goal.below (by repeat (first | with_reducible exact D1 | with_reducible apply bdrew | with_reducible apply bdrewN | with_reducible apply balloc | ((with_reducible refine bset ?_ ?_ _); rotate_left; (first | omega | (simp <;> omega)))))) hT.lgoal.le (by omega) (by omega)).mono ?_
  rintro e w2 ⟨he, hB2⟩
  rw [setB_true.2 Hgoal.out] at he
  subst he
  have D2 := dstep w hB2 (by repeat (first | with_reducible exact D1 | with_reducible apply bdrew | with_reducible apply bdrewN | with_reducible apply balloc | ((with_reducible refine bset ?_ ?_ _); rotate_left; (first | omega | (simp <;> omega)))))
  have d2s := D2.size
  have C2 := Cls.below (l := [(w.heap.size, 0, .int .i64 t.facts), (w.heap.size, 1, .slice Ai t.init.length ci), (w.heap.size, 2, .slice Ag t.goal.length cg), (w.heap.size, 3, .slice Ao t.ops.length co), (w.heap.size + 1, 0, .int .i64 0), (w.heap.size + 1, 1, .int .i64 0)]) hB2 (by simp [Cls, go_sem, F1, y1w1, y1w0, y1wp1, y1wp2])
  have F2 := C2
  simp only [Cls, and_true] at F2
  have y2w1 : w.heap.size + 1 < w2.heap.size := C2.blk (b := w.heap.size + 1) (k := 0) (v := .int .i64 0) (by simp)
  have y2w0 : w.heap.size < w2.heap.size := (by omega)
  have y2wp1 : w.heap.size < w2.heap.size + 1 := (by omega)
  have y2wp2 : w.heap.size < w2.heap.size + 1 + 1 := (by omega)
  go_wp2_with fail
  go_loopw [3] (fun i wr => ∃ k : Nat, k ≤ t.ops.length ∧ i = .int .i64 k ∧ Hid (∀ o ∈ t.ops.take k, opc o t.facts = 0) ∧ Below w.heap.size w wr ∧ Cls wr [(w.heap.size, 0, .int .i64 t.facts), (w.heap.size, 1, .slice Ai t.init.length ci), (w.heap.size, 2, .slice Ag t.goal.length cg), (w.heap.size, 3, .slice Ao t.ops.length co), (w.heap.size + 1, 0, .int .i64 0), (w.heap.size + 1, 1, .int .i64 0)]) (fun i _ => t.ops.length - (intOf i).toNat)
  case atStart => exact ⟨0, Nat.zero_le _, rfl, Lib.hid (by simp), (by repeat (first | with_reducible exact D2 | with_reducible apply bdrew | with_reducible apply bdrewN | with_reducible apply balloc | ((with_reducible refine bset ?_ ?_ _); rotate_left; (first | omega | (simp <;> omega))))), (by simp [Cls, go_sem, F2, y2w1, y2w0, y2wp1, y2wp2])⟩
  case round =>
    obtain ⟨k, hk, rfl, hno, hBr, hCr⟩ := hrel
    have drs := hBr.size
    have Fr := hCr
    simp only [Cls, and_true] at Fr
    have yrw1 : w.heap.size + 1 < wr.heap.size := hCr.blk (b := w.heap.size + 1) (k := 0) (v := .int .i64 0) (by simp)
    have yrw0 : w.heap.size < wr.heap.size := (by omega)
    have yrwp1 : w.heap.size < wr.heap.size + 1 := (by omega)
    have yrwp2 : w.heap.size < wr.heap.size + 1 + 1 := (by omega)
    by_cases hlt : k < t.ops.length
    · obtain ⟨ad, o, A0, c0, A1, c1, A2, c2, rfl, ho, hc0, hc1, hc2, hc3, hm⟩ := (hT.ops.below hBr).at_ hlt
      by_cases spre : SetP o.pre t.facts
      · by_cases sadd : SetP o.add t.facts
        · by_cases sdel : SetP o.del t.facts
          · by_cases sm : ∀ x ∈ o.add, ¬ x ∈ o.del
            · have hg := opc_good ⟨spre, sadd, sdel, sm⟩
              by_cases hcost : 0 ≤ o.cost ∧ o.cost ≤ 100
              · have HC := Lib.hid (hg.trans (if_neg (by omega)))
                obtain ⟨k1, k2⟩ := hcost
                clear hg
                have Spre := Lib.hid spre
                clear spre
                have Sadd := Lib.hid sadd
                clear sadd
                have Sdel := Lib.hid sdel
                clear sdel
                have SM := Lib.hid sm
                clear sm
                go_wp2_with fail
                refine (risset_any _ _ _ _ _ (hm.pre.below (by repeat (first | with_reducible exact Below.refl _ _ | with_reducible apply bdrew | with_reducible apply bdrewN | with_reducible apply balloc | ((with_reducible refine bset ?_ ?_ _); rotate_left; (first | omega | (simp <;> omega)))))) hm.lpre.le (by omega) (by omega)).mono ?_
                rintro e w3 ⟨he, hB3⟩
                rw [setB_true.2 Spre.out] at he
                subst he
                have D3 := dstep w hB3 (by repeat (first | with_reducible exact hBr | with_reducible apply bdrew | with_reducible apply bdrewN | with_reducible apply balloc | ((with_reducible refine bset ?_ ?_ _); rotate_left; (first | omega | (simp <;> omega)))))
                have d3s := D3.size
                have C3 := Cls.below (l := [(w.heap.size, 0, .int .i64 t.facts), (w.heap.size, 1, .slice Ai t.init.length ci), (w.heap.size, 2, .slice Ag t.goal.length cg), (w.heap.size, 3, .slice (some ad) t.ops.length co), (w.heap.size + 1, 0, .int .i64 0), (w.heap.size + 1, 1, .int .i64 0), (wr.heap.size, 0, .slice A0 o.pre.length c0), (wr.heap.size, 1, .slice A1 o.add.length c1), (wr.heap.size, 2, .slice A2 o.del.length c2), (wr.heap.size, 3, .int .i64 o.cost)]) hB3 (by simp [Cls, go_sem, Fr, yrw1, yrw0, yrwp1, yrwp2])
                have F3 := C3
                simp only [Cls, and_true] at F3
                have y3w1 : w.heap.size + 1 < w3.heap.size := C3.blk (b := w.heap.size + 1) (k := 0) (v := .int .i64 0) (by simp)
                have y3w0 : w.heap.size < w3.heap.size := (by omega)
                have y3wp1 : w.heap.size < w3.heap.size + 1 := (by omega)
                have y3wp2 : w.heap.size < w3.heap.size + 1 + 1 := (by omega)
                have y3wr0 : wr.heap.size < w3.heap.size := C3.blk (b := wr.heap.size) (k := 0) (v := .slice A0 o.pre.length c0) (by simp)
                have y3wrp1 : wr.heap.size < w3.heap.size + 1 := (by omega)
                have y3wrp2 : wr.heap.size < w3.heap.size + 1 + 1 := (by omega)
                have E3 := dstep wr hB3 (by repeat (first | with_reducible exact Below.refl _ _ | with_reducible apply bdrew | with_reducible apply bdrewN | with_reducible apply balloc | ((with_reducible refine bset ?_ ?_ _); rotate_left; (first | omega | (simp <;> omega)))))
                go_wp2_with fail
                refine (risset_any _ _ _ _ _ (hm.add.below (by repeat (first | with_reducible exact E3 | with_reducible apply bdrew | with_reducible apply bdrewN | with_reducible apply balloc | ((with_reducible refine bset ?_ ?_ _); rotate_left; (first | omega | (simp <;> omega)))))) hm.ladd.le (by omega) (by omega)).mono ?_
                rintro e w4 ⟨he, hB4⟩
                rw [setB_true.2 Sadd.out] at he
                subst he
                have D4 := dstep w hB4 (by repeat (first | with_reducible exact D3 | with_reducible apply bdrew | with_reducible apply bdrewN | with_reducible apply balloc | ((with_reducible refine bset ?_ ?_ _); rotate_left; (first | omega | (simp <;> omega)))))
                have d4s := D4.size
                have C4 := Cls.below (l := [(w.heap.size, 0, .int .i64 t.facts), (w.heap.size, 1, .slice Ai t.init.length ci), (w.heap.size, 2, .slice Ag t.goal.length cg), (w.heap.size, 3, .slice (some ad) t.ops.length co), (w.heap.size + 1, 0, .int .i64 0), (w.heap.size + 1, 1, .int .i64 0), (wr.heap.size, 0, .slice A0 o.pre.length c0), (wr.heap.size, 1, .slice A1 o.add.length c1), (wr.heap.size, 2, .slice A2 o.del.length c2), (wr.heap.size, 3, .int .i64 o.cost)]) hB4 (by simp [Cls, go_sem, F3, y3w1, y3w0, y3wp1, y3wp2, y3wr0, y3wrp1, y3wrp2])
                have F4 := C4
                simp only [Cls, and_true] at F4
                have y4w1 : w.heap.size + 1 < w4.heap.size := C4.blk (b := w.heap.size + 1) (k := 0) (v := .int .i64 0) (by simp)
                have y4w0 : w.heap.size < w4.heap.size := (by omega)
                have y4wp1 : w.heap.size < w4.heap.size + 1 := (by omega)
                have y4wp2 : w.heap.size < w4.heap.size + 1 + 1 := (by omega)
                have y4wr0 : wr.heap.size < w4.heap.size := C4.blk (b := wr.heap.size) (k := 0) (v := .slice A0 o.pre.length c0) (by simp)
                have y4wrp1 : wr.heap.size < w4.heap.size + 1 := (by omega)
                have y4wrp2 : wr.heap.size < w4.heap.size + 1 + 1 := (by omega)
                have E4 := dstep wr hB4 (by repeat (first | with_reducible exact E3 | with_reducible apply bdrew | with_reducible apply bdrewN | with_reducible apply balloc | ((with_reducible refine bset ?_ ?_ _); rotate_left; (first | omega | (simp <;> omega)))))
                go_wp2_with fail
                refine (risset_any _ _ _ _ _ (hm.del.below (by repeat (first | with_reducible exact E4 | with_reducible apply bdrew | with_reducible apply bdrewN | with_reducible apply balloc | ((with_reducible refine bset ?_ ?_ _); rotate_left; (first | omega | (simp <;> omega)))))) hm.ldel.le (by omega) (by omega)).mono ?_
                rintro e w5 ⟨he, hB5⟩
                rw [setB_true.2 Sdel.out] at he
                subst he
                have D5 := dstep w hB5 (by repeat (first | with_reducible exact D4 | with_reducible apply bdrew | with_reducible apply bdrewN | with_reducible apply balloc | ((with_reducible refine bset ?_ ?_ _); rotate_left; (first | omega | (simp <;> omega)))))
                have d5s := D5.size
                have C5 := Cls.below (l := [(w.heap.size, 0, .int .i64 t.facts), (w.heap.size, 1, .slice Ai t.init.length ci), (w.heap.size, 2, .slice Ag t.goal.length cg), (w.heap.size, 3, .slice (some ad) t.ops.length co), (w.heap.size + 1, 0, .int .i64 0), (w.heap.size + 1, 1, .int .i64 0), (wr.heap.size, 0, .slice A0 o.pre.length c0), (wr.heap.size, 1, .slice A1 o.add.length c1), (wr.heap.size, 2, .slice A2 o.del.length c2), (wr.heap.size, 3, .int .i64 o.cost)]) hB5 (by simp [Cls, go_sem, F4, y4w1, y4w0, y4wp1, y4wp2, y4wr0, y4wrp1, y4wrp2])
                have F5 := C5
                simp only [Cls, and_true] at F5
                have y5w1 : w.heap.size + 1 < w5.heap.size := C5.blk (b := w.heap.size + 1) (k := 0) (v := .int .i64 0) (by simp)
                have y5w0 : w.heap.size < w5.heap.size := (by omega)
                have y5wp1 : w.heap.size < w5.heap.size + 1 := (by omega)
                have y5wp2 : w.heap.size < w5.heap.size + 1 + 1 := (by omega)
                have y5wr0 : wr.heap.size < w5.heap.size := C5.blk (b := wr.heap.size) (k := 0) (v := .slice A0 o.pre.length c0) (by simp)
                have y5wrp1 : wr.heap.size < w5.heap.size + 1 := (by omega)
                have y5wrp2 : wr.heap.size < w5.heap.size + 1 + 1 := (by omega)
                have E5 := dstep wr hB5 (by repeat (first | with_reducible exact E4 | with_reducible apply bdrew | with_reducible apply bdrewN | with_reducible apply balloc | ((with_reducible refine bset ?_ ?_ _); rotate_left; (first | omega | (simp <;> omega)))))
                go_wp2_with fail
                refine (disjoint_any _ _ _ _ _ _ _ (hm.add.below (by repeat (first | with_reducible exact E5 | with_reducible apply bdrew | with_reducible apply bdrewN | with_reducible apply balloc | ((with_reducible refine bset ?_ ?_ _); rotate_left; (first | omega | (simp <;> omega)))))) (hm.del.below (by repeat (first | with_reducible exact E5 | with_reducible apply bdrew | with_reducible apply bdrewN | with_reducible apply balloc | ((with_reducible refine bset ?_ ?_ _); rotate_left; (first | omega | (simp <;> omega)))))) hm.ladd.le hm.ldel.le).mono ?_
                rintro e w' ⟨he, rfl⟩
                rw [decide_eq_true SM.out] at he
                subst he
                go_wp2_with fail
                refine (in_yes _ _ _ _ (by omega) (by omega)).mono ?_
                rintro e w' ⟨rfl, rfl⟩
                go_wp2
                go_roundw
                case rel => exact ⟨k + 1, by omega, by go_num, Lib.hid (forall_take_succ ho.out hno.out HC.out), (by repeat (first | with_reducible exact D5 | with_reducible apply bdrew | with_reducible apply bdrewN | with_reducible apply balloc | ((with_reducible refine bset ?_ ?_ _); rotate_left; (first | omega | (simp <;> omega))))), (by simp [Cls, go_sem, F5, y5w1, y5w0, y5wp1, y5wp2, y5wr0, y5wrp1, y5wrp2])⟩
                case measure => simp [intOf]; omega
              · have HC := Lib.hid (hg.trans (if_pos (by omega)))
                have hcost' : o.cost < 0 ∨ 100 < o.cost := by omega
                clear hg hcost
                have Spre := Lib.hid spre
                clear spre
                have Sadd := Lib.hid sadd
                clear sadd
                have Sdel := Lib.hid sdel
                clear sdel
                have SM := Lib.hid sm
                clear sm
                go_wp2_with fail
                refine (risset_any _ _ _ _ _ (hm.pre.below (by repeat (first | with_reducible exact Below.refl _ _ | with_reducible apply bdrew | with_reducible apply bdrewN | with_reducible apply balloc | ((with_reducible refine bset ?_ ?_ _); rotate_left; (first | omega | (simp <;> omega)))))) hm.lpre.le (by omega) (by omega)).mono ?_
                rintro e w3 ⟨he, hB3⟩
                rw [setB_true.2 Spre.out] at he
                subst he
                have D3 := dstep w hB3 (by repeat (first | with_reducible exact hBr | with_reducible apply bdrew | with_reducible apply bdrewN | with_reducible apply balloc | ((with_reducible refine bset ?_ ?_ _); rotate_left; (first | omega | (simp <;> omega)))))
                have d3s := D3.size
                have C3 := Cls.below (l := [(w.heap.size, 0, .int .i64 t.facts), (w.heap.size, 1, .slice Ai t.init.length ci), (w.heap.size, 2, .slice Ag t.goal.length cg), (w.heap.size, 3, .slice (some ad) t.ops.length co), (w.heap.size + 1, 0, .int .i64 0), (w.heap.size + 1, 1, .int .i64 0), (wr.heap.size, 0, .slice A0 o.pre.length c0), (wr.heap.size, 1, .slice A1 o.add.length c1), (wr.heap.size, 2, .slice A2 o.del.length c2), (wr.heap.size, 3, .int .i64 o.cost)]) hB3 (by simp [Cls, go_sem, Fr, yrw1, yrw0, yrwp1, yrwp2])
                have F3 := C3
                simp only [Cls, and_true] at F3
                have y3w1 : w.heap.size + 1 < w3.heap.size := C3.blk (b := w.heap.size + 1) (k := 0) (v := .int .i64 0) (by simp)
                have y3w0 : w.heap.size < w3.heap.size := (by omega)
                have y3wp1 : w.heap.size < w3.heap.size + 1 := (by omega)
                have y3wp2 : w.heap.size < w3.heap.size + 1 + 1 := (by omega)
                have y3wr0 : wr.heap.size < w3.heap.size := C3.blk (b := wr.heap.size) (k := 0) (v := .slice A0 o.pre.length c0) (by simp)
                have y3wrp1 : wr.heap.size < w3.heap.size + 1 := (by omega)
                have y3wrp2 : wr.heap.size < w3.heap.size + 1 + 1 := (by omega)
                have E3 := dstep wr hB3 (by repeat (first | with_reducible exact Below.refl _ _ | with_reducible apply bdrew | with_reducible apply bdrewN | with_reducible apply balloc | ((with_reducible refine bset ?_ ?_ _); rotate_left; (first | omega | (simp <;> omega)))))
                go_wp2_with fail
                refine (risset_any _ _ _ _ _ (hm.add.below (by repeat (first | with_reducible exact E3 | with_reducible apply bdrew | with_reducible apply bdrewN | with_reducible apply balloc | ((with_reducible refine bset ?_ ?_ _); rotate_left; (first | omega | (simp <;> omega)))))) hm.ladd.le (by omega) (by omega)).mono ?_
                rintro e w4 ⟨he, hB4⟩
                rw [setB_true.2 Sadd.out] at he
                subst he
                have D4 := dstep w hB4 (by repeat (first | with_reducible exact D3 | with_reducible apply bdrew | with_reducible apply bdrewN | with_reducible apply balloc | ((with_reducible refine bset ?_ ?_ _); rotate_left; (first | omega | (simp <;> omega)))))
                have d4s := D4.size
                have C4 := Cls.below (l := [(w.heap.size, 0, .int .i64 t.facts), (w.heap.size, 1, .slice Ai t.init.length ci), (w.heap.size, 2, .slice Ag t.goal.length cg), (w.heap.size, 3, .slice (some ad) t.ops.length co), (w.heap.size + 1, 0, .int .i64 0), (w.heap.size + 1, 1, .int .i64 0), (wr.heap.size, 0, .slice A0 o.pre.length c0), (wr.heap.size, 1, .slice A1 o.add.length c1), (wr.heap.size, 2, .slice A2 o.del.length c2), (wr.heap.size, 3, .int .i64 o.cost)]) hB4 (by simp [Cls, go_sem, F3, y3w1, y3w0, y3wp1, y3wp2, y3wr0, y3wrp1, y3wrp2])
                have F4 := C4
                simp only [Cls, and_true] at F4
                have y4w1 : w.heap.size + 1 < w4.heap.size := C4.blk (b := w.heap.size + 1) (k := 0) (v := .int .i64 0) (by simp)
                have y4w0 : w.heap.size < w4.heap.size := (by omega)
                have y4wp1 : w.heap.size < w4.heap.size + 1 := (by omega)
                have y4wp2 : w.heap.size < w4.heap.size + 1 + 1 := (by omega)
                have y4wr0 : wr.heap.size < w4.heap.size := C4.blk (b := wr.heap.size) (k := 0) (v := .slice A0 o.pre.length c0) (by simp)
                have y4wrp1 : wr.heap.size < w4.heap.size + 1 := (by omega)
                have y4wrp2 : wr.heap.size < w4.heap.size + 1 + 1 := (by omega)
                have E4 := dstep wr hB4 (by repeat (first | with_reducible exact E3 | with_reducible apply bdrew | with_reducible apply bdrewN | with_reducible apply balloc | ((with_reducible refine bset ?_ ?_ _); rotate_left; (first | omega | (simp <;> omega)))))
                go_wp2_with fail
                refine (risset_any _ _ _ _ _ (hm.del.below (by repeat (first | with_reducible exact E4 | with_reducible apply bdrew | with_reducible apply bdrewN | with_reducible apply balloc | ((with_reducible refine bset ?_ ?_ _); rotate_left; (first | omega | (simp <;> omega)))))) hm.ldel.le (by omega) (by omega)).mono ?_
                rintro e w5 ⟨he, hB5⟩
                rw [setB_true.2 Sdel.out] at he
                subst he
                have D5 := dstep w hB5 (by repeat (first | with_reducible exact D4 | with_reducible apply bdrew | with_reducible apply bdrewN | with_reducible apply balloc | ((with_reducible refine bset ?_ ?_ _); rotate_left; (first | omega | (simp <;> omega)))))
                have d5s := D5.size
                have C5 := Cls.below (l := [(w.heap.size, 0, .int .i64 t.facts), (w.heap.size, 1, .slice Ai t.init.length ci), (w.heap.size, 2, .slice Ag t.goal.length cg), (w.heap.size, 3, .slice (some ad) t.ops.length co), (w.heap.size + 1, 0, .int .i64 0), (w.heap.size + 1, 1, .int .i64 0), (wr.heap.size, 0, .slice A0 o.pre.length c0), (wr.heap.size, 1, .slice A1 o.add.length c1), (wr.heap.size, 2, .slice A2 o.del.length c2), (wr.heap.size, 3, .int .i64 o.cost)]) hB5 (by simp [Cls, go_sem, F4, y4w1, y4w0, y4wp1, y4wp2, y4wr0, y4wrp1, y4wrp2])
                have F5 := C5
                simp only [Cls, and_true] at F5
                have y5w1 : w.heap.size + 1 < w5.heap.size := C5.blk (b := w.heap.size + 1) (k := 0) (v := .int .i64 0) (by simp)
                have y5w0 : w.heap.size < w5.heap.size := (by omega)
                have y5wp1 : w.heap.size < w5.heap.size + 1 := (by omega)
                have y5wp2 : w.heap.size < w5.heap.size + 1 + 1 := (by omega)
                have y5wr0 : wr.heap.size < w5.heap.size := C5.blk (b := wr.heap.size) (k := 0) (v := .slice A0 o.pre.length c0) (by simp)
                have y5wrp1 : wr.heap.size < w5.heap.size + 1 := (by omega)
                have y5wrp2 : wr.heap.size < w5.heap.size + 1 + 1 := (by omega)
                have E5 := dstep wr hB5 (by repeat (first | with_reducible exact E4 | with_reducible apply bdrew | with_reducible apply bdrewN | with_reducible apply balloc | ((with_reducible refine bset ?_ ?_ _); rotate_left; (first | omega | (simp <;> omega)))))
                go_wp2_with fail
                refine (disjoint_any _ _ _ _ _ _ _ (hm.add.below (by repeat (first | with_reducible exact E5 | with_reducible apply bdrew | with_reducible apply bdrewN | with_reducible apply balloc | ((with_reducible refine bset ?_ ?_ _); rotate_left; (first | omega | (simp <;> omega)))))) (hm.del.below (by repeat (first | with_reducible exact E5 | with_reducible apply bdrew | with_reducible apply bdrewN | with_reducible apply balloc | ((with_reducible refine bset ?_ ?_ _); rotate_left; (first | omega | (simp <;> omega)))))) hm.ladd.le hm.ldel.le).mono ?_
                rintro e w' ⟨he, rfl⟩
                rw [decide_eq_true SM.out] at he
                subst he
                go_wp2_with fail
                refine (in_no _ _ _ _ (by omega)).mono ?_
                rintro e w' ⟨rfl, rfl⟩
                have e := opsFault_at t.ops 0 k o hno.out ho.out (by rw [HC.out]; decide)
                rw [HC.out] at e
                have HE := Lib.hid e
                clear e
                go_wp2_with fail
                refine (at_any _ _ _).mono ?_
                rintro e w6 ⟨rfl, hB6⟩
                have D6 := dstep w hB6 (by repeat (first | with_reducible exact D5 | with_reducible apply bdrew | with_reducible apply bdrewN | with_reducible apply balloc | ((with_reducible refine bset ?_ ?_ _); rotate_left; (first | omega | (simp <;> omega)))))
                have d6s := D6.size
                have C6 := Cls.below (l := [(w.heap.size, 0, .int .i64 t.facts), (w.heap.size, 1, .slice Ai t.init.length ci), (w.heap.size, 2, .slice Ag t.goal.length cg), (w.heap.size, 3, .slice (some ad) t.ops.length co), (w.heap.size + 1, 0, .int .i64 0), (w.heap.size + 1, 1, .int .i64 0), (wr.heap.size, 0, .slice A0 o.pre.length c0), (wr.heap.size, 1, .slice A1 o.add.length c1), (wr.heap.size, 2, .slice A2 o.del.length c2), (wr.heap.size, 3, .int .i64 o.cost)]) hB6 (by simp [Cls, go_sem, F5, y5w1, y5w0, y5wp1, y5wp2, y5wr0, y5wrp1, y5wrp2])
                have F6 := C6
                simp only [Cls, and_true] at F6
                have y6w1 : w.heap.size + 1 < w6.heap.size := C6.blk (b := w.heap.size + 1) (k := 0) (v := .int .i64 0) (by simp)
                have y6w0 : w.heap.size < w6.heap.size := (by omega)
                have y6wp1 : w.heap.size < w6.heap.size + 1 := (by omega)
                have y6wp2 : w.heap.size < w6.heap.size + 1 + 1 := (by omega)
                have y6wr0 : wr.heap.size < w6.heap.size := C6.blk (b := wr.heap.size) (k := 0) (v := .slice A0 o.pre.length c0) (by simp)
                have y6wrp1 : wr.heap.size < w6.heap.size + 1 := (by omega)
                have y6wrp2 : wr.heap.size < w6.heap.size + 1 + 1 := (by omega)
                have E6 := dstep wr hB6 (by repeat (first | with_reducible exact E5 | with_reducible apply bdrew | with_reducible apply bdrewN | with_reducible apply balloc | ((with_reducible refine bset ?_ ?_ _); rotate_left; (first | omega | (simp <;> omega)))))
                go_wp2
                refine bodyPost_ret (v := .agg #[.int .i64 3, .int .i64 (k : Int)]) ?_ rfl ⟨by rw [HE.out]; simp, by repeat (first | with_reducible exact D6 | with_reducible apply bdrew | with_reducible apply bdrewN | with_reducible apply balloc | ((with_reducible refine bset ?_ ?_ _); rotate_left; (first | omega | (simp <;> omega))))⟩
                simp [results, Try.results21, go_sem, F6, y6w1, y6w0, y6wp1, y6wp2, y6wr0, y6wrp1, y6wrp2]
            · have HC := Lib.hid (opc_bad (o := o) (f := t.facts) (fun h => sm h.2.2.2))
              have Spre := Lib.hid spre
              clear spre
              have Sadd := Lib.hid sadd
              clear sadd
              have Sdel := Lib.hid sdel
              clear sdel
              have SM := Lib.hid sm
              clear sm
              go_wp2_with fail
              refine (risset_any _ _ _ _ _ (hm.pre.below (by repeat (first | with_reducible exact Below.refl _ _ | with_reducible apply bdrew | with_reducible apply bdrewN | with_reducible apply balloc | ((with_reducible refine bset ?_ ?_ _); rotate_left; (first | omega | (simp <;> omega)))))) hm.lpre.le (by omega) (by omega)).mono ?_
              rintro e w3 ⟨he, hB3⟩
              rw [setB_true.2 Spre.out] at he
              subst he
              have D3 := dstep w hB3 (by repeat (first | with_reducible exact hBr | with_reducible apply bdrew | with_reducible apply bdrewN | with_reducible apply balloc | ((with_reducible refine bset ?_ ?_ _); rotate_left; (first | omega | (simp <;> omega)))))
              have d3s := D3.size
              have C3 := Cls.below (l := [(w.heap.size, 0, .int .i64 t.facts), (w.heap.size, 1, .slice Ai t.init.length ci), (w.heap.size, 2, .slice Ag t.goal.length cg), (w.heap.size, 3, .slice (some ad) t.ops.length co), (w.heap.size + 1, 0, .int .i64 0), (w.heap.size + 1, 1, .int .i64 0), (wr.heap.size, 0, .slice A0 o.pre.length c0), (wr.heap.size, 1, .slice A1 o.add.length c1), (wr.heap.size, 2, .slice A2 o.del.length c2), (wr.heap.size, 3, .int .i64 o.cost)]) hB3 (by simp [Cls, go_sem, Fr, yrw1, yrw0, yrwp1, yrwp2])
              have F3 := C3
              simp only [Cls, and_true] at F3
              have y3w1 : w.heap.size + 1 < w3.heap.size := C3.blk (b := w.heap.size + 1) (k := 0) (v := .int .i64 0) (by simp)
              have y3w0 : w.heap.size < w3.heap.size := (by omega)
              have y3wp1 : w.heap.size < w3.heap.size + 1 := (by omega)
              have y3wp2 : w.heap.size < w3.heap.size + 1 + 1 := (by omega)
              have y3wr0 : wr.heap.size < w3.heap.size := C3.blk (b := wr.heap.size) (k := 0) (v := .slice A0 o.pre.length c0) (by simp)
              have y3wrp1 : wr.heap.size < w3.heap.size + 1 := (by omega)
              have y3wrp2 : wr.heap.size < w3.heap.size + 1 + 1 := (by omega)
              have E3 := dstep wr hB3 (by repeat (first | with_reducible exact Below.refl _ _ | with_reducible apply bdrew | with_reducible apply bdrewN | with_reducible apply balloc | ((with_reducible refine bset ?_ ?_ _); rotate_left; (first | omega | (simp <;> omega)))))
              go_wp2_with fail
              refine (risset_any _ _ _ _ _ (hm.add.below (by repeat (first | with_reducible exact E3 | with_reducible apply bdrew | with_reducible apply bdrewN | with_reducible apply balloc | ((with_reducible refine bset ?_ ?_ _); rotate_left; (first | omega | (simp <;> omega)))))) hm.ladd.le (by omega) (by omega)).mono ?_
              rintro e w4 ⟨he, hB4⟩
              rw [setB_true.2 Sadd.out] at he
              subst he
              have D4 := dstep w hB4 (by repeat (first | with_reducible exact D3 | with_reducible apply bdrew | with_reducible apply bdrewN | with_reducible apply balloc | ((with_reducible refine bset ?_ ?_ _); rotate_left; (first | omega | (simp <;> omega)))))
              have d4s := D4.size
              have C4 := Cls.below (l := [(w.heap.size, 0, .int .i64 t.facts), (w.heap.size, 1, .slice Ai t.init.length ci), (w.heap.size, 2, .slice Ag t.goal.length cg), (w.heap.size, 3, .slice (some ad) t.ops.length co), (w.heap.size + 1, 0, .int .i64 0), (w.heap.size + 1, 1, .int .i64 0), (wr.heap.size, 0, .slice A0 o.pre.length c0), (wr.heap.size, 1, .slice A1 o.add.length c1), (wr.heap.size, 2, .slice A2 o.del.length c2), (wr.heap.size, 3, .int .i64 o.cost)]) hB4 (by simp [Cls, go_sem, F3, y3w1, y3w0, y3wp1, y3wp2, y3wr0, y3wrp1, y3wrp2])
              have F4 := C4
              simp only [Cls, and_true] at F4
              have y4w1 : w.heap.size + 1 < w4.heap.size := C4.blk (b := w.heap.size + 1) (k := 0) (v := .int .i64 0) (by simp)
              have y4w0 : w.heap.size < w4.heap.size := (by omega)
              have y4wp1 : w.heap.size < w4.heap.size + 1 := (by omega)
              have y4wp2 : w.heap.size < w4.heap.size + 1 + 1 := (by omega)
              have y4wr0 : wr.heap.size < w4.heap.size := C4.blk (b := wr.heap.size) (k := 0) (v := .slice A0 o.pre.length c0) (by simp)
              have y4wrp1 : wr.heap.size < w4.heap.size + 1 := (by omega)
              have y4wrp2 : wr.heap.size < w4.heap.size + 1 + 1 := (by omega)
              have E4 := dstep wr hB4 (by repeat (first | with_reducible exact E3 | with_reducible apply bdrew | with_reducible apply bdrewN | with_reducible apply balloc | ((with_reducible refine bset ?_ ?_ _); rotate_left; (first | omega | (simp <;> omega)))))
              go_wp2_with fail
              refine (risset_any _ _ _ _ _ (hm.del.below (by repeat (first | with_reducible exact E4 | with_reducible apply bdrew | with_reducible apply bdrewN | with_reducible apply balloc | ((with_reducible refine bset ?_ ?_ _); rotate_left; (first | omega | (simp <;> omega)))))) hm.ldel.le (by omega) (by omega)).mono ?_
              rintro e w5 ⟨he, hB5⟩
              rw [setB_true.2 Sdel.out] at he
              subst he
              have D5 := dstep w hB5 (by repeat (first | with_reducible exact D4 | with_reducible apply bdrew | with_reducible apply bdrewN | with_reducible apply balloc | ((with_reducible refine bset ?_ ?_ _); rotate_left; (first | omega | (simp <;> omega)))))
              have d5s := D5.size
              have C5 := Cls.below (l := [(w.heap.size, 0, .int .i64 t.facts), (w.heap.size, 1, .slice Ai t.init.length ci), (w.heap.size, 2, .slice Ag t.goal.length cg), (w.heap.size, 3, .slice (some ad) t.ops.length co), (w.heap.size + 1, 0, .int .i64 0), (w.heap.size + 1, 1, .int .i64 0), (wr.heap.size, 0, .slice A0 o.pre.length c0), (wr.heap.size, 1, .slice A1 o.add.length c1), (wr.heap.size, 2, .slice A2 o.del.length c2), (wr.heap.size, 3, .int .i64 o.cost)]) hB5 (by simp [Cls, go_sem, F4, y4w1, y4w0, y4wp1, y4wp2, y4wr0, y4wrp1, y4wrp2])
              have F5 := C5
              simp only [Cls, and_true] at F5
              have y5w1 : w.heap.size + 1 < w5.heap.size := C5.blk (b := w.heap.size + 1) (k := 0) (v := .int .i64 0) (by simp)
              have y5w0 : w.heap.size < w5.heap.size := (by omega)
              have y5wp1 : w.heap.size < w5.heap.size + 1 := (by omega)
              have y5wp2 : w.heap.size < w5.heap.size + 1 + 1 := (by omega)
              have y5wr0 : wr.heap.size < w5.heap.size := C5.blk (b := wr.heap.size) (k := 0) (v := .slice A0 o.pre.length c0) (by simp)
              have y5wrp1 : wr.heap.size < w5.heap.size + 1 := (by omega)
              have y5wrp2 : wr.heap.size < w5.heap.size + 1 + 1 := (by omega)
              have E5 := dstep wr hB5 (by repeat (first | with_reducible exact E4 | with_reducible apply bdrew | with_reducible apply bdrewN | with_reducible apply balloc | ((with_reducible refine bset ?_ ?_ _); rotate_left; (first | omega | (simp <;> omega)))))
              go_wp2_with fail
              refine (disjoint_any _ _ _ _ _ _ _ (hm.add.below (by repeat (first | with_reducible exact E5 | with_reducible apply bdrew | with_reducible apply bdrewN | with_reducible apply balloc | ((with_reducible refine bset ?_ ?_ _); rotate_left; (first | omega | (simp <;> omega)))))) (hm.del.below (by repeat (first | with_reducible exact E5 | with_reducible apply bdrew | with_reducible apply bdrewN | with_reducible apply balloc | ((with_reducible refine bset ?_ ?_ _); rotate_left; (first | omega | (simp <;> omega)))))) hm.ladd.le hm.ldel.le).mono ?_
              rintro e w' ⟨he, rfl⟩
              rw [decide_eq_false SM.out] at he
              subst he
              have e := opsFault_at t.ops 0 k o hno.out ho.out (by rw [HC.out]; decide)
              rw [HC.out] at e
              have HE := Lib.hid e
              clear e
              go_wp2_with fail
              refine (at_any _ _ _).mono ?_
              rintro e w6 ⟨rfl, hB6⟩
              have D6 := dstep w hB6 (by repeat (first | with_reducible exact D5 | with_reducible apply bdrew | with_reducible apply bdrewN | with_reducible apply balloc | ((with_reducible refine bset ?_ ?_ _); rotate_left; (first | omega | (simp <;> omega)))))
              have d6s := D6.size
              have C6 := Cls.below (l := [(w.heap.size, 0, .int .i64 t.facts), (w.heap.size, 1, .slice Ai t.init.length ci), (w.heap.size, 2, .slice Ag t.goal.length cg), (w.heap.size, 3, .slice (some ad) t.ops.length co), (w.heap.size + 1, 0, .int .i64 0), (w.heap.size + 1, 1, .int .i64 0), (wr.heap.size, 0, .slice A0 o.pre.length c0), (wr.heap.size, 1, .slice A1 o.add.length c1), (wr.heap.size, 2, .slice A2 o.del.length c2), (wr.heap.size, 3, .int .i64 o.cost)]) hB6 (by simp [Cls, go_sem, F5, y5w1, y5w0, y5wp1, y5wp2, y5wr0, y5wrp1, y5wrp2])
              have F6 := C6
              simp only [Cls, and_true] at F6
              have y6w1 : w.heap.size + 1 < w6.heap.size := C6.blk (b := w.heap.size + 1) (k := 0) (v := .int .i64 0) (by simp)
              have y6w0 : w.heap.size < w6.heap.size := (by omega)
              have y6wp1 : w.heap.size < w6.heap.size + 1 := (by omega)
              have y6wp2 : w.heap.size < w6.heap.size + 1 + 1 := (by omega)
              have y6wr0 : wr.heap.size < w6.heap.size := C6.blk (b := wr.heap.size) (k := 0) (v := .slice A0 o.pre.length c0) (by simp)
              have y6wrp1 : wr.heap.size < w6.heap.size + 1 := (by omega)
              have y6wrp2 : wr.heap.size < w6.heap.size + 1 + 1 := (by omega)
              have E6 := dstep wr hB6 (by repeat (first | with_reducible exact E5 | with_reducible apply bdrew | with_reducible apply bdrewN | with_reducible apply balloc | ((with_reducible refine bset ?_ ?_ _); rotate_left; (first | omega | (simp <;> omega)))))
              go_wp2
              refine bodyPost_ret (v := .agg #[.int .i64 5, .int .i64 (k : Int)]) ?_ rfl ⟨by rw [HE.out]; simp, by repeat (first | with_reducible exact D6 | with_reducible apply bdrew | with_reducible apply bdrewN | with_reducible apply balloc | ((with_reducible refine bset ?_ ?_ _); rotate_left; (first | omega | (simp <;> omega))))⟩
              simp [results, Try.results21, go_sem, F6, y6w1, y6w0, y6wp1, y6wp2, y6wr0, y6wrp1, y6wrp2]
          · have HC := Lib.hid (opc_bad (o := o) (f := t.facts) (fun h => sdel h.2.2.1))
            have Spre := Lib.hid spre
            clear spre
            have Sadd := Lib.hid sadd
            clear sadd
            have Sdel := Lib.hid sdel
            clear sdel
            go_wp2_with fail
            refine (risset_any _ _ _ _ _ (hm.pre.below (by repeat (first | with_reducible exact Below.refl _ _ | with_reducible apply bdrew | with_reducible apply bdrewN | with_reducible apply balloc | ((with_reducible refine bset ?_ ?_ _); rotate_left; (first | omega | (simp <;> omega)))))) hm.lpre.le (by omega) (by omega)).mono ?_
            rintro e w3 ⟨he, hB3⟩
            rw [setB_true.2 Spre.out] at he
            subst he
            have D3 := dstep w hB3 (by repeat (first | with_reducible exact hBr | with_reducible apply bdrew | with_reducible apply bdrewN | with_reducible apply balloc | ((with_reducible refine bset ?_ ?_ _); rotate_left; (first | omega | (simp <;> omega)))))
            have d3s := D3.size
            have C3 := Cls.below (l := [(w.heap.size, 0, .int .i64 t.facts), (w.heap.size, 1, .slice Ai t.init.length ci), (w.heap.size, 2, .slice Ag t.goal.length cg), (w.heap.size, 3, .slice (some ad) t.ops.length co), (w.heap.size + 1, 0, .int .i64 0), (w.heap.size + 1, 1, .int .i64 0), (wr.heap.size, 0, .slice A0 o.pre.length c0), (wr.heap.size, 1, .slice A1 o.add.length c1), (wr.heap.size, 2, .slice A2 o.del.length c2), (wr.heap.size, 3, .int .i64 o.cost)]) hB3 (by simp [Cls, go_sem, Fr, yrw1, yrw0, yrwp1, yrwp2])
            have F3 := C3
            simp only [Cls, and_true] at F3
            have y3w1 : w.heap.size + 1 < w3.heap.size := C3.blk (b := w.heap.size + 1) (k := 0) (v := .int .i64 0) (by simp)
            have y3w0 : w.heap.size < w3.heap.size := (by omega)
            have y3wp1 : w.heap.size < w3.heap.size + 1 := (by omega)
            have y3wp2 : w.heap.size < w3.heap.size + 1 + 1 := (by omega)
            have y3wr0 : wr.heap.size < w3.heap.size := C3.blk (b := wr.heap.size) (k := 0) (v := .slice A0 o.pre.length c0) (by simp)
            have y3wrp1 : wr.heap.size < w3.heap.size + 1 := (by omega)
            have y3wrp2 : wr.heap.size < w3.heap.size + 1 + 1 := (by omega)
            have E3 := dstep wr hB3 (by repeat (first | with_reducible exact Below.refl _ _ | with_reducible apply bdrew | with_reducible apply bdrewN | with_reducible apply balloc | ((with_reducible refine bset ?_ ?_ _); rotate_left; (first | omega | (simp <;> omega)))))
            go_wp2_with fail
            refine (risset_any _ _ _ _ _ (hm.add.below (by repeat (first | with_reducible exact E3 | with_reducible apply bdrew | with_reducible apply bdrewN | with_reducible apply balloc | ((with_reducible refine bset ?_ ?_ _); rotate_left; (first | omega | (simp <;> omega)))))) hm.ladd.le (by omega) (by omega)).mono ?_
            rintro e w4 ⟨he, hB4⟩
            rw [setB_true.2 Sadd.out] at he
            subst he
            have D4 := dstep w hB4 (by repeat (first | with_reducible exact D3 | with_reducible apply bdrew | with_reducible apply bdrewN | with_reducible apply balloc | ((with_reducible refine bset ?_ ?_ _); rotate_left; (first | omega | (simp <;> omega)))))
            have d4s := D4.size
            have C4 := Cls.below (l := [(w.heap.size, 0, .int .i64 t.facts), (w.heap.size, 1, .slice Ai t.init.length ci), (w.heap.size, 2, .slice Ag t.goal.length cg), (w.heap.size, 3, .slice (some ad) t.ops.length co), (w.heap.size + 1, 0, .int .i64 0), (w.heap.size + 1, 1, .int .i64 0), (wr.heap.size, 0, .slice A0 o.pre.length c0), (wr.heap.size, 1, .slice A1 o.add.length c1), (wr.heap.size, 2, .slice A2 o.del.length c2), (wr.heap.size, 3, .int .i64 o.cost)]) hB4 (by simp [Cls, go_sem, F3, y3w1, y3w0, y3wp1, y3wp2, y3wr0, y3wrp1, y3wrp2])
            have F4 := C4
            simp only [Cls, and_true] at F4
            have y4w1 : w.heap.size + 1 < w4.heap.size := C4.blk (b := w.heap.size + 1) (k := 0) (v := .int .i64 0) (by simp)
            have y4w0 : w.heap.size < w4.heap.size := (by omega)
            have y4wp1 : w.heap.size < w4.heap.size + 1 := (by omega)
            have y4wp2 : w.heap.size < w4.heap.size + 1 + 1 := (by omega)
            have y4wr0 : wr.heap.size < w4.heap.size := C4.blk (b := wr.heap.size) (k := 0) (v := .slice A0 o.pre.length c0) (by simp)
            have y4wrp1 : wr.heap.size < w4.heap.size + 1 := (by omega)
            have y4wrp2 : wr.heap.size < w4.heap.size + 1 + 1 := (by omega)
            have E4 := dstep wr hB4 (by repeat (first | with_reducible exact E3 | with_reducible apply bdrew | with_reducible apply bdrewN | with_reducible apply balloc | ((with_reducible refine bset ?_ ?_ _); rotate_left; (first | omega | (simp <;> omega)))))
            go_wp2_with fail
            refine (risset_any _ _ _ _ _ (hm.del.below (by repeat (first | with_reducible exact E4 | with_reducible apply bdrew | with_reducible apply bdrewN | with_reducible apply balloc | ((with_reducible refine bset ?_ ?_ _); rotate_left; (first | omega | (simp <;> omega)))))) hm.ldel.le (by omega) (by omega)).mono ?_
            rintro e w5 ⟨he, hB5⟩
            rw [setB_false.2 Sdel.out] at he
            subst he
            have D5 := dstep w hB5 (by repeat (first | with_reducible exact D4 | with_reducible apply bdrew | with_reducible apply bdrewN | with_reducible apply balloc | ((with_reducible refine bset ?_ ?_ _); rotate_left; (first | omega | (simp <;> omega)))))
            have d5s := D5.size
            have C5 := Cls.below (l := [(w.heap.size, 0, .int .i64 t.facts), (w.heap.size, 1, .slice Ai t.init.length ci), (w.heap.size, 2, .slice Ag t.goal.length cg), (w.heap.size, 3, .slice (some ad) t.ops.length co), (w.heap.size + 1, 0, .int .i64 0), (w.heap.size + 1, 1, .int .i64 0), (wr.heap.size, 0, .slice A0 o.pre.length c0), (wr.heap.size, 1, .slice A1 o.add.length c1), (wr.heap.size, 2, .slice A2 o.del.length c2), (wr.heap.size, 3, .int .i64 o.cost)]) hB5 (by simp [Cls, go_sem, F4, y4w1, y4w0, y4wp1, y4wp2, y4wr0, y4wrp1, y4wrp2])
            have F5 := C5
            simp only [Cls, and_true] at F5
            have y5w1 : w.heap.size + 1 < w5.heap.size := C5.blk (b := w.heap.size + 1) (k := 0) (v := .int .i64 0) (by simp)
            have y5w0 : w.heap.size < w5.heap.size := (by omega)
            have y5wp1 : w.heap.size < w5.heap.size + 1 := (by omega)
            have y5wp2 : w.heap.size < w5.heap.size + 1 + 1 := (by omega)
            have y5wr0 : wr.heap.size < w5.heap.size := C5.blk (b := wr.heap.size) (k := 0) (v := .slice A0 o.pre.length c0) (by simp)
            have y5wrp1 : wr.heap.size < w5.heap.size + 1 := (by omega)
            have y5wrp2 : wr.heap.size < w5.heap.size + 1 + 1 := (by omega)
            have E5 := dstep wr hB5 (by repeat (first | with_reducible exact E4 | with_reducible apply bdrew | with_reducible apply bdrewN | with_reducible apply balloc | ((with_reducible refine bset ?_ ?_ _); rotate_left; (first | omega | (simp <;> omega)))))
            have e := opsFault_at t.ops 0 k o hno.out ho.out (by rw [HC.out]; decide)
            rw [HC.out] at e
            have HE := Lib.hid e
            clear e
            go_wp2_with fail
            refine (at_any _ _ _).mono ?_
            rintro e w6 ⟨rfl, hB6⟩
            have D6 := dstep w hB6 (by repeat (first | with_reducible exact D5 | with_reducible apply bdrew | with_reducible apply bdrewN | with_reducible apply balloc | ((with_reducible refine bset ?_ ?_ _); rotate_left; (first | omega | (simp <;> omega)))))
            have d6s := D6.size
            have C6 := Cls.below (l := [(w.heap.size, 0, .int .i64 t.facts), (w.heap.size, 1, .slice Ai t.init.length ci), (w.heap.size, 2, .slice Ag t.goal.length cg), (w.heap.size, 3, .slice (some ad) t.ops.length co), (w.heap.size + 1, 0, .int .i64 0), (w.heap.size + 1, 1, .int .i64 0), (wr.heap.size, 0, .slice A0 o.pre.length c0), (wr.heap.size, 1, .slice A1 o.add.length c1), (wr.heap.size, 2, .slice A2 o.del.length c2), (wr.heap.size, 3, .int .i64 o.cost)]) hB6 (by simp [Cls, go_sem, F5, y5w1, y5w0, y5wp1, y5wp2, y5wr0, y5wrp1, y5wrp2])
            have F6 := C6
            simp only [Cls, and_true] at F6
            have y6w1 : w.heap.size + 1 < w6.heap.size := C6.blk (b := w.heap.size + 1) (k := 0) (v := .int .i64 0) (by simp)
            have y6w0 : w.heap.size < w6.heap.size := (by omega)
            have y6wp1 : w.heap.size < w6.heap.size + 1 := (by omega)
            have y6wp2 : w.heap.size < w6.heap.size + 1 + 1 := (by omega)
            have y6wr0 : wr.heap.size < w6.heap.size := C6.blk (b := wr.heap.size) (k := 0) (v := .slice A0 o.pre.length c0) (by simp)
            have y6wrp1 : wr.heap.size < w6.heap.size + 1 := (by omega)
            have y6wrp2 : wr.heap.size < w6.heap.size + 1 + 1 := (by omega)
            have E6 := dstep wr hB6 (by repeat (first | with_reducible exact E5 | with_reducible apply bdrew | with_reducible apply bdrewN | with_reducible apply balloc | ((with_reducible refine bset ?_ ?_ _); rotate_left; (first | omega | (simp <;> omega)))))
            go_wp2
            refine bodyPost_ret (v := .agg #[.int .i64 5, .int .i64 (k : Int)]) ?_ rfl ⟨by rw [HE.out]; simp, by repeat (first | with_reducible exact D6 | with_reducible apply bdrew | with_reducible apply bdrewN | with_reducible apply balloc | ((with_reducible refine bset ?_ ?_ _); rotate_left; (first | omega | (simp <;> omega))))⟩
            simp [results, Try.results21, go_sem, F6, y6w1, y6w0, y6wp1, y6wp2, y6wr0, y6wrp1, y6wrp2]
        · have HC := Lib.hid (opc_bad (o := o) (f := t.facts) (fun h => sadd h.2.1))
          have Spre := Lib.hid spre
          clear spre
          have Sadd := Lib.hid sadd
          clear sadd
          go_wp2_with fail
          refine (risset_any _ _ _ _ _ (hm.pre.below (by repeat (first | with_reducible exact Below.refl _ _ | with_reducible apply bdrew | with_reducible apply bdrewN | with_reducible apply balloc | ((with_reducible refine bset ?_ ?_ _); rotate_left; (first | omega | (simp <;> omega)))))) hm.lpre.le (by omega) (by omega)).mono ?_
          rintro e w3 ⟨he, hB3⟩
          rw [setB_true.2 Spre.out] at he
          subst he
          have D3 := dstep w hB3 (by repeat (first | with_reducible exact hBr | with_reducible apply bdrew | with_reducible apply bdrewN | with_reducible apply balloc | ((with_reducible refine bset ?_ ?_ _); rotate_left; (first | omega | (simp <;> omega)))))
          have d3s := D3.size
          have C3 := Cls.below (l := [(w.heap.size, 0, .int .i64 t.facts), (w.heap.size, 1, .slice Ai t.init.length ci), (w.heap.size, 2, .slice Ag t.goal.length cg), (w.heap.size, 3, .slice (some ad) t.ops.length co), (w.heap.size + 1, 0, .int .i64 0), (w.heap.size + 1, 1, .int .i64 0), (wr.heap.size, 0, .slice A0 o.pre.length c0), (wr.heap.size, 1, .slice A1 o.add.length c1), (wr.heap.size, 2, .slice A2 o.del.length c2), (wr.heap.size, 3, .int .i64 o.cost)]) hB3 (by simp [Cls, go_sem, Fr, yrw1, yrw0, yrwp1, yrwp2])
          have F3 := C3
          simp only [Cls, and_true] at F3
          have y3w1 : w.heap.size + 1 < w3.heap.size := C3.blk (b := w.heap.size + 1) (k := 0) (v := .int .i64 0) (by simp)
          have y3w0 : w.heap.size < w3.heap.size := (by omega)
          have y3wp1 : w.heap.size < w3.heap.size + 1 := (by omega)
          have y3wp2 : w.heap.size < w3.heap.size + 1 + 1 := (by omega)
          have y3wr0 : wr.heap.size < w3.heap.size := C3.blk (b := wr.heap.size) (k := 0) (v := .slice A0 o.pre.length c0) (by simp)
          have y3wrp1 : wr.heap.size < w3.heap.size + 1 := (by omega)
          have y3wrp2 : wr.heap.size < w3.heap.size + 1 + 1 := (by omega)
          have E3 := dstep wr hB3 (by repeat (first | with_reducible exact Below.refl _ _ | with_reducible apply bdrew | with_reducible apply bdrewN | with_reducible apply balloc | ((with_reducible refine bset ?_ ?_ _); rotate_left; (first | omega | (simp <;> omega)))))
          go_wp2_with fail
          refine (risset_any _ _ _ _ _ (hm.add.below (by repeat (first | with_reducible exact E3 | with_reducible apply bdrew | with_reducible apply bdrewN | with_reducible apply balloc | ((with_reducible refine bset ?_ ?_ _); rotate_left; (first | omega | (simp <;> omega)))))) hm.ladd.le (by omega) (by omega)).mono ?_
          rintro e w4 ⟨he, hB4⟩
          rw [setB_false.2 Sadd.out] at he
          subst he
          have D4 := dstep w hB4 (by repeat (first | with_reducible exact D3 | with_reducible apply bdrew | with_reducible apply bdrewN | with_reducible apply balloc | ((with_reducible refine bset ?_ ?_ _); rotate_left; (first | omega | (simp <;> omega)))))
          have d4s := D4.size
          have C4 := Cls.below (l := [(w.heap.size, 0, .int .i64 t.facts), (w.heap.size, 1, .slice Ai t.init.length ci), (w.heap.size, 2, .slice Ag t.goal.length cg), (w.heap.size, 3, .slice (some ad) t.ops.length co), (w.heap.size + 1, 0, .int .i64 0), (w.heap.size + 1, 1, .int .i64 0), (wr.heap.size, 0, .slice A0 o.pre.length c0), (wr.heap.size, 1, .slice A1 o.add.length c1), (wr.heap.size, 2, .slice A2 o.del.length c2), (wr.heap.size, 3, .int .i64 o.cost)]) hB4 (by simp [Cls, go_sem, F3, y3w1, y3w0, y3wp1, y3wp2, y3wr0, y3wrp1, y3wrp2])
          have F4 := C4
          simp only [Cls, and_true] at F4
          have y4w1 : w.heap.size + 1 < w4.heap.size := C4.blk (b := w.heap.size + 1) (k := 0) (v := .int .i64 0) (by simp)
          have y4w0 : w.heap.size < w4.heap.size := (by omega)
          have y4wp1 : w.heap.size < w4.heap.size + 1 := (by omega)
          have y4wp2 : w.heap.size < w4.heap.size + 1 + 1 := (by omega)
          have y4wr0 : wr.heap.size < w4.heap.size := C4.blk (b := wr.heap.size) (k := 0) (v := .slice A0 o.pre.length c0) (by simp)
          have y4wrp1 : wr.heap.size < w4.heap.size + 1 := (by omega)
          have y4wrp2 : wr.heap.size < w4.heap.size + 1 + 1 := (by omega)
          have E4 := dstep wr hB4 (by repeat (first | with_reducible exact E3 | with_reducible apply bdrew | with_reducible apply bdrewN | with_reducible apply balloc | ((with_reducible refine bset ?_ ?_ _); rotate_left; (first | omega | (simp <;> omega)))))
          have e := opsFault_at t.ops 0 k o hno.out ho.out (by rw [HC.out]; decide)
          rw [HC.out] at e
          have HE := Lib.hid e
          clear e
          go_wp2_with fail
          refine (at_any _ _ _).mono ?_
          rintro e w5 ⟨rfl, hB5⟩
          have D5 := dstep w hB5 (by repeat (first | with_reducible exact D4 | with_reducible apply bdrew | with_reducible apply bdrewN | with_reducible apply balloc | ((with_reducible refine bset ?_ ?_ _); rotate_left; (first | omega | (simp <;> omega)))))
          have d5s := D5.size
          have C5 := Cls.below (l := [(w.heap.size, 0, .int .i64 t.facts), (w.heap.size, 1, .slice Ai t.init.length ci), (w.heap.size, 2, .slice Ag t.goal.length cg), (w.heap.size, 3, .slice (some ad) t.ops.length co), (w.heap.size + 1, 0, .int .i64 0), (w.heap.size + 1, 1, .int .i64 0), (wr.heap.size, 0, .slice A0 o.pre.length c0), (wr.heap.size, 1, .slice A1 o.add.length c1), (wr.heap.size, 2, .slice A2 o.del.length c2), (wr.heap.size, 3, .int .i64 o.cost)]) hB5 (by simp [Cls, go_sem, F4, y4w1, y4w0, y4wp1, y4wp2, y4wr0, y4wrp1, y4wrp2])
          have F5 := C5
          simp only [Cls, and_true] at F5
          have y5w1 : w.heap.size + 1 < w5.heap.size := C5.blk (b := w.heap.size + 1) (k := 0) (v := .int .i64 0) (by simp)
          have y5w0 : w.heap.size < w5.heap.size := (by omega)
          have y5wp1 : w.heap.size < w5.heap.size + 1 := (by omega)
          have y5wp2 : w.heap.size < w5.heap.size + 1 + 1 := (by omega)
          have y5wr0 : wr.heap.size < w5.heap.size := C5.blk (b := wr.heap.size) (k := 0) (v := .slice A0 o.pre.length c0) (by simp)
          have y5wrp1 : wr.heap.size < w5.heap.size + 1 := (by omega)
          have y5wrp2 : wr.heap.size < w5.heap.size + 1 + 1 := (by omega)
          have E5 := dstep wr hB5 (by repeat (first | with_reducible exact E4 | with_reducible apply bdrew | with_reducible apply bdrewN | with_reducible apply balloc | ((with_reducible refine bset ?_ ?_ _); rotate_left; (first | omega | (simp <;> omega)))))
          go_wp2
          refine bodyPost_ret (v := .agg #[.int .i64 5, .int .i64 (k : Int)]) ?_ rfl ⟨by rw [HE.out]; simp, by repeat (first | with_reducible exact D5 | with_reducible apply bdrew | with_reducible apply bdrewN | with_reducible apply balloc | ((with_reducible refine bset ?_ ?_ _); rotate_left; (first | omega | (simp <;> omega))))⟩
          simp [results, Try.results21, go_sem, F5, y5w1, y5w0, y5wp1, y5wp2, y5wr0, y5wrp1, y5wrp2]
      · have HC := Lib.hid (opc_bad (o := o) (f := t.facts) (fun h => spre h.1))
        have Spre := Lib.hid spre
        clear spre
        go_wp2_with fail
        refine (risset_any _ _ _ _ _ (hm.pre.below (by repeat (first | with_reducible exact Below.refl _ _ | with_reducible apply bdrew | with_reducible apply bdrewN | with_reducible apply balloc | ((with_reducible refine bset ?_ ?_ _); rotate_left; (first | omega | (simp <;> omega)))))) hm.lpre.le (by omega) (by omega)).mono ?_
        rintro e w3 ⟨he, hB3⟩
        rw [setB_false.2 Spre.out] at he
        subst he
        have D3 := dstep w hB3 (by repeat (first | with_reducible exact hBr | with_reducible apply bdrew | with_reducible apply bdrewN | with_reducible apply balloc | ((with_reducible refine bset ?_ ?_ _); rotate_left; (first | omega | (simp <;> omega)))))
        have d3s := D3.size
        have C3 := Cls.below (l := [(w.heap.size, 0, .int .i64 t.facts), (w.heap.size, 1, .slice Ai t.init.length ci), (w.heap.size, 2, .slice Ag t.goal.length cg), (w.heap.size, 3, .slice (some ad) t.ops.length co), (w.heap.size + 1, 0, .int .i64 0), (w.heap.size + 1, 1, .int .i64 0), (wr.heap.size, 0, .slice A0 o.pre.length c0), (wr.heap.size, 1, .slice A1 o.add.length c1), (wr.heap.size, 2, .slice A2 o.del.length c2), (wr.heap.size, 3, .int .i64 o.cost)]) hB3 (by simp [Cls, go_sem, Fr, yrw1, yrw0, yrwp1, yrwp2])
        have F3 := C3
        simp only [Cls, and_true] at F3
        have y3w1 : w.heap.size + 1 < w3.heap.size := C3.blk (b := w.heap.size + 1) (k := 0) (v := .int .i64 0) (by simp)
        have y3w0 : w.heap.size < w3.heap.size := (by omega)
        have y3wp1 : w.heap.size < w3.heap.size + 1 := (by omega)
        have y3wp2 : w.heap.size < w3.heap.size + 1 + 1 := (by omega)
        have y3wr0 : wr.heap.size < w3.heap.size := C3.blk (b := wr.heap.size) (k := 0) (v := .slice A0 o.pre.length c0) (by simp)
        have y3wrp1 : wr.heap.size < w3.heap.size + 1 := (by omega)
        have y3wrp2 : wr.heap.size < w3.heap.size + 1 + 1 := (by omega)
        have E3 := dstep wr hB3 (by repeat (first | with_reducible exact Below.refl _ _ | with_reducible apply bdrew | with_reducible apply bdrewN | with_reducible apply balloc | ((with_reducible refine bset ?_ ?_ _); rotate_left; (first | omega | (simp <;> omega)))))
        have e := opsFault_at t.ops 0 k o hno.out ho.out (by rw [HC.out]; decide)
        rw [HC.out] at e
        have HE := Lib.hid e
        clear e
        go_wp2_with fail
        refine (at_any _ _ _).mono ?_
        rintro e w4 ⟨rfl, hB4⟩
        have D4 := dstep w hB4 (by repeat (first | with_reducible exact D3 | with_reducible apply bdrew | with_reducible apply bdrewN | with_reducible apply balloc | ((with_reducible refine bset ?_ ?_ _); rotate_left; (first | omega | (simp <;> omega)))))
        have d4s := D4.size
        have C4 := Cls.below (l := [(w.heap.size, 0, .int .i64 t.facts), (w.heap.size, 1, .slice Ai t.init.length ci), (w.heap.size, 2, .slice Ag t.goal.length cg), (w.heap.size, 3, .slice (some ad) t.ops.length co), (w.heap.size + 1, 0, .int .i64 0), (w.heap.size + 1, 1, .int .i64 0), (wr.heap.size, 0, .slice A0 o.pre.length c0), (wr.heap.size, 1, .slice A1 o.add.length c1), (wr.heap.size, 2, .slice A2 o.del.length c2), (wr.heap.size, 3, .int .i64 o.cost)]) hB4 (by simp [Cls, go_sem, F3, y3w1, y3w0, y3wp1, y3wp2, y3wr0, y3wrp1, y3wrp2])
        have F4 := C4
        simp only [Cls, and_true] at F4
        have y4w1 : w.heap.size + 1 < w4.heap.size := C4.blk (b := w.heap.size + 1) (k := 0) (v := .int .i64 0) (by simp)
        have y4w0 : w.heap.size < w4.heap.size := (by omega)
        have y4wp1 : w.heap.size < w4.heap.size + 1 := (by omega)
        have y4wp2 : w.heap.size < w4.heap.size + 1 + 1 := (by omega)
        have y4wr0 : wr.heap.size < w4.heap.size := C4.blk (b := wr.heap.size) (k := 0) (v := .slice A0 o.pre.length c0) (by simp)
        have y4wrp1 : wr.heap.size < w4.heap.size + 1 := (by omega)
        have y4wrp2 : wr.heap.size < w4.heap.size + 1 + 1 := (by omega)
        have E4 := dstep wr hB4 (by repeat (first | with_reducible exact E3 | with_reducible apply bdrew | with_reducible apply bdrewN | with_reducible apply balloc | ((with_reducible refine bset ?_ ?_ _); rotate_left; (first | omega | (simp <;> omega)))))
        go_wp2
        refine bodyPost_ret (v := .agg #[.int .i64 5, .int .i64 (k : Int)]) ?_ rfl ⟨by rw [HE.out]; simp, by repeat (first | with_reducible exact D4 | with_reducible apply bdrew | with_reducible apply bdrewN | with_reducible apply balloc | ((with_reducible refine bset ?_ ?_ _); rotate_left; (first | omega | (simp <;> omega))))⟩
        simp [results, Try.results21, go_sem, F4, y4w1, y4w0, y4wp1, y4wp2, y4wr0, y4wrp1, y4wrp2]
    · have e := opsFault_good t.ops 0 (forall_take_all hlt hno.out)
      have HE := Lib.hid e
      clear e
      go_wp2
      refine bodyPost_ret (v := .agg #[.int .i64 0, .int .i64 0]) ?_ rfl ⟨by rw [HE.out], by repeat (first | with_reducible exact hBr | with_reducible apply bdrew | with_reducible apply bdrewN | with_reducible apply balloc | ((with_reducible refine bset ?_ ?_ _); rotate_left; (first | omega | (simp <;> omega))))⟩
      simp [results, Try.results21, go_sem, Fr, yrw1, yrw0, yrwp1, yrwp2]


theorem taskfault_any (w : World) (t : TaskV) (Ai Ag Ao : Option Addr) (ci cg co : Nat) (hT : TaskMem w Ai Ag Ao t) :
    Calls Try.prog 21 #[.agg #[.int .i64 t.facts, .slice Ai t.init.length ci, .slice Ag t.goal.length cg, .slice Ao t.ops.length co]] w fun e w' => e = .returned (.agg #[.int .i64 (tfault t).1, .int .i64 (tfault t).2]) ∧ Below w.heap.size w w' := by
  by_cases h : t.facts < 0 ∨ 24 < t.facts
  · rw [tfault_1 h]; exact taskfault_1 w t Ai Ag Ao ci cg co hT h
  · by_cases h1 : SetP t.init t.facts
    · by_cases h2 : SetP t.goal t.facts
      · by_cases h3 : 40 < t.ops.length
        · rw [tfault_4 h h1 h2 h3]; exact taskfault_4 w t Ai Ag Ao ci cg co hT (by omega) (by omega) h1 h2 h3
        · rw [tfault_5 h h1 h2 h3]; exact taskfault_5 w t Ai Ag Ao ci cg co hT (by omega) (by omega) h1 h2 (by omega)
      · rw [tfault_3 h h1 h2]; exact taskfault_3 w t Ai Ag Ao ci cg co hT (by omega) (by omega) h1 h2
    · rw [tfault_2 h h1]; exact taskfault_2 w t Ai Ag Ao ci cg co hT (by omega) (by omega) h1

end Go.Proofs.Ytihkgdlanfemcaa

namespace Go.Proofs.Ytihkgdlanfemcaa
open Go.RowKit
set_option linter.unusedVariables false
set_option linter.unusedSimpArgs false

theorem bb_no {v : Int} (h : ¬ v = 0) : (v == 0) = false := by simpa using h
theorem bn_yes {v : Int} (h : ¬ v = 0) : (v != 0) = true := by simpa using h
/-- The fault of a task with a state. -/
noncomputable def sfault (t : TaskV) (s : List Int) : Int × Int := if (tfault t).1 = 0 then @ite _ (SetP s t.facts) (Classical.propDecidable _) (0, 0) (5, -4) else tfault t
theorem sfault_task {t : TaskV} {s : List Int} (h : ¬ (tfault t).1 = 0) : sfault t s = tfault t := by unfold sfault; rw [if_neg h]
theorem sfault_no {t : TaskV} {s : List Int} (h : (tfault t).1 = 0) (h2 : ¬ SetP s t.facts) : sfault t s = (5, -4) := by unfold sfault; rw [if_pos h, if_neg h2]
theorem sfault_yes {t : TaskV} {s : List Int} (h : (tfault t).1 = 0) (h2 : SetP s t.facts) : sfault t s = (0, 0) := by unfold sfault; rw [if_pos h, if_pos h2]
theorem sfault_zero {t : TaskV} {s : List Int} : (sfault t s).1 = 0 ↔ Valid t ∧ SetP s t.facts := by
  by_cases h : (tfault t).1 = 0
  · by_cases h2 : SetP s t.facts
    · rw [sfault_yes h h2]; exact ⟨fun _ => ⟨tfault_zero.1 h, h2⟩, fun _ => rfl⟩
    · rw [sfault_no h h2]; exact ⟨fun h => by simp at h, fun k => absurd k.2 h2⟩
  · rw [sfault_task h]; exact ⟨fun k => absurd k h, fun k => absurd (tfault_zero.2 k.1) h⟩

set_option maxRecDepth 100000 in
set_option maxHeartbeats 400000 in
theorem statefault_1 (w : World) (t : TaskV) (Ai Ag Ao : Option Addr) (ci cg co : Nat) (hT : TaskMem w Ai Ag Ao t) (S : Option Addr) (cs : Nat) (s : List Int) (hS : Ints w S s) (hls : lenOk s.length) (h : ¬ (tfault t).1 = 0) :
    Calls Try.prog 58 #[.agg #[.int .i64 t.facts, .slice Ai t.init.length ci, .slice Ag t.goal.length cg, .slice Ao t.ops.length co], .slice S s.length cs] w fun e w' => e = .returned (.agg #[.int .i64 (tfault t).1, .int .i64 (tfault t).2]) ∧ Below w.heap.size w w' := by
  have N := bb_no h
  have N' := bn_yes h
  go_enter Try.func58, Try.ntmps58
  go_wp2_with fail
  refine (validate_any _ _ _ _ _ _ _ _ (hT.below (by repeat (first | with_reducible exact Below.refl _ _ | with_reducible apply bdrew | with_reducible apply bdrewN | with_reducible apply balloc | ((with_reducible refine bset ?_ ?_ _); rotate_left; (first | omega | (simp <;> omega))))))).mono ?_
  rintro e w1 ⟨rfl, hB1⟩
  have D1 := dstep w hB1 (by repeat (first | with_reducible exact Below.refl _ _ | with_reducible apply bdrew | with_reducible apply bdrewN | with_reducible apply balloc | ((with_reducible refine bset ?_ ?_ _); rotate_left; (first | omega | (simp <;> omega)))))
  have d1s := D1.size
  have C1 := Cls.below (l := [(w.heap.size, 0, .int .i64 t.facts), (w.heap.size, 1, .slice Ai t.init.length ci), (w.heap.size, 2, .slice Ag t.goal.length cg), (w.heap.size, 3, .slice Ao t.ops.length co), (w.heap.size + 1, 0, .int .i64 0), (w.heap.size + 1, 1, .int .i64 0)]) hB1 (by simp [Cls, go_sem])
  have F1 := C1
  simp only [Cls, and_true] at F1
  have y1w1 : w.heap.size + 1 < w1.heap.size := C1.blk (b := w.heap.size + 1) (k := 0) (v := .int .i64 0) (by simp)
  have y1w0 : w.heap.size < w1.heap.size := (by omega)
  have y1wp1 : w.heap.size < w1.heap.size + 1 := (by omega)
  have y1wp2 : w.heap.size < w1.heap.size + 1 + 1 := (by omega)
  go_wp2
  refine bodyPost_ret (v := .agg #[.int .i64 (tfault t).1, .int .i64 (tfault t).2]) ?_ rfl ⟨rfl, by repeat (first | with_reducible exact D1 | with_reducible apply bdrew | with_reducible apply bdrewN | with_reducible apply balloc | ((with_reducible refine bset ?_ ?_ _); rotate_left; (first | omega | (simp <;> omega))))⟩
  simp [results, Try.results58, go_sem, F1, y1w1, y1w0, y1wp1, y1wp2]

set_option maxRecDepth 100000 in
set_option maxHeartbeats 400000 in
theorem statefault_2 (w : World) (t : TaskV) (Ai Ag Ao : Option Addr) (ci cg co : Nat) (hT : TaskMem w Ai Ag Ao t) (S : Option Addr) (cs : Nat) (s : List Int) (hS : Ints w S s) (hls : lenOk s.length) (hv : Valid t) (h2 : ¬ SetP s t.facts) :
    Calls Try.prog 58 #[.agg #[.int .i64 t.facts, .slice Ai t.init.length ci, .slice Ag t.goal.length cg, .slice Ao t.ops.length co], .slice S s.length cs] w fun e w' => e = .returned (.agg #[.int .i64 5, .int .i64 (-4)]) ∧ Below w.heap.size w w' := by
  have HV := Lib.hid (tfault_valid hv)
  have h0 := hv.f0
  have h1 := hv.f1
  have H2 := Lib.hid h2
  clear h2
  go_enter Try.func58, Try.ntmps58
  go_wp2_with fail
  refine (validate_any _ _ _ _ _ _ _ _ (hT.below (by repeat (first | with_reducible exact Below.refl _ _ | with_reducible apply bdrew | with_reducible apply bdrewN | with_reducible apply balloc | ((with_reducible refine bset ?_ ?_ _); rotate_left; (first | omega | (simp <;> omega))))))).mono ?_
  rintro e w1 ⟨he, hB1⟩
  rw [HV.out] at he
  subst he
  have D1 := dstep w hB1 (by repeat (first | with_reducible exact Below.refl _ _ | with_reducible apply bdrew | with_reducible apply bdrewN | with_reducible apply balloc | ((with_reducible refine bset ?_ ?_ _); rotate_left; (first | omega | (simp <;> omega)))))
  have d1s := D1.size
  have C1 := Cls.below (l := [(w.heap.size, 0, .int .i64 t.facts), (w.heap.size, 1, .slice Ai t.init.length ci), (w.heap.size, 2, .slice Ag t.goal.length cg), (w.heap.size, 3, .slice Ao t.ops.length co), (w.heap.size + 1, 0, .int .i64 0), (w.heap.size + 1, 1, .int .i64 0)]) hB1 (by simp [Cls, go_sem])
  have F1 := C1
  simp only [Cls, and_true] at F1
  have y1w1 : w.heap.size + 1 < w1.heap.size := C1.blk (b := w.heap.size + 1) (k := 0) (v := .int .i64 0) (by simp)
  have y1w0 : w.heap.size < w1.heap.size := (by omega)
  have y1wp1 : w.heap.size < w1.heap.size + 1 := (by omega)
  have y1wp2 : w.heap.size < w1.heap.size + 1 + 1 := (by omega)
  go_wp2_with fail
  refine (isset_no _ _ _ _ _ (hS.below (by repeat (first | with_reducible exact D1 | with_reducible apply bdrew | with_reducible apply bdrewN | with_reducible apply balloc | ((with_reducible refine bset ?_ ?_ _); rotate_left; (first | omega | (simp <;> omega)))))) hls.le H2.out).mono ?_
  rintro e w' ⟨rfl, rfl⟩
  go_wp2
  refine bodyPost_ret (v := .agg #[.int .i64 5, .int .i64 (-4)]) ?_ rfl ⟨rfl, by repeat (first | with_reducible exact D1 | with_reducible apply bdrew | with_reducible apply bdrewN | with_reducible apply balloc | ((with_reducible refine bset ?_ ?_ _); rotate_left; (first | omega | (simp <;> omega))))⟩
  simp [results, Try.results58, go_sem, F1, y1w1, y1w0, y1wp1, y1wp2]

set_option maxRecDepth 100000 in
set_option maxHeartbeats 400000 in
theorem statefault_3 (w : World) (t : TaskV) (Ai Ag Ao : Option Addr) (ci cg co : Nat) (hT : TaskMem w Ai Ag Ao t) (S : Option Addr) (cs : Nat) (s : List Int) (hS : Ints w S s) (hls : lenOk s.length) (hv : Valid t) (h2 : SetP s t.facts) :
    Calls Try.prog 58 #[.agg #[.int .i64 t.facts, .slice Ai t.init.length ci, .slice Ag t.goal.length cg, .slice Ao t.ops.length co], .slice S s.length cs] w fun e w' => e = .returned (.agg #[.int .i64 0, .int .i64 0]) ∧ Below w.heap.size w w' := by
  have HV := Lib.hid (tfault_valid hv)
  have h0 := hv.f0
  have h1 := hv.f1
  have H2 := Lib.hid h2
  clear h2
  go_enter Try.func58, Try.ntmps58
  go_wp2_with fail
  refine (validate_any _ _ _ _ _ _ _ _ (hT.below (by repeat (first | with_reducible exact Below.refl _ _ | with_reducible apply bdrew | with_reducible apply bdrewN | with_reducible apply balloc | ((with_reducible refine bset ?_ ?_ _); rotate_left; (first | omega | (simp <;> omega))))))).mono ?_
  rintro e w1 ⟨he, hB1⟩
  rw [HV.out] at he
  subst he
  have D1 := dstep w hB1 (by repeat (first | with_reducible exact Below.refl _ _ | with_reducible apply bdrew | with_reducible apply bdrewN | with_reducible apply balloc | ((with_reducible refine bset ?_ ?_ _); rotate_left; (first | omega | (simp <;> omega)))))
  have d1s := D1.size
  have C1 := Cls.below (l := [(w.heap.size, 0, .int .i64 t.facts), (w.heap.size, 1, .slice Ai t.init.length ci), (w.heap.size, 2, .slice Ag t.goal.length cg), (w.heap.size, 3, .slice Ao t.ops.length co), (w.heap.size + 1, 0, .int .i64 0), (w.heap.size + 1, 1, .int .i64 0)]) hB1 (by simp [Cls, go_sem])
  have F1 := C1
  simp only [Cls, and_true] at F1
  have y1w1 : w.heap.size + 1 < w1.heap.size := C1.blk (b := w.heap.size + 1) (k := 0) (v := .int .i64 0) (by simp)
  have y1w0 : w.heap.size < w1.heap.size := (by omega)
  have y1wp1 : w.heap.size < w1.heap.size + 1 := (by omega)
  have y1wp2 : w.heap.size < w1.heap.size + 1 + 1 := (by omega)
  go_wp2_with fail
  refine (isset_yes _ _ _ _ _ (hS.below (by repeat (first | with_reducible exact D1 | with_reducible apply bdrew | with_reducible apply bdrewN | with_reducible apply balloc | ((with_reducible refine bset ?_ ?_ _); rotate_left; (first | omega | (simp <;> omega)))))) hls.le H2.out).mono ?_
  rintro e w' ⟨rfl, rfl⟩
  go_wp2
  refine bodyPost_ret (v := .agg #[.int .i64 0, .int .i64 0]) ?_ rfl ⟨rfl, by repeat (first | with_reducible exact D1 | with_reducible apply bdrew | with_reducible apply bdrewN | with_reducible apply balloc | ((with_reducible refine bset ?_ ?_ _); rotate_left; (first | omega | (simp <;> omega))))⟩
  simp [results, Try.results58, go_sem, F1, y1w1, y1w0, y1wp1, y1wp2]

theorem statefault_any (w : World) (t : TaskV) (Ai Ag Ao : Option Addr) (ci cg co : Nat) (hT : TaskMem w Ai Ag Ao t) (S : Option Addr) (cs : Nat) (s : List Int) (hS : Ints w S s) (hls : lenOk s.length) :
    Calls Try.prog 58 #[.agg #[.int .i64 t.facts, .slice Ai t.init.length ci, .slice Ag t.goal.length cg, .slice Ao t.ops.length co], .slice S s.length cs] w fun e w' => e = .returned (.agg #[.int .i64 (sfault t s).1, .int .i64 (sfault t s).2]) ∧ Below w.heap.size w w' := by
  by_cases h : (tfault t).1 = 0
  · by_cases h2 : SetP s t.facts
    · rw [sfault_yes h h2]; exact statefault_3 w t Ai Ag Ao ci cg co hT S cs s hS hls (tfault_zero.1 h) h2
    · rw [sfault_no h h2]; exact statefault_2 w t Ai Ag Ao ci cg co hT S cs s hS hls (tfault_zero.1 h) h2
  · rw [sfault_task h]; exact statefault_1 w t Ai Ag Ao ci cg co hT S cs s hS hls h

set_option maxRecDepth 100000 in
set_option maxHeartbeats 400000 in
theorem stateok_any (w : World) (t : TaskV) (Ai Ag Ao : Option Addr) (ci cg co : Nat) (hT : TaskMem w Ai Ag Ao t) (S : Option Addr) (cs : Nat) (s : List Int) (hS : Ints w S s) (hls : lenOk s.length) (h0 : 0 ≤ t.facts) (h1 : t.facts ≤ 24) :
    Calls Try.prog 66 #[.agg #[.int .i64 t.facts, .slice Ai t.init.length ci, .slice Ag t.goal.length cg, .slice Ao t.ops.length co], .slice S s.length cs] w fun e w' => e = .returned (.bool (setB s t.facts)) ∧ Below w.heap.size w w' := by
  go_enter Try.func66, Try.ntmps66
  go_wp2_with fail
  refine (risset_any _ _ _ _ _ (hS.below (by repeat (first | with_reducible exact Below.refl _ _ | with_reducible apply bdrew | with_reducible apply bdrewN | with_reducible apply balloc | ((with_reducible refine bset ?_ ?_ _); rotate_left; (first | omega | (simp <;> omega)))))) hls.le (by omega) (by omega)).mono ?_
  rintro e w1 ⟨rfl, hB1⟩
  have D1 := dstep w hB1 (by repeat (first | with_reducible exact Below.refl _ _ | with_reducible apply bdrew | with_reducible apply bdrewN | with_reducible apply balloc | ((with_reducible refine bset ?_ ?_ _); rotate_left; (first | omega | (simp <;> omega)))))
  have d1s := D1.size
  have C1 := Cls.below (l := [(w.heap.size, 0, .int .i64 t.facts), (w.heap.size, 1, .slice Ai t.init.length ci), (w.heap.size, 2, .slice Ag t.goal.length cg), (w.heap.size, 3, .slice Ao t.ops.length co)]) hB1 (by simp [Cls, go_sem])
  have F1 := C1
  simp only [Cls, and_true] at F1
  have y1w0 : w.heap.size < w1.heap.size := C1.blk (b := w.heap.size) (k := 0) (v := .int .i64 t.facts) (by simp)
  have y1wp1 : w.heap.size < w1.heap.size + 1 := (by omega)
  have y1wp2 : w.heap.size < w1.heap.size + 1 + 1 := (by omega)
  go_wp2
  go_ret
  exact ⟨rfl, by repeat (first | with_reducible exact D1 | with_reducible apply bdrew | with_reducible apply bdrewN | with_reducible apply balloc | ((with_reducible refine bset ?_ ?_ _); rotate_left; (first | omega | (simp <;> omega))))⟩
set_option maxRecDepth 100000 in
set_option maxHeartbeats 400000 in
theorem rstatefault_1 (w : World) (t : TaskV) (Ai Ag Ao : Option Addr) (ci cg co : Nat) (hT : TaskMem w Ai Ag Ao t) (S : Option Addr) (cs : Nat) (s : List Int) (hS : Ints w S s) (hls : lenOk s.length) (h : ¬ (tfault t).1 = 0) :
    Calls Try.prog 24 #[.agg #[.int .i64 t.facts, .slice Ai t.init.length ci, .slice Ag t.goal.length cg, .slice Ao t.ops.length co], .slice S s.length cs] w fun e w' => e = .returned (.agg #[.int .i64 (tfault t).1, .int .i64 (tfault t).2]) ∧ Below w.heap.size w w' := by
  have N := bb_no h
  have N' := bn_yes h
  go_enter Try.func24, Try.ntmps24
  go_wp2_with fail
  refine (taskfault_any _ _ _ _ _ _ _ _ (hT.below (by repeat (first | with_reducible exact Below.refl _ _ | with_reducible apply bdrew | with_reducible apply bdrewN | with_reducible apply balloc | ((with_reducible refine bset ?_ ?_ _); rotate_left; (first | omega | (simp <;> omega))))))).mono ?_
  rintro e w1 ⟨rfl, hB1⟩
  have D1 := dstep w hB1 (by repeat (first | with_reducible exact Below.refl _ _ | with_reducible apply bdrew | with_reducible apply bdrewN | with_reducible apply balloc | ((with_reducible refine bset ?_ ?_ _); rotate_left; (first | omega | (simp <;> omega)))))
  have d1s := D1.size
  have C1 := Cls.below (l := [(w.heap.size, 0, .int .i64 t.facts), (w.heap.size, 1, .slice Ai t.init.length ci), (w.heap.size, 2, .slice Ag t.goal.length cg), (w.heap.size, 3, .slice Ao t.ops.length co), (w.heap.size + 1, 0, .int .i64 0), (w.heap.size + 1, 1, .int .i64 0)]) hB1 (by simp [Cls, go_sem])
  have F1 := C1
  simp only [Cls, and_true] at F1
  have y1w1 : w.heap.size + 1 < w1.heap.size := C1.blk (b := w.heap.size + 1) (k := 0) (v := .int .i64 0) (by simp)
  have y1w0 : w.heap.size < w1.heap.size := (by omega)
  have y1wp1 : w.heap.size < w1.heap.size + 1 := (by omega)
  have y1wp2 : w.heap.size < w1.heap.size + 1 + 1 := (by omega)
  go_wp2
  refine bodyPost_ret (v := .agg #[.int .i64 (tfault t).1, .int .i64 (tfault t).2]) ?_ rfl ⟨rfl, by repeat (first | with_reducible exact D1 | with_reducible apply bdrew | with_reducible apply bdrewN | with_reducible apply balloc | ((with_reducible refine bset ?_ ?_ _); rotate_left; (first | omega | (simp <;> omega))))⟩
  simp [results, Try.results24, go_sem, F1, y1w1, y1w0, y1wp1, y1wp2]

set_option maxRecDepth 100000 in
set_option maxHeartbeats 400000 in
theorem rstatefault_2 (w : World) (t : TaskV) (Ai Ag Ao : Option Addr) (ci cg co : Nat) (hT : TaskMem w Ai Ag Ao t) (S : Option Addr) (cs : Nat) (s : List Int) (hS : Ints w S s) (hls : lenOk s.length) (hv : Valid t) (h2 : ¬ SetP s t.facts) :
    Calls Try.prog 24 #[.agg #[.int .i64 t.facts, .slice Ai t.init.length ci, .slice Ag t.goal.length cg, .slice Ao t.ops.length co], .slice S s.length cs] w fun e w' => e = .returned (.agg #[.int .i64 5, .int .i64 (-4)]) ∧ Below w.heap.size w w' := by
  have HV := Lib.hid (tfault_valid hv)
  have h0 := hv.f0
  have h1 := hv.f1
  have H2 := Lib.hid h2
  clear h2
  go_enter Try.func24, Try.ntmps24
  go_wp2_with fail
  refine (taskfault_any _ _ _ _ _ _ _ _ (hT.below (by repeat (first | with_reducible exact Below.refl _ _ | with_reducible apply bdrew | with_reducible apply bdrewN | with_reducible apply balloc | ((with_reducible refine bset ?_ ?_ _); rotate_left; (first | omega | (simp <;> omega))))))).mono ?_
  rintro e w1 ⟨he, hB1⟩
  rw [HV.out] at he
  subst he
  have D1 := dstep w hB1 (by repeat (first | with_reducible exact Below.refl _ _ | with_reducible apply bdrew | with_reducible apply bdrewN | with_reducible apply balloc | ((with_reducible refine bset ?_ ?_ _); rotate_left; (first | omega | (simp <;> omega)))))
  have d1s := D1.size
  have C1 := Cls.below (l := [(w.heap.size, 0, .int .i64 t.facts), (w.heap.size, 1, .slice Ai t.init.length ci), (w.heap.size, 2, .slice Ag t.goal.length cg), (w.heap.size, 3, .slice Ao t.ops.length co), (w.heap.size + 1, 0, .int .i64 0), (w.heap.size + 1, 1, .int .i64 0)]) hB1 (by simp [Cls, go_sem])
  have F1 := C1
  simp only [Cls, and_true] at F1
  have y1w1 : w.heap.size + 1 < w1.heap.size := C1.blk (b := w.heap.size + 1) (k := 0) (v := .int .i64 0) (by simp)
  have y1w0 : w.heap.size < w1.heap.size := (by omega)
  have y1wp1 : w.heap.size < w1.heap.size + 1 := (by omega)
  have y1wp2 : w.heap.size < w1.heap.size + 1 + 1 := (by omega)
  go_wp2_with fail
  refine (stateok_any _ _ _ _ _ _ _ _ (hT.below (by repeat (first | with_reducible exact D1 | with_reducible apply bdrew | with_reducible apply bdrewN | with_reducible apply balloc | ((with_reducible refine bset ?_ ?_ _); rotate_left; (first | omega | (simp <;> omega)))))) _ _ _ (hS.below (by repeat (first | with_reducible exact D1 | with_reducible apply bdrew | with_reducible apply bdrewN | with_reducible apply balloc | ((with_reducible refine bset ?_ ?_ _); rotate_left; (first | omega | (simp <;> omega)))))) hls h0 h1).mono ?_
  rintro e w2 ⟨he, hB2⟩
  rw [setB_false.2 H2.out] at he
  subst he
  have D2 := dstep w hB2 (by repeat (first | with_reducible exact D1 | with_reducible apply bdrew | with_reducible apply bdrewN | with_reducible apply balloc | ((with_reducible refine bset ?_ ?_ _); rotate_left; (first | omega | (simp <;> omega)))))
  have d2s := D2.size
  have C2 := Cls.below (l := [(w.heap.size, 0, .int .i64 t.facts), (w.heap.size, 1, .slice Ai t.init.length ci), (w.heap.size, 2, .slice Ag t.goal.length cg), (w.heap.size, 3, .slice Ao t.ops.length co), (w.heap.size + 1, 0, .int .i64 0), (w.heap.size + 1, 1, .int .i64 0), (w1.heap.size, 0, .int .i64 0), (w1.heap.size, 1, .int .i64 0)]) hB2 (by simp [Cls, go_sem, F1, y1w1, y1w0, y1wp1, y1wp2])
  have F2 := C2
  simp only [Cls, and_true] at F2
  have y2w1 : w.heap.size + 1 < w2.heap.size := C2.blk (b := w.heap.size + 1) (k := 0) (v := .int .i64 0) (by simp)
  have y2w0 : w.heap.size < w2.heap.size := (by omega)
  have y2wp1 : w.heap.size < w2.heap.size + 1 := (by omega)
  have y2wp2 : w.heap.size < w2.heap.size + 1 + 1 := (by omega)
  have y2w10 : w1.heap.size < w2.heap.size := C2.blk (b := w1.heap.size) (k := 0) (v := .int .i64 0) (by simp)
  have y2w1p1 : w1.heap.size < w2.heap.size + 1 := (by omega)
  have y2w1p2 : w1.heap.size < w2.heap.size + 1 + 1 := (by omega)
  go_wp2_with fail
  refine (at_any _ _ _).mono ?_
  rintro e w3 ⟨rfl, hB3⟩
  have D3 := dstep w hB3 (by repeat (first | with_reducible exact D2 | with_reducible apply bdrew | with_reducible apply bdrewN | with_reducible apply balloc | ((with_reducible refine bset ?_ ?_ _); rotate_left; (first | omega | (simp <;> omega)))))
  have d3s := D3.size
  have C3 := Cls.below (l := [(w.heap.size, 0, .int .i64 t.facts), (w.heap.size, 1, .slice Ai t.init.length ci), (w.heap.size, 2, .slice Ag t.goal.length cg), (w.heap.size, 3, .slice Ao t.ops.length co), (w.heap.size + 1, 0, .int .i64 0), (w.heap.size + 1, 1, .int .i64 0), (w1.heap.size, 0, .int .i64 0), (w1.heap.size, 1, .int .i64 0)]) hB3 (by simp [Cls, go_sem, F2, y2w1, y2w0, y2wp1, y2wp2, y2w10, y2w1p1, y2w1p2])
  have F3 := C3
  simp only [Cls, and_true] at F3
  have y3w1 : w.heap.size + 1 < w3.heap.size := C3.blk (b := w.heap.size + 1) (k := 0) (v := .int .i64 0) (by simp)
  have y3w0 : w.heap.size < w3.heap.size := (by omega)
  have y3wp1 : w.heap.size < w3.heap.size + 1 := (by omega)
  have y3wp2 : w.heap.size < w3.heap.size + 1 + 1 := (by omega)
  have y3w10 : w1.heap.size < w3.heap.size := C3.blk (b := w1.heap.size) (k := 0) (v := .int .i64 0) (by simp)
  have y3w1p1 : w1.heap.size < w3.heap.size + 1 := (by omega)
  have y3w1p2 : w1.heap.size < w3.heap.size + 1 + 1 := (by omega)
  go_wp2
  refine bodyPost_ret (v := .agg #[.int .i64 5, .int .i64 (-4)]) ?_ rfl ⟨rfl, by repeat (first | with_reducible exact D3 | with_reducible apply bdrew | with_reducible apply bdrewN | with_reducible apply balloc | ((with_reducible refine bset ?_ ?_ _); rotate_left; (first | omega | (simp <;> omega))))⟩
  simp [results, Try.results24, go_sem, F3, y3w1, y3w0, y3wp1, y3wp2, y3w10, y3w1p1, y3w1p2]

set_option maxRecDepth 100000 in
set_option maxHeartbeats 400000 in
theorem rstatefault_3 (w : World) (t : TaskV) (Ai Ag Ao : Option Addr) (ci cg co : Nat) (hT : TaskMem w Ai Ag Ao t) (S : Option Addr) (cs : Nat) (s : List Int) (hS : Ints w S s) (hls : lenOk s.length) (hv : Valid t) (h2 : SetP s t.facts) :
    Calls Try.prog 24 #[.agg #[.int .i64 t.facts, .slice Ai t.init.length ci, .slice Ag t.goal.length cg, .slice Ao t.ops.length co], .slice S s.length cs] w fun e w' => e = .returned (.agg #[.int .i64 0, .int .i64 0]) ∧ Below w.heap.size w w' := by
  have HV := Lib.hid (tfault_valid hv)
  have h0 := hv.f0
  have h1 := hv.f1
  have H2 := Lib.hid h2
  clear h2
  go_enter Try.func24, Try.ntmps24
  go_wp2_with fail
  refine (taskfault_any _ _ _ _ _ _ _ _ (hT.below (by repeat (first | with_reducible exact Below.refl _ _ | with_reducible apply bdrew | with_reducible apply bdrewN | with_reducible apply balloc | ((with_reducible refine bset ?_ ?_ _); rotate_left; (first | omega | (simp <;> omega))))))).mono ?_
  rintro e w1 ⟨he, hB1⟩
  rw [HV.out] at he
  subst he
  have D1 := dstep w hB1 (by repeat (first | with_reducible exact Below.refl _ _ | with_reducible apply bdrew | with_reducible apply bdrewN | with_reducible apply balloc | ((with_reducible refine bset ?_ ?_ _); rotate_left; (first | omega | (simp <;> omega)))))
  have d1s := D1.size
  have C1 := Cls.below (l := [(w.heap.size, 0, .int .i64 t.facts), (w.heap.size, 1, .slice Ai t.init.length ci), (w.heap.size, 2, .slice Ag t.goal.length cg), (w.heap.size, 3, .slice Ao t.ops.length co), (w.heap.size + 1, 0, .int .i64 0), (w.heap.size + 1, 1, .int .i64 0)]) hB1 (by simp [Cls, go_sem])
  have F1 := C1
  simp only [Cls, and_true] at F1
  have y1w1 : w.heap.size + 1 < w1.heap.size := C1.blk (b := w.heap.size + 1) (k := 0) (v := .int .i64 0) (by simp)
  have y1w0 : w.heap.size < w1.heap.size := (by omega)
  have y1wp1 : w.heap.size < w1.heap.size + 1 := (by omega)
  have y1wp2 : w.heap.size < w1.heap.size + 1 + 1 := (by omega)
  go_wp2_with fail
  refine (stateok_any _ _ _ _ _ _ _ _ (hT.below (by repeat (first | with_reducible exact D1 | with_reducible apply bdrew | with_reducible apply bdrewN | with_reducible apply balloc | ((with_reducible refine bset ?_ ?_ _); rotate_left; (first | omega | (simp <;> omega)))))) _ _ _ (hS.below (by repeat (first | with_reducible exact D1 | with_reducible apply bdrew | with_reducible apply bdrewN | with_reducible apply balloc | ((with_reducible refine bset ?_ ?_ _); rotate_left; (first | omega | (simp <;> omega)))))) hls h0 h1).mono ?_
  rintro e w2 ⟨he, hB2⟩
  rw [setB_true.2 H2.out] at he
  subst he
  have D2 := dstep w hB2 (by repeat (first | with_reducible exact D1 | with_reducible apply bdrew | with_reducible apply bdrewN | with_reducible apply balloc | ((with_reducible refine bset ?_ ?_ _); rotate_left; (first | omega | (simp <;> omega)))))
  have d2s := D2.size
  have C2 := Cls.below (l := [(w.heap.size, 0, .int .i64 t.facts), (w.heap.size, 1, .slice Ai t.init.length ci), (w.heap.size, 2, .slice Ag t.goal.length cg), (w.heap.size, 3, .slice Ao t.ops.length co), (w.heap.size + 1, 0, .int .i64 0), (w.heap.size + 1, 1, .int .i64 0), (w1.heap.size, 0, .int .i64 0), (w1.heap.size, 1, .int .i64 0)]) hB2 (by simp [Cls, go_sem, F1, y1w1, y1w0, y1wp1, y1wp2])
  have F2 := C2
  simp only [Cls, and_true] at F2
  have y2w1 : w.heap.size + 1 < w2.heap.size := C2.blk (b := w.heap.size + 1) (k := 0) (v := .int .i64 0) (by simp)
  have y2w0 : w.heap.size < w2.heap.size := (by omega)
  have y2wp1 : w.heap.size < w2.heap.size + 1 := (by omega)
  have y2wp2 : w.heap.size < w2.heap.size + 1 + 1 := (by omega)
  have y2w10 : w1.heap.size < w2.heap.size := C2.blk (b := w1.heap.size) (k := 0) (v := .int .i64 0) (by simp)
  have y2w1p1 : w1.heap.size < w2.heap.size + 1 := (by omega)
  have y2w1p2 : w1.heap.size < w2.heap.size + 1 + 1 := (by omega)
  go_wp2
  refine bodyPost_ret (v := .agg #[.int .i64 0, .int .i64 0]) ?_ rfl ⟨rfl, by repeat (first | with_reducible exact D2 | with_reducible apply bdrew | with_reducible apply bdrewN | with_reducible apply balloc | ((with_reducible refine bset ?_ ?_ _); rotate_left; (first | omega | (simp <;> omega))))⟩
  simp [results, Try.results24, go_sem, F2, y2w1, y2w0, y2wp1, y2wp2, y2w10, y2w1p1, y2w1p2]

theorem rstatefault_any (w : World) (t : TaskV) (Ai Ag Ao : Option Addr) (ci cg co : Nat) (hT : TaskMem w Ai Ag Ao t) (S : Option Addr) (cs : Nat) (s : List Int) (hS : Ints w S s) (hls : lenOk s.length) :
    Calls Try.prog 24 #[.agg #[.int .i64 t.facts, .slice Ai t.init.length ci, .slice Ag t.goal.length cg, .slice Ao t.ops.length co], .slice S s.length cs] w fun e w' => e = .returned (.agg #[.int .i64 (sfault t s).1, .int .i64 (sfault t s).2]) ∧ Below w.heap.size w w' := by
  by_cases h : (tfault t).1 = 0
  · by_cases h2 : SetP s t.facts
    · rw [sfault_yes h h2]; exact rstatefault_3 w t Ai Ag Ao ci cg co hT S cs s hS hls (tfault_zero.1 h) h2
    · rw [sfault_no h h2]; exact rstatefault_2 w t Ai Ag Ao ci cg co hT S cs s hS hls (tfault_zero.1 h) h2
  · rw [sfault_task h]; exact rstatefault_1 w t Ai Ag Ao ci cg co hT S cs s hS hls h

set_option maxRecDepth 100000 in
set_option maxHeartbeats 1000000 in
theorem costs_any (w : World) (t : TaskV) (Ai Ag Ao : Option Addr) (ci cg co : Nat) (hT : TaskMem w Ai Ag Ao t) (h40 : t.ops.length ≤ 40) :
    Calls Try.prog 109 #[.agg #[.int .i64 t.facts, .slice Ai t.init.length ci, .slice Ag t.goal.length cg, .slice Ao t.ops.length co]] w fun e w' => ∃ v, e = .returned v ∧ OwnI w.heap.size w' v (t.ops.map (·.cost)) ∧ Below w.heap.size w w' := by
  go_enter Try.func109, Try.ntmps109
  go_wp2_with fail
  go_loopw [3, 9] (fun v i wr => ∃ k : Nat, k ≤ t.ops.length ∧ i = .int .i64 k ∧ OwnI (w.heap.size + 1) wr v ((t.ops.take k).map (·.cost)) ∧ Below w.heap.size w wr ∧ Cls wr [(w.heap.size, 0, .int .i64 t.facts), (w.heap.size, 1, .slice Ai t.init.length ci), (w.heap.size, 2, .slice Ag t.goal.length cg), (w.heap.size, 3, .slice Ao t.ops.length co)]) (fun _ i _ => t.ops.length - (intOf i).toNat)
  case atStart => exact ⟨0, Nat.zero_le _, rfl, by simpa using OwnI.nil _ _, (by repeat (first | with_reducible exact Below.refl _ _ | with_reducible apply bdrew | with_reducible apply bdrewN | with_reducible apply balloc | ((with_reducible refine bset ?_ ?_ _); rotate_left; (first | omega | (simp <;> omega))))), (by simp [Cls, go_sem])⟩
  case round =>
    obtain ⟨k, hk, rfl, hown, hBr, hCr⟩ := hrel
    have drs := hBr.size
    have Fr := hCr
    simp only [Cls, and_true] at Fr
    have yrw0 : w.heap.size < wr.heap.size := hCr.blk (b := w.heap.size) (k := 0) (v := .int .i64 t.facts) (by simp)
    have yrwp1 : w.heap.size < wr.heap.size + 1 := (by omega)
    have yrwp2 : w.heap.size < wr.heap.size + 1 + 1 := (by omega)
    by_cases hlt : k < t.ops.length
    · obtain ⟨ad, o, A0, c0, A1, c1, A2, c2, rfl, ho, hc0, hc1, hc2, hc3, hm⟩ := (hT.ops.below hBr).at_ hlt
      have hlen : ((t.ops.take k).map (·.cost)).length < 1000000000000 := by simp; omega
      have hcost : (t.ops.take k).map (·.cost) ++ [o.cost] = (t.ops.take (k + 1)).map (·.cost) := by rw [List.take_add_one, ho.out]; simp
      have HC := Lib.hid hcost
      clear hcost
      go_wp2_with (at_builtin; go_must (refine wpList_push rfl (.tmp 13) (.tmp 16) rfl w [(w.heap.size, 0, .int .i64 t.facts), (w.heap.size, 1, .slice Ai t.init.length ci), (w.heap.size, 2, .slice Ag t.goal.length cg), (w.heap.size, 3, .slice (some ad) t.ops.length co)] (w.heap.size + 1) u3 _ (o.cost) rfl (OwnI.below hown ?p1) ⟨wr.heap.size + 1, 0, none⟩ 1 rfl ?p2 hlen ?p3 ?p4 ?p5 ?p6 ?p7 ?_; (case p1 => repeat (first | with_reducible exact Below.refl _ _ | with_reducible apply bdrew | with_reducible apply bdrewN | with_reducible apply balloc | ((with_reducible refine bset ?_ ?_ _); rotate_left; (first | omega | (simp <;> omega))))); (case p2 => simp [Cls, go_sem, Fr, yrw0, yrwp1, yrwp2]); (case p3 => (first | omega | (simp <;> omega))); (case p4 => (first | omega | (simp <;> omega))); (case p5 => repeat (first | with_reducible exact hBr | with_reducible apply bdrew | with_reducible apply bdrewN | with_reducible apply balloc | ((with_reducible refine bset ?_ ?_ _); rotate_left; (first | omega | (simp <;> omega))))); (case p6 => simp [Cls, go_sem, Fr, yrw0, yrwp1, yrwp2]); (case p7 => (simp <;> omega)); intro v1 w1 o1 D1 C1 sz1; have d1s := D1.size; have F1 := C1; simp only [Cls, and_true] at F1; have y1w0 : w.heap.size < w1.heap.size := C1.blk (b := w.heap.size) (k := 0) (v := .int .i64 t.facts) (by simp); have y1wp1 : w.heap.size < w1.heap.size + 1 := (by omega); have y1wp2 : w.heap.size < w1.heap.size + 1 + 1 := (by omega)))
      go_roundw
      case rel => exact ⟨k + 1, by omega, by go_num, by rw [← HC.out]; exact o1, (by repeat (first | with_reducible exact D1 | with_reducible apply bdrew | with_reducible apply bdrewN | with_reducible apply balloc | ((with_reducible refine bset ?_ ?_ _); rotate_left; (first | omega | (simp <;> omega))))), (by simp [Cls, go_sem, F1, y1w0, y1wp1, y1wp2])⟩
      case measure => simp [intOf]; omega
    · go_wp2
      go_ret
      rw [List.take_of_length_le (by omega)] at hown
      exact ⟨_, rfl, OwnI.mono hown (by omega), hBr⟩

end Go.Proofs.Ytihkgdlanfemcaa

namespace Go.Proofs.Ytihkgdlanfemcaa
open Go.RowKit
set_option linter.unusedVariables false
set_option linter.unusedSimpArgs false

set_option maxHeartbeats 400000 in
theorem plus_1 (a b : Int) (w : World) (ha : InV a) (hb : InV b) (h : a = 1000000000) : Calls Try.prog 122 #[.int .i64 a, .int .i64 b] w fun e w' => e = .returned (.int .i64 (1000000000)) ∧ w = w' := by
  subst h
  unfold InV at ha hb
  go_enter Try.func122, Try.ntmps122
  go_wp2
  go_ret
  exact ⟨ret_int (by omega), rfl⟩
set_option maxHeartbeats 400000 in
theorem plus_2 (a b : Int) (w : World) (ha : InV a) (hb : InV b) (hn : ¬ a = 1000000000) (h : b = 1000000000) : Calls Try.prog 122 #[.int .i64 a, .int .i64 b] w fun e w' => e = .returned (.int .i64 (1000000000)) ∧ w = w' := by
  subst h
  unfold InV at ha hb
  have N : (a == 1000000000) = false := by simpa using hn
  go_enter Try.func122, Try.ntmps122
  go_wp2
  go_ret
  exact ⟨ret_int (by omega), rfl⟩
set_option maxHeartbeats 400000 in
theorem plus_3 (a b : Int) (w : World) (ha : InV a) (hb : InV b) (hn : ¬ a = 1000000000) (hm : ¬ b = 1000000000) (h : a + b ≥ 1000000000) : Calls Try.prog 122 #[.int .i64 a, .int .i64 b] w fun e w' => e = .returned (.int .i64 (999999999)) ∧ w = w' := by
  unfold InV at ha hb
  have N : (a == 1000000000) = false := by simpa using hn
  have N' : (b == 1000000000) = false := by simpa using hm
  go_enter Try.func122, Try.ntmps122
  go_wp2
  go_ret
  exact ⟨ret_int (by omega), rfl⟩
set_option maxHeartbeats 400000 in
theorem plus_4 (a b : Int) (w : World) (ha : InV a) (hb : InV b) (hn : ¬ a = 1000000000) (hm : ¬ b = 1000000000) (h : ¬ a + b ≥ 1000000000) : Calls Try.prog 122 #[.int .i64 a, .int .i64 b] w fun e w' => e = .returned (.int .i64 (a + b)) ∧ w = w' := by
  unfold InV at ha hb
  have N : (a == 1000000000) = false := by simpa using hn
  have N' : (b == 1000000000) = false := by simpa using hm
  go_enter Try.func122, Try.ntmps122
  go_wp2
  go_ret
  exact ⟨ret_int (by omega), rfl⟩
theorem plus_any (a b : Int) (w : World) (ha : InV a) (hb : InV b) : Calls Try.prog 122 #[.int .i64 a, .int .i64 b] w fun e w' => e = .returned (.int .i64 (plusV a b)) ∧ w = w' := by
  by_cases h1 : a = 1000000000
  · rw [plusV_inf (Or.inl h1)]; exact plus_1 a b w ha hb h1
  · by_cases h2 : b = 1000000000
    · rw [plusV_inf (Or.inr h2)]; exact plus_2 a b w ha hb h1 h2
    · by_cases h3 : a + b ≥ 1000000000
      · rw [plusV_big (by omega) h3]; exact plus_3 a b w ha hb h1 h2 h3
      · rw [plusV_sum (by omega) h3]; exact plus_4 a b w ha hb h1 h2 h3

set_option maxRecDepth 100000 in
set_option maxHeartbeats 400000 in
theorem greatest_any (A B : Option Addr) (c d : Nat) (vs xs : List Int) (w : World) (hI : Ints w A vs) (hJ : Ints w B xs) (hl : xs.length ≤ 9223372036854775807) (hb : vs.length ≤ 9223372036854775807) (hx : ∀ x ∈ xs, 0 ≤ x ∧ x < vs.length) (hv : AllV vs) :
    Calls Try.prog 87 #[.slice A vs.length c, .slice B xs.length d] w fun e w' => e = .returned (.int .i64 (combV false vs xs)) ∧ w = w' := by
  have HX := Lib.hid hx
  have HV := Lib.hid hv
  clear hx hv
  go_enter Try.func87, Try.ntmps87
  go_wp2
  go_loop [5, 10] (fun a i => ∃ k : Nat, k ≤ xs.length ∧ i = .int .i64 k ∧ a = .int .i64 (combV false vs (xs.take k))) (fun a i => xs.length - (intOf i).toNat)
  case atStart => exact ⟨0, Nat.zero_le _, rfl, rfl⟩
  case round =>
    obtain ⟨k, hk, rfl, rfl⟩ := hrel
    have hin := combV_in (s := false) HV.out (xs.take k)
    by_cases hlt : k < xs.length
    · obtain ⟨ad, x, rfl, hx, hc⟩ := hJ.at_ hlt
      obtain ⟨x0, x1⟩ := HX.out x (List.mem_of_getElem? hx.out)
      obtain ⟨bd, v1, rfl, hy, hd⟩ := hI.at_ (show x.toNat < vs.length by omega)
      have hs := Lib.hid (combV_take_succ (s := false) hx.out hy.out)
      have hv1 := HV.out v1 (List.mem_of_getElem? hy.out)
      generalize combV false vs (xs.take k) = g at *
      unfold InV at hin hv1
      have hm : stepV false g v1 = if g < v1 then v1 else g := rfl
      have HM := Lib.hid hm
      clear hm
      go_wp2
      go_round
      case rel => exact ⟨k + 1, by omega, by go_num, by rw [hs.out, HM.out]⟩
      case measure => simp [intOf]; omega
    · have hall := combV_take_all (s := false) (vs := vs) hlt
      rw [hall]
      go_wp2
      go_ret
      exact ⟨rfl, rfl⟩
end Go.Proofs.Ytihkgdlanfemcaa
