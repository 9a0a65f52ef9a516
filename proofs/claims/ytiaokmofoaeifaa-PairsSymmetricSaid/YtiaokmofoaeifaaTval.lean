/-
  Validate and TaskFault: the fault of a task.
-/
import Derived.Test.YtiaokmofoaeifaaTask
import Derived.Test.YtiaokmofoaeifaaTmeet
namespace Go.Proofs.Ytiaokmofoaeifaa
open Go.RowKit
set_option linter.unusedVariables false
set_option linter.unusedSimpArgs false

/-- The error code of an operator. -/
noncomputable def opc (o : OpV) (f : Int) : Int := @ite _ (SetP o.pre f ∧ SetP o.add f ∧ SetP o.del f ∧ ∀ x ∈ o.add, ¬ x ∈ o.del) (Classical.propDecidable _) (if o.cost < 0 ∨ 100 < o.cost then 3 else 0) 5
theorem opc_bad {o : OpV} {f : Int} (h : ¬ (SetP o.pre f ∧ SetP o.add f ∧ SetP o.del f ∧ ∀ x ∈ o.add, ¬ x ∈ o.del)) : opc o f = 5 := by unfold opc; exact if_neg h
theorem opc_good {o : OpV} {f : Int} (h : SetP o.pre f ∧ SetP o.add f ∧ SetP o.del f ∧ ∀ x ∈ o.add, ¬ x ∈ o.del) : opc o f = if o.cost < 0 ∨ 100 < o.cost then 3 else 0 := by unfold opc; exact if_pos h
theorem opc_zero {o : OpV} {f : Int} : opc o f = 0 ↔ (SetP o.pre f ∧ SetP o.add f ∧ SetP o.del f ∧ ∀ x ∈ o.add, ¬ x ∈ o.del) ∧ 0 ≤ o.cost ∧ o.cost ≤ 100 := by
  by_cases h : SetP o.pre f ∧ SetP o.add f ∧ SetP o.del f ∧ ∀ x ∈ o.add, ¬ x ∈ o.del
  · rw [opc_good h]
    split
    · constructor
      · intro h; cases h
      · intro h2; omega
    · constructor
      · intro _; exact ⟨h, by omega⟩
      · intro _; rfl
  · rw [opc_bad h]
    constructor
    · intro h; cases h
    · intro h2; exact absurd h2.1 h
/-- The first operator with an error. -/
noncomputable def opsFault (f : Int) : List OpV → Nat → Int × Int
  | [], _ => (0, 0)
  | o :: r, k => if opc o f = 0 then opsFault f r (k + 1) else (opc o f, (k : Int))
theorem opsFault_good {f : Int} : ∀ (l : List OpV) (k : Nat), (∀ o ∈ l, opc o f = 0) → opsFault f l k = (0, 0)
  | [], _, _ => rfl
  | o :: r, k, h => by unfold opsFault; rw [if_pos (h o (by simp))]; exact opsFault_good r (k + 1) (fun o ho => h o (by simp [ho]))
theorem opsFault_at {f : Int} : ∀ (l : List OpV) (s k : Nat) (o : OpV), (∀ o ∈ l.take k, opc o f = 0) → l[k]? = some o → ¬ opc o f = 0 → opsFault f l s = (opc o f, ((s + k : Nat) : Int))
  | [], _, _, _, _, h, _ => by simp at h
  | a :: r, s, 0, o, _, h, hn => by
    simp at h; subst h
    unfold opsFault; rw [if_neg hn]; rfl
  | a :: r, s, k + 1, o, h1, h, hn => by
    unfold opsFault
    rw [if_pos (h1 a (by simp))]
    have := opsFault_at r (s + 1) k o (fun o ho => h1 o (by simp [ho])) (by simpa using h) hn
    rw [this]
    congr 1
    omega
theorem opsFault_zero {f : Int} : ∀ (l : List OpV) (k : Nat), (opsFault f l k).1 = 0 → ∀ o ∈ l, opc o f = 0
  | [], _, _ => by simp
  | o :: r, k, h => by
    unfold opsFault at h
    by_cases hc : opc o f = 0
    · rw [if_pos hc] at h
      intro x hx
      rcases List.mem_cons.1 hx with e | e
      · subst e; exact hc
      · exact opsFault_zero r (k + 1) h x e
    · rw [if_neg hc] at h; exact absurd h hc
/-- The fault of a task: code and index. -/
noncomputable def tfault (t : TaskV) : Int × Int :=
  if t.facts < 0 ∨ 24 < t.facts then (3, -1) else
  @ite _ (SetP t.init t.facts) (Classical.propDecidable _) (@ite _ (SetP t.goal t.facts) (Classical.propDecidable _) (if 40 < t.ops.length then (2, -1) else opsFault t.facts t.ops 0) (5, -3)) (5, -2)
theorem tfault_1 {t : TaskV} (h : t.facts < 0 ∨ 24 < t.facts) : tfault t = (3, -1) := by unfold tfault; rw [if_pos h]
theorem tfault_2 {t : TaskV} (h : ¬ (t.facts < 0 ∨ 24 < t.facts)) (h1 : ¬ SetP t.init t.facts) : tfault t = (5, -2) := by unfold tfault; rw [if_neg h, if_neg h1]
theorem tfault_3 {t : TaskV} (h : ¬ (t.facts < 0 ∨ 24 < t.facts)) (h1 : SetP t.init t.facts) (h2 : ¬ SetP t.goal t.facts) : tfault t = (5, -3) := by unfold tfault; rw [if_neg h, if_pos h1, if_neg h2]
theorem tfault_4 {t : TaskV} (h : ¬ (t.facts < 0 ∨ 24 < t.facts)) (h1 : SetP t.init t.facts) (h2 : SetP t.goal t.facts) (h3 : 40 < t.ops.length) : tfault t = (2, -1) := by unfold tfault; rw [if_neg h, if_pos h1, if_pos h2, if_pos h3]
theorem tfault_5 {t : TaskV} (h : ¬ (t.facts < 0 ∨ 24 < t.facts)) (h1 : SetP t.init t.facts) (h2 : SetP t.goal t.facts) (h3 : ¬ 40 < t.ops.length) : tfault t = opsFault t.facts t.ops 0 := by unfold tfault; rw [if_neg h, if_pos h1, if_pos h2, if_neg h3]
/-- A valid task. -/
structure Valid (t : TaskV) : Prop where
  f0 : 0 ≤ t.facts
  f1 : t.facts ≤ 24
  init : SetP t.init t.facts
  goal : SetP t.goal t.facts
  nops : t.ops.length ≤ 40
  ops : ∀ o ∈ t.ops, (SetP o.pre t.facts ∧ SetP o.add t.facts ∧ SetP o.del t.facts ∧ ∀ x ∈ o.add, ¬ x ∈ o.del) ∧ 0 ≤ o.cost ∧ o.cost ≤ 100
theorem tfault_zero {t : TaskV} : (tfault t).1 = 0 ↔ Valid t := by
  by_cases h : t.facts < 0 ∨ 24 < t.facts
  · rw [tfault_1 h]
    exact ⟨fun h => by simp at h, fun v => by have := v.f0; have := v.f1; omega⟩
  · by_cases h1 : SetP t.init t.facts
    · by_cases h2 : SetP t.goal t.facts
      · by_cases h3 : 40 < t.ops.length
        · rw [tfault_4 h h1 h2 h3]
          exact ⟨fun h => by simp at h, fun v => by have := v.nops; omega⟩
        · rw [tfault_5 h h1 h2 h3]
          constructor
          · intro hz
            exact ⟨by omega, by omega, h1, h2, by omega, fun o ho => opc_zero.1 (opsFault_zero _ _ hz o ho)⟩
          · intro v
            rw [opsFault_good _ _ (fun o ho => opc_zero.2 (v.ops o ho))]
      · rw [tfault_3 h h1 h2]
        exact ⟨fun h => by simp at h, fun v => absurd v.goal h2⟩
    · rw [tfault_2 h h1]
      exact ⟨fun h => by simp at h, fun v => absurd v.init h1⟩
theorem tfault_valid {t : TaskV} (v : Valid t) : tfault t = (0, 0) := by
  rw [tfault_5 (by have := v.f0; have := v.f1; omega) v.init v.goal (by have := v.nops; omega)]
  exact opsFault_good _ _ (fun o ho => opc_zero.2 (v.ops o ho))

set_option maxHeartbeats 400000 in
theorem operator_pre (w : World) (o : OpV) (A0 A1 A2 : Option Addr) (c0 c1 c2 : Nat) (f : Int) (hM : OpMem w A0 A1 A2 o) (hpre : ¬ SetP o.pre f) :
    Calls Try.prog 86 #[.agg #[.slice A0 o.pre.length c0, .slice A1 o.add.length c1, .slice A2 o.del.length c2, .int .i64 o.cost], .int .i64 f] w fun e w' => e = .returned (.int .i64 5) ∧ Below w.heap.size w w' := by
  have Hpre := Lib.hid hpre
  clear hpre
  go_enter Try.func86, Try.ntmps86
  go_wp2_with fail
  refine (isset_no _ _ _ _ _ (hM.pre.below (by repeat (first | with_reducible exact Below.refl _ _ | with_reducible apply bdrew | with_reducible apply bdrewN | with_reducible apply balloc | ((with_reducible refine bset ?_ ?_ _); rotate_left; (first | omega | (simp <;> omega)))))) hM.lpre.le Hpre.out).mono ?_
  rintro e w' ⟨rfl, rfl⟩
  go_wp2
  go_ret
  exact ⟨rfl, by repeat (first | with_reducible exact Below.refl _ _ | with_reducible apply bdrew | with_reducible apply bdrewN | with_reducible apply balloc | ((with_reducible refine bset ?_ ?_ _); rotate_left; (first | omega | (simp <;> omega))))⟩
set_option maxHeartbeats 400000 in
theorem operator_add (w : World) (o : OpV) (A0 A1 A2 : Option Addr) (c0 c1 c2 : Nat) (f : Int) (hM : OpMem w A0 A1 A2 o) (hpre : SetP o.pre f) (hadd : ¬ SetP o.add f) :
    Calls Try.prog 86 #[.agg #[.slice A0 o.pre.length c0, .slice A1 o.add.length c1, .slice A2 o.del.length c2, .int .i64 o.cost], .int .i64 f] w fun e w' => e = .returned (.int .i64 5) ∧ Below w.heap.size w w' := by
  have Hpre := Lib.hid hpre
  clear hpre
  have Hadd := Lib.hid hadd
  clear hadd
  go_enter Try.func86, Try.ntmps86
  go_wp2_with fail
  refine (isset_yes _ _ _ _ _ (hM.pre.below (by repeat (first | with_reducible exact Below.refl _ _ | with_reducible apply bdrew | with_reducible apply bdrewN | with_reducible apply balloc | ((with_reducible refine bset ?_ ?_ _); rotate_left; (first | omega | (simp <;> omega)))))) hM.lpre.le Hpre.out).mono ?_
  rintro e w' ⟨rfl, rfl⟩
  go_wp2_with fail
  refine (isset_no _ _ _ _ _ (hM.add.below (by repeat (first | with_reducible exact Below.refl _ _ | with_reducible apply bdrew | with_reducible apply bdrewN | with_reducible apply balloc | ((with_reducible refine bset ?_ ?_ _); rotate_left; (first | omega | (simp <;> omega)))))) hM.ladd.le Hadd.out).mono ?_
  rintro e w' ⟨rfl, rfl⟩
  go_wp2
  go_ret
  exact ⟨rfl, by repeat (first | with_reducible exact Below.refl _ _ | with_reducible apply bdrew | with_reducible apply bdrewN | with_reducible apply balloc | ((with_reducible refine bset ?_ ?_ _); rotate_left; (first | omega | (simp <;> omega))))⟩
set_option maxHeartbeats 400000 in
theorem operator_del (w : World) (o : OpV) (A0 A1 A2 : Option Addr) (c0 c1 c2 : Nat) (f : Int) (hM : OpMem w A0 A1 A2 o) (hpre : SetP o.pre f) (hadd : SetP o.add f) (hdel : ¬ SetP o.del f) :
    Calls Try.prog 86 #[.agg #[.slice A0 o.pre.length c0, .slice A1 o.add.length c1, .slice A2 o.del.length c2, .int .i64 o.cost], .int .i64 f] w fun e w' => e = .returned (.int .i64 5) ∧ Below w.heap.size w w' := by
  have Hpre := Lib.hid hpre
  clear hpre
  have Hadd := Lib.hid hadd
  clear hadd
  have Hdel := Lib.hid hdel
  clear hdel
  go_enter Try.func86, Try.ntmps86
  go_wp2_with fail
  refine (isset_yes _ _ _ _ _ (hM.pre.below (by repeat (first | with_reducible exact Below.refl _ _ | with_reducible apply bdrew | with_reducible apply bdrewN | with_reducible apply balloc | ((with_reducible refine bset ?_ ?_ _); rotate_left; (first | omega | (simp <;> omega)))))) hM.lpre.le Hpre.out).mono ?_
  rintro e w' ⟨rfl, rfl⟩
  go_wp2_with fail
  refine (isset_yes _ _ _ _ _ (hM.add.below (by repeat (first | with_reducible exact Below.refl _ _ | with_reducible apply bdrew | with_reducible apply bdrewN | with_reducible apply balloc | ((with_reducible refine bset ?_ ?_ _); rotate_left; (first | omega | (simp <;> omega)))))) hM.ladd.le Hadd.out).mono ?_
  rintro e w' ⟨rfl, rfl⟩
  go_wp2_with fail
  refine (isset_no _ _ _ _ _ (hM.del.below (by repeat (first | with_reducible exact Below.refl _ _ | with_reducible apply bdrew | with_reducible apply bdrewN | with_reducible apply balloc | ((with_reducible refine bset ?_ ?_ _); rotate_left; (first | omega | (simp <;> omega)))))) hM.ldel.le Hdel.out).mono ?_
  rintro e w' ⟨rfl, rfl⟩
  go_wp2
  go_ret
  exact ⟨rfl, by repeat (first | with_reducible exact Below.refl _ _ | with_reducible apply bdrew | with_reducible apply bdrewN | with_reducible apply balloc | ((with_reducible refine bset ?_ ?_ _); rotate_left; (first | omega | (simp <;> omega))))⟩
set_option maxHeartbeats 400000 in
theorem operator_meet (w : World) (o : OpV) (A0 A1 A2 : Option Addr) (c0 c1 c2 : Nat) (f : Int) (hf : 0 ≤ f) (hf2 : f ≤ 24) (hM : OpMem w A0 A1 A2 o) (hpre : SetP o.pre f) (hadd : SetP o.add f) (hdel : SetP o.del f) (hm : ∃ x ∈ o.add, x ∈ o.del)  :
    Calls Try.prog 86 #[.agg #[.slice A0 o.pre.length c0, .slice A1 o.add.length c1, .slice A2 o.del.length c2, .int .i64 o.cost], .int .i64 f] w fun e w' => e = .returned (.int .i64 5) ∧ Below w.heap.size w w' := by
  have Hl : Hid ((o.del.length : Int) ≤ f) := Lib.hid (hdel.length hf)
  have Hpre := Lib.hid hpre
  clear hpre
  have Hadd := Lib.hid hadd
  clear hadd
  have Hdel := Lib.hid hdel
  clear hdel
  have HM := Lib.hid hm
  clear hm
  go_enter Try.func86, Try.ntmps86
  go_wp2_with fail
  refine (isset_yes _ _ _ _ _ (hM.pre.below (by repeat (first | with_reducible exact Below.refl _ _ | with_reducible apply bdrew | with_reducible apply bdrewN | with_reducible apply balloc | ((with_reducible refine bset ?_ ?_ _); rotate_left; (first | omega | (simp <;> omega)))))) hM.lpre.le Hpre.out).mono ?_
  rintro e w' ⟨rfl, rfl⟩
  go_wp2_with fail
  refine (isset_yes _ _ _ _ _ (hM.add.below (by repeat (first | with_reducible exact Below.refl _ _ | with_reducible apply bdrew | with_reducible apply bdrewN | with_reducible apply balloc | ((with_reducible refine bset ?_ ?_ _); rotate_left; (first | omega | (simp <;> omega)))))) hM.ladd.le Hadd.out).mono ?_
  rintro e w' ⟨rfl, rfl⟩
  go_wp2_with fail
  refine (isset_yes _ _ _ _ _ (hM.del.below (by repeat (first | with_reducible exact Below.refl _ _ | with_reducible apply bdrew | with_reducible apply bdrewN | with_reducible apply balloc | ((with_reducible refine bset ?_ ?_ _); rotate_left; (first | omega | (simp <;> omega)))))) hM.ldel.le Hdel.out).mono ?_
  rintro e w' ⟨rfl, rfl⟩
  go_wp2_with fail
  refine (meets_any _ _ _ _ _ _ _ (hM.add.below (by repeat (first | with_reducible exact Below.refl _ _ | with_reducible apply bdrew | with_reducible apply bdrewN | with_reducible apply balloc | ((with_reducible refine bset ?_ ?_ _); rotate_left; (first | omega | (simp <;> omega)))))) (hM.del.below (by repeat (first | with_reducible exact Below.refl _ _ | with_reducible apply bdrew | with_reducible apply bdrewN | with_reducible apply balloc | ((with_reducible refine bset ?_ ?_ _); rotate_left; (first | omega | (simp <;> omega)))))) hM.ladd.le (by have := hM.ldel.le2; have := Hl.out; omega) Hdel.out.pairwise).mono ?_
  rintro e w1 ⟨he, hB1⟩
  rw [decide_eq_true HM.out] at he
  subst he
  have D1 := dstep w hB1 (by repeat (first | with_reducible exact Below.refl _ _ | with_reducible apply bdrew | with_reducible apply bdrewN | with_reducible apply balloc | ((with_reducible refine bset ?_ ?_ _); rotate_left; (first | omega | (simp <;> omega)))))
  have d1s := D1.size
  have C1 := Cls.below (l := [(w.heap.size, 0, .slice A0 o.pre.length c0), (w.heap.size, 1, .slice A1 o.add.length c1), (w.heap.size, 2, .slice A2 o.del.length c2), (w.heap.size, 3, .int .i64 o.cost)]) hB1 (by simp [Cls, go_sem])
  have F1 := C1
  simp only [Cls, and_true] at F1
  have y1w0 : w.heap.size < w1.heap.size := C1.blk (b := w.heap.size) (k := 0) (v := .slice A0 o.pre.length c0) (by simp)
  have y1wp1 : w.heap.size < w1.heap.size + 1 := (by omega)
  have y1wp2 : w.heap.size < w1.heap.size + 1 + 1 := (by omega)
  go_wp2
  go_ret
  exact ⟨rfl, by repeat (first | with_reducible exact D1 | with_reducible apply bdrew | with_reducible apply bdrewN | with_reducible apply balloc | ((with_reducible refine bset ?_ ?_ _); rotate_left; (first | omega | (simp <;> omega))))⟩
set_option maxHeartbeats 400000 in
theorem operator_lo (w : World) (o : OpV) (A0 A1 A2 : Option Addr) (c0 c1 c2 : Nat) (f : Int) (hf : 0 ≤ f) (hf2 : f ≤ 24) (hM : OpMem w A0 A1 A2 o) (hpre : SetP o.pre f) (hadd : SetP o.add f) (hdel : SetP o.del f) (hm : ¬ ∃ x ∈ o.add, x ∈ o.del) (h1 : o.cost < 0) :
    Calls Try.prog 86 #[.agg #[.slice A0 o.pre.length c0, .slice A1 o.add.length c1, .slice A2 o.del.length c2, .int .i64 o.cost], .int .i64 f] w fun e w' => e = .returned (.int .i64 3) ∧ Below w.heap.size w w' := by
  have Hl : Hid ((o.del.length : Int) ≤ f) := Lib.hid (hdel.length hf)
  have Hpre := Lib.hid hpre
  clear hpre
  have Hadd := Lib.hid hadd
  clear hadd
  have Hdel := Lib.hid hdel
  clear hdel
  have HM := Lib.hid hm
  clear hm
  go_enter Try.func86, Try.ntmps86
  go_wp2_with fail
  refine (isset_yes _ _ _ _ _ (hM.pre.below (by repeat (first | with_reducible exact Below.refl _ _ | with_reducible apply bdrew | with_reducible apply bdrewN | with_reducible apply balloc | ((with_reducible refine bset ?_ ?_ _); rotate_left; (first | omega | (simp <;> omega)))))) hM.lpre.le Hpre.out).mono ?_
  rintro e w' ⟨rfl, rfl⟩
  go_wp2_with fail
  refine (isset_yes _ _ _ _ _ (hM.add.below (by repeat (first | with_reducible exact Below.refl _ _ | with_reducible apply bdrew | with_reducible apply bdrewN | with_reducible apply balloc | ((with_reducible refine bset ?_ ?_ _); rotate_left; (first | omega | (simp <;> omega)))))) hM.ladd.le Hadd.out).mono ?_
  rintro e w' ⟨rfl, rfl⟩
  go_wp2_with fail
  refine (isset_yes _ _ _ _ _ (hM.del.below (by repeat (first | with_reducible exact Below.refl _ _ | with_reducible apply bdrew | with_reducible apply bdrewN | with_reducible apply balloc | ((with_reducible refine bset ?_ ?_ _); rotate_left; (first | omega | (simp <;> omega)))))) hM.ldel.le Hdel.out).mono ?_
  rintro e w' ⟨rfl, rfl⟩
  go_wp2_with fail
  refine (meets_any _ _ _ _ _ _ _ (hM.add.below (by repeat (first | with_reducible exact Below.refl _ _ | with_reducible apply bdrew | with_reducible apply bdrewN | with_reducible apply balloc | ((with_reducible refine bset ?_ ?_ _); rotate_left; (first | omega | (simp <;> omega)))))) (hM.del.below (by repeat (first | with_reducible exact Below.refl _ _ | with_reducible apply bdrew | with_reducible apply bdrewN | with_reducible apply balloc | ((with_reducible refine bset ?_ ?_ _); rotate_left; (first | omega | (simp <;> omega)))))) hM.ladd.le (by have := hM.ldel.le2; have := Hl.out; omega) Hdel.out.pairwise).mono ?_
  rintro e w1 ⟨he, hB1⟩
  rw [decide_eq_false HM.out] at he
  subst he
  have D1 := dstep w hB1 (by repeat (first | with_reducible exact Below.refl _ _ | with_reducible apply bdrew | with_reducible apply bdrewN | with_reducible apply balloc | ((with_reducible refine bset ?_ ?_ _); rotate_left; (first | omega | (simp <;> omega)))))
  have d1s := D1.size
  have C1 := Cls.below (l := [(w.heap.size, 0, .slice A0 o.pre.length c0), (w.heap.size, 1, .slice A1 o.add.length c1), (w.heap.size, 2, .slice A2 o.del.length c2), (w.heap.size, 3, .int .i64 o.cost)]) hB1 (by simp [Cls, go_sem])
  have F1 := C1
  simp only [Cls, and_true] at F1
  have y1w0 : w.heap.size < w1.heap.size := C1.blk (b := w.heap.size) (k := 0) (v := .slice A0 o.pre.length c0) (by simp)
  have y1wp1 : w.heap.size < w1.heap.size + 1 := (by omega)
  have y1wp2 : w.heap.size < w1.heap.size + 1 + 1 := (by omega)
  go_wp2
  go_ret
  exact ⟨rfl, by repeat (first | with_reducible exact D1 | with_reducible apply bdrew | with_reducible apply bdrewN | with_reducible apply balloc | ((with_reducible refine bset ?_ ?_ _); rotate_left; (first | omega | (simp <;> omega))))⟩
set_option maxHeartbeats 400000 in
theorem operator_hi (w : World) (o : OpV) (A0 A1 A2 : Option Addr) (c0 c1 c2 : Nat) (f : Int) (hf : 0 ≤ f) (hf2 : f ≤ 24) (hM : OpMem w A0 A1 A2 o) (hpre : SetP o.pre f) (hadd : SetP o.add f) (hdel : SetP o.del f) (hm : ¬ ∃ x ∈ o.add, x ∈ o.del) (h1 : 0 ≤ o.cost) (h2 : 100 < o.cost) :
    Calls Try.prog 86 #[.agg #[.slice A0 o.pre.length c0, .slice A1 o.add.length c1, .slice A2 o.del.length c2, .int .i64 o.cost], .int .i64 f] w fun e w' => e = .returned (.int .i64 3) ∧ Below w.heap.size w w' := by
  have Hl : Hid ((o.del.length : Int) ≤ f) := Lib.hid (hdel.length hf)
  have Hpre := Lib.hid hpre
  clear hpre
  have Hadd := Lib.hid hadd
  clear hadd
  have Hdel := Lib.hid hdel
  clear hdel
  have HM := Lib.hid hm
  clear hm
  go_enter Try.func86, Try.ntmps86
  go_wp2_with fail
  refine (isset_yes _ _ _ _ _ (hM.pre.below (by repeat (first | with_reducible exact Below.refl _ _ | with_reducible apply bdrew | with_reducible apply bdrewN | with_reducible apply balloc | ((with_reducible refine bset ?_ ?_ _); rotate_left; (first | omega | (simp <;> omega)))))) hM.lpre.le Hpre.out).mono ?_
  rintro e w' ⟨rfl, rfl⟩
  go_wp2_with fail
  refine (isset_yes _ _ _ _ _ (hM.add.below (by repeat (first | with_reducible exact Below.refl _ _ | with_reducible apply bdrew | with_reducible apply bdrewN | with_reducible apply balloc | ((with_reducible refine bset ?_ ?_ _); rotate_left; (first | omega | (simp <;> omega)))))) hM.ladd.le Hadd.out).mono ?_
  rintro e w' ⟨rfl, rfl⟩
  go_wp2_with fail
  refine (isset_yes _ _ _ _ _ (hM.del.below (by repeat (first | with_reducible exact Below.refl _ _ | with_reducible apply bdrew | with_reducible apply bdrewN | with_reducible apply balloc | ((with_reducible refine bset ?_ ?_ _); rotate_left; (first | omega | (simp <;> omega)))))) hM.ldel.le Hdel.out).mono ?_
  rintro e w' ⟨rfl, rfl⟩
  go_wp2_with fail
  refine (meets_any _ _ _ _ _ _ _ (hM.add.below (by repeat (first | with_reducible exact Below.refl _ _ | with_reducible apply bdrew | with_reducible apply bdrewN | with_reducible apply balloc | ((with_reducible refine bset ?_ ?_ _); rotate_left; (first | omega | (simp <;> omega)))))) (hM.del.below (by repeat (first | with_reducible exact Below.refl _ _ | with_reducible apply bdrew | with_reducible apply bdrewN | with_reducible apply balloc | ((with_reducible refine bset ?_ ?_ _); rotate_left; (first | omega | (simp <;> omega)))))) hM.ladd.le (by have := hM.ldel.le2; have := Hl.out; omega) Hdel.out.pairwise).mono ?_
  rintro e w1 ⟨he, hB1⟩
  rw [decide_eq_false HM.out] at he
  subst he
  have D1 := dstep w hB1 (by repeat (first | with_reducible exact Below.refl _ _ | with_reducible apply bdrew | with_reducible apply bdrewN | with_reducible apply balloc | ((with_reducible refine bset ?_ ?_ _); rotate_left; (first | omega | (simp <;> omega)))))
  have d1s := D1.size
  have C1 := Cls.below (l := [(w.heap.size, 0, .slice A0 o.pre.length c0), (w.heap.size, 1, .slice A1 o.add.length c1), (w.heap.size, 2, .slice A2 o.del.length c2), (w.heap.size, 3, .int .i64 o.cost)]) hB1 (by simp [Cls, go_sem])
  have F1 := C1
  simp only [Cls, and_true] at F1
  have y1w0 : w.heap.size < w1.heap.size := C1.blk (b := w.heap.size) (k := 0) (v := .slice A0 o.pre.length c0) (by simp)
  have y1wp1 : w.heap.size < w1.heap.size + 1 := (by omega)
  have y1wp2 : w.heap.size < w1.heap.size + 1 + 1 := (by omega)
  go_wp2
  go_ret
  exact ⟨rfl, by repeat (first | with_reducible exact D1 | with_reducible apply bdrew | with_reducible apply bdrewN | with_reducible apply balloc | ((with_reducible refine bset ?_ ?_ _); rotate_left; (first | omega | (simp <;> omega))))⟩
set_option maxHeartbeats 400000 in
theorem operator_ok (w : World) (o : OpV) (A0 A1 A2 : Option Addr) (c0 c1 c2 : Nat) (f : Int) (hf : 0 ≤ f) (hf2 : f ≤ 24) (hM : OpMem w A0 A1 A2 o) (hpre : SetP o.pre f) (hadd : SetP o.add f) (hdel : SetP o.del f) (hm : ¬ ∃ x ∈ o.add, x ∈ o.del) (h1 : 0 ≤ o.cost) (h2 : o.cost ≤ 100) :
    Calls Try.prog 86 #[.agg #[.slice A0 o.pre.length c0, .slice A1 o.add.length c1, .slice A2 o.del.length c2, .int .i64 o.cost], .int .i64 f] w fun e w' => e = .returned (.int .i64 0) ∧ Below w.heap.size w w' := by
  have Hl : Hid ((o.del.length : Int) ≤ f) := Lib.hid (hdel.length hf)
  have Hpre := Lib.hid hpre
  clear hpre
  have Hadd := Lib.hid hadd
  clear hadd
  have Hdel := Lib.hid hdel
  clear hdel
  have HM := Lib.hid hm
  clear hm
  go_enter Try.func86, Try.ntmps86
  go_wp2_with fail
  refine (isset_yes _ _ _ _ _ (hM.pre.below (by repeat (first | with_reducible exact Below.refl _ _ | with_reducible apply bdrew | with_reducible apply bdrewN | with_reducible apply balloc | ((with_reducible refine bset ?_ ?_ _); rotate_left; (first | omega | (simp <;> omega)))))) hM.lpre.le Hpre.out).mono ?_
  rintro e w' ⟨rfl, rfl⟩
  go_wp2_with fail
  refine (isset_yes _ _ _ _ _ (hM.add.below (by repeat (first | with_reducible exact Below.refl _ _ | with_reducible apply bdrew | with_reducible apply bdrewN | with_reducible apply balloc | ((with_reducible refine bset ?_ ?_ _); rotate_left; (first | omega | (simp <;> omega)))))) hM.ladd.le Hadd.out).mono ?_
  rintro e w' ⟨rfl, rfl⟩
  go_wp2_with fail
  refine (isset_yes _ _ _ _ _ (hM.del.below (by repeat (first | with_reducible exact Below.refl _ _ | with_reducible apply bdrew | with_reducible apply bdrewN | with_reducible apply balloc | ((with_reducible refine bset ?_ ?_ _); rotate_left; (first | omega | (simp <;> omega)))))) hM.ldel.le Hdel.out).mono ?_
  rintro e w' ⟨rfl, rfl⟩
  go_wp2_with fail
  refine (meets_any _ _ _ _ _ _ _ (hM.add.below (by repeat (first | with_reducible exact Below.refl _ _ | with_reducible apply bdrew | with_reducible apply bdrewN | with_reducible apply balloc | ((with_reducible refine bset ?_ ?_ _); rotate_left; (first | omega | (simp <;> omega)))))) (hM.del.below (by repeat (first | with_reducible exact Below.refl _ _ | with_reducible apply bdrew | with_reducible apply bdrewN | with_reducible apply balloc | ((with_reducible refine bset ?_ ?_ _); rotate_left; (first | omega | (simp <;> omega)))))) hM.ladd.le (by have := hM.ldel.le2; have := Hl.out; omega) Hdel.out.pairwise).mono ?_
  rintro e w1 ⟨he, hB1⟩
  rw [decide_eq_false HM.out] at he
  subst he
  have D1 := dstep w hB1 (by repeat (first | with_reducible exact Below.refl _ _ | with_reducible apply bdrew | with_reducible apply bdrewN | with_reducible apply balloc | ((with_reducible refine bset ?_ ?_ _); rotate_left; (first | omega | (simp <;> omega)))))
  have d1s := D1.size
  have C1 := Cls.below (l := [(w.heap.size, 0, .slice A0 o.pre.length c0), (w.heap.size, 1, .slice A1 o.add.length c1), (w.heap.size, 2, .slice A2 o.del.length c2), (w.heap.size, 3, .int .i64 o.cost)]) hB1 (by simp [Cls, go_sem])
  have F1 := C1
  simp only [Cls, and_true] at F1
  have y1w0 : w.heap.size < w1.heap.size := C1.blk (b := w.heap.size) (k := 0) (v := .slice A0 o.pre.length c0) (by simp)
  have y1wp1 : w.heap.size < w1.heap.size + 1 := (by omega)
  have y1wp2 : w.heap.size < w1.heap.size + 1 + 1 := (by omega)
  go_wp2
  go_ret
  exact ⟨rfl, by repeat (first | with_reducible exact D1 | with_reducible apply bdrew | with_reducible apply bdrewN | with_reducible apply balloc | ((with_reducible refine bset ?_ ?_ _); rotate_left; (first | omega | (simp <;> omega))))⟩
theorem operator_any (o : OpV) (A0 A1 A2 : Option Addr) (c0 c1 c2 : Nat) (f : Int) (hf : 0 ≤ f) (hf2 : f ≤ 24) (w : World) (hM : OpMem w A0 A1 A2 o) :
    Calls Try.prog 86 #[.agg #[.slice A0 o.pre.length c0, .slice A1 o.add.length c1, .slice A2 o.del.length c2, .int .i64 o.cost], .int .i64 f] w fun e w' => e = .returned (.int .i64 (opc o f)) ∧ Below w.heap.size w w' := by
  by_cases h0 : SetP o.pre f
  · by_cases h1 : SetP o.add f
    · by_cases h2 : SetP o.del f
      · by_cases hm : ∃ x ∈ o.add, x ∈ o.del
        · rw [opc_bad (fun h => by obtain ⟨x, ha, hd⟩ := hm; exact h.2.2.2 x ha hd)]
          exact operator_meet w o A0 A1 A2 c0 c1 c2 f hf hf2 hM h0 h1 h2 hm
        · have hg : SetP o.pre f ∧ SetP o.add f ∧ SetP o.del f ∧ ∀ x ∈ o.add, ¬ x ∈ o.del := ⟨h0, h1, h2, fun x ha hd => hm ⟨x, ha, hd⟩⟩
          rw [opc_good hg]
          by_cases c : o.cost < 0
          · rw [if_pos (Or.inl c)]; exact operator_lo w o A0 A1 A2 c0 c1 c2 f hf hf2 hM h0 h1 h2 hm c
          · by_cases c' : 100 < o.cost
            · rw [if_pos (Or.inr c')]; exact operator_hi w o A0 A1 A2 c0 c1 c2 f hf hf2 hM h0 h1 h2 hm (by omega) c'
            · rw [if_neg (by omega)]; exact operator_ok w o A0 A1 A2 c0 c1 c2 f hf hf2 hM h0 h1 h2 hm (by omega) (by omega)
      · rw [opc_bad (fun h => h2 h.2.2.1)]; exact operator_del w o A0 A1 A2 c0 c1 c2 f hM h0 h1 h2
    · rw [opc_bad (fun h => h1 h.2.1)]; exact operator_add w o A0 A1 A2 c0 c1 c2 f hM h0 h1
  · rw [opc_bad (fun h => h0 h.1)]; exact operator_pre w o A0 A1 A2 c0 c1 c2 f hM h0


end Go.Proofs.Ytiaokmofoaeifaa
