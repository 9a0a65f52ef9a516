/-
  compile.Forbid: what it returns.
-/
import Derived.Test.YtiaokmofoaeifaaCp5
namespace Go.Proofs.Ytiaokmofoaeifaa
open Go.RowKit
set_option linter.unusedVariables false
set_option linter.unusedSimpArgs false

theorem Cls.grown_ne {w w' : World} {row : Option Nat} {l : List (Nat × Nat × Value)} (hC : Cls w l) (hg : w.grownBy w' row) (hl : ∀ x ∈ l, some x.1 ≠ row) : Cls w' l := by
  induction l with
  | nil => trivial
  | cons x r ih =>
    obtain ⟨b, k, u⟩ := x
    obtain ⟨⟨h1, h2⟩, h3⟩ := hC
    have hlt := World.block_lt_of_cell? w ⟨b, k, none⟩ h1
    have hne : w'.heap[b]? = w.heap[b]? := hg.block b hlt (hl (b, k, u) (by simp))
    exact ⟨⟨(World.cell?_of_block (w := w) hne).trans h1, (World.frozen?_of_block (w := w) hne).trans h2⟩, ih h3 (fun x hx => hl x (by simp [hx]))⟩
theorem own_away {base n : Nat} {e : TypeId} {size : Nat} {w : World} {v : Value} {xs : List Value} (h : w.ownsRow base e size v n xs) {p : Addr} (hp : v.ownBlock ≠ some p.block) (u : Value) : (w.setCell p u).ownsRow base e size v n xs := by
  refine ⟨h.1, ?_⟩
  rcases h.2 with h2 | ⟨g, cap, cur, hv, hb, hg, h3⟩
  · exact Or.inl h2
  · subst hv
    exact Or.inr ⟨g, cap, cur, rfl, hb, (Below.heap_setCell w p u g (fun e => hp (by rw [← e]; rfl))).trans hg, h3⟩
theorem box_grown {w2 w3 : World} {o : Obj} {g j : Nat} (hG : (w2.alloc o).drew.grownBy w3 (some g)) (u : Value) : w2.drew.grownBy (w3.setCell ⟨w2.heap.size, j, none⟩ u) (some g) := by
  refine ⟨hG.os, hG.tape, hG.output, ?_, fun k hk hne => ?_⟩
  · have h := hG.size
    have e1 : (w2.alloc o).drew.heap.size = w2.heap.size + 1 := by simp
    have e2 : (w3.setCell ⟨w2.heap.size, j, none⟩ u).heap.size = w3.heap.size := by simp
    have e3 : w2.drew.heap.size = w2.heap.size := by simp
    omega
  · have hk' : k < w2.heap.size := hk
    have e1 : (w2.alloc o).drew.heap.size = w2.heap.size + 1 := by simp
    rw [Below.heap_setCell w3 _ u k (fun e => by simp at e; omega), hG.block k (by omega) hne]
    show (w2.heap.push o)[k]? = w2.heap[k]?
    rw [Array.getElem?_push, if_neg (by omega)]
/-- The task without its operator k. -/
def fbT (t : TaskV) (k : Nat) : TaskV := { t with ops := t.ops.eraseIdx k }
theorem fb_lens {t : TaskV} {k : Nat} (h : ∀ o ∈ t.ops, lenOk o.pre.length ∧ lenOk o.add.length ∧ lenOk o.del.length) : ∀ o ∈ (fbT t k).ops, lenOk o.pre.length ∧ lenOk o.add.length ∧ lenOk o.del.length := fun o ho => h o (List.mem_of_mem_eraseIdx ho)
theorem valid_fb {t : TaskV} (hv : Valid t) (k : Nat) : Valid (fbT t k) := ⟨hv.f0, hv.f1, hv.init, hv.goal, by
  have := hv.nops
  have h : (t.ops.eraseIdx k).length ≤ t.ops.length := by rw [List.length_eraseIdx]; split <;> omega
  show (t.ops.eraseIdx k).length ≤ 40
  omega, fun o ho => hv.ops o (List.mem_of_mem_eraseIdx ho)⟩
set_option maxRecDepth 100000 in
set_option maxHeartbeats 1000000 in
theorem wop_1 (w : World) (t : TaskV) (Ai Ag Ao : Option Addr) (ci cg co : Nat) (hT : TaskMem w Ai Ag Ao t) (op : Int) (h : ¬ (tfault t).1 = 0) :
    Calls Try.prog 59 #[.agg #[.int .i64 t.facts, .slice Ai t.init.length ci, .slice Ag t.goal.length cg, .slice Ao t.ops.length co], .int .i64 op] w fun e w' => e = .returned (.agg #[.int .i64 (tfault t).1, .int .i64 (tfault t).2]) ∧ Below w.heap.size w w' := by
  have N := bb_no h
  have N' := bn_yes h
  go_enter Try.func59, Try.ntmps59
  go_wp2_with fail
  refine (validate_any _ _ _ _ _ _ _ _ (hT.below (by repeat (first | with_reducible exact Below.refl _ _ | with_reducible apply bdrew | with_reducible apply bdrewN | with_reducible apply balloc | ((with_reducible refine bset ?_ ?_ _); rotate_left; (first | omega | (simp <;> omega))))))).mono ?_
  rintro e w1 ⟨rfl, hB1⟩
  have D1 := dstep w hB1 (by repeat (first | with_reducible exact Below.refl _ _ | with_reducible apply bdrew | with_reducible apply bdrewN | with_reducible apply balloc | ((with_reducible refine bset ?_ ?_ _); rotate_left; (first | omega | (simp <;> omega)))))
  have d1s := D1.size
  have C1 := Cls.below (l := [(w.heap.size, 0, .int .i64 t.facts), (w.heap.size, 1, .slice Ai t.init.length ci), (w.heap.size, 2, .slice Ag t.goal.length cg), (w.heap.size, 3, .slice Ao t.ops.length co), (w.heap.size + 1, 0, .int .i64 0), (w.heap.size + 1, 1, .int .i64 0)]) hB1 (by simp [Cls, go_sem])
  have F1 := C1
  simp only [Cls, and_true] at F1
  have y1w1 : w.heap.size + 1 < w1.heap.size := C1.blk (b := w.heap.size + 1) (k := 0) (v := .int .i64 0) (by simp)
  have y1w0 : w.heap.size < w1.heap.size := (by omega)
  have y1wp1 : w.heap.size < w1.heap.size + 1 := (by omega)
  have y1wp2 : w.heap.size < w1.heap.size + 1 + 1 := (by omega)
  go_wp2_with fail
  refine bodyPost_ret (v := .agg #[.int .i64 (tfault t).1, .int .i64 (tfault t).2]) ?_ rfl ⟨rfl, by repeat (first | with_reducible exact D1 | with_reducible apply bdrew | with_reducible apply bdrewN | with_reducible apply balloc | ((with_reducible refine bset ?_ ?_ _); rotate_left; (first | omega | (simp <;> omega))))⟩
  simp [results, Try.results59, go_sem, F1, y1w1, y1w0, y1wp1, y1wp2]

set_option maxRecDepth 100000 in
set_option maxHeartbeats 1000000 in
theorem wop_2 (w : World) (t : TaskV) (Ai Ag Ao : Option Addr) (ci cg co : Nat) (hT : TaskMem w Ai Ag Ao t) (op : Int) (hv : Valid t) (h : op < 0) :
    Calls Try.prog 59 #[.agg #[.int .i64 t.facts, .slice Ai t.init.length ci, .slice Ag t.goal.length cg, .slice Ao t.ops.length co], .int .i64 op] w fun e w' => e = .returned (.agg #[.int .i64 3, .int .i64 (-6)]) ∧ Below w.heap.size w w' := by
  have HT0 := Lib.hid (tfault_valid hv)
  clear hv
  have hd : decide (op < 0) = true := decide_eq_true h
  go_enter Try.func59, Try.ntmps59
  go_wp2_with fail
  refine (validate_any _ _ _ _ _ _ _ _ (hT.below (by repeat (first | with_reducible exact Below.refl _ _ | with_reducible apply bdrew | with_reducible apply bdrewN | with_reducible apply balloc | ((with_reducible refine bset ?_ ?_ _); rotate_left; (first | omega | (simp <;> omega))))))).mono ?_
  rintro e w1 ⟨he, hB1⟩
  rw [HT0.out] at he
  subst he
  have D1 := dstep w hB1 (by repeat (first | with_reducible exact Below.refl _ _ | with_reducible apply bdrew | with_reducible apply bdrewN | with_reducible apply balloc | ((with_reducible refine bset ?_ ?_ _); rotate_left; (first | omega | (simp <;> omega)))))
  have d1s := D1.size
  have C1 := Cls.below (l := [(w.heap.size, 0, .int .i64 t.facts), (w.heap.size, 1, .slice Ai t.init.length ci), (w.heap.size, 2, .slice Ag t.goal.length cg), (w.heap.size, 3, .slice Ao t.ops.length co), (w.heap.size + 1, 0, .int .i64 0), (w.heap.size + 1, 1, .int .i64 0)]) hB1 (by simp [Cls, go_sem])
  have F1 := C1
  simp only [Cls, and_true] at F1
  have y1w1 : w.heap.size + 1 < w1.heap.size := C1.blk (b := w.heap.size + 1) (k := 0) (v := .int .i64 0) (by simp)
  have y1w0 : w.heap.size < w1.heap.size := (by omega)
  have y1wp1 : w.heap.size < w1.heap.size + 1 := (by omega)
  have y1wp2 : w.heap.size < w1.heap.size + 1 + 1 := (by omega)
  go_wp2_with fail
  refine bodyPost_ret (v := .agg #[.int .i64 3, .int .i64 (-6)]) ?_ rfl ⟨rfl, by repeat (first | with_reducible exact D1 | with_reducible apply bdrew | with_reducible apply bdrewN | with_reducible apply balloc | ((with_reducible refine bset ?_ ?_ _); rotate_left; (first | omega | (simp <;> omega))))⟩
  simp [results, Try.results59, go_sem, F1, y1w1, y1w0, y1wp1, y1wp2]

set_option maxRecDepth 100000 in
set_option maxHeartbeats 1000000 in
theorem wop_3 (w : World) (t : TaskV) (Ai Ag Ao : Option Addr) (ci cg co : Nat) (hT : TaskMem w Ai Ag Ao t) (op : Int) (hv : Valid t) (h : 0 ≤ op) (h2 : (t.ops.length : Int) ≤ op) :
    Calls Try.prog 59 #[.agg #[.int .i64 t.facts, .slice Ai t.init.length ci, .slice Ag t.goal.length cg, .slice Ao t.ops.length co], .int .i64 op] w fun e w' => e = .returned (.agg #[.int .i64 3, .int .i64 (-6)]) ∧ Below w.heap.size w w' := by
  have HT0 := Lib.hid (tfault_valid hv)
  clear hv
  have hd : decide (op < 0) = false := by simpa using h
  have hn : ¬ op < 0 := by omega
  have hd2 : decide ((t.ops.length : Int) ≤ op) = true := decide_eq_true h2
  go_enter Try.func59, Try.ntmps59
  go_wp2_with fail
  refine (validate_any _ _ _ _ _ _ _ _ (hT.below (by repeat (first | with_reducible exact Below.refl _ _ | with_reducible apply bdrew | with_reducible apply bdrewN | with_reducible apply balloc | ((with_reducible refine bset ?_ ?_ _); rotate_left; (first | omega | (simp <;> omega))))))).mono ?_
  rintro e w1 ⟨he, hB1⟩
  rw [HT0.out] at he
  subst he
  have D1 := dstep w hB1 (by repeat (first | with_reducible exact Below.refl _ _ | with_reducible apply bdrew | with_reducible apply bdrewN | with_reducible apply balloc | ((with_reducible refine bset ?_ ?_ _); rotate_left; (first | omega | (simp <;> omega)))))
  have d1s := D1.size
  have C1 := Cls.below (l := [(w.heap.size, 0, .int .i64 t.facts), (w.heap.size, 1, .slice Ai t.init.length ci), (w.heap.size, 2, .slice Ag t.goal.length cg), (w.heap.size, 3, .slice Ao t.ops.length co), (w.heap.size + 1, 0, .int .i64 0), (w.heap.size + 1, 1, .int .i64 0)]) hB1 (by simp [Cls, go_sem])
  have F1 := C1
  simp only [Cls, and_true] at F1
  have y1w1 : w.heap.size + 1 < w1.heap.size := C1.blk (b := w.heap.size + 1) (k := 0) (v := .int .i64 0) (by simp)
  have y1w0 : w.heap.size < w1.heap.size := (by omega)
  have y1wp1 : w.heap.size < w1.heap.size + 1 := (by omega)
  have y1wp2 : w.heap.size < w1.heap.size + 1 + 1 := (by omega)
  go_wp2_with fail
  refine bodyPost_ret (v := .agg #[.int .i64 3, .int .i64 (-6)]) ?_ rfl ⟨rfl, by repeat (first | with_reducible exact D1 | with_reducible apply bdrew | with_reducible apply bdrewN | with_reducible apply balloc | ((with_reducible refine bset ?_ ?_ _); rotate_left; (first | omega | (simp <;> omega))))⟩
  simp [results, Try.results59, go_sem, F1, y1w1, y1w0, y1wp1, y1wp2]

set_option maxRecDepth 100000 in
set_option maxHeartbeats 1000000 in
theorem wop_4 (w : World) (t : TaskV) (Ai Ag Ao : Option Addr) (ci cg co : Nat) (hT : TaskMem w Ai Ag Ao t) (op : Int) (hv : Valid t) (h : 0 ≤ op) (h2 : op < (t.ops.length : Int)) :
    Calls Try.prog 59 #[.agg #[.int .i64 t.facts, .slice Ai t.init.length ci, .slice Ag t.goal.length cg, .slice Ao t.ops.length co], .int .i64 op] w fun e w' => e = .returned (.agg #[.int .i64 0, .int .i64 0]) ∧ Below w.heap.size w w' := by
  have HT0 := Lib.hid (tfault_valid hv)
  clear hv
  have hd : decide (op < 0) = false := by simpa using h
  have hn : ¬ op < 0 := by omega
  have hn2 : ¬ (t.ops.length : Int) ≤ op := by omega
  have hd2 : decide ((t.ops.length : Int) ≤ op) = false := by simpa using h2
  go_enter Try.func59, Try.ntmps59
  go_wp2_with fail
  refine (validate_any _ _ _ _ _ _ _ _ (hT.below (by repeat (first | with_reducible exact Below.refl _ _ | with_reducible apply bdrew | with_reducible apply bdrewN | with_reducible apply balloc | ((with_reducible refine bset ?_ ?_ _); rotate_left; (first | omega | (simp <;> omega))))))).mono ?_
  rintro e w1 ⟨he, hB1⟩
  rw [HT0.out] at he
  subst he
  have D1 := dstep w hB1 (by repeat (first | with_reducible exact Below.refl _ _ | with_reducible apply bdrew | with_reducible apply bdrewN | with_reducible apply balloc | ((with_reducible refine bset ?_ ?_ _); rotate_left; (first | omega | (simp <;> omega)))))
  have d1s := D1.size
  have C1 := Cls.below (l := [(w.heap.size, 0, .int .i64 t.facts), (w.heap.size, 1, .slice Ai t.init.length ci), (w.heap.size, 2, .slice Ag t.goal.length cg), (w.heap.size, 3, .slice Ao t.ops.length co), (w.heap.size + 1, 0, .int .i64 0), (w.heap.size + 1, 1, .int .i64 0)]) hB1 (by simp [Cls, go_sem])
  have F1 := C1
  simp only [Cls, and_true] at F1
  have y1w1 : w.heap.size + 1 < w1.heap.size := C1.blk (b := w.heap.size + 1) (k := 0) (v := .int .i64 0) (by simp)
  have y1w0 : w.heap.size < w1.heap.size := (by omega)
  have y1wp1 : w.heap.size < w1.heap.size + 1 := (by omega)
  have y1wp2 : w.heap.size < w1.heap.size + 1 + 1 := (by omega)
  go_wp2_with fail
  refine bodyPost_ret (v := .agg #[.int .i64 0, .int .i64 0]) ?_ rfl ⟨rfl, by repeat (first | with_reducible exact D1 | with_reducible apply bdrew | with_reducible apply bdrewN | with_reducible apply balloc | ((with_reducible refine bset ?_ ?_ _); rotate_left; (first | omega | (simp <;> omega))))⟩
  simp [results, Try.results59, go_sem, F1, y1w1, y1w0, y1wp1, y1wp2]

set_option maxRecDepth 100000 in
set_option maxHeartbeats 1000000 in
theorem forbid_bad (w : World) (t : TaskV) (Ai Ag Ao : Option Addr) (ci cg co : Nat) (hT : TaskMem w Ai Ag Ao t) (op x y : Int) (h : ¬ x = 0) (hw : ∀ w, TaskMem w Ai Ag Ao t → Calls Try.prog 59 #[.agg #[.int .i64 t.facts, .slice Ai t.init.length ci, .slice Ag t.goal.length cg, .slice Ao t.ops.length co], .int .i64 op] w fun e w' => e = .returned (.agg #[.int .i64 x, .int .i64 y]) ∧ Below w.heap.size w w') :
    Calls Try.prog 26 #[.agg #[.int .i64 t.facts, .slice Ai t.init.length ci, .slice Ag t.goal.length cg, .slice Ao t.ops.length co], .int .i64 op] w fun e w' => e = .returned (.tuple #[.agg #[.int .i64 0, .slice none 0 0, .slice none 0 0, .slice none 0 0], .agg #[.int .i64 x, .int .i64 y]]) ∧ Below w.heap.size w w' := by
  have N := bb_no h
  have N' := bn_yes h
  go_enter Try.func26, Try.ntmps26
  go_wp2_with fail
  refine (hw _ (hT.below (by repeat (first | with_reducible exact Below.refl _ _ | with_reducible apply bdrew | with_reducible apply bdrewN | with_reducible apply balloc | ((with_reducible refine bset ?_ ?_ _); rotate_left; (first | omega | (simp <;> omega))))))).mono ?_
  rintro e w1 ⟨rfl, hB1⟩
  have D1 := dstep w hB1 (by repeat (first | with_reducible exact Below.refl _ _ | with_reducible apply bdrew | with_reducible apply bdrewN | with_reducible apply balloc | ((with_reducible refine bset ?_ ?_ _); rotate_left; (first | omega | (simp <;> omega)))))
  have d1s := D1.size
  have C1 := Cls.below (l := [(w.heap.size, 0, .int .i64 t.facts), (w.heap.size, 1, .slice Ai t.init.length ci), (w.heap.size, 2, .slice Ag t.goal.length cg), (w.heap.size, 3, .slice Ao t.ops.length co), (w.heap.size + 1, 0, .int .i64 0), (w.heap.size + 1, 1, .slice none 0 0), (w.heap.size + 1, 2, .slice none 0 0), (w.heap.size + 1, 3, .slice none 0 0), (w.heap.size + 1 + 1, 0, .int .i64 0), (w.heap.size + 1 + 1, 1, .int .i64 0)]) hB1 (by simp [Cls, go_sem])
  have F1 := C1
  simp only [Cls, and_true] at F1
  have y1w2 : w.heap.size + 1 + 1 < w1.heap.size := C1.blk (b := w.heap.size + 1 + 1) (k := 0) (v := .int .i64 0) (by simp)
  have y1w1 : w.heap.size + 1 < w1.heap.size := (by omega)
  have y1w0 : w.heap.size < w1.heap.size := (by omega)
  have y1wp1 : w.heap.size < w1.heap.size + 1 := (by omega)
  have y1wp2 : w.heap.size < w1.heap.size + 1 + 1 := (by omega)
  go_wp2_with fail
  go_region
  all_goals (go_wp2_with fail)
  all_goals (refine bodyPost_ret (v := .tuple #[.agg #[.int .i64 0, .slice none 0 0, .slice none 0 0, .slice none 0 0], .agg #[.int .i64 x, .int .i64 y]]) ?_ rfl ⟨rfl, by repeat (first | with_reducible exact D1 | with_reducible apply bdrew | with_reducible apply bdrewN | with_reducible apply balloc | ((with_reducible refine bset ?_ ?_ _); rotate_left; (first | omega | (simp <;> omega))))⟩; simp [results, Try.results26, go_sem, F1, y1w2, y1w1, y1w0, y1wp1, y1wp2])

theorem forbid_1 (w : World) (t : TaskV) (Ai Ag Ao : Option Addr) (ci cg co : Nat) (hT : TaskMem w Ai Ag Ao t) (op : Int) (h : ¬ (tfault t).1 = 0) :
    Calls Try.prog 26 #[.agg #[.int .i64 t.facts, .slice Ai t.init.length ci, .slice Ag t.goal.length cg, .slice Ao t.ops.length co], .int .i64 op] w fun e w' => e = .returned (.tuple #[.agg #[.int .i64 0, .slice none 0 0, .slice none 0 0, .slice none 0 0], .agg #[.int .i64 (tfault t).1, .int .i64 (tfault t).2]]) ∧ Below w.heap.size w w' :=
  forbid_bad w t Ai Ag Ao ci cg co hT op _ _ h (fun w hT => wop_1 w t Ai Ag Ao ci cg co hT op h)
theorem forbid_2 (w : World) (t : TaskV) (Ai Ag Ao : Option Addr) (ci cg co : Nat) (hT : TaskMem w Ai Ag Ao t) (op : Int) (hv : Valid t) (h : ¬ (0 ≤ op ∧ op < (t.ops.length : Int))) :
    Calls Try.prog 26 #[.agg #[.int .i64 t.facts, .slice Ai t.init.length ci, .slice Ag t.goal.length cg, .slice Ao t.ops.length co], .int .i64 op] w fun e w' => e = .returned (.tuple #[.agg #[.int .i64 0, .slice none 0 0, .slice none 0 0, .slice none 0 0], .agg #[.int .i64 3, .int .i64 (-6)]]) ∧ Below w.heap.size w w' :=
  forbid_bad w t Ai Ag Ao ci cg co hT op _ _ (by omega) (fun w hT => by
    by_cases h0 : op < 0
    · exact wop_2 w t Ai Ag Ao ci cg co hT op hv h0
    · exact wop_3 w t Ai Ag Ao ci cg co hT op hv (by omega) (by omega))
set_option maxRecDepth 100000 in
set_option maxHeartbeats 2000000 in
theorem forbid_3 (w : World) (t : TaskV) (Ai Ag Ao : Option Addr) (ci cg co : Nat) (hT : TaskMem w Ai Ag Ao t) (hv : Valid t) (k : Nat) (hlt : k < t.ops.length) :
    Calls Try.prog 26 #[.agg #[.int .i64 t.facts, .slice Ai t.init.length ci, .slice Ag t.goal.length cg, .slice Ao t.ops.length co], .int .i64 (k : Int)] w fun e w' => ∃ u Ai' ci' Ag' cg' Ao' co', Hid (u = fbT t k) ∧ e = .returned (.tuple #[.agg #[.int .i64 u.facts, .slice Ai' u.init.length ci', .slice Ag' u.goal.length cg', .slice Ao' u.ops.length co'], .agg #[.int .i64 0, .int .i64 0]]) ∧ TaskMem w' Ai' Ag' Ao' u ∧ Below w.heap.size w w' := by
  have HV := Lib.hid hv
  have h40 := hv.nops
  have hl1 : t.init.length ≤ 1000000000000 := by have := SetP.length hv.init hv.f0; have := hv.f1; omega
  have hl2 : t.goal.length ≤ 1000000000000 := by have := SetP.length hv.goal hv.f0; have := hv.f1; omega
  have HOL := Lib.hid (valid_lens hv)
  have hlI : (k : Int) < (t.ops.length : Int) := by omega
  have hk0 : (0 : Int) ≤ (k : Int) := by omega
  clear hv
  go_enter Try.func26, Try.ntmps26
  go_wp2_with fail
  refine (wop_4 _ t Ai Ag Ao ci cg co (hT.below (by repeat (first | with_reducible exact Below.refl _ _ | with_reducible apply bdrew | with_reducible apply bdrewN | with_reducible apply balloc | ((with_reducible refine bset ?_ ?_ _); rotate_left; (first | omega | (simp <;> omega)))))) (k : Int) HV.out hk0 hlI).mono ?_
  rintro e w1 ⟨rfl, hB1⟩
  have D1 := dstep w hB1 (by repeat (first | with_reducible exact Below.refl _ _ | with_reducible apply bdrew | with_reducible apply bdrewN | with_reducible apply balloc | ((with_reducible refine bset ?_ ?_ _); rotate_left; (first | omega | (simp <;> omega)))))
  have d1s := D1.size
  have C1 := Cls.below (l := [(w.heap.size, 0, .int .i64 t.facts), (w.heap.size, 1, .slice Ai t.init.length ci), (w.heap.size, 2, .slice Ag t.goal.length cg), (w.heap.size, 3, .slice Ao t.ops.length co), (w.heap.size + 1, 0, .int .i64 0), (w.heap.size + 1, 1, .slice none 0 0), (w.heap.size + 1, 2, .slice none 0 0), (w.heap.size + 1, 3, .slice none 0 0), (w.heap.size + 1 + 1, 0, .int .i64 0), (w.heap.size + 1 + 1, 1, .int .i64 0)]) hB1 (by simp [Cls, go_sem])
  have F1 := C1
  simp only [Cls, and_true] at F1
  have y1w2 : w.heap.size + 1 + 1 < w1.heap.size := C1.blk (b := w.heap.size + 1 + 1) (k := 0) (v := .int .i64 0) (by simp)
  have y1w1 : w.heap.size + 1 < w1.heap.size := (by omega)
  have y1w0 : w.heap.size < w1.heap.size := (by omega)
  have y1wp1 : w.heap.size < w1.heap.size + 1 := (by omega)
  have y1wp2 : w.heap.size < w1.heap.size + 1 + 1 := (by omega)
  go_wp2_with fail
  refine (tclone_any _ t Ai Ag Ao ci cg co (hT.below (by repeat (first | with_reducible exact D1 | with_reducible apply bdrew | with_reducible apply bdrewN | with_reducible apply balloc | ((with_reducible refine bset ?_ ?_ _); rotate_left; (first | omega | (simp <;> omega)))))) hl1 hl2 HOL.out (by omega)).mono ?_
  rintro e w2 ⟨A1, c1, A2, c2, A3, c3, rfl, hF1, hF2, hO, hdis, hB2⟩
  have D2 := dstep w hB2 (by repeat (first | with_reducible exact D1 | with_reducible apply bdrew | with_reducible apply bdrewN | with_reducible apply balloc | ((with_reducible refine bset ?_ ?_ _); rotate_left; (first | omega | (simp <;> omega)))))
  have d2s := D2.size
  have C2 := Cls.below (l := [(w.heap.size, 0, .int .i64 t.facts), (w.heap.size, 1, .slice Ai t.init.length ci), (w.heap.size, 2, .slice Ag t.goal.length cg), (w.heap.size, 3, .slice Ao t.ops.length co), (w.heap.size + 1, 0, .int .i64 0), (w.heap.size + 1, 1, .slice none 0 0), (w.heap.size + 1, 2, .slice none 0 0), (w.heap.size + 1, 3, .slice none 0 0), (w.heap.size + 1 + 1, 0, .int .i64 0), (w.heap.size + 1 + 1, 1, .int .i64 0), (w1.heap.size, 0, .int .i64 0), (w1.heap.size, 1, .int .i64 0)]) hB2 (by simp [Cls, go_sem, F1, y1w2, y1w1, y1w0, y1wp1, y1wp2])
  have F2 := C2
  simp only [Cls, and_true] at F2
  have y2w2 : w.heap.size + 1 + 1 < w2.heap.size := C2.blk (b := w.heap.size + 1 + 1) (k := 0) (v := .int .i64 0) (by simp)
  have y2w1 : w.heap.size + 1 < w2.heap.size := (by omega)
  have y2w0 : w.heap.size < w2.heap.size := (by omega)
  have y2wp1 : w.heap.size < w2.heap.size + 1 := (by omega)
  have y2wp2 : w.heap.size < w2.heap.size + 1 + 1 := (by omega)
  have y2w10 : w1.heap.size < w2.heap.size := C2.blk (b := w1.heap.size) (k := 0) (v := .int .i64 0) (by simp)
  have y2w1p1 : w1.heap.size < w2.heap.size + 1 := (by omega)
  have y2w1p2 : w1.heap.size < w2.heap.size + 1 + 1 := (by omega)
  obtain ⟨g, cs, a, rfl, hg1, hg2, ha, hcl, hcs, hpa⟩ := OwnEs.at_ hO hlt
  clear hcs hpa hcl ha
  have hgd := hdis g rfl
  clear hdis
  have hgw : w.heap.size + 1 + 1 < g := by (simp at hg1; omega)
  have hg1' : w1.heap.size < g := by (simp at hg1; omega)
  obtain ⟨cells, h1, h2⟩ := (OwnOps.mono hO (by (first | omega | (simp <;> omega))) : OwnOps (w1.heap.size + 1) w2 _ _)
  have hone : ∀ u ∈ cells, u.oneCell' = true := ops_one h1.1 h2
  have hX1 := hF1.mono (B' := w1.heap.size + 1) (by (first | omega | (simp <;> omega)))
  have hX2 := hF2.mono (B' := w1.heap.size + 1) (by (first | omega | (simp <;> omega)))
  clear hF1 hF2 hO
  go_wp2_with fail
  refine (delete_any _ (w1.heap.size + 1) c3 g t.ops.length k cells (own_below h1 (by repeat (first | with_reducible exact Below.refl _ _ | with_reducible apply bdrew | with_reducible apply bdrewN | with_reducible apply balloc | ((with_reducible refine bset ?_ ?_ _); rotate_left; (first | omega | (simp <;> omega)))))) hone hlt).mono ?_
  rintro e w3 ⟨XS, rfl, hXX, hO3, hG3⟩
  have D3 : Below w.heap.size w w3 := Below.grown (by repeat (first | with_reducible exact D2 | with_reducible apply bdrew | with_reducible apply bdrewN | with_reducible apply balloc | ((with_reducible refine bset ?_ ?_ _); rotate_left; (first | omega | (simp <;> omega))))) hG3 (by (simp <;> omega)) (fun j hj => by (cases hj; omega))
  have C3 : Cls w3 [(w.heap.size, 0, .int .i64 t.facts), (w.heap.size, 1, .slice Ai t.init.length ci), (w.heap.size, 2, .slice Ag t.goal.length cg), (w.heap.size, 3, .slice Ao t.ops.length co), (w.heap.size + 1, 0, .int .i64 0), (w.heap.size + 1, 1, .slice none 0 0), (w.heap.size + 1, 2, .slice none 0 0), (w.heap.size + 1, 3, .slice none 0 0), (w.heap.size + 1 + 1, 0, .int .i64 0), (w.heap.size + 1 + 1, 1, .int .i64 0), (w1.heap.size, 0, .int .i64 0), (w1.heap.size, 1, .int .i64 0), (w2.heap.size, 0, .int .i64 t.facts), (w2.heap.size, 1, .slice A1 t.init.length c1), (w2.heap.size, 2, .slice A2 t.goal.length c2), (w2.heap.size, 3, .slice (some ⟨g, 0, none⟩) t.ops.length c3)] := Cls.grown_ne (by simp [Cls, go_sem, F2, y2w2, y2w1, y2w0, y2wp1, y2wp2, y2w10, y2w1p1, y2w1p2]) hG3 (by (intro x hx; simp at hx; rcases hx with rfl | rfl | rfl | rfl | rfl | rfl | rfl | rfl | rfl | rfl | rfl | rfl | rfl | rfl | rfl | rfl <;> simp <;> omega))
  have d3s := D3.size
  have hsz3 : w2.heap.size < w3.heap.size := by (have := hG3.size; simp at this; omega)
  have F3 := C3
  simp only [Cls, and_true] at F3
  have y3w2 : w.heap.size + 1 + 1 < w3.heap.size := C3.blk (b := w.heap.size + 1 + 1) (k := 0) (v := .int .i64 0) (by simp)
  have y3w1 : w.heap.size + 1 < w3.heap.size := (by omega)
  have y3w0 : w.heap.size < w3.heap.size := (by omega)
  have y3wp1 : w.heap.size < w3.heap.size + 1 := (by omega)
  have y3wp2 : w.heap.size < w3.heap.size + 1 + 1 := (by omega)
  have y3w10 : w1.heap.size < w3.heap.size := C3.blk (b := w1.heap.size) (k := 0) (v := .int .i64 0) (by simp)
  have y3w1p1 : w1.heap.size < w3.heap.size + 1 := (by omega)
  have y3w1p2 : w1.heap.size < w3.heap.size + 1 + 1 := (by omega)
  have y3w20 : w2.heap.size < w3.heap.size := C3.blk (b := w2.heap.size) (k := 0) (v := .int .i64 t.facts) (by simp)
  have y3w2p1 : w2.heap.size < w3.heap.size + 1 := (by omega)
  have y3w2p2 : w2.heap.size < w3.heap.size + 1 + 1 := (by omega)
  have hlE : (fbT t k).ops.length = t.ops.length - 1 := by
    show (t.ops.eraseIdx k).length = _
    rw [List.length_eraseIdx, if_pos hlt]
  have HLE := Lib.hid hlE
  have hon : lenOk (fbT t k).ops.length := by rw [hlE]; exact Nat.le_trans (Nat.sub_le _ _) hT.lops
  have hG4 := box_grown (j := 3) hG3 (.slice (some ⟨g, 0, none⟩) (t.ops.length - 1) c3)
  have hO4 := own_away hO3 (p := ⟨w2.heap.size, 3, none⟩) (fun e => by (injection e with e; simp at e; omega)) (.slice (some ⟨g, 0, none⟩) (t.ops.length - 1) c3)
  have HTM : OwnT (w1.heap.size + 1) (w3.setCell ⟨w2.heap.size, 3, none⟩ (.slice (some ⟨g, 0, none⟩) (t.ops.length - 1) c3)) A1 A2 (some ⟨g, 0, none⟩) c1 c2 c3 (fbT t k) :=
    ⟨(hX1.below (bdrew (Below.refl _ _))).grown hG4 (fun ad he e => hgd.1 ad he (by injection e)), (hX2.below (bdrew (Below.refl _ _))).grown hG4 (fun ad he e => hgd.2 ad he (by injection e)), by
      rw [hlE]
      exact OwnOps.delete rfl hlt (World.ownsRow.drew h1) (fun i a ha => (pop_stable _).below (h2 i a ha) (bdrew (Below.refl _ _))) hXX hO4 hG4⟩
  have hb1 : w.heap.size + 1 < w1.heap.size + 1 := by omega
  have hb2 : w.heap.size + 1 + 1 < w1.heap.size + 1 := by omega
  clear hlE hX1 hX2 hO3 hO4 hG4 hG3 hXX h1 h2 hone
  go_wp2_with fail
  refine bodyPost_ret (v := .tuple #[.agg #[.int .i64 t.facts, .slice A1 t.init.length c1, .slice A2 t.goal.length c2, .slice (some ⟨g, 0, none⟩) (t.ops.length - 1) c3], .agg #[.int .i64 0, .int .i64 0]]) ?_ rfl ⟨fbT t k, A1, c1, A2, c2, some ⟨g, 0, none⟩, c3, Lib.hid rfl, (by rw [HLE.out]; rfl), OwnT.mem (base := w1.heap.size + 1) ((((((HTM.far (p := ⟨w.heap.size + 1, 0, none⟩) hb1 _).far (p := ⟨w.heap.size + 1, 1, none⟩) hb1 _).far (p := ⟨w.heap.size + 1, 2, none⟩) hb1 _).far (p := ⟨w.heap.size + 1, 3, none⟩) hb1 _).far (p := ⟨w.heap.size + 1 + 1, 0, none⟩) hb2 _).far (p := ⟨w.heap.size + 1 + 1, 1, none⟩) hb2 _) (fb_lens (fun o ho => by have := HOL.out o ho; simp only [lenOk]; omega)) hT.linit hT.lgoal hon, by repeat (first | with_reducible exact D3 | with_reducible apply bdrew | with_reducible apply bdrewN | with_reducible apply balloc | ((with_reducible refine bset ?_ ?_ _); rotate_left; (first | omega | (simp <;> omega))))⟩
  simp [results, Try.results26, go_sem, F3, y3w2, y3w1, y3w0, y3wp1, y3wp2, y3w10, y3w1p1, y3w1p2, y3w20, y3w2p1, y3w2p2]


end Go.Proofs.Ytiaokmofoaeifaa
