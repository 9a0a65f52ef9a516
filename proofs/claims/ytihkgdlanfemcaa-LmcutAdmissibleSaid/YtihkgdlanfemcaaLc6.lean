/-
  lmcut.Cuts: what it returns; the example.
-/
import Derived.Test.YtihkgdlanfemcaaLc5
import Derived.Test.YtihkgdlanfemcaaMF
namespace Go.Proofs.Ytihkgdlanfemcaa
open Go.RowKit
set_option linter.unusedVariables false
set_option linter.unusedSimpArgs false

set_option maxRecDepth 100000 in
set_option maxHeartbeats 400000 in
theorem cuts_1 (w : World) (t : TaskV) (Ai Ag Ao : Option Addr) (ci cg co : Nat) (hT : TaskMem w Ai Ag Ao t) (S : Option Addr) (cs : Nat) (st : List Int) (hS : Ints w S st) (hls : lenOk st.length) (h : ¬ (sfault t st).1 = 0) :
    Calls Try.prog 45 #[.agg #[.int .i64 t.facts, .slice Ai t.init.length ci, .slice Ag t.goal.length cg, .slice Ao t.ops.length co], .slice S st.length cs] w fun e w' => e = .returned (.tuple #[.slice none 0 0, .int .i64 0, .agg #[.int .i64 (sfault t st).1, .int .i64 (sfault t st).2]]) ∧ Below w.heap.size w w' := by
  have N := bb_no h
  have N' := bn_yes h
  go_enter Try.func45, Try.ntmps45
  go_wp2_with fail
  refine (statefault_any _ _ _ _ _ _ _ _ (hT.below (by repeat (first | with_reducible exact Below.refl _ _ | with_reducible apply bdrew | with_reducible apply bdrewN | with_reducible apply balloc | ((with_reducible refine bset ?_ ?_ _); rotate_left; (first | omega | (simp <;> omega)))))) _ _ _ (hS.below (by repeat (first | with_reducible exact Below.refl _ _ | with_reducible apply bdrew | with_reducible apply bdrewN | with_reducible apply balloc | ((with_reducible refine bset ?_ ?_ _); rotate_left; (first | omega | (simp <;> omega)))))) hls).mono ?_
  rintro e w1 ⟨rfl, hB1⟩
  have D1 := dstep w hB1 (by repeat (first | with_reducible exact Below.refl _ _ | with_reducible apply bdrew | with_reducible apply bdrewN | with_reducible apply balloc | ((with_reducible refine bset ?_ ?_ _); rotate_left; (first | omega | (simp <;> omega)))))
  have d1s := D1.size
  have C1 := Cls.below (l := [(w.heap.size, 0, .int .i64 t.facts), (w.heap.size, 1, .slice Ai t.init.length ci), (w.heap.size, 2, .slice Ag t.goal.length cg), (w.heap.size, 3, .slice Ao t.ops.length co), (w.heap.size + 1, 0, .int .i64 0), (w.heap.size + 1, 1, .int .i64 0)]) hB1 (by simp [Cls, go_sem])
  have F1 := C1
  simp only [Cls, and_true] at F1
  have y1w1 : w.heap.size + 1 < w1.heap.size := C1.blk (b := w.heap.size + 1) (k := 0) (v := .int .i64 0) (by simp)
  have y1w0 : w.heap.size < w1.heap.size := (by omega)
  have y1wp1 : w.heap.size < w1.heap.size + 1 := (by omega)
  have y1wp2 : w.heap.size < w1.heap.size + 1 + 1 := (by omega)
  go_wp2_with fail
  refine region_still_tail 3 (by kernel_rfl) (by kernel_rfl) ?_
  simp only [List.take_succ_cons, List.take_zero, List.drop_succ_cons, List.drop_zero]
  repeat still_step
  refine wpStill_nil ?_
  go_wp2
  refine bodyPost_ret (v := .tuple #[.slice none 0 0, .int .i64 0, .agg #[.int .i64 (sfault t st).1, .int .i64 (sfault t st).2]]) ?_ rfl ⟨rfl, by repeat (first | with_reducible exact D1 | with_reducible apply bdrew | with_reducible apply bdrewN | with_reducible apply balloc | ((with_reducible refine bset ?_ ?_ _); rotate_left; (first | omega | (simp <;> omega))))⟩
  simp [results, Try.results45, go_sem, F1, y1w1, y1w0, y1wp1, y1wp2]

set_option maxRecDepth 100000 in
set_option maxHeartbeats 1000000 in
theorem cuts_yes (w : World) (t : TaskV) (Ai Ag Ao : Option Addr) (ci cg co : Nat) (hT : TaskMem w Ai Ag Ao t) (S : Option Addr) (cs : Nat) (st : List Int) (hS : Ints w S st) (hls : lenOk st.length) (n : Nat) (hn : t.facts = n) (hv : Valid t) (h2 : SetP st t.facts) (hre : GoalR t st) :
    Calls Try.prog 45 #[.agg #[.int .i64 t.facts, .slice Ai t.init.length ci, .slice Ag t.goal.length cg, .slice Ao t.ops.length co], .slice S st.length cs] w fun e w' => ∃ (v : Value) (xs : List (List Int × Int)) (bs : Nat), e = .returned (.tuple #[v, .int .i64 (totalOf xs), .agg #[.int .i64 0, .int .i64 0]]) ∧ w.heap.size ≤ bs ∧ OwnCs bs w' v xs ∧ CutsOk n st t.goal t.ops (t.ops.map (·.cost)) xs ∧ Best false n st t.ops (leftOf (t.ops.map (·.cost)) xs) (valuesV false n st t.ops (leftOf (t.ops.map (·.cost)) xs)) ∧ combV false (valuesV false n st t.ops (leftOf (t.ops.map (·.cost)) xs)) t.goal = 0 ∧ Below w.heap.size w w' := by
  have HN := Lib.hid hn
  have HV := Lib.hid hv
  have H2 := Lib.hid h2
  have HRE := Lib.hid hre
  clear hv h2 hn hre
  go_enter Try.func45, Try.ntmps45
  go_wp2_with fail
  refine (statefault_3 _ _ _ _ _ _ _ _ (hT.below (by repeat (first | with_reducible exact Below.refl _ _ | with_reducible apply bdrew | with_reducible apply bdrewN | with_reducible apply balloc | ((with_reducible refine bset ?_ ?_ _); rotate_left; (first | omega | (simp <;> omega)))))) _ _ _ (hS.below (by repeat (first | with_reducible exact Below.refl _ _ | with_reducible apply bdrew | with_reducible apply bdrewN | with_reducible apply balloc | ((with_reducible refine bset ?_ ?_ _); rotate_left; (first | omega | (simp <;> omega)))))) hls HV.out H2.out).mono ?_
  rintro e w1 ⟨rfl, hB1⟩
  have D1 := dstep w hB1 (by repeat (first | with_reducible exact Below.refl _ _ | with_reducible apply bdrew | with_reducible apply bdrewN | with_reducible apply balloc | ((with_reducible refine bset ?_ ?_ _); rotate_left; (first | omega | (simp <;> omega)))))
  have d1s := D1.size
  have C1 := Cls.below (l := [(w.heap.size, 0, .int .i64 t.facts), (w.heap.size, 1, .slice Ai t.init.length ci), (w.heap.size, 2, .slice Ag t.goal.length cg), (w.heap.size, 3, .slice Ao t.ops.length co), (w.heap.size + 1, 0, .int .i64 0), (w.heap.size + 1, 1, .int .i64 0)]) hB1 (by simp [Cls, go_sem])
  have F1 := C1
  simp only [Cls, and_true] at F1
  have y1w1 : w.heap.size + 1 < w1.heap.size := C1.blk (b := w.heap.size + 1) (k := 0) (v := .int .i64 0) (by simp)
  have y1w0 : w.heap.size < w1.heap.size := (by omega)
  have y1wp1 : w.heap.size < w1.heap.size + 1 := (by omega)
  have y1wp2 : w.heap.size < w1.heap.size + 1 + 1 := (by omega)
  go_wp2_with fail
  refine (find_yes _ t Ai Ag Ao ci cg co (hT.below (by repeat (first | with_reducible exact D1 | with_reducible apply bdrew | with_reducible apply bdrewN | with_reducible apply balloc | ((with_reducible refine bset ?_ ?_ _); rotate_left; (first | omega | (simp <;> omega)))))) S cs st (hS.below (by repeat (first | with_reducible exact D1 | with_reducible apply bdrew | with_reducible apply bdrewN | with_reducible apply balloc | ((with_reducible refine bset ?_ ?_ _); rotate_left; (first | omega | (simp <;> omega)))))) hls n HN.out HV.out H2.out HRE.out).mono ?_
  rintro e w2 ⟨v2, xs, bs, rfl, hbs, hcs, hok, hbest, hz, hB2⟩
  have D2 := dstep w hB2 (by repeat (first | with_reducible exact D1 | with_reducible apply bdrew | with_reducible apply bdrewN | with_reducible apply balloc | ((with_reducible refine bset ?_ ?_ _); rotate_left; (first | omega | (simp <;> omega)))))
  have d2s := D2.size
  have C2 := Cls.below (l := [(w.heap.size, 0, .int .i64 t.facts), (w.heap.size, 1, .slice Ai t.init.length ci), (w.heap.size, 2, .slice Ag t.goal.length cg), (w.heap.size, 3, .slice Ao t.ops.length co), (w.heap.size + 1, 0, .int .i64 0), (w.heap.size + 1, 1, .int .i64 0)]) hB2 (by simp [Cls, go_sem, F1, y1w1, y1w0, y1wp1, y1wp2])
  have F2 := C2
  simp only [Cls, and_true] at F2
  have y2w1 : w.heap.size + 1 < w2.heap.size := C2.blk (b := w.heap.size + 1) (k := 0) (v := .int .i64 0) (by simp)
  have y2w0 : w.heap.size < w2.heap.size := (by omega)
  have y2wp1 : w.heap.size < w2.heap.size + 1 := (by omega)
  have y2wp2 : w.heap.size < w2.heap.size + 1 + 1 := (by omega)
  have Hok := Lib.hid hok
  have Hbest := Lib.hid hbest
  have Hz := Lib.hid hz
  clear hok hbest hz
  have hbs' : w1.heap.size ≤ bs := Nat.le_trans (by simp) hbs
  clear hbs
  go_wp2
  refine bodyPost_ret (v := .tuple #[v2, .int .i64 (totalOf xs), .agg #[.int .i64 0, .int .i64 0]]) ?_ rfl ⟨v2, xs, bs, rfl, by omega, ?_, Hok.out, Hbest.out, Hz.out, by repeat (first | with_reducible exact D2 | with_reducible apply bdrew | with_reducible apply bdrewN | with_reducible apply balloc | ((with_reducible refine bset ?_ ?_ _); rotate_left; (first | omega | (simp <;> omega))))⟩
  · simp [results, Try.results45, go_sem, F2, y2w1, y2w0, y2wp1, y2wp2]
  · repeat (first | with_reducible exact hcs | (with_reducible refine OwnCs.far ?_ ?_ _; rotate_left; (first | omega | (simp <;> omega))) | with_reducible refine OwnCs.drew ?_)

set_option maxRecDepth 100000 in
set_option maxHeartbeats 1000000 in
theorem cuts_no (w : World) (t : TaskV) (Ai Ag Ao : Option Addr) (ci cg co : Nat) (hT : TaskMem w Ai Ag Ao t) (S : Option Addr) (cs : Nat) (st : List Int) (hS : Ints w S st) (hls : lenOk st.length) (n : Nat) (hn : t.facts = n) (hv : Valid t) (h2 : SetP st t.facts) (hre : ¬ GoalR t st) :
    Calls Try.prog 45 #[.agg #[.int .i64 t.facts, .slice Ai t.init.length ci, .slice Ag t.goal.length cg, .slice Ao t.ops.length co], .slice S st.length cs] w fun e w' => e = .returned (.tuple #[.slice none 0 0, .int .i64 1000000000, .agg #[.int .i64 0, .int .i64 0]]) ∧ Below w.heap.size w w' := by
  have HN := Lib.hid hn
  have HV := Lib.hid hv
  have H2 := Lib.hid h2
  have HRE := Lib.hid hre
  clear hv h2 hn hre
  go_enter Try.func45, Try.ntmps45
  go_wp2_with fail
  refine (statefault_3 _ _ _ _ _ _ _ _ (hT.below (by repeat (first | with_reducible exact Below.refl _ _ | with_reducible apply bdrew | with_reducible apply bdrewN | with_reducible apply balloc | ((with_reducible refine bset ?_ ?_ _); rotate_left; (first | omega | (simp <;> omega)))))) _ _ _ (hS.below (by repeat (first | with_reducible exact Below.refl _ _ | with_reducible apply bdrew | with_reducible apply bdrewN | with_reducible apply balloc | ((with_reducible refine bset ?_ ?_ _); rotate_left; (first | omega | (simp <;> omega)))))) hls HV.out H2.out).mono ?_
  rintro e w1 ⟨rfl, hB1⟩
  have D1 := dstep w hB1 (by repeat (first | with_reducible exact Below.refl _ _ | with_reducible apply bdrew | with_reducible apply bdrewN | with_reducible apply balloc | ((with_reducible refine bset ?_ ?_ _); rotate_left; (first | omega | (simp <;> omega)))))
  have d1s := D1.size
  have C1 := Cls.below (l := [(w.heap.size, 0, .int .i64 t.facts), (w.heap.size, 1, .slice Ai t.init.length ci), (w.heap.size, 2, .slice Ag t.goal.length cg), (w.heap.size, 3, .slice Ao t.ops.length co), (w.heap.size + 1, 0, .int .i64 0), (w.heap.size + 1, 1, .int .i64 0)]) hB1 (by simp [Cls, go_sem])
  have F1 := C1
  simp only [Cls, and_true] at F1
  have y1w1 : w.heap.size + 1 < w1.heap.size := C1.blk (b := w.heap.size + 1) (k := 0) (v := .int .i64 0) (by simp)
  have y1w0 : w.heap.size < w1.heap.size := (by omega)
  have y1wp1 : w.heap.size < w1.heap.size + 1 := (by omega)
  have y1wp2 : w.heap.size < w1.heap.size + 1 + 1 := (by omega)
  go_wp2_with fail
  refine (find_no _ t Ai Ag Ao ci cg co (hT.below (by repeat (first | with_reducible exact D1 | with_reducible apply bdrew | with_reducible apply bdrewN | with_reducible apply balloc | ((with_reducible refine bset ?_ ?_ _); rotate_left; (first | omega | (simp <;> omega)))))) S cs st (hS.below (by repeat (first | with_reducible exact D1 | with_reducible apply bdrew | with_reducible apply bdrewN | with_reducible apply balloc | ((with_reducible refine bset ?_ ?_ _); rotate_left; (first | omega | (simp <;> omega)))))) hls n HN.out HV.out H2.out HRE.out).mono ?_
  rintro e w2 ⟨rfl, hB2⟩
  have D2 := dstep w hB2 (by repeat (first | with_reducible exact D1 | with_reducible apply bdrew | with_reducible apply bdrewN | with_reducible apply balloc | ((with_reducible refine bset ?_ ?_ _); rotate_left; (first | omega | (simp <;> omega)))))
  have d2s := D2.size
  have C2 := Cls.below (l := [(w.heap.size, 0, .int .i64 t.facts), (w.heap.size, 1, .slice Ai t.init.length ci), (w.heap.size, 2, .slice Ag t.goal.length cg), (w.heap.size, 3, .slice Ao t.ops.length co), (w.heap.size + 1, 0, .int .i64 0), (w.heap.size + 1, 1, .int .i64 0)]) hB2 (by simp [Cls, go_sem, F1, y1w1, y1w0, y1wp1, y1wp2])
  have F2 := C2
  simp only [Cls, and_true] at F2
  have y2w1 : w.heap.size + 1 < w2.heap.size := C2.blk (b := w.heap.size + 1) (k := 0) (v := .int .i64 0) (by simp)
  have y2w0 : w.heap.size < w2.heap.size := (by omega)
  have y2wp1 : w.heap.size < w2.heap.size + 1 := (by omega)
  have y2wp2 : w.heap.size < w2.heap.size + 1 + 1 := (by omega)
  go_wp2
  refine bodyPost_ret (v := .tuple #[.slice none 0 0, .int .i64 1000000000, .agg #[.int .i64 0, .int .i64 0]]) ?_ rfl ⟨rfl, by repeat (first | with_reducible exact D2 | with_reducible apply bdrew | with_reducible apply bdrewN | with_reducible apply balloc | ((with_reducible refine bset ?_ ?_ _); rotate_left; (first | omega | (simp <;> omega))))⟩
  simp [results, Try.results45, go_sem, F2, y2w1, y2w0, y2wp1, y2wp2]


/-! ### The example -/
theorem two_best' (s : Bool) {a b : Int} (ha : 0 ≤ a ∧ a ≤ 100) (hb : 0 ≤ b ∧ b ≤ 100) : Best s 2 [] twoV.ops [a, b] [a, b] := by
  have e : ∀ (U : List Int) (o : OpV) (c : Int), o.pre = [] → 0 ≤ c → c ≤ 100 → opV s U o c = c := fun U o c h h0 h1 => by
    unfold opV; rw [h, combV_nil]; unfold plusV; (repeat split) <;> omega
  refine ⟨⟨⟨rfl, ?_, by simp⟩, ?_⟩, ?_⟩
  · intro v hv
    simp only [List.mem_cons, List.not_mem_nil, or_false] at hv
    unfold InV
    omega
  · intro i o c hi ho hc p hp
    match i, hi with
    | 0, _ =>
      cases ho; cases hc; simp at hp; subst hp
      rw [e _ _ _ rfl ha.1 ha.2]; exact Int.le_refl _
    | 1, _ =>
      cases ho; cases hc; simp at hp; subst hp
      rw [e _ _ _ rfl hb.1 hb.2]; exact Int.le_refl _
  · intro U hU p
    have h0 := hU.closed 0 _ _ (by decide) rfl rfl 0 (by simp)
    have h1 := hU.closed 1 _ _ (by decide) rfl rfl 1 (by simp)
    rw [e _ _ _ rfl ha.1 ha.2] at h0
    rw [e _ _ _ rfl hb.1 hb.2] at h1
    have hl := hU.shape.len
    unfold valAt at h0 h1 ⊢
    rcases Nat.lt_or_ge p.toNat 2 with hp | hp
    · rcases (by omega : p.toNat = 0 ∨ p.toNat = 1) with e | e
      · rw [e]; exact h0
      · rw [e]; exact h1
    · rw [List.getElem?_eq_none (by omega), List.getElem?_eq_none (by simpa using hp)]
      exact Int.le_refl _
theorem two_goal : GoalR twoV [] := fun q hq => by
  have hx : q = 0 ∨ q = 1 := by simpa [twoV] using hq
  rcases hx with rfl | rfl
  · exact .step (i := 0) (o := ⟨[], [0], [], 2⟩) rfl rfl (by simp) (by simp)
  · exact .step (i := 1) (o := ⟨[], [1], [], 3⟩) rfl rfl (by simp) (by simp)
/-- The cut of the hardest fact k with positive costs or with that of the other fact 0. -/
theorem two_cut {a b : Int} {k : Nat} (h : AtCut 2 [] [0, 1] twoV.ops [a, b] [a, b]) (hk : k < 2) (hh : hardV [a, b, 0] 2 [0, 1] = (k : Int)) (hc : ∀ c, [a, b][k]? = some c → 0 < c) : cutOf 2 [] [0, 1] twoV.ops [a, b] [a, b] = [(k : Int)] := by
  have hz : ∀ p, GR (ZS 2 [a, b, 0] [0, 1]) (ZE 2 [a, b, 0] twoV.ops [a, b]) p → p = (k : Int) := fun p hp => by
    induction hp with
    | start e => rw [show _ = _ from e]; exact hh
    | @step i p q _ hE ih =>
      obtain ⟨o, c, ho, hcc, hn, hp, _⟩ := hE
      subst ih
      have hi := (List.getElem?_eq_some_iff.1 ho).1
      exfalso
      match i, hi with
      | 0, _ => cases ho; simp at hp; have : k = 0 := by omega
                subst this; exact hn (hc c hcc)
      | 1, _ => cases ho; simp at hp; have : k = 1 := by omega
                subst this; exact hn (hc c hcc)
  refine SetP.ext (cutV_set (ops := twoV.ops)) (SetP.of_pairwise (n := 2) (by simp; omega) (by simp)) fun x => ?_
  constructor
  · intro hx
    have hx2 := hx
    obtain ⟨i, rfl, hi, _⟩ := cutTo_mem.1 hx
    obtain ⟨o, ho, _, p, hp, hzp⟩ := h.mem.1 hx2
    have e := hz p hzp
    match i, hi with
    | 0, _ => cases ho; simp at hp; simp; omega
    | 1, _ => cases ho; simp at hp; simp; omega
  · intro hx
    obtain rfl : x = (k : Int) := by simpa using hx
    have hzk : GR (ZS 2 [a, b, 0] [0, 1]) (ZE 2 [a, b, 0] twoV.ops [a, b]) (k : Int) := .start hh.symm
    match k, hk with
    | 0, _ => exact h.mem.2 ⟨⟨[], [0], [], 2⟩, rfl, .start (.inl rfl), 0, by simp, hzk⟩
    | 1, _ => exact h.mem.2 ⟨⟨[], [1], [], 3⟩, rfl, .start (.inl rfl), 1, by simp, hzk⟩
theorem two_cuts {xs : List (List Int × Int)} (h : CutsOk 2 [] twoV.goal twoV.ops (twoV.ops.map (·.cost)) xs)
    (hz : combV false (valuesV false 2 [] twoV.ops (leftOf (twoV.ops.map (·.cost)) xs)) twoV.goal = 0) : xs = [([1], 3), ([0], 2)] := by
  have hv : ∀ {a b : Int}, 0 ≤ a ∧ a ≤ 100 → 0 ≤ b ∧ b ≤ 100 → valuesV false 2 [] twoV.ops [a, b] = [a, b] := fun ha hb => (best_eq (two_best' false ha hb)).symm
  match xs, h, hz with
  | [], _, hz =>
    have hz2 : combV false (valuesV false 2 [] twoV.ops [2, 3]) [0, 1] = 0 := hz
    rw [hv (by omega) (by omega)] at hz2
    exact absurd hz2 (by decide)
  | x :: xs, h, hz =>
    obtain ⟨V, hA, hC, hc⟩ := (h 0 x rfl).ex
    have hA : AtCut 2 [] [0, 1] twoV.ops [2, 3] V := hA
    have e : V = [2, 3] := (best_eq hA.best).trans (hv (by omega) (by omega))
    subst e
    have e1 : x.1 = [1] := hC.trans (two_cut (k := 1) hA (by omega) rfl (fun c hc => by simp at hc; omega))
    have e2 : x.2 = 3 := by rw [hc, e1]; rfl
    have ex : x = ([1], 3) := Prod.ext e1 e2
    subst ex
    match xs, h, hz with
    | [], _, hz =>
      have hz2 : combV false (valuesV false 2 [] twoV.ops [2, 0]) [0, 1] = 0 := hz
      rw [hv (by omega) (by omega)] at hz2
      exact absurd hz2 (by decide)
    | y :: ys, h, hz =>
      obtain ⟨V, hA, hC, hc⟩ := (h 1 y rfl).ex
      have hA : AtCut 2 [] [0, 1] twoV.ops [2, 0] V := hA
      have e : V = [2, 0] := (best_eq hA.best).trans (hv (by omega) (by omega))
      subst e
      have e1 : y.1 = [0] := hC.trans (two_cut (k := 0) hA (by omega) rfl (fun c hc => by simp at hc; omega))
      have e2 : y.2 = 2 := by rw [hc, e1]; rfl
      have ey : y = ([0], 2) := Prod.ext e1 e2
      subst ey
      match ys, h with
      | [], _ => rfl
      | u :: us, h =>
        obtain ⟨V, hA, hC, hc⟩ := (h 2 u rfl).ex
        have hA : AtCut 2 [] [0, 1] twoV.ops [0, 0] V := hA
        have e : V = [0, 0] := (best_eq hA.best).trans (hv (by omega) (by omega))
        subst e
        exact absurd rfl hA.pos
theorem cuts_two (w : World) (g h : Nat) (hT : TaskMem w none (some ⟨g, 0, none⟩) (some ⟨h, 0, none⟩) twoV) :
    Calls Try.prog 45 #[.agg #[.int .i64 2, .slice none 0 0, .slice (some ⟨g, 0, none⟩) 2 2, .slice (some ⟨h, 0, none⟩) 2 2], .slice none 0 0] w fun e w' => ∃ A c, e = .returned (.tuple #[.slice A 2 c, .int .i64 5, .agg #[.int .i64 0, .int .i64 0]]) ∧ Below w.heap.size w w' := by
  have h1 := cuts_yes w twoV none (some ⟨g, 0, none⟩) (some ⟨h, 0, none⟩) 0 2 2 hT none 0 [] (Ints.nil _ _) (by simp [lenOk]) 2 rfl two_valid (SetP.nil _) two_goal
  refine h1.mono ?_
  rintro e w' ⟨v, xs, bs, rfl, hbs, hcs, hok, hb, hz, hB⟩
  obtain rfl := two_cuts hok hz
  obtain ⟨A, c, rfl⟩ := OwnEs.form hcs
  exact ⟨A, c, rfl, hB⟩
set_option maxRecDepth 100000 in
set_option maxHeartbeats 1000000 in
theorem mexample_any (w : World)  :
    Calls Try.prog 44 #[] w fun e w' => e = .returned (.bool true) ∧ Below w.heap.size w w' := by
  go_enter Try.func44, Try.ntmps44
  go_wp2_with fail
  refine (two_no _).mono ?_
  rintro e w1 ⟨g1, h1, rfl, hT1, hB1⟩
  have D1 := dstep w hB1 (by repeat (first | with_reducible exact Below.refl _ _ | with_reducible apply bdrew | with_reducible apply bdrewN | with_reducible apply balloc | ((with_reducible refine bset ?_ ?_ _); rotate_left; (first | omega | (simp <;> omega)))))
  have d1s := D1.size
  go_wp2_with fail
  refine (cuts_two _ _ _ (hT1.below (by repeat (first | with_reducible exact Below.refl _ _ | with_reducible apply bdrew | with_reducible apply bdrewN | with_reducible apply balloc | ((with_reducible refine bset ?_ ?_ _); rotate_left; (first | omega | (simp <;> omega))))))).mono ?_
  rintro e w2 ⟨A2, c2, rfl, hB2⟩
  have D2 := dstep w hB2 (by repeat (first | with_reducible exact D1 | with_reducible apply bdrew | with_reducible apply bdrewN | with_reducible apply balloc | ((with_reducible refine bset ?_ ?_ _); rotate_left; (first | omega | (simp <;> omega)))))
  have d2s := D2.size
  go_wp2
  go_ret
  exact ⟨rfl, by repeat (first | with_reducible exact D2 | with_reducible apply bdrew | with_reducible apply bdrewN | with_reducible apply balloc | ((with_reducible refine bset ?_ ?_ _); rotate_left; (first | omega | (simp <;> omega))))⟩


end Go.Proofs.Ytihkgdlanfemcaa
