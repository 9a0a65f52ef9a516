/-
  helmsmanref3.RelaxedPlan: what it returns.
-/
import Derived.Test.YtihkgdlanfemcaaSo2
import Derived.Test.YtihkgdlanfemcaaLv2
import Derived.Test.YtihkgdlanfemcaaRxv
namespace Go.Proofs.Ytihkgdlanfemcaa
open Go.RowKit
set_option linter.unusedVariables false
set_option linter.unusedSimpArgs false

theorem iarr_cell {w : World} {g q : Nat} {xs : List Int} {y : Int} (h : IArr w g xs) (hv : valAt xs (q : Int) = y) (hl : q < xs.length) : w.cell? ⟨g, q, none⟩ = some (.int .i64 y) := by
  obtain ⟨z, hz, hzc, _⟩ := h.cell hl
  have h2 : valAt xs (q : Int) = z := valAt_of (by simpa using hz.out)
  have h3 : z = y := h2.symm.trans hv
  rw [← h3]; exact hzc
set_option maxRecDepth 100000 in
set_option maxHeartbeats 4000000 in
theorem rplan_any (w : World) (t : TaskV) (Ai Ag Ao : Option Addr) (ci cg co : Nat) (hT : TaskMem w Ai Ag Ao t) (S : Option Addr) (cs : Nat) (st : List Int) (hS : Ints w S st) (hnil : S = none → st = [] ∧ cs = 0) (n : Nat) (hn : t.facts = n) (hv : Valid t) (h2 : SetP st t.facts) :
    Calls Try.prog 32 #[.agg #[.int .i64 t.facts, .slice Ai t.init.length ci, .slice Ag t.goal.length cg, .slice Ao t.ops.length co], .slice S st.length cs] w fun e w' => ∃ v ok, e = .returned (.tuple #[v, .bool ok]) ∧ (ok = true ↔ ∀ q ∈ t.goal, 0 ≤ valAt (levV n st t.ops) q) ∧ OwnI w.heap.size w' v (if ok then planTo (levV n st t.ops) t.ops n t.goal else []) ∧ Below w.heap.size w w' := by
  have h40 := hv.nops
  have HN := Lib.hid hn
  have HV := Lib.hid hv
  have HG := Lib.hid (goal_in hv hn)
  have H2 := Lib.hid h2
  have hlg := hT.lgoal.le
  have HL := Lib.hid (levV_spec n st t.ops)
  clear hv h2 hn
  obtain ⟨V, hVe⟩ : ∃ V, Hid (levV n st t.ops = V) := ⟨_, Lib.hid rfl⟩
  rw [hVe.out] at HL ⊢
  go_enter Try.func32, Try.ntmps32
  go_wp2_with fail
  refine (levelsof_any _ t Ai Ag Ao ci cg co (hT.below (by repeat (first | with_reducible exact Below.refl _ _ | with_reducible apply bdrew | with_reducible apply bdrewN | with_reducible apply balloc | ((with_reducible refine bset ?_ ?_ _); rotate_left; (first | omega | (simp <;> omega)))))) _ _ _ (hS.below (by repeat (first | with_reducible exact Below.refl _ _ | with_reducible apply bdrew | with_reducible apply bdrewN | with_reducible apply balloc | ((with_reducible refine bset ?_ ?_ _); rotate_left; (first | omega | (simp <;> omega)))))) hnil n HN.out HV.out H2.out).mono ?_
  rintro e w1 ⟨gl, rfl, hgl, hA, hB1⟩
  have D1 := dstep w hB1 (by repeat (first | with_reducible exact Below.refl _ _ | with_reducible apply bdrew | with_reducible apply bdrewN | with_reducible apply balloc | ((with_reducible refine bset ?_ ?_ _); rotate_left; (first | omega | (simp <;> omega)))))
  have d1s := D1.size
  have C1 := Cls.below (l := [(w.heap.size, 0, .int .i64 t.facts), (w.heap.size, 1, .slice Ai t.init.length ci), (w.heap.size, 2, .slice Ag t.goal.length cg), (w.heap.size, 3, .slice Ao t.ops.length co)]) hB1 (by simp [Cls, go_sem])
  have F1 := C1
  simp only [Cls, and_true] at F1
  have y1w0 : w.heap.size < w1.heap.size := C1.blk (b := w.heap.size) (k := 0) (v := .int .i64 t.facts) (by simp)
  have y1wp1 : w.heap.size < w1.heap.size + 1 := (by omega)
  have y1wp2 : w.heap.size < w1.heap.size + 1 + 1 := (by omega)
  rw [hVe.out] at hA
  have hVl := HL.out.len
  have HVR := Lib.hid (fun q => levs_rng HL.out q)
  have hT1 := hT.below D1
  have hglb : ∀ wr : World, Below w1.heap.size w1 wr → IArr wr gl V := fun wr h => hA.below h
  go_wp2_with fail
  go_loopw [7, 8] (fun sv x wr => ∃ (j : Nat) (vj : Value), j ≤ t.goal.length ∧ x = .int .i64 j ∧ vj = sv ∧ OwnI w1.heap.size wr vj ((t.goal.take j).foldl (rpV V t.ops (n + 1)) []) ∧ Hid (PlanIn t.ops ((t.goal.take j).foldl (rpV V t.ops (n + 1)) [])) ∧ Hid (∀ q ∈ t.goal.take j, 0 ≤ valAt V q) ∧ Below w1.heap.size w1 wr ∧ Cls wr [(w.heap.size, 0, .int .i64 t.facts), (w.heap.size, 1, .slice Ai t.init.length ci), (w.heap.size, 2, .slice Ag t.goal.length cg), (w.heap.size, 3, .slice Ao t.ops.length co)]) (fun _ x _ => t.goal.length - (intOf x).toNat)
  case atStart => exact ⟨0, _, Nat.zero_le _, rfl, rfl, OwnI.nil _ _, Lib.hid ⟨List.nodup_nil, by simp⟩, Lib.hid (by simp), (by repeat (first | with_reducible exact Below.refl _ _ | with_reducible apply bdrew | with_reducible apply bdrewN | with_reducible apply balloc | ((with_reducible refine bset ?_ ?_ _); rotate_left; (first | omega | (simp <;> omega))))), (by simp [Cls, go_sem, F1, y1w0, y1wp1, y1wp2])⟩
  case round =>
    obtain ⟨j, vj, hj, rfl, rfl, hown, hpk, hall, hBr, hCr⟩ := hrel
    obtain ⟨w2, rfl⟩ : ∃ wo : World, wo = wr := ⟨_, rfl⟩
    obtain ⟨pj, hpj⟩ : ∃ l, Hid (((t.goal.take j).foldl (rpV V t.ops (n + 1)) []) = l) := ⟨_, Lib.hid rfl⟩
    rw [hpj.out] at hown hpk
    have drs := hBr.size
    have Fr := hCr
    simp only [Cls, and_true] at Fr
    have yrw0 : w.heap.size < w2.heap.size := hCr.blk (b := w.heap.size) (k := 0) (v := .int .i64 t.facts) (by simp)
    have yrwp1 : w.heap.size < w2.heap.size + 1 := (by omega)
    have yrwp2 : w.heap.size < w2.heap.size + 1 + 1 := (by omega)
    have DR := D1.trans (hBr.mono D1.size)
    by_cases hlj : j < t.goal.length
    · obtain ⟨qd, q, rfl, hq, hqc0⟩ := hT1.goal.at_ hlj
      have hqc := (hBr.cell (World.block_lt_of_cell? w1 _ hqc0)).trans hqc0
      have hqm := List.mem_of_getElem? hq.out
      obtain ⟨q0, q1⟩ := HG.out q hqm
      obtain ⟨q, rfl⟩ := Int.eq_ofNat_of_zero_le q0
      have hqn : q < n := by omega
      obtain ⟨y, hy, hyc, hyf⟩ := (hglb w2 hBr).cell (i := q) (by omega)
      have hva := Lib.hid (show valAt V (q : Int) = y from valAt_of (by simpa using hy.out))
      have hyr := HVR.out (q : Int)
      rw [hva.out] at hyr
      clear hy
      by_cases hy0 : y < 0
      · have HNO := Lib.hid (show ¬ ∀ q ∈ t.goal, 0 ≤ valAt V q from fun h => by have := h _ hqm; rw [hva.out] at this; omega)
        have hyd : decide (y < 0) = true := decide_eq_true hy0
        go_wp2_with fail
        refine bodyPost_ret (v := .tuple #[.slice none 0 0, .bool false]) ?_ rfl ⟨.slice none 0 0, false, rfl, ⟨fun h => (by cases h), fun h => absurd h HNO.out⟩, OwnI.nil _ _, by repeat (first | with_reducible exact DR | with_reducible apply bdrew | with_reducible apply bdrewN | with_reducible apply balloc | ((with_reducible refine bset ?_ ?_ _); rotate_left; (first | omega | (simp <;> omega))))⟩
        simp [results, Try.results32, go_sem]
      · have hyd : decide (y < 0) = false := decide_eq_false hy0
        have HQK := Lib.hid (show valAt V (q : Int) < ((n + 1 : Nat) : Int) by rw [hva.out]; omega)
        have HFS := Lib.hid (fold_succ (V := V) (ops := t.ops) (k := n + 1) (pl := []) hq.out)
        rw [hpj.out] at HFS
        have HOK2 := Lib.hid (planin_do HQK.out hpk.out)
        have HAL := Lib.hid (show ∀ x ∈ t.goal.take (j + 1), 0 ≤ valAt V x from fun x hx => by
          rw [List.take_add_one, hq.out] at hx
          rcases List.mem_append.1 hx with h | h
          · exact hall.out x h
          · have : x = (q : Int) := by simpa using h
            rw [this, hva.out]; omega)
        have HOW := Lib.hid hown
        have HNB := Lib.hid (fun kk (hk : vj.ownBlock = some kk) => show w1.heap.size ≤ kk from (hown.lt kk hk).1)
        clear hown
        go_wp2_with fail
        go_region_held3 (fun W => W.cell? ⟨w.heap.size, 0, none⟩ = some (.int .i64 t.facts) ∧ W.cell? ⟨w.heap.size, 1, none⟩ = some (.slice Ai t.init.length ci) ∧ W.cell? ⟨w.heap.size, 2, none⟩ = some (.slice (some qd) t.goal.length cg) ∧ W.cell? ⟨w.heap.size, 3, none⟩ = some (.slice Ao t.ops.length co) ∧ W.cell? (qd.add j) = some (.int .i64 (q : Int)) ∧ W.cell? ⟨gl, q, none⟩ = some (.int .i64 y)) (first | exact hK | go_keep) (first | (go_at_call 74; refine (achieved_any w1 t Ai (some qd) Ao ci cg co hT1 gl V hA n HN.out HV.out hVl HVR.out w1.heap.size (Nat.le_refl _) (n + 1) q _ vj pj hqn HQK.out (hBr.trans ((by repeat (first | with_reducible exact Below.refl _ _ | with_reducible apply bdrew | with_reducible apply bdrewN | with_reducible apply balloc | ((with_reducible refine bset ?_ ?_ _); rotate_left; (first | omega | (simp <;> omega)))) : Below w2.heap.size w2 _).mono hBr.size)) (HOW.out.below (by repeat (first | with_reducible exact Below.refl _ _ | with_reducible apply bdrew | with_reducible apply bdrewN | with_reducible apply balloc | ((with_reducible refine bset ?_ ?_ _); rotate_left; (first | omega | (simp <;> omega)))))) (by simp <;> omega) hpk.out).mono ?_; rintro e w3 ⟨v3, rfl, ho3, hG3, hs3⟩; have G23 := grown_trans (grown_of (by repeat (first | with_reducible exact Below.refl _ _ | with_reducible apply bdrew | with_reducible apply bdrewN | with_reducible apply balloc | ((with_reducible refine bset ?_ ?_ _); rotate_left; (first | omega | (simp <;> omega)))) : Below w2.heap.size w2 _) vj.ownBlock) hG3 (.inl rfl); have hB3 := hBr.grown G23 hBr.size HNB.out; have C3 := Cls.below (l := [(w.heap.size, 0, .int .i64 t.facts), (w.heap.size, 1, .slice Ai t.init.length ci), (w.heap.size, 2, .slice (some qd) t.goal.length cg), (w.heap.size, 3, .slice Ao t.ops.length co)]) hB3 C1; have F3 := C3; simp only [Cls, and_true] at F3; have hyq := (hB3.cell (World.block_lt_of_cell? w1 _ hqc0)).trans hqc0; have hyg := iarr_cell (hglb w3 hB3) hva.out (by omega); have hK : w3.cell? ⟨w.heap.size, 0, none⟩ = some (.int .i64 t.facts) ∧ w3.cell? ⟨w.heap.size, 1, none⟩ = some (.slice Ai t.init.length ci) ∧ w3.cell? ⟨w.heap.size, 2, none⟩ = some (.slice (some qd) t.goal.length cg) ∧ w3.cell? ⟨w.heap.size, 3, none⟩ = some (.slice Ao t.ops.length co) ∧ w3.cell? (qd.add j) = some (.int .i64 (q : Int)) ∧ w3.cell? ⟨gl, q, none⟩ = some (.int .i64 y) := (by simp [F3, hyq, hyg])))
        go_wp2
        go_roundw
        case rel => exact ⟨j + 1, v3, by omega, by go_num, rfl, by rw [HFS.out]; exact ho3, by rw [HFS.out]; exact HOK2, HAL, hB3, C3⟩
        case measure => simp [intOf]; omega
    · have hje := Lib.hid (show ((t.goal.take j).foldl (rpV V t.ops (n + 1)) []) = planTo V t.ops n t.goal by unfold planTo; rw [List.take_of_length_le (by omega)])
      rw [hpj.out] at hje
      have HALL := Lib.hid (show ∀ q ∈ t.goal, 0 ≤ valAt V q from fun q hq => hall.out q (by rw [List.take_of_length_le (by omega)]; exact hq))
      go_wp2_with fail
      refine bodyPost_ret (v := .tuple #[vj, .bool true]) ?_ rfl ⟨vj, true, rfl, ⟨fun _ => HALL.out, fun _ => rfl⟩, by rw [if_pos rfl, ← hje.out]; exact hown.mono D1.size, by repeat (first | with_reducible exact DR | with_reducible apply bdrew | with_reducible apply bdrewN | with_reducible apply balloc | ((with_reducible refine bset ?_ ?_ _); rotate_left; (first | omega | (simp <;> omega))))⟩
      simp [results, Try.results32, go_sem]


end Go.Proofs.Ytihkgdlanfemcaa
