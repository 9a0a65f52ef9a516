/-
  An additional row does not increase the value.
-/
import Derived.Test.YtkepfmglljkjhaaK11
import Derived.Test.YtkepfmglljkjhaaK10
import Derived.Test.YtkepfmglljkjhaaK6
import Derived.Test.YtkepfmglljkjhaaK3
import Derived.Test.YtkepfmglljkjhaaK13
import Derived.Test.YtkepfmglljkjhaaK2
import Derived.Test.YtkepfmglljkjhaaK14
namespace Go.Proofs.Ytkepfmglljkjhaa
open Go.RowKit
set_option linter.unusedVariables false
set_option linter.unusedSimpArgs false

theorem SolOut.st {P : LA.LP} {st num den dx dy dr : Int} {x y r : List Int} (h : SolOut P st num den x dx y dy r dr) : st = 1 ∨ st = 2 ∨ st = 3 := by
  rcases h with ⟨h, _⟩ | ⟨h, _⟩ | ⟨h, _⟩ <;> omega
theorem SolOut.opt {P : LA.LP} {num den dx dy dr : Int} {x y r : List Int} (h : SolOut P 1 num den x dx y dy r dr) : SolOpt P num den x dx y dy := by
  rcases h with h | ⟨h, _⟩ | ⟨h, _⟩
  · exact h.2.1
  · omega
  · omega
set_option maxRecDepth 100000 in
set_option maxHeartbeats 8000000 in
theorem walk_lmr (w : World) (AR AB AO : Option Addr) (cr cb co : Nat) (p : LpV) (hM : LpMem w AR AB AO p) (m mb n : Nat) (hrl : Hid (p.rows.length = m)) (hbl : Hid (p.bounds.length = mb)) (hol : Hid (p.obj.length = n)) (hNB : NilOk AB p.bounds cb) (hNR : AR = none → p.rows = [] ∧ cr = 0) (hm24 : m * 24 ≤ 140737488351232) (hb8 : mb * 8 ≤ 140737488351232) (R0 : Option Addr) (lr cz : Nat) (r : List Int) (hlr : Hid (r.length = lr)) (hIr : Ints w R0 r) (hNr : NilOk R0 r cz) (y : Int) :
    Calls Try.prog 6 #[.agg #[.slice AR m cr, .slice AB mb cb, .slice AO n co], .slice R0 lr cz, .int .i64 y] w fun e w' => e = .returned (.bool true) ∧ Below w.heap.size w w' := by
  have HM := Lib.hid hM
  have HNR := Lib.hid hNR
  have HNB := Lib.hid hNB
  have HIr := Lib.hid hIr
  have HNr := Lib.hid hNr
  have hl1 : (([] : List (List Int)).length + m) * 24 ≤ 140737488355328 := by simp; omega
  have hl2 : (p.rows.length + 1) * 24 ≤ 140737488355328 := by rw [hrl.out]; omega
  have hl3 : (([] : List Int).length + mb) * 8 ≤ 140737488355328 := by simp; omega
  have hl4 : (p.bounds.length + 1) * 8 ≤ 140737488355328 := by rw [hbl.out]; omega
  clear hM hNR hNB hIr hNr
  go_enter Try.func6, Try.ntmps6
  go_wp2_with fail
  refine (lnexample_any _).mono ?_
  rintro e w1 ⟨rfl, hB1⟩
  have D1 := dstep w hB1 (by repeat (first | with_reducible exact Below.refl _ _ | with_reducible apply bdrew | with_reducible apply bdrewN | with_reducible apply balloc | ((with_reducible refine bset ?_ ?_ _); rotate_left; (first | omega | (simp <;> omega)))))
  have d1s := D1.size
  have C1 := Cls.below (l := [(w.heap.size, 0, .slice AR m cr), (w.heap.size, 1, .slice AB mb cb), (w.heap.size, 2, .slice AO n co)]) hB1 (by simp [Cls, go_sem])
  have F1 := C1
  simp only [Cls, and_true] at F1
  have y1w0 : w.heap.size < w1.heap.size := C1.blk (b := w.heap.size) (k := 0) (v := .slice AR m cr) (by simp)
  have y1wp1 : w.heap.size < w1.heap.size + 1 := (by omega)
  have y1wp2 : w.heap.size < w1.heap.size + 1 + 1 := (by omega)
  have HL1 : Hid ((moreV p r y).rows.length = m + 1) := Lib.hid (by show (p.rows ++ [r]).length = _; rw [List.length_append, hrl.out]; rfl)
  have HL2 : Hid ((moreV p r y).bounds.length = mb + 1) := Lib.hid (by show (p.bounds ++ [y]).length = _; rw [List.length_append, hbl.out]; rfl)
  have HL3 : Hid ((moreV p r y).obj.length = n) := Lib.hid hol.out
  have d1s' := D1.size
  go_wp2_with fail
  go_upto_region 3 with fail
  go_cut [7] (fun v wx => ∃ (gq g cg : Nat) (A' : Option Addr) (ca : Nat), v = .pointer (some ⟨gq, 0, none⟩) ∧ w1.heap.size ≤ gq ∧ Hid (LpMem wx (some ⟨g, 0, none⟩) A' AO (moreV p r y)) ∧ Below w.heap.size w wx ∧ Cls wx ([(w.heap.size, 0, .slice AR m cr), (w.heap.size, 1, .slice AB mb cb), (w.heap.size, 2, .slice AO n co)] ++ [(gq, 0, .slice (some ⟨g, 0, none⟩) (m + 1) cg), (gq, 1, .slice A' (mb + 1) ca), (gq, 2, .slice AO n co)]))
  case first =>
    refine wp_region_held_drew (S := fun W => W.cell? ⟨w.heap.size, 0, none⟩ = some (.slice AR m cr) ∧ W.cell? ⟨w.heap.size, 1, none⟩ = some (.slice AB mb cb) ∧ W.cell? ⟨w.heap.size, 2, none⟩ = some (.slice AO n co)) (by kernel_rfl) (by simp [go_sem, F1, y1w0, y1wp1, y1wp2]) (fun hHeld => ?_)
    refine wpAnyH_take (i := 0) (v := ?vi10) rfl (by kernel_rfl) (by kernel_rfl) (by kernel_rfl) (fun _ _ _ h => h) (Or.inl ⟨by rfl, ?hi10⟩) (by assumption) ?ri10
    case hi10 => (intro w hSw; (try dsimp only at hSw); go_simp; (try with_reducible rfl))
    try simp only [Act.put, List.getElem_toArray, List.getElem_cons_succ, List.getElem_cons_zero, List.setIfInBounds_toArray, List.set_cons_zero, List.set_cons_succ]
    refine wpAnyH_take (i := 1) (v := ?vi11) rfl (by kernel_rfl) (by kernel_rfl) (by kernel_rfl) (fun _ _ _ h => h) (Or.inl ⟨by rfl, ?hi11⟩) (by assumption) ?ri11
    case hi11 => (intro w hSw; (try dsimp only at hSw); go_simp; (try with_reducible rfl))
    try simp only [Act.put, List.getElem_toArray, List.getElem_cons_succ, List.getElem_cons_zero, List.setIfInBounds_toArray, List.set_cons_zero, List.set_cons_succ]
    refine wpAnyH_take (i := 3) (v := ?vi13) rfl (by kernel_rfl) (by kernel_rfl) (by kernel_rfl) (fun _ _ _ h => h) (Or.inl ⟨by rfl, ?hi13⟩) (by assumption) ?ri13
    case hi13 => (intro w hSw; (try dsimp only at hSw); go_simp; (try with_reducible rfl))
    try simp only [Act.put, List.getElem_toArray, List.getElem_cons_succ, List.getElem_cons_zero, List.setIfInBounds_toArray, List.set_cons_zero, List.set_cons_succ]
    refine wpAnyH_take (i := 6) (v := ?vi16) rfl (by kernel_rfl) (by kernel_rfl) (by kernel_rfl) (fun _ _ _ h => h) (Or.inl ⟨by rfl, ?hi16⟩) (by assumption) ?ri16
    case hi16 => (intro w hSw; (try dsimp only at hSw); go_simp; (try with_reducible rfl))
    try simp only [Act.put, List.getElem_toArray, List.getElem_cons_succ, List.getElem_cons_zero, List.setIfInBounds_toArray, List.set_cons_zero, List.set_cons_succ]
    refine wpAnyH_take (i := 7) (v := ?vi17) rfl (by kernel_rfl) (by kernel_rfl) (by kernel_rfl) (fun _ _ _ h => h) (Or.inl ⟨by rfl, ?hi17⟩) (by assumption) ?ri17
    case hi17 => (intro w hSw; (try dsimp only at hSw); go_simp; (try with_reducible rfl))
    try simp only [Act.put, List.getElem_toArray, List.getElem_cons_succ, List.getElem_cons_zero, List.setIfInBounds_toArray, List.set_cons_zero, List.set_cons_succ]
    refine wpAnyH_take (i := 9) (v := ?vi19) rfl (by kernel_rfl) (by kernel_rfl) (by kernel_rfl) (fun _ _ _ h => h) (Or.inl ⟨by rfl, ?hi19⟩) (by assumption) ?ri19
    case hi19 => (intro w hSw; (try dsimp only at hSw); go_simp; (try with_reducible rfl))
    try simp only [Act.put, List.getElem_toArray, List.getElem_cons_succ, List.getElem_cons_zero, List.setIfInBounds_toArray, List.set_cons_zero, List.set_cons_succ]
    refine wpAnyH_take (i := 12) (v := ?vi112) rfl (by kernel_rfl) (by kernel_rfl) (by kernel_rfl) (fun _ _ _ h => h) (Or.inl ⟨by rfl, ?hi112⟩) (by assumption) ?ri112
    case hi112 => (intro w hSw; (try dsimp only at hSw); go_simp; (try with_reducible rfl))
    try simp only [Act.put, List.getElem_toArray, List.getElem_cons_succ, List.getElem_cons_zero, List.setIfInBounds_toArray, List.set_cons_zero, List.set_cons_succ]
    refine wpAnyH_take (i := 13) (v := ?vi113) rfl (by kernel_rfl) (by kernel_rfl) (by kernel_rfl) (fun _ _ _ h => h) (Or.inl ⟨by rfl, ?hi113⟩) (by assumption) ?ri113
    case hi113 => (intro w hSw; (try dsimp only at hSw); go_simp; (try with_reducible rfl))
    try simp only [Act.put, List.getElem_toArray, List.getElem_cons_succ, List.getElem_cons_zero, List.setIfInBounds_toArray, List.set_cons_zero, List.set_cons_succ]
    refine wpAnyH_start [16, 18, 19, 22, 24, 25, 28, 7] (LmrI w w1.heap.size p r y R0 lr cz m mb (.slice AO n co) [(w.heap.size, 0, .slice AR m cr), (w.heap.size, 1, .slice AB mb cb), (w.heap.size, 2, .slice AO n co)]) [2, 4, 5, 8, 10, 11, 14, 15, 16] (by kernel_rfl) (by kernel_rfl) (by kernel_rfl) (by kernel_rfl) ?starti1 hHeld ?stepsi1 ?donei1
    case starti1 => exact LmrI.start (by rintro k (rfl | rfl | rfl | rfl | rfl | rfl | rfl | rfl | rfl) <;> rfl) (by repeat (first | with_reducible exact D1 | with_reducible apply bdrew | with_reducible apply bdrewN | with_reducible apply balloc | ((with_reducible refine bset ?_ ?_ _); rotate_left; (first | omega | (simp <;> omega))))) y1w0 (by simp) (by simp [Cls, go_sem, F1, y1w0, y1wp1, y1wp2]) (by simp; omega)
    case stepsi1 =>
      refine StepsI.cons (i := 2) rfl (fun L vs W hL hD hI hS a ha K hK => ?si1x2) ?_
      case si1x2 =>
        obtain ⟨t16, t18, t19, t22, t24, t25, t28, t7, hvs⟩ := LmrI.form hI.out
        subst hvs
        simp only [puts, Act.put, List.getElem_toArray, List.getElem_cons_succ, List.getElem_cons_zero, List.setIfInBounds_toArray, List.set_cons_zero, List.set_cons_succ] at ha
        subst ha
        have hB := hI.out.base.1
        have hbs := hI.out.base.2.2.1
        have hbw := hI.out.base.2.1
        refine step_catL2 (Kb := w.heap.size) rfl (.const (.slice none 0 0)) (.tmp 15) rfl w1.heap.size (.slice none 0 0) [] rfl (OwnEs.nil _ _) AR cr m p.rows rfl hrl.out HNR.out (HM.out.rows.below hB) p.rows (List.nil_append _) (fun i q B cc hq hne hc => ⟨RowsRead.old HM.out.rows hB i q B cc hq hne hc, fun h => by cases h⟩) hl1 hbs ?_
        intro v' W' o' G q
        have hN := hI.out.op2 o' G (fun k hk => by rcases q with q | q <;> rw [q] at hk <;> cases hk; rfl)
        refine hK.out [v', t18, t19, t22, t24, t25, t28, t7] _ _ ?_ hN (by simp only [puts, Act.put, List.getElem_toArray, List.getElem_cons_succ, List.getElem_cons_zero, List.setIfInBounds_toArray, List.set_cons_zero, List.set_cons_succ])
        have hC := hN.base.2.2.2.1
        simp only [Cls, and_true] at hC
        simp [hC]
      refine StepsI.cons (i := 4) rfl (fun L vs W hL hD hI hS a ha K hK => ?si1x4) ?_
      case si1x4 =>
        obtain ⟨t16, t18, t19, t22, t24, t25, t28, t7, hvs⟩ := LmrI.form hI.out
        subst hvs
        simp only [puts, Act.put, List.getElem_toArray, List.getElem_cons_succ, List.getElem_cons_zero, List.setIfInBounds_toArray, List.set_cons_zero, List.set_cons_succ] at ha
        subst ha
        have hB := hI.out.base.1
        have hbs := hI.out.base.2.2.1
        have hbw := hI.out.base.2.1
        go_simp
        go_wp2_with fail
        have hN := hI.out.op4 23 rfl
        refine hK.out [t16, .slice (some ⟨W.heap.size, 0, none⟩) 1 1, t19, t22, t24, t25, t28, t7] _ _ ?_ hN (by simp only [puts, Act.put, List.getElem_toArray, List.getElem_cons_succ, List.getElem_cons_zero, List.setIfInBounds_toArray, List.set_cons_zero, List.set_cons_succ])
        have hC := hN.base.2.2.2.1
        simp only [Cls, and_true] at hC
        simp [hC]
      refine StepsI.cons (i := 5) rfl (fun L vs W hL hD hI hS a ha K hK => ?si1x5) ?_
      case si1x5 =>
        obtain ⟨t16, t18, t19, t22, t24, t25, t28, t7, hvs⟩ := LmrI.form hI.out
        subst hvs
        simp only [puts, Act.put, List.getElem_toArray, List.getElem_cons_succ, List.getElem_cons_zero, List.setIfInBounds_toArray, List.set_cons_zero, List.set_cons_succ] at ha
        subst ha
        have hB := hI.out.base.1
        have hbs := hI.out.base.2.2.1
        have hbw := hI.out.base.2.1
        have h2 : L 2 = true := hD.out 2 (by kernel_rfl)
        have h4 : L 4 = true := hD.out 4 (by kernel_rfl)
        have h5 : L 5 = false := hL.out
        obtain ⟨o2, b4, rfl, c4, hne⟩ := hI.out.at5 h2 h4 h5
        refine step_catL2 (Kb := w.heap.size) rfl (.tmp 16) (.tmp 18) rfl w1.heap.size t16 p.rows rfl o2 (some ⟨b4, 0, none⟩) 1 1 [r] rfl rfl (fun h => by cases h) (one_read hlr.out c4 (HIr.out.below hB) HNr.out) (p.rows ++ [r]) rfl (fun i q B cc hq hne2 hc => by have h := one_far (w := w) (w' := W) (R0 := R0) (lr := lr) (cz := cz) c4 HIr.out i q B cc hq hne2 hc; exact ⟨h, fun e => by have := (o2.blk _ e.symm).1; omega⟩) hl2 hbs ?_
        intro v' W' o' G q
        have hN := hI.out.op5 h2 h5 hrl.out o' G q
        refine hK.out [t16, .slice (some ⟨b4, 0, none⟩) 1 1, v', t22, t24, t25, t28, t7] _ _ ?_ hN (by simp only [puts, Act.put, List.getElem_toArray, List.getElem_cons_succ, List.getElem_cons_zero, List.setIfInBounds_toArray, List.set_cons_zero, List.set_cons_succ])
        have hC := hN.base.2.2.2.1
        simp only [Cls, and_true] at hC
        simp [hC]
      refine StepsI.cons (i := 8) rfl (fun L vs W hL hD hI hS a ha K hK => ?si1x8) ?_
      case si1x8 =>
        obtain ⟨t16, t18, t19, t22, t24, t25, t28, t7, hvs⟩ := LmrI.form hI.out
        subst hvs
        simp only [puts, Act.put, List.getElem_toArray, List.getElem_cons_succ, List.getElem_cons_zero, List.setIfInBounds_toArray, List.set_cons_zero, List.set_cons_succ] at ha
        subst ha
        have hB := hI.out.base.1
        have hbs := hI.out.base.2.2.1
        have hbw := hI.out.base.2.1
        refine step_catI2 rfl (.const (.slice none 0 0)) (.tmp 21) rfl w1.heap.size (.slice none 0 0) [] rfl (OwnI.nil _ _) AB cb mb p.bounds rfl hbl.out (fun h => (HNB.out.1 h).2) (HM.out.bounds.below hB) p.bounds (List.nil_append _) hl3 hbs ?_
        intro v' W' o' G q
        have hN := hI.out.op8 o' G (fun k hk => by rcases q with q | q <;> rw [q] at hk <;> cases hk; rfl)
        refine hK.out [t16, t18, t19, v', t24, t25, t28, t7] _ _ ?_ hN (by simp only [puts, Act.put, List.getElem_toArray, List.getElem_cons_succ, List.getElem_cons_zero, List.setIfInBounds_toArray, List.set_cons_zero, List.set_cons_succ])
        have hC := hN.base.2.2.2.1
        simp only [Cls, and_true] at hC
        simp [hC]
      refine StepsI.cons (i := 10) rfl (fun L vs W hL hD hI hS a ha K hK => ?si1x10) ?_
      case si1x10 =>
        obtain ⟨t16, t18, t19, t22, t24, t25, t28, t7, hvs⟩ := LmrI.form hI.out
        subst hvs
        simp only [puts, Act.put, List.getElem_toArray, List.getElem_cons_succ, List.getElem_cons_zero, List.setIfInBounds_toArray, List.set_cons_zero, List.set_cons_succ] at ha
        subst ha
        have hB := hI.out.base.1
        have hbs := hI.out.base.2.2.1
        have hbw := hI.out.base.2.1
        go_simp
        go_wp2_with fail
        have hN := hI.out.op10 3 rfl
        refine hK.out [t16, t18, t19, t22, .slice (some ⟨W.heap.size, 0, none⟩) 1 1, t25, t28, t7] _ _ ?_ hN (by simp only [puts, Act.put, List.getElem_toArray, List.getElem_cons_succ, List.getElem_cons_zero, List.setIfInBounds_toArray, List.set_cons_zero, List.set_cons_succ])
        have hC := hN.base.2.2.2.1
        simp only [Cls, and_true] at hC
        simp [hC]
      refine StepsI.cons (i := 11) rfl (fun L vs W hL hD hI hS a ha K hK => ?si1x11) ?_
      case si1x11 =>
        obtain ⟨t16, t18, t19, t22, t24, t25, t28, t7, hvs⟩ := LmrI.form hI.out
        subst hvs
        simp only [puts, Act.put, List.getElem_toArray, List.getElem_cons_succ, List.getElem_cons_zero, List.setIfInBounds_toArray, List.set_cons_zero, List.set_cons_succ] at ha
        subst ha
        have hB := hI.out.base.1
        have hbs := hI.out.base.2.2.1
        have hbw := hI.out.base.2.1
        have h8 : L 8 = true := hD.out 8 (by kernel_rfl)
        have h10 : L 10 = true := hD.out 10 (by kernel_rfl)
        have h11 : L 11 = false := hL.out
        obtain ⟨o8, b10, rfl, c10⟩ := hI.out.at11 h8 h10 h11
        have h14 := hI.out.no14 h11
        refine step_catI2 rfl (.tmp 22) (.tmp 24) rfl w1.heap.size t22 p.bounds rfl o8 (some ⟨b10, 0, none⟩) 1 1 [y] rfl rfl (fun h => by cases h) (one_int c10) (p.bounds ++ [y]) rfl hl4 hbs ?_
        intro v' W' o' G q
        have hN := hI.out.op11 h8 h11 h14 hbl.out o' G q
        refine hK.out [t16, t18, t19, t22, .slice (some ⟨b10, 0, none⟩) 1 1, v', t28, t7] _ _ ?_ hN (by simp only [puts, Act.put, List.getElem_toArray, List.getElem_cons_succ, List.getElem_cons_zero, List.setIfInBounds_toArray, List.set_cons_zero, List.set_cons_succ])
        have hC := hN.base.2.2.2.1
        simp only [Cls, and_true] at hC
        simp [hC]
      refine StepsI.cons (i := 14) rfl (fun L vs W hL hD hI hS a ha K hK => ?si1x14) ?_
      case si1x14 =>
        obtain ⟨t16, t18, t19, t22, t24, t25, t28, t7, hvs⟩ := LmrI.form hI.out
        subst hvs
        simp only [puts, Act.put, List.getElem_toArray, List.getElem_cons_succ, List.getElem_cons_zero, List.setIfInBounds_toArray, List.set_cons_zero, List.set_cons_succ] at ha
        subst ha
        have hB := hI.out.base.1
        have hbs := hI.out.base.2.2.1
        have hbw := hI.out.base.2.1
        have h5 : L 5 = true := hD.out 5 (by kernel_rfl)
        have h11 : L 11 = true := hD.out 11 (by kernel_rfl)
        have h14 : L 14 = false := hL.out
        obtain ⟨g, cg, A', ca, rfl, rfl⟩ := hI.out.at14 h5 h11
        go_simp
        go_wp2_with fail
        have hN := hI.out.op14 h5 h11 h14
        refine hK.out [t16, t18, .slice (some ⟨g, 0, none⟩) (m + 1) cg, t22, t24, .slice A' (mb + 1) ca, .agg #[.slice (some ⟨g, 0, none⟩) (m + 1) cg, .slice A' (mb + 1) ca, .slice AO n co], t7] _ _ ?_ hN (by simp only [puts, Act.put, List.getElem_toArray, List.getElem_cons_succ, List.getElem_cons_zero, List.setIfInBounds_toArray, List.set_cons_zero, List.set_cons_succ])
        have hC := hN.base.2.2.2.1
        simp only [Cls, and_true] at hC
        simp [hC]
      refine StepsI.cons (i := 15) rfl (fun L vs W hL hD hI hS a ha K hK => ?si1x15) ?_
      case si1x15 =>
        obtain ⟨t16, t18, t19, t22, t24, t25, t28, t7, hvs⟩ := LmrI.form hI.out
        subst hvs
        simp only [puts, Act.put, List.getElem_toArray, List.getElem_cons_succ, List.getElem_cons_zero, List.setIfInBounds_toArray, List.set_cons_zero, List.set_cons_succ] at ha
        subst ha
        have hB := hI.out.base.1
        have hbs := hI.out.base.2.2.1
        have hbw := hI.out.base.2.1
        have h15 : L 15 = false := hL.out
        go_simp
        go_wp2_with fail
        have hN := hI.out.op15 h15 25 rfl
        refine hK.out [t16, t18, t19, t22, t24, t25, t28, .pointer (some ⟨W.heap.size, 0, none⟩)] _ _ ?_ hN (by simp only [puts, Act.put, List.getElem_toArray, List.getElem_cons_succ, List.getElem_cons_zero, List.setIfInBounds_toArray, List.set_cons_zero, List.set_cons_succ])
        have hC := hN.base.2.2.2.1
        simp only [Cls, and_true] at hC
        simp [hC]
      refine StepsI.cons (i := 16) rfl (fun L vs W hL hD hI hS a ha K hK => ?si1x16) ?_
      case si1x16 =>
        obtain ⟨t16, t18, t19, t22, t24, t25, t28, t7, hvs⟩ := LmrI.form hI.out
        subst hvs
        simp only [puts, Act.put, List.getElem_toArray, List.getElem_cons_succ, List.getElem_cons_zero, List.setIfInBounds_toArray, List.set_cons_zero, List.set_cons_succ] at ha
        subst ha
        have hB := hI.out.base.1
        have hbs := hI.out.base.2.2.1
        have hbw := hI.out.base.2.1
        have h14 : L 14 = true := hD.out 14 (by kernel_rfl)
        have h15 : L 15 = true := hD.out 15 (by kernel_rfl)
        have h16 : L 16 = false := hL.out
        obtain ⟨gq, g, cg, A', ca, rfl, rfl, rfl, rfl, hC16, hnext⟩ := hI.out.op16 h14 h15 h16 rfl
        have F16 := hC16
        simp only [Cls, and_true] at F16
        go_simp
        go_wp2_with fail
        have hN := hnext
        refine hK.out [t16, t18, .slice (some ⟨g, 0, none⟩) (m + 1) cg, t22, t24, .slice A' (mb + 1) ca, .agg #[.slice (some ⟨g, 0, none⟩) (m + 1) cg, .slice A' (mb + 1) ca, .slice AO n co], .pointer (some ⟨gq, 0, none⟩)] _ _ ?_ hN (by simp only [puts, Act.put, List.getElem_toArray, List.getElem_cons_succ, List.getElem_cons_zero, List.setIfInBounds_toArray, List.set_cons_zero, List.set_cons_succ])
        have hC := hN.base.2.2.2.1
        simp only [Cls, and_true] at hC
        simp [hC]
      exact StepsI.nil
    case donei1 =>
      intro L vs W hall hI hS
      obtain ⟨t16, t18, t19, t22, t24, t25, t28, t7, hvs⟩ := LmrI.form hI
      subst hvs
      obtain ⟨gq, g, cg, A', ca, rfl, hq1, hR1, hI1, hB1, hC1⟩ := hI.done (fun k hk => hall k hk)
      clear hI hall
      simp only [puts]
      try simp only [Act.put, List.getElem_toArray, List.getElem_cons_succ, List.getElem_cons_zero, List.setIfInBounds_toArray, List.set_cons_zero, List.set_cons_succ]
      go_wp2_with fail
      go_meet
      case rel => exact ⟨gq, g, cg, A', ca, rfl, hq1, Lib.hid ⟨hR1, hI1, HM.out.obj.below hB1, by rw [HL1.out]; omega, by rw [HL2.out]; omega, HM.out.no⟩, hB1, hC1⟩
  case rest =>
    obtain ⟨w4, rfl⟩ : ∃ wo : World, wo = wc := ⟨_, rfl⟩
    obtain ⟨gq, g, cg, A', ca, rfl, hq1, HMQ, D4, C4⟩ := hcut
    have d4s := D4.size
    have C4 : Cls w4 [(w.heap.size, 0, .slice AR m cr), (w.heap.size, 1, .slice AB mb cb), (w.heap.size, 2, .slice AO n co), (gq, 0, .slice (some ⟨g, 0, none⟩) (m + 1) cg), (gq, 1, .slice A' (mb + 1) ca), (gq, 2, .slice AO n co)] := C4
    have F4 := C4
    simp only [Cls, and_true] at F4
    have y4gq0 : gq < w4.heap.size := C4.blk (b := gq) (k := 0) (v := .slice (some ⟨g, 0, none⟩) (m + 1) cg) (by simp)
    have y4gqp1 : gq < w4.heap.size + 1 := (by omega)
    have y4gqp2 : gq < w4.heap.size + 1 + 1 := (by omega)
    have y4w0 : w.heap.size < w4.heap.size := C4.blk (b := w.heap.size) (k := 0) (v := .slice AR m cr) (by simp)
    have y4wp1 : w.heap.size < w4.heap.size + 1 := (by omega)
    have y4wp2 : w.heap.size < w4.heap.size + 1 + 1 := (by omega)
    go_wp2_with fail
    refine (solve_any _ AR AB AO cr cb co p (HM.out.below (by repeat (first | with_reducible exact D4 | with_reducible apply bdrew | with_reducible apply bdrewN | with_reducible apply balloc | ((with_reducible refine bset ?_ ?_ _); rotate_left; (first | omega | (simp <;> omega)))))) m mb n hrl hbl hol).mono ?_
    rintro e w5 ⟨c5, c52, st5, num5, den5, dx5, dy5, dr5, Ax5, Ay5, Ar5, lx5, ly5, lr5, xs5, ys5, rs5, rfl, HF5, HL5, HZ5, HS5, HX5, hB5⟩
    have D5 := dstep w hB5 (by repeat (first | with_reducible exact D4 | with_reducible apply bdrew | with_reducible apply bdrewN | with_reducible apply balloc | ((with_reducible refine bset ?_ ?_ _); rotate_left; (first | omega | (simp <;> omega)))))
    have d5s := D5.size
    have C5 := Cls.below (l := [(w.heap.size, 0, .slice AR m cr), (w.heap.size, 1, .slice AB mb cb), (w.heap.size, 2, .slice AO n co), (gq, 0, .slice (some ⟨g, 0, none⟩) (m + 1) cg), (gq, 1, .slice A' (mb + 1) ca), (gq, 2, .slice AO n co)]) hB5 (by simp [Cls, go_sem, F4, y4gq0, y4gqp1, y4gqp2, y4w0, y4wp1, y4wp2])
    have F5 := C5
    simp only [Cls, and_true] at F5
    have y5gq0 : gq < w5.heap.size := C5.blk (b := gq) (k := 0) (v := .slice (some ⟨g, 0, none⟩) (m + 1) cg) (by simp)
    have y5gqp1 : gq < w5.heap.size + 1 := (by omega)
    have y5gqp2 : gq < w5.heap.size + 1 + 1 := (by omega)
    have y5w0 : w.heap.size < w5.heap.size := C5.blk (b := w.heap.size) (k := 0) (v := .slice AR m cr) (by simp)
    have y5wp1 : w.heap.size < w5.heap.size + 1 := (by omega)
    have y5wp2 : w.heap.size < w5.heap.size + 1 + 1 := (by omega)
    have E5 := dstep w4 hB5 (by repeat (first | with_reducible exact Below.refl _ _ | with_reducible apply bdrew | with_reducible apply bdrewN | with_reducible apply balloc | ((with_reducible refine bset ?_ ?_ _); rotate_left; (first | omega | (simp <;> omega)))))
    go_wp2_with fail
    refine (solve_any _ (some ⟨g, 0, none⟩) A' AO cg ca co (moreV p r y) (HMQ.out.below (by repeat (first | with_reducible exact E5 | with_reducible apply bdrew | with_reducible apply bdrewN | with_reducible apply balloc | ((with_reducible refine bset ?_ ?_ _); rotate_left; (first | omega | (simp <;> omega)))))) (m + 1) (mb + 1) n HL1 HL2 HL3).mono ?_
    rintro e w6 ⟨c6, c62, st6, num6, den6, dx6, dy6, dr6, Ax6, Ay6, Ar6, lx6, ly6, lr6, xs6, ys6, rs6, rfl, HF6, HL6, HZ6, HS6, HX6, hB6⟩
    have D6 := dstep w hB6 (by repeat (first | with_reducible exact D5 | with_reducible apply bdrew | with_reducible apply bdrewN | with_reducible apply balloc | ((with_reducible refine bset ?_ ?_ _); rotate_left; (first | omega | (simp <;> omega)))))
    have d6s := D6.size
    have Ew4_6 := dstep w4 hB6 (by repeat (first | with_reducible exact E5 | with_reducible apply bdrew | with_reducible apply bdrewN | with_reducible apply balloc | ((with_reducible refine bset ?_ ?_ _); rotate_left; (first | omega | (simp <;> omega)))))
    have C6 := Cls.below (l := [(w.heap.size, 0, .slice AR m cr), (w.heap.size, 1, .slice AB mb cb), (w.heap.size, 2, .slice AO n co), (gq, 0, .slice (some ⟨g, 0, none⟩) (m + 1) cg), (gq, 1, .slice A' (mb + 1) ca), (gq, 2, .slice AO n co), (w5.heap.size, 0, .int .i64 st5), (w5.heap.size, 1, .int .i64 num5), (w5.heap.size, 2, .int .i64 den5), (w5.heap.size, 3, .slice Ax5 lx5 lx5), (w5.heap.size, 4, .int .i64 dx5), (w5.heap.size, 5, .slice Ay5 ly5 ly5), (w5.heap.size, 6, .int .i64 dy5), (w5.heap.size, 7, .slice Ar5 lr5 lr5), (w5.heap.size, 8, .int .i64 dr5), (w5.heap.size + 1, 0, .int .i64 c5), (w5.heap.size + 1, 1, .int .i64 c52)]) hB6 (by simp [Cls, go_sem, F5, y5gq0, y5gqp1, y5gqp2, y5w0, y5wp1, y5wp2])
    have F6 := C6
    simp only [Cls, and_true] at F6
    have y6gq0 : gq < w6.heap.size := C6.blk (b := gq) (k := 0) (v := .slice (some ⟨g, 0, none⟩) (m + 1) cg) (by simp)
    have y6gqp1 : gq < w6.heap.size + 1 := (by omega)
    have y6gqp2 : gq < w6.heap.size + 1 + 1 := (by omega)
    have y6w0 : w.heap.size < w6.heap.size := C6.blk (b := w.heap.size) (k := 0) (v := .slice AR m cr) (by simp)
    have y6wp1 : w.heap.size < w6.heap.size + 1 := (by omega)
    have y6wp2 : w.heap.size < w6.heap.size + 1 + 1 := (by omega)
    have y6w51 : w5.heap.size + 1 < w6.heap.size := C6.blk (b := w5.heap.size + 1) (k := 0) (v := .int .i64 c5) (by simp)
    have y6w50 : w5.heap.size < w6.heap.size := (by omega)
    have y6w5p1 : w5.heap.size < w6.heap.size + 1 := (by omega)
    have y6w5p2 : w5.heap.size < w6.heap.size + 1 + 1 := (by omega)
    by_cases hc5 : c5 = 0
    · subst hc5
      have HOK : Hid (LpOk p) := Lib.hid (lpF_zero (by rw [HF5.out]))
      have HSO := Lib.hid (HS5.out rfl)
      clear HS5 HZ5 HF5 HX5 HL5
      by_cases hc6 : c6 = 0
      · subst hc6
        have HSO6 := Lib.hid (HS6.out rfl)
        clear HS6 HZ6 HF6 HX6 HL6
        have HPO := Lib.hid (LA.part_outcome (more_part HOK.out.b r y) HSO.out.out HSO6.out.out)
        rcases HSO.out.st with hst | hst | hst
        · subst hst
          have HO5 := Lib.hid HSO.out.opt
          rcases HPO.out.1 rfl with h6 | ⟨h6, hd5, hd6, hle⟩
          · subst h6
            clear HSO HSO6 HPO
            go_wp2
            refine bodyPost_ret (v := .bool true) ?_ rfl ⟨rfl, by repeat (first | with_reducible exact D6 | with_reducible apply bdrew | with_reducible apply bdrewN | with_reducible apply balloc | ((with_reducible refine bset ?_ ?_ _); rotate_left; (first | omega | (simp <;> omega))))⟩
            simp [results, Try.results6, go_sem, F6, y6gq0, y6gqp1, y6gqp2, y6w0, y6wp1, y6wp2, y6w51, y6w50, y6w5p1, y6w5p2]
          · subst h6
            have HO6 := Lib.hid HSO6.out.opt
            have n5 := HO5.out.nle
            have d5 := HO5.out.dle
            have n6 := HO6.out.nle
            have d6 := HO6.out.dle
            have HV5 := Lib.hid (vcode_one (n := num5) (d := den5) (by omega) HO5.out.cop)
            have HV6 := Lib.hid (vcode_one (n := num6) (d := den6) (by omega) HO6.out.cop)
            obtain ⟨sgn, hsg⟩ : ∃ z, Hid (sg (num6 * den5) (num5 * den6) = z) := ⟨_, Lib.hid rfl⟩
            have HOR : Hid (∀ W : World, Calls Try.prog 26 #[.agg #[.int .i64 num6, .int .i64 den6], .agg #[.int .i64 num5, .int .i64 den5]] W fun e w' => e = .returned (.int .i64 sgn) ∧ Below W.heap.size W w') := Lib.hid (fun W => by
              have h := order_any num6 den6 num5 den5 HV6.out HV5.out W
              rw [hsg.out] at h; exact h)
            have hs0 : sgn ≤ 0 := by
              rw [← hsg.out]
              unfold sg
              split
              · omega
              · split <;> omega
            have hsd : decide (sgn ≤ 0) = true := decide_eq_true hs0
            clear HSO HSO6 HPO n5 d5 n6 d6 hle hd5 hd6 hs0
            go_wp2_with fail
            refine (HOR.out _).mono ?_
            rintro e w7 ⟨rfl, hB7⟩
            have D7 := dstep w hB7 (by repeat (first | with_reducible exact D6 | with_reducible apply bdrew | with_reducible apply bdrewN | with_reducible apply balloc | ((with_reducible refine bset ?_ ?_ _); rotate_left; (first | omega | (simp <;> omega)))))
            have d7s := D7.size
            have Ew4_7 := dstep w4 hB7 (by repeat (first | with_reducible exact Ew4_6 | with_reducible apply bdrew | with_reducible apply bdrewN | with_reducible apply balloc | ((with_reducible refine bset ?_ ?_ _); rotate_left; (first | omega | (simp <;> omega)))))
            have C7 := Cls.below (l := [(w.heap.size, 0, .slice AR m cr), (w.heap.size, 1, .slice AB mb cb), (w.heap.size, 2, .slice AO n co), (gq, 0, .slice (some ⟨g, 0, none⟩) (m + 1) cg), (gq, 1, .slice A' (mb + 1) ca), (gq, 2, .slice AO n co), (w5.heap.size + 1, 0, .int .i64 0), (w5.heap.size + 1, 1, .int .i64 c52), (w6.heap.size + 1, 0, .int .i64 0), (w6.heap.size + 1, 1, .int .i64 c62), (w5.heap.size, 0, .int .i64 1), (w5.heap.size, 1, .int .i64 num5), (w5.heap.size, 2, .int .i64 den5), (w5.heap.size, 3, .slice Ax5 lx5 lx5), (w5.heap.size, 4, .int .i64 dx5), (w5.heap.size, 5, .slice Ay5 ly5 ly5), (w5.heap.size, 6, .int .i64 dy5), (w5.heap.size, 7, .slice Ar5 lr5 lr5), (w5.heap.size, 8, .int .i64 dr5), (w6.heap.size, 0, .int .i64 1), (w6.heap.size, 1, .int .i64 num6), (w6.heap.size, 2, .int .i64 den6), (w6.heap.size, 3, .slice Ax6 lx6 lx6), (w6.heap.size, 4, .int .i64 dx6), (w6.heap.size, 5, .slice Ay6 ly6 ly6), (w6.heap.size, 6, .int .i64 dy6), (w6.heap.size, 7, .slice Ar6 lr6 lr6), (w6.heap.size, 8, .int .i64 dr6)]) hB7 (by simp [Cls, go_sem, F6, y6gq0, y6gqp1, y6gqp2, y6w0, y6wp1, y6wp2, y6w51, y6w50, y6w5p1, y6w5p2])
            have F7 := C7
            simp only [Cls, and_true] at F7
            have y7gq0 : gq < w7.heap.size := C7.blk (b := gq) (k := 0) (v := .slice (some ⟨g, 0, none⟩) (m + 1) cg) (by simp)
            have y7gqp1 : gq < w7.heap.size + 1 := (by omega)
            have y7gqp2 : gq < w7.heap.size + 1 + 1 := (by omega)
            have y7w0 : w.heap.size < w7.heap.size := C7.blk (b := w.heap.size) (k := 0) (v := .slice AR m cr) (by simp)
            have y7wp1 : w.heap.size < w7.heap.size + 1 := (by omega)
            have y7wp2 : w.heap.size < w7.heap.size + 1 + 1 := (by omega)
            have y7w51 : w5.heap.size + 1 < w7.heap.size := C7.blk (b := w5.heap.size + 1) (k := 0) (v := .int .i64 0) (by simp)
            have y7w50 : w5.heap.size < w7.heap.size := (by omega)
            have y7w5p1 : w5.heap.size < w7.heap.size + 1 := (by omega)
            have y7w5p2 : w5.heap.size < w7.heap.size + 1 + 1 := (by omega)
            have y7w61 : w6.heap.size + 1 < w7.heap.size := C7.blk (b := w6.heap.size + 1) (k := 0) (v := .int .i64 0) (by simp)
            have y7w60 : w6.heap.size < w7.heap.size := (by omega)
            have y7w6p1 : w6.heap.size < w7.heap.size + 1 := (by omega)
            have y7w6p2 : w6.heap.size < w7.heap.size + 1 + 1 := (by omega)
            go_wp2
            refine bodyPost_ret (v := .bool true) ?_ rfl ⟨rfl, by repeat (first | with_reducible exact D7 | with_reducible apply bdrew | with_reducible apply bdrewN | with_reducible apply balloc | ((with_reducible refine bset ?_ ?_ _); rotate_left; (first | omega | (simp <;> omega))))⟩
            simp [results, Try.results6, go_sem, F7, y7gq0, y7gqp1, y7gqp2, y7w0, y7wp1, y7wp2, y7w51, y7w50, y7w5p1, y7w5p2, y7w61, y7w60, y7w6p1, y7w6p2]
        · subst hst
          obtain rfl : st6 = 2 := HPO.out.2.1 rfl
          clear HSO HSO6 HPO
          go_wp2
          refine bodyPost_ret (v := .bool true) ?_ rfl ⟨rfl, by repeat (first | with_reducible exact D6 | with_reducible apply bdrew | with_reducible apply bdrewN | with_reducible apply balloc | ((with_reducible refine bset ?_ ?_ _); rotate_left; (first | omega | (simp <;> omega))))⟩
          simp [results, Try.results6, go_sem, F6, y6gq0, y6gqp1, y6gqp2, y6w0, y6wp1, y6wp2, y6w51, y6w50, y6w5p1, y6w5p2]
        · subst hst
          have h60 := HPO.out.2.2
          have h61 : (st6 != 0) = true := by simpa using h60
          clear HSO HSO6 HPO
          go_wp2
          refine bodyPost_ret (v := .bool true) ?_ rfl ⟨rfl, by repeat (first | with_reducible exact D6 | with_reducible apply bdrew | with_reducible apply bdrewN | with_reducible apply balloc | ((with_reducible refine bset ?_ ?_ _); rotate_left; (first | omega | (simp <;> omega))))⟩
          simp [results, Try.results6, go_sem, F6, y6gq0, y6gqp1, y6gqp2, y6w0, y6wp1, y6wp2, y6w51, y6w50, y6w5p1, y6w5p2]
      · have c6b1 : (c6 == 0) = false := by simpa using hc6
        have c6b2 : (c6 != 0) = true := by simpa using hc6
        clear HS6 HZ6
        go_wp2
        refine bodyPost_ret (v := .bool true) ?_ rfl ⟨rfl, by repeat (first | with_reducible exact D6 | with_reducible apply bdrew | with_reducible apply bdrewN | with_reducible apply balloc | ((with_reducible refine bset ?_ ?_ _); rotate_left; (first | omega | (simp <;> omega))))⟩
        simp [results, Try.results6, go_sem, F6, y6gq0, y6gqp1, y6gqp2, y6w0, y6wp1, y6wp2, y6w51, y6w50, y6w5p1, y6w5p2]
    · obtain ⟨rfl, -⟩ := HZ5.out hc5
      have c5b1 : (c5 == 0) = false := by simpa using hc5
      have c5b2 : (c5 != 0) = true := by simpa using hc5
      clear HS5 HZ5
      go_wp2
      refine bodyPost_ret (v := .bool true) ?_ rfl ⟨rfl, by repeat (first | with_reducible exact D6 | with_reducible apply bdrew | with_reducible apply bdrewN | with_reducible apply balloc | ((with_reducible refine bset ?_ ?_ _); rotate_left; (first | omega | (simp <;> omega))))⟩
      simp [results, Try.results6, go_sem, F6, y6gq0, y6gqp1, y6gqp2, y6w0, y6wp1, y6wp2, y6w51, y6w50, y6w5p1, y6w5p2]


namespace linearMoreRows
open Go.ChangeShapes Go.WideShapes Go.ChangeAt Go.RowKit

set_option maxRecDepth 100000 in
theorem lifted (os : Os) (started : os.Started) (H : Type) (enc : TypeId × Value → H) :
    ReturnsInHanded {} Try.checked os 6 .any (Rows.linearMoreRowsSpec.pre6 enc Try.prog Try.f6 Rows.linearMoreRowsRow.domain false) (Rows.linearMoreRowsSpec.post enc Try.prog Try.f6 false true false false) := by
  refine returnsInHanded_of_change_sized (C := Try.checked) own_knob started (by kernel_rfl) Try.func6
    (ChangeSpec.witness6 (enc := enc) (C := Try.checked) false ⟨#[], #[.agg #[.slice none 0 0, .slice none 0 0, .slice none 0 0], .slice none 0 0, .int .i64 0], []⟩ 8 (by kernel_rfl) (by kernel_rfl) (by kernel_rfl) (by kernel_rfl)) ?_
  intro W base args ds gs before hval0 hW _ hwt hsz
  have hval : ∀ (j : Nat) t v, Try.f6.params[j]? = some t → args[j]? = some v → Value.okWide Try.prog W .any base t v := hval0
  have hpost := fun (W' : World) (hfn : gs = [] → Rows.linearMoreRowsSpec.fn H (ds ++ gs) = { results := [.lit (.bool true)], args := ds }) (hb : Below W.heap.size W W') => law_post (f := Try.f6) (tb := 4) laid_out_B Try.underlying4 rfl (by kernel_rfl) rfl hfn hW hb
  obtain ⟨p, q, hA0, hV, hpq, hfz, hnd⟩ := hW
  have hA : DataW.TrodAll enc Try.prog W 0 (fun _ => true) true Try.f6.params.toList args.toList ds p := hA0
  rw [Try.params6] at hA hval
  obtain ⟨v0, vs0, d0, ds0, p0, q0, hargs, rfl, hp0, h0, r0⟩ := trodAll_cons hA
  obtain ⟨v1, vs1, d1, ds1, p1, q1, rfl, rfl, hp1, h1, r1⟩ := trodAll_cons r0
  obtain ⟨v2, vs2, d2, ds2, p2, q2, rfl, rfl, hp2, h2, r2⟩ := trodAll_cons r1
  obtain ⟨rfl, rfl, hpn⟩ := trodAll_nil r2
  obtain rfl : args = #[v0, v1, v2] := by cases args; simp_all
  obtain ⟨p, AR, AB, AO, cr, cb, co, rfl, hM, hNR, hNB, hNO, d0', d1', d2', hde, hsz0, hsz1⟩ := open_lpS (hval 0 25 v0 rfl rfl) h0
  obtain ⟨Sz, csz, stz, rfl, hScz, hSlz, hSnnz, hSz, hSiz⟩ := open_intsW (hval 1 23 v1 rfl rfl) h1
  obtain ⟨y, rfl, rfl, rfl, w2⟩ := open_int Try.underlying3 (hval 2 3 v2 rfl rfl) h2
  have hroom := lp_room hwt (j := 0) (by rw [Try.params6]; rfl) rfl hde hsz0 hsz1
  refine (walk_lmr W AR AB AO cr cb co p hM p.rows.length p.bounds.length p.obj.length (Lib.hid rfl) (Lib.hid rfl) (Lib.hid rfl) hNB hNR.1 hroom.1 hroom.2 Sz stz.length csz stz (Lib.hid rfl) hSz ⟨hSnnz, hScz, hSlz⟩ y).mono fun e W' ⟨he, hb⟩ => ?_
  subst he
  exact ⟨_, rfl, hpost W' (fun hg => by subst hg; rfl) hb⟩

theorem closed : joinedFacts Try.checked.prog 6 Try.f6 Rows.linearMoreRowsSpec Rows.linearMoreRowsRow = true := by
  unfold joinedFacts
  rw [pf_enter, pf_lifts, pf_make]
  kernel_rfl
theorem proved : Rows.LinearMoreRowsSaid :=
  OpenClaim.holds_of_wide 6 Try.f6 rfl rfl rfl rfl rfl rfl rfl ⟨rfl, rfl, rfl, rfl, rfl⟩ rfl rfl rfl rfl rfl (by kernel_rfl) Try.func6 closed
    (of_decide_eq_true (by kernel_rfl)) (by unfold Func.isWrapper; first | (rw [if_pos (by decide +kernel)]; kernel_rfl) | (rw [if_neg (by decide +kernel)]; exact ⟨rfl, rfl⟩))
    (fun os started H enc _ => lifted os started H enc)
#print axioms proved
end linearMoreRows

end Go.Proofs.Ytkepfmglljkjhaa
