/-
  R.Costs: what it returns.
  R.BestFrom, cost: what they return.
-/
import Derived.Test.YtihkgdlanfemcaaZ15
import Derived.Test.YtihkgdlanfemcaaZ8
namespace Go.Proofs.Ytihkgdlanfemcaa
open Go.RowKit
set_option linter.unusedVariables false
set_option linter.unusedSimpArgs false

theorem take_next_ {α : Type} {P : α → Prop} {l : List α} {k : Nat} {x : α} (hx : l[k]? = some x) (h : ∀ y ∈ l.take k, P y) (h1 : P x) : ∀ y ∈ l.take (k + 1), P y := fun y hy => by
  rw [List.take_add_one, hx] at hy
  rcases List.mem_append.1 hy with e | e
  · exact h y e
  · have : y = x := by simpa using e
    rw [this]; exact h1
def arcF (A : List (Nat × Nat × Int)) : List Int := A.map fun a => (a.1 : Int)
def arcT (A : List (Nat × Nat × Int)) : List Int := A.map fun a => (a.2.1 : Int)
def arcC (A : List (Nat × Nat × Int)) : List Int := A.map fun a => a.2.2
theorem arcF_len (A : List (Nat × Nat × Int)) : (arcF A).length = A.length := List.length_map _
theorem arcT_len (A : List (Nat × Nat × Int)) : (arcT A).length = A.length := List.length_map _
theorem arcC_len (A : List (Nat × Nat × Int)) : (arcC A).length = A.length := List.length_map _
theorem arcF_snoc (A : List (Nat × Nat × Int)) (k j : Nat) (c : Int) : arcF A ++ [(k : Int)] = arcF (A ++ [(k, j, c)]) := by simp [arcF]
theorem arcT_snoc (A : List (Nat × Nat × Int)) (k j : Nat) (c : Int) : arcT A ++ [(j : Int)] = arcT (A ++ [(k, j, c)]) := by simp [arcT]
theorem arcC_snoc (A : List (Nat × Nat × Int)) (k j : Nat) (c : Int) : arcC A ++ [c] = arcC (A ++ [(k, j, c)]) := by simp [arcC]
set_option maxRecDepth 100000 in
set_option maxHeartbeats 2000000 in
theorem costs_all (w : World) (t : TaskV) (Ai Ag Ao : Option Addr) (ci cg co : Nat) (hT : TaskMem w Ai Ag Ao t) (Al : Option Addr) (cl : Nat) (ls : List (List Int)) (hl : LLR w Al ls) (hll : ls.length ≤ 2000) (n : Nat) (hn : t.facts = n) (hv : Valid t) (hgo : ∀ q ∈ t.goal, 0 ≤ q ∧ q < (n : Int)) (hset : ∀ l ∈ ls, SetP l (n : Int)) :
    Calls Try.prog 83 #[.agg #[.int .i64 t.facts, .slice Ai t.init.length ci, .slice Ag t.goal.length cg, .slice Ao t.ops.length co], .slice Al ls.length cl] w fun e w' => ∃ v D, e = .returned v ∧ OwnI w.heap.size w' v D ∧ DOk n t.ops t.goal ls D ∧ Below w.heap.size w w' := by
  have HG := Lib.hid (fun q hq => hgo q hq : ∀ q ∈ t.goal, 0 ≤ q ∧ q < (n : Int))
  have HV := Lib.hid hv
  have HN := Lib.hid hn
  have h40 : t.ops.length ≤ 40 := hv.nops
  have h40b : t.ops.length ≤ 1000000 := by omega
  have hn24 : n ≤ 24 := by have := hv.f1; omega
  have hlg := hT.lgoal.le
  have HSET := Lib.hid hset
  clear hgo hv hn hset
  go_enter Try.func83, Try.ntmps83
  go_wp2_with fail
  go_loopw [5, 6, 7] (fun a b i wr => ∃ k : Nat, k ≤ ls.length ∧ i = .int .i64 k ∧ OwnL (w.heap.size + 1) wr [a, b] [startD t.goal (ls.take k), (ls.take k).map wordV] ∧ Below w.heap.size w wr ∧ Cls wr [(w.heap.size, 0, .int .i64 t.facts), (w.heap.size, 1, .slice Ai t.init.length ci), (w.heap.size, 2, .slice Ag t.goal.length cg), (w.heap.size, 3, .slice Ao t.ops.length co)]) (fun _ _ i _ => ls.length - (intOf i).toNat)
  case atStart => exact ⟨0, Nat.zero_le _, rfl, ((OwnL.nil _ _).more).more, (by repeat (first | with_reducible exact Below.refl _ _ | with_reducible apply bdrew | with_reducible apply bdrewN | with_reducible apply balloc | ((with_reducible refine bset ?_ ?_ _); rotate_left; (first | omega | (simp <;> omega))))), (by simp [Cls, go_sem])⟩
  case round =>
    obtain ⟨k, hk, rfl, hL, hBr, hCr⟩ := hrel
    obtain ⟨w1, rfl⟩ : ∃ wo : World, wo = wr := ⟨_, rfl⟩
    have drs := hBr.size
    have Fr := hCr
    simp only [Cls, and_true] at Fr
    have yrw0 : w.heap.size < w1.heap.size := hCr.blk (b := w.heap.size) (k := 0) (v := .int .i64 t.facts) (by simp)
    have yrwp1 : w.heap.size < w1.heap.size + 1 := (by omega)
    have yrwp2 : w.heap.size < w1.heap.size + 1 + 1 := (by omega)
    by_cases hlt : k < ls.length
    · obtain ⟨ad, r, Br, cr, rfl, hr, hrc, hrI⟩ := (hl.below hBr).at_ hlt
      have HRS := Lib.hid (HSET.out r (List.mem_of_getElem? hr.out))
      have hrl : r.length ≤ 9223372036854775807 := by have := SetP.length HRS.out (by omega); omega
      have HWS := Lib.hid (words_succ hr.out)
      have hlen1 : ((ls.take k).map wordV).length < 1000000000000 := by simp; omega
      have hlen2 : (startD t.goal (ls.take k)).length < 1000000000000 := by simp [startD]; omega
      go_wp2_with fail
      refine (word_any _ _ r _ (hrI.below (by repeat (first | with_reducible exact Below.refl _ _ | with_reducible apply bdrew | with_reducible apply bdrewN | with_reducible apply balloc | ((with_reducible refine bset ?_ ?_ _); rotate_left; (first | omega | (simp <;> omega)))))) n HRS.out hn24).mono ?_
      rintro e w9 ⟨rfl, hW9⟩
      rw [← hW9]
      clear hW9 w9
      go_wp2_with (at_builtin; go_must (refine wpList_push_at rfl (.tmp 23) (.tmp 29) rfl w [(w.heap.size, 0, .int .i64 t.facts), (w.heap.size, 1, .slice Ai t.init.length ci), (w.heap.size, 2, .slice Ag t.goal.length cg), (w.heap.size, 3, .slice Ao t.ops.length co)] (w.heap.size + 1) u6 ((ls.take k).map wordV) (wordV r) rfl (OwnI.below (hL.own 1 _ _ rfl rfl) ?p1) ⟨w1.heap.size, 0, none⟩ 1 rfl ?p2 hlen1 ?p3 ?p4 ?p5 ?p6 ?p7 ?_; (case p1 => repeat (first | with_reducible exact Below.refl _ _ | with_reducible apply bdrew | with_reducible apply bdrewN | with_reducible apply balloc | ((with_reducible refine bset ?_ ?_ _); rotate_left; (first | omega | (simp <;> omega))))); (case p2 => simp [go_sem]); (case p3 => (first | omega | (simp <;> omega))); (case p4 => (first | omega | (simp <;> omega))); (case p5 => repeat (first | with_reducible exact hBr | with_reducible apply bdrew | with_reducible apply bdrewN | with_reducible apply balloc | ((with_reducible refine bset ?_ ?_ _); rotate_left; (first | omega | (simp <;> omega))))); (case p6 => simp [Cls, go_sem, Fr, yrw0, yrwp1, yrwp2]); (case p7 => (simp <;> omega)); intro v2 w2 o2 D2 C2 sz2 G2 at2; have L2 := (OwnL.below hL (balloc (Below.refl _ _) : Below w1.heap.size w1 (w1.alloc (.cells #[.int .i64 (wordV r)] 3)))).push 1 rfl rfl o2 G2 at2; simp only [List.set_cons_zero, List.set_cons_succ] at L2; clear G2 at2 o2; have d2s := D2.size; have F2 := C2; simp only [Cls, and_true] at F2; have y2w0 : w.heap.size < w2.heap.size := C2.blk (b := w.heap.size) (k := 0) (v := .int .i64 t.facts) (by simp); have y2wp1 : w.heap.size < w2.heap.size + 1 := (by omega); have y2wp2 : w.heap.size < w2.heap.size + 1 + 1 := (by omega)))
      rw [HWS.out] at L2
      obtain ⟨ad2, r2, B2, c2, he2, hr2, hrc2, hrI2⟩ := (hl.below D2).at_ hlt
      obtain rfl := Option.some.inj he2
      obtain rfl : r = r2 := by have := hr2.out; rw [hr.out] at this; injection this
      clear he2 hr2
      by_cases hg : ∀ q ∈ t.goal, q ∈ r
      · have HGO := Lib.hid hg
        have HSD := Lib.hid (startD_yes hr.out hg)
        clear hg
        go_wp2_with fail
        go_quiet ((go_at_call 73; exact Calls.quiet_of_same ((subset_w' _ _ _ _ _ _ _ true (hT.goal.below (by repeat (first | with_reducible exact D2 | with_reducible apply bdrew | with_reducible apply bdrewN | with_reducible apply balloc | ((with_reducible refine bset ?_ ?_ _); rotate_left; (first | omega | (simp <;> omega)))))) (hrI2.below (by repeat (first | with_reducible exact Below.refl _ _ | with_reducible apply bdrew | with_reducible apply bdrewN | with_reducible apply balloc | ((with_reducible refine bset ?_ ?_ _); rotate_left; (first | omega | (simp <;> omega)))))) hlg hrl ⟨fun _ => rfl, fun _ => HGO.out⟩).mono fun _ _ h => ⟨h.1, h.2.symm⟩)))
        have hL2 := L2.below (by repeat (first | with_reducible exact Below.refl _ _ | with_reducible apply bdrew | with_reducible apply bdrewN | with_reducible apply balloc | ((with_reducible refine bset ?_ ?_ _); rotate_left; (first | omega | (simp <;> omega)))) : Below w2.heap.size w2 (w2.drewN nq))
        have DQ : Below w.heap.size w (w2.drewN nq) := by repeat (first | with_reducible exact D2 | with_reducible apply bdrew | with_reducible apply bdrewN | with_reducible apply balloc | ((with_reducible refine bset ?_ ?_ _); rotate_left; (first | omega | (simp <;> omega))))
        have CQ : Cls (w2.drewN nq) [(w.heap.size, 0, .int .i64 t.facts), (w.heap.size, 1, .slice Ai t.init.length ci), (w.heap.size, 2, .slice Ag t.goal.length cg), (w.heap.size, 3, .slice Ao t.ops.length co)] := Cls.below (w := w2) (by repeat (first | with_reducible exact Below.refl _ _ | with_reducible apply bdrew | with_reducible apply bdrewN | with_reducible apply balloc | ((with_reducible refine bset ?_ ?_ _); rotate_left; (first | omega | (simp <;> omega))))) C2
        obtain ⟨w3, hw3⟩ : ∃ wo : World, wo = w2.drewN nq := ⟨_, rfl⟩
        rw [← hw3] at hL2 DQ CQ ⊢
        clear hw3
        have dqs := DQ.size
        have Fq := CQ
        simp only [Cls, and_true] at Fq
        have yqw0 : w.heap.size < w3.heap.size := CQ.blk (b := w.heap.size) (k := 0) (v := .int .i64 t.facts) (by simp)
        have yqwp1 : w.heap.size < w3.heap.size + 1 := (by omega)
        have yqwp2 : w.heap.size < w3.heap.size + 1 + 1 := (by omega)
        go_wp2_with (at_builtin; go_must (refine wpList_push_at rfl (.tmp 38) (.tmp 39) rfl w [(w.heap.size, 0, .int .i64 t.facts), (w.heap.size, 1, .slice Ai t.init.length ci), (w.heap.size, 2, .slice Ag t.goal.length cg), (w.heap.size, 3, .slice Ao t.ops.length co)] (w.heap.size + 1) u5 (startD t.goal (ls.take k)) (0) rfl (OwnI.below (hL2.own 0 _ _ rfl rfl) ?p1) ⟨w3.heap.size, 0, none⟩ 1 rfl ?p2 hlen2 ?p3 ?p4 ?p5 ?p6 ?p7 ?_; (case p1 => repeat (first | with_reducible exact Below.refl _ _ | with_reducible apply bdrew | with_reducible apply bdrewN | with_reducible apply balloc | ((with_reducible refine bset ?_ ?_ _); rotate_left; (first | omega | (simp <;> omega))))); (case p2 => simp [go_sem]); (case p3 => (first | omega | (simp <;> omega))); (case p4 => (first | omega | (simp <;> omega))); (case p5 => repeat (first | with_reducible exact DQ | with_reducible apply bdrew | with_reducible apply bdrewN | with_reducible apply balloc | ((with_reducible refine bset ?_ ?_ _); rotate_left; (first | omega | (simp <;> omega))))); (case p6 => simp [Cls, go_sem, Fq, yqw0, yqwp1, yqwp2]); (case p7 => (simp <;> omega)); intro v4 w4 o4 D4 C4 sz4 G4 at4; have L4 := (OwnL.below hL2 (balloc (Below.refl _ _) : Below w3.heap.size w3 (w3.alloc (.cells #[.int .i64 (0)] 3)))).push 0 rfl rfl o4 G4 at4; simp only [List.set_cons_zero, List.set_cons_succ] at L4; clear G4 at4 o4; have d4s := D4.size; have F4 := C4; simp only [Cls, and_true] at F4; have y4w0 : w.heap.size < w4.heap.size := C4.blk (b := w.heap.size) (k := 0) (v := .int .i64 t.facts) (by simp); have y4wp1 : w.heap.size < w4.heap.size + 1 := (by omega); have y4wp2 : w.heap.size < w4.heap.size + 1 + 1 := (by omega)))
        rw [HSD.out] at L4
        go_roundw
        case rel => exact ⟨k + 1, by omega, by go_num, L4, (by repeat (first | with_reducible exact D4 | with_reducible apply bdrew | with_reducible apply bdrewN | with_reducible apply balloc | ((with_reducible refine bset ?_ ?_ _); rotate_left; (first | omega | (simp <;> omega))))), (by simp [Cls, go_sem, F4, y4w0, y4wp1, y4wp2])⟩
        case measure => simp [intOf]; omega
      · have HGO := Lib.hid hg
        have HSD := Lib.hid (startD_no hr.out hg)
        clear hg
        go_wp2_with fail
        go_quiet ((go_at_call 73; exact Calls.quiet_of_same ((subset_w' _ _ _ _ _ _ _ false (hT.goal.below (by repeat (first | with_reducible exact D2 | with_reducible apply bdrew | with_reducible apply bdrewN | with_reducible apply balloc | ((with_reducible refine bset ?_ ?_ _); rotate_left; (first | omega | (simp <;> omega)))))) (hrI2.below (by repeat (first | with_reducible exact Below.refl _ _ | with_reducible apply bdrew | with_reducible apply bdrewN | with_reducible apply balloc | ((with_reducible refine bset ?_ ?_ _); rotate_left; (first | omega | (simp <;> omega)))))) hlg hrl ⟨fun h => absurd h HGO.out, fun h => by cases h⟩).mono fun _ _ h => ⟨h.1, h.2.symm⟩)))
        have hL2 := L2.below (by repeat (first | with_reducible exact Below.refl _ _ | with_reducible apply bdrew | with_reducible apply bdrewN | with_reducible apply balloc | ((with_reducible refine bset ?_ ?_ _); rotate_left; (first | omega | (simp <;> omega)))) : Below w2.heap.size w2 (w2.drewN nq))
        have DQ : Below w.heap.size w (w2.drewN nq) := by repeat (first | with_reducible exact D2 | with_reducible apply bdrew | with_reducible apply bdrewN | with_reducible apply balloc | ((with_reducible refine bset ?_ ?_ _); rotate_left; (first | omega | (simp <;> omega))))
        have CQ : Cls (w2.drewN nq) [(w.heap.size, 0, .int .i64 t.facts), (w.heap.size, 1, .slice Ai t.init.length ci), (w.heap.size, 2, .slice Ag t.goal.length cg), (w.heap.size, 3, .slice Ao t.ops.length co)] := Cls.below (w := w2) (by repeat (first | with_reducible exact Below.refl _ _ | with_reducible apply bdrew | with_reducible apply bdrewN | with_reducible apply balloc | ((with_reducible refine bset ?_ ?_ _); rotate_left; (first | omega | (simp <;> omega))))) C2
        obtain ⟨w3, hw3⟩ : ∃ wo : World, wo = w2.drewN nq := ⟨_, rfl⟩
        rw [← hw3] at hL2 DQ CQ ⊢
        clear hw3
        have dqs := DQ.size
        have Fq := CQ
        simp only [Cls, and_true] at Fq
        have yqw0 : w.heap.size < w3.heap.size := CQ.blk (b := w.heap.size) (k := 0) (v := .int .i64 t.facts) (by simp)
        have yqwp1 : w.heap.size < w3.heap.size + 1 := (by omega)
        have yqwp2 : w.heap.size < w3.heap.size + 1 + 1 := (by omega)
        go_wp2_with (at_builtin; go_must (refine wpList_push_at rfl (.tmp 41) (.tmp 42) rfl w [(w.heap.size, 0, .int .i64 t.facts), (w.heap.size, 1, .slice Ai t.init.length ci), (w.heap.size, 2, .slice Ag t.goal.length cg), (w.heap.size, 3, .slice Ao t.ops.length co)] (w.heap.size + 1) u5 (startD t.goal (ls.take k)) (1000000000) rfl (OwnI.below (hL2.own 0 _ _ rfl rfl) ?p1) ⟨w3.heap.size, 0, none⟩ 1 rfl ?p2 hlen2 ?p3 ?p4 ?p5 ?p6 ?p7 ?_; (case p1 => repeat (first | with_reducible exact Below.refl _ _ | with_reducible apply bdrew | with_reducible apply bdrewN | with_reducible apply balloc | ((with_reducible refine bset ?_ ?_ _); rotate_left; (first | omega | (simp <;> omega))))); (case p2 => simp [go_sem]); (case p3 => (first | omega | (simp <;> omega))); (case p4 => (first | omega | (simp <;> omega))); (case p5 => repeat (first | with_reducible exact DQ | with_reducible apply bdrew | with_reducible apply bdrewN | with_reducible apply balloc | ((with_reducible refine bset ?_ ?_ _); rotate_left; (first | omega | (simp <;> omega))))); (case p6 => simp [Cls, go_sem, Fq, yqw0, yqwp1, yqwp2]); (case p7 => (simp <;> omega)); intro v4 w4 o4 D4 C4 sz4 G4 at4; have L4 := (OwnL.below hL2 (balloc (Below.refl _ _) : Below w3.heap.size w3 (w3.alloc (.cells #[.int .i64 (1000000000)] 3)))).push 0 rfl rfl o4 G4 at4; simp only [List.set_cons_zero, List.set_cons_succ] at L4; clear G4 at4 o4; have d4s := D4.size; have F4 := C4; simp only [Cls, and_true] at F4; have y4w0 : w.heap.size < w4.heap.size := C4.blk (b := w.heap.size) (k := 0) (v := .int .i64 t.facts) (by simp); have y4wp1 : w.heap.size < w4.heap.size + 1 := (by omega); have y4wp2 : w.heap.size < w4.heap.size + 1 + 1 := (by omega)))
        rw [HSD.out] at L4
        go_roundw
        case rel => exact ⟨k + 1, by omega, by go_num, L4, (by repeat (first | with_reducible exact D4 | with_reducible apply bdrew | with_reducible apply bdrewN | with_reducible apply balloc | ((with_reducible refine bset ?_ ?_ _); rotate_left; (first | omega | (simp <;> omega))))), (by simp [Cls, go_sem, F4, y4w0, y4wp1, y4wp2])⟩
        case measure => simp [intOf]; omega
    · have HKE := Lib.hid (show ls.take k = ls from List.take_of_length_le (by omega))
      rw [HKE.out] at hL
      have HW6 := Lib.hid (show (ls.map wordV).length = ls.length from List.length_map _)
      have HW5 := Lib.hid (show (startD t.goal ls).length = ls.length by simp [startD])
      obtain ⟨A5, c5, rfl, -⟩ := (hL.own 0 _ _ rfl rfl).form_at HW5.out
      obtain ⟨A6, c6, rfl, -⟩ := (hL.own 1 _ _ rfl rfl).form_at HW6.out
      have hL0 := ((hL.more).more).more
      simp only [List.cons_append, List.nil_append] at hL0
      clear hL
      go_wp2_with fail
      go_loopw [8, 9, 10, 11] (fun a b c i wr => ∃ (k : Nat) (AA : List (Nat × Nat × Int)), k ≤ ls.length ∧ i = .int .i64 k ∧ OwnL (w.heap.size + 1) wr [.slice A5 ls.length c5, .slice A6 ls.length c6, a, b, c] [startD t.goal ls, ls.map wordV, arcF AA, arcT AA, arcC AA] ∧ Hid (ArcsTo n t.ops ls AA k 0 0) ∧ Below w.heap.size w wr ∧ Cls wr [(w.heap.size, 0, .int .i64 t.facts), (w.heap.size, 1, .slice Ai t.init.length ci), (w.heap.size, 2, .slice Ag t.goal.length cg), (w.heap.size, 3, .slice Ao t.ops.length co)]) (fun _ _ _ i _ => ls.length - (intOf i).toNat)
      case atStart => exact ⟨0, [], Nat.zero_le _, rfl, hL0.below (by repeat (first | with_reducible exact Below.refl _ _ | with_reducible apply bdrew | with_reducible apply bdrewN | with_reducible apply balloc | ((with_reducible refine bset ?_ ?_ _); rotate_left; (first | omega | (simp <;> omega))))), Lib.hid ArcsTo.start, (by repeat (first | with_reducible exact hBr | with_reducible apply bdrew | with_reducible apply bdrewN | with_reducible apply balloc | ((with_reducible refine bset ?_ ?_ _); rotate_left; (first | omega | (simp <;> omega))))), (by simp [Cls, go_sem, Fr, yrw0, yrwp1, yrwp2])⟩
      case round =>
        clear hL0 hCr hBr
        obtain ⟨k, AA, hk, rfl, hL, hA, hBs, hCs⟩ := hrel
        obtain ⟨w2, rfl⟩ : ∃ wo : World, wo = wr := ⟨_, rfl⟩
        have dss := hBs.size
        have Fs := hCs
        simp only [Cls, and_true] at Fs
        have ysw0 : w.heap.size < w2.heap.size := hCs.blk (b := w.heap.size) (k := 0) (v := .int .i64 t.facts) (by simp)
        have yswp1 : w.heap.size < w2.heap.size + 1 := (by omega)
        have yswp2 : w.heap.size < w2.heap.size + 1 + 1 := (by omega)
        by_cases hlt : k < ls.length
        · obtain ⟨ad, r, Br, cr, rfl, hr, hrc0, hrI0⟩ := hl.at_ hlt
          have HRS := Lib.hid (HSET.out r (List.mem_of_getElem? hr.out))
          have hrl : r.length ≤ 9223372036854775807 := by have := SetP.length HRS.out (by omega); omega
          go_wp2_with fail
          go_loopw [8, 9, 10, 12] (fun a b c i wr => ∃ (p : Nat) (AA : List (Nat × Nat × Int)), p ≤ t.ops.length ∧ i = .int .i64 p ∧ OwnL (w.heap.size + 1) wr [.slice A5 ls.length c5, .slice A6 ls.length c6, a, b, c] [startD t.goal ls, ls.map wordV, arcF AA, arcT AA, arcC AA] ∧ Hid (ArcsTo n t.ops ls AA k p 0) ∧ Below w.heap.size w wr ∧ Cls wr [(w.heap.size, 0, .int .i64 t.facts), (w.heap.size, 1, .slice Ai t.init.length ci), (w.heap.size, 2, .slice Ag t.goal.length cg), (w.heap.size, 3, .slice Ao t.ops.length co)]) (fun _ _ _ i _ => t.ops.length - (intOf i).toNat)
          case atStart => exact ⟨0, AA, Nat.zero_le _, rfl, hL.below (by repeat (first | with_reducible exact Below.refl _ _ | with_reducible apply bdrew | with_reducible apply bdrewN | with_reducible apply balloc | ((with_reducible refine bset ?_ ?_ _); rotate_left; (first | omega | (simp <;> omega))))), hA, (by repeat (first | with_reducible exact hBs | with_reducible apply bdrew | with_reducible apply bdrewN | with_reducible apply balloc | ((with_reducible refine bset ?_ ?_ _); rotate_left; (first | omega | (simp <;> omega))))), (by simp [Cls, go_sem, Fs, ysw0, yswp1, yswp2])⟩
          case round =>
            clear hL hA hCs hBs
            obtain ⟨p, AA, hp, rfl, hL, hA, hBt, hCt⟩ := hrel
            obtain ⟨w3, rfl⟩ : ∃ wo : World, wo = wr := ⟨_, rfl⟩
            have dts := hBt.size
            have Ft := hCt
            simp only [Cls, and_true] at Ft
            have ytw0 : w.heap.size < w3.heap.size := hCt.blk (b := w.heap.size) (k := 0) (v := .int .i64 t.facts) (by simp)
            have ytwp1 : w.heap.size < w3.heap.size + 1 := (by omega)
            have ytwp2 : w.heap.size < w3.heap.size + 1 + 1 := (by omega)
            by_cases hlp : p < t.ops.length
            · have hrc := (hBt.cell (World.block_lt_of_cell? w _ hrc0)).trans hrc0
              have hrI := hrI0.below hBt
              obtain ⟨o, ho⟩ : ∃ o, Hid (t.ops[p]? = some o) := ⟨_, Lib.hid (List.getElem?_eq_getElem hlp)⟩
              have HOA := Lib.hid (show opAt t.ops (p : Int) = o from opAt_of (by simpa using ho.out))
              by_cases hcan : CanV t.ops r (p : Int)
              · have HC := Lib.hid hcan
                clear hcan
                obtain ⟨nx, hnx⟩ : ∃ x, Hid (nextV n r o = x) := ⟨_, Lib.hid rfl⟩
                have HNS := Lib.hid (show SetP nx (n : Int) by rw [← hnx.out]; exact nextV_set n r _)
                go_wp2_with fail
                refine region_still_tail 6 (by kernel_rfl) (by kernel_rfl) ?_
                simp only [List.take_succ_cons, List.take_zero, List.drop_succ_cons, List.drop_zero]
                repeat still_step
                refine wpStill_nil ?_
                go_wp2_with fail
                refine (applies_any _ t Ai Ag Ao ci cg co (hT.below (by repeat (first | with_reducible exact hBt | with_reducible apply bdrew | with_reducible apply bdrewN | with_reducible apply balloc | ((with_reducible refine bset ?_ ?_ _); rotate_left; (first | omega | (simp <;> omega)))))) _ _ _ (hrI.below (by repeat (first | with_reducible exact Below.refl _ _ | with_reducible apply bdrew | with_reducible apply bdrewN | with_reducible apply balloc | ((with_reducible refine bset ?_ ?_ _); rotate_left; (first | omega | (simp <;> omega)))))) hrl h40b p hlp true ⟨fun _ => rfl, fun _ => HC.out⟩).mono ?_
                rintro e w4 ⟨rfl, hB4⟩
                have D4 := dstep w hB4 (by repeat (first | with_reducible exact hBt | with_reducible apply bdrew | with_reducible apply bdrewN | with_reducible apply balloc | ((with_reducible refine bset ?_ ?_ _); rotate_left; (first | omega | (simp <;> omega)))))
                have E4 := dstep w3 hB4 (by repeat (first | with_reducible exact Below.refl _ _ | with_reducible apply bdrew | with_reducible apply bdrewN | with_reducible apply balloc | ((with_reducible refine bset ?_ ?_ _); rotate_left; (first | omega | (simp <;> omega)))))
                have C4 := Cls.below (w := w3) E4 hCt
                have hL4 := hL.below E4
                have hrc4 := (D4.cell (World.block_lt_of_cell? w _ hrc0)).trans hrc0
                have hrI4 := hrI0.below D4
                clear hL hrc hrI hCt hBt
                have d4s := D4.size
                have F4 := C4
                simp only [Cls, and_true] at F4
                have y4w0 : w.heap.size < w4.heap.size := C4.blk (b := w.heap.size) (k := 0) (v := .int .i64 t.facts) (by simp)
                have y4wp1 : w.heap.size < w4.heap.size + 1 := (by omega)
                have y4wp2 : w.heap.size < w4.heap.size + 1 + 1 := (by omega)
                go_wp2_with fail
                refine region_still_tail 6 (by kernel_rfl) (by kernel_rfl) ?_
                simp only [List.take_succ_cons, List.take_zero, List.drop_succ_cons, List.drop_zero]
                repeat still_step
                refine wpStill_nil ?_
                go_wp2_with fail
                refine (after_any _ t Ai Ag Ao ci cg co (hT.below (by repeat (first | with_reducible exact D4 | with_reducible apply bdrew | with_reducible apply bdrewN | with_reducible apply balloc | ((with_reducible refine bset ?_ ?_ _); rotate_left; (first | omega | (simp <;> omega)))))) _ _ _ (hrI4.below (by repeat (first | with_reducible exact Below.refl _ _ | with_reducible apply bdrew | with_reducible apply bdrewN | with_reducible apply balloc | ((with_reducible refine bset ?_ ?_ _); rotate_left; (first | omega | (simp <;> omega)))))) hrl h40b n HN.out (by omega) p hlp).mono ?_
                rintro e w5 ⟨v5, rfl, ho5, hB5⟩
                have D5 := dstep w hB5 (by repeat (first | with_reducible exact D4 | with_reducible apply bdrew | with_reducible apply bdrewN | with_reducible apply balloc | ((with_reducible refine bset ?_ ?_ _); rotate_left; (first | omega | (simp <;> omega)))))
                have E5 := dstep w4 hB5 (by repeat (first | with_reducible exact Below.refl _ _ | with_reducible apply bdrew | with_reducible apply bdrewN | with_reducible apply balloc | ((with_reducible refine bset ?_ ?_ _); rotate_left; (first | omega | (simp <;> omega)))))
                have C5 := Cls.below (w := w4) E5 C4
                have hL5 := hL4.below E5
                rw [HOA.out, hnx.out] at ho5
                obtain ⟨A9, c9, rfl, hn9, hI9⟩ := ho5.form
                clear hL4 hrc4 hrI4 C4 hn9 ho5
                have d5s := D5.size
                have F5 := C5
                simp only [Cls, and_true] at F5
                have y5w0 : w.heap.size < w5.heap.size := C5.blk (b := w.heap.size) (k := 0) (v := .int .i64 t.facts) (by simp)
                have y5wp1 : w.heap.size < w5.heap.size + 1 := (by omega)
                have y5wp2 : w.heap.size < w5.heap.size + 1 + 1 := (by omega)
                go_wp2_with fail
                refine (word_any _ _ nx _ (hI9.below (by repeat (first | with_reducible exact Below.refl _ _ | with_reducible apply bdrew | with_reducible apply bdrewN | with_reducible apply balloc | ((with_reducible refine bset ?_ ?_ _); rotate_left; (first | omega | (simp <;> omega)))))) n HNS.out hn24).mono ?_
                rintro e w9 ⟨rfl, hW9⟩
                rw [← hW9]
                clear hW9 w9
                go_wp2_with fail
                go_loopw [8, 9, 10, 14] (fun a b c i wr => ∃ (j : Nat) (AA : List (Nat × Nat × Int)), j ≤ ls.length ∧ i = .int .i64 j ∧ OwnL (w.heap.size + 1) wr [.slice A5 ls.length c5, .slice A6 ls.length c6, a, b, c] [startD t.goal ls, ls.map wordV, arcF AA, arcT AA, arcC AA] ∧ Hid (ArcsTo n t.ops ls AA k p j) ∧ Below w.heap.size w wr ∧ Cls wr [(w.heap.size, 0, .int .i64 t.facts), (w.heap.size, 1, .slice Ai t.init.length ci), (w.heap.size, 2, .slice Ag t.goal.length cg), (w.heap.size, 3, .slice Ao t.ops.length co)]) (fun _ _ _ i _ => ls.length - (intOf i).toNat)
                case atStart => exact ⟨0, AA, Nat.zero_le _, rfl, hL5.below (by repeat (first | with_reducible exact Below.refl _ _ | with_reducible apply bdrew | with_reducible apply bdrewN | with_reducible apply balloc | ((with_reducible refine bset ?_ ?_ _); rotate_left; (first | omega | (simp <;> omega))))), hA, (by repeat (first | with_reducible exact D5 | with_reducible apply bdrew | with_reducible apply bdrewN | with_reducible apply balloc | ((with_reducible refine bset ?_ ?_ _); rotate_left; (first | omega | (simp <;> omega))))), (by simp [Cls, go_sem, F5, y5w0, y5wp1, y5wp2])⟩
                case round =>
                  clear hL5 hA C5 hI9
                  obtain ⟨j, AA, hj, rfl, hL, hA, hBu, hCu⟩ := hrel
                  obtain ⟨w6, rfl⟩ : ∃ wo : World, wo = wr := ⟨_, rfl⟩
                  have dus := hBu.size
                  have Fu := hCu
                  simp only [Cls, and_true] at Fu
                  have yuw0 : w.heap.size < w6.heap.size := hCu.blk (b := w.heap.size) (k := 0) (v := .int .i64 t.facts) (by simp)
                  have yuwp1 : w.heap.size < w6.heap.size + 1 := (by omega)
                  have yuwp2 : w.heap.size < w6.heap.size + 1 + 1 := (by omega)
                  by_cases hjl : j < ls.length
                  · obtain ⟨g6, x, rfl, hg6, hg6b, hx, hxc, hxf⟩ := (hL.own 1 _ _ rfl rfl).at_ (k := j) (by rw [HW6.out]; exact hjl)
                    obtain ⟨l', hl'⟩ : ∃ l', Hid (ls[j]? = some l') := ⟨_, Lib.hid (List.getElem?_eq_getElem hjl)⟩
                    have HX := Lib.hid (show x = wordV l' by have h1 := hx.out; rw [List.getElem?_map, hl'.out] at h1; injection h1 with h1; exact h1.symm)
                    by_cases he : x = wordV nx
                    · have HE := Lib.hid (show l' = nx from word_inj (HSET.out l' (List.mem_of_getElem? hl'.out)) HNS.out (by rw [← HX.out, he]))
                      have HAN := Lib.hid (hA.out.add hr.out ho.out HC.out (by rw [hl'.out, HE.out, hnx.out]))
                      have HAL := Lib.hid hA.out.len
                      have hlf : (arcF AA).length < 1000000000000 := by rw [arcF_len]; have := HAL.out; omega
                      have hlt2 : (arcT AA).length < 1000000000000 := by rw [arcT_len]; have := HAL.out; omega
                      have hlc : (arcC AA).length < 1000000000000 := by rw [arcC_len]; have := HAL.out; omega
                      have hbe : (x == wordV nx) = true := by simpa using he
                      clear he
                      obtain ⟨od, o', B0, d0, B1, d1, B2, d2, rfl, ho', q0, q1, q2, q3, hm'⟩ := hT.ops.at2 (Below.refl w.heap.size w) hlp
                      obtain rfl : o = o' := by have := ho'.out; rw [ho.out] at this; injection this
                      clear q0 q1 q2
                      go_wp2_with (first | (at_builtin; refine wpList_push_at rfl (.tmp 84) (.tmp 86) rfl w [(w.heap.size, 0, .int .i64 t.facts), (w.heap.size, 1, .slice Ai t.init.length ci), (w.heap.size, 2, .slice Ag t.goal.length cg), (w.heap.size, 3, .slice (some od) t.ops.length co)] (w.heap.size + 1) u8 (arcF AA) ((k : Int)) rfl (OwnI.below (hL.own 2 _ _ rfl rfl) ?p1) ⟨w6.heap.size, 0, none⟩ 1 rfl ?p2 hlf ?p3 ?p4 ?p5 ?p6 ?p7 ?_; (case p1 => repeat (first | with_reducible exact Below.refl _ _ | with_reducible apply bdrew | with_reducible apply bdrewN | with_reducible apply balloc | ((with_reducible refine bset ?_ ?_ _); rotate_left; (first | omega | (simp <;> omega))))); (case p2 => simp [go_sem]); (case p3 => (first | omega | (simp <;> omega))); (case p4 => (first | omega | (simp <;> omega))); (case p5 => repeat (first | with_reducible exact hBu | with_reducible apply bdrew | with_reducible apply bdrewN | with_reducible apply balloc | ((with_reducible refine bset ?_ ?_ _); rotate_left; (first | omega | (simp <;> omega))))); (case p6 => simp [Cls, go_sem, Fu, yuw0, yuwp1, yuwp2]); (case p7 => (simp <;> omega)); intro v7 w7 o7 D7 C7 sz7 G7 at7; have L7 := (OwnL.below hL (balloc (Below.refl _ _) : Below w6.heap.size w6 (w6.alloc (.cells #[.int .i64 ((k : Int))] 3)))).push 2 rfl rfl o7 G7 at7; simp only [List.set_cons_zero, List.set_cons_succ] at L7; clear G7 at7 o7; have d7s := D7.size; have F7 := C7; simp only [Cls, and_true] at F7; have y7w0 : w.heap.size < w7.heap.size := C7.blk (b := w.heap.size) (k := 0) (v := .int .i64 t.facts) (by simp); have y7wp1 : w.heap.size < w7.heap.size + 1 := (by omega); have y7wp2 : w.heap.size < w7.heap.size + 1 + 1 := (by omega)) | (at_builtin; refine wpList_push_at rfl (.tmp 88) (.tmp 90) rfl w [(w.heap.size, 0, .int .i64 t.facts), (w.heap.size, 1, .slice Ai t.init.length ci), (w.heap.size, 2, .slice Ag t.goal.length cg), (w.heap.size, 3, .slice (some od) t.ops.length co)] (w.heap.size + 1) u9 (arcT AA) ((j : Int)) rfl (OwnI.below (L7.own 3 _ _ rfl rfl) ?p1) ⟨w7.heap.size, 0, none⟩ 1 rfl ?p2 hlt2 ?p3 ?p4 ?p5 ?p6 ?p7 ?_; (case p1 => repeat (first | with_reducible exact Below.refl _ _ | with_reducible apply bdrew | with_reducible apply bdrewN | with_reducible apply balloc | ((with_reducible refine bset ?_ ?_ _); rotate_left; (first | omega | (simp <;> omega))))); (case p2 => simp [go_sem]); (case p3 => (first | omega | (simp <;> omega))); (case p4 => (first | omega | (simp <;> omega))); (case p5 => repeat (first | with_reducible exact D7 | with_reducible apply bdrew | with_reducible apply bdrewN | with_reducible apply balloc | ((with_reducible refine bset ?_ ?_ _); rotate_left; (first | omega | (simp <;> omega))))); (case p6 => simp [Cls, go_sem, F7, y7w0, y7wp1, y7wp2]); (case p7 => (simp <;> omega)); intro v8 w8 o8 D8 C8 sz8 G8 at8; have L8 := (OwnL.below L7 (balloc (Below.refl _ _) : Below w7.heap.size w7 (w7.alloc (.cells #[.int .i64 ((j : Int))] 3)))).push 3 rfl rfl o8 G8 at8; simp only [List.set_cons_zero, List.set_cons_succ] at L8; clear G8 at8 o8; have d8s := D8.size; have F8 := C8; simp only [Cls, and_true] at F8; have y8w0 : w.heap.size < w8.heap.size := C8.blk (b := w.heap.size) (k := 0) (v := .int .i64 t.facts) (by simp); have y8wp1 : w.heap.size < w8.heap.size + 1 := (by omega); have y8wp2 : w.heap.size < w8.heap.size + 1 + 1 := (by omega); have q3' := (D8.cell (World.block_lt_of_cell? w _ q3)).trans q3; have q3b := World.block_lt_of_cell? w8 _ q3') | (at_builtin; refine wpList_push_at rfl (.tmp 92) (.tmp 99) rfl w [(w.heap.size, 0, .int .i64 t.facts), (w.heap.size, 1, .slice Ai t.init.length ci), (w.heap.size, 2, .slice Ag t.goal.length cg), (w.heap.size, 3, .slice (some od) t.ops.length co)] (w.heap.size + 1) u10 (arcC AA) (o.cost) rfl (OwnI.below (L8.own 4 _ _ rfl rfl) ?p1) ⟨w8.heap.size, 0, none⟩ 1 rfl ?p2 hlc ?p3 ?p4 ?p5 ?p6 ?p7 ?_; (case p1 => repeat (first | with_reducible exact Below.refl _ _ | with_reducible apply bdrew | with_reducible apply bdrewN | with_reducible apply balloc | ((with_reducible refine bset ?_ ?_ _); rotate_left; (first | omega | (simp <;> omega))))); (case p2 => simp [go_sem]); (case p3 => (first | omega | (simp <;> omega))); (case p4 => (first | omega | (simp <;> omega))); (case p5 => repeat (first | with_reducible exact D8 | with_reducible apply bdrew | with_reducible apply bdrewN | with_reducible apply balloc | ((with_reducible refine bset ?_ ?_ _); rotate_left; (first | omega | (simp <;> omega))))); (case p6 => simp [Cls, go_sem, F8, y8w0, y8wp1, y8wp2]); (case p7 => (simp <;> omega)); intro v9 w9 o9 D9 C9 sz9 G9 at9; have L9 := (OwnL.below L8 (balloc (Below.refl _ _) : Below w8.heap.size w8 (w8.alloc (.cells #[.int .i64 (o.cost)] 3)))).push 4 rfl rfl o9 G9 at9; simp only [List.set_cons_zero, List.set_cons_succ] at L9; clear G9 at9 o9; have d9s := D9.size; have F9 := C9; simp only [Cls, and_true] at F9; have y9w0 : w.heap.size < w9.heap.size := C9.blk (b := w.heap.size) (k := 0) (v := .int .i64 t.facts) (by simp); have y9wp1 : w.heap.size < w9.heap.size + 1 := (by omega); have y9wp2 : w.heap.size < w9.heap.size + 1 + 1 := (by omega)))
                      rw [arcF_snoc AA k j o.cost, arcT_snoc AA k j o.cost, arcC_snoc AA k j o.cost] at L9
                      go_roundw
                      case rel => exact ⟨j + 1, AA ++ [(k, j, o.cost)], by omega, by go_num, L9, HAN, (by repeat (first | with_reducible exact D9 | with_reducible apply bdrew | with_reducible apply bdrewN | with_reducible apply balloc | ((with_reducible refine bset ?_ ?_ _); rotate_left; (first | omega | (simp <;> omega))))), (by simp [Cls, go_sem, F9, y9w0, y9wp1, y9wp2])⟩
                      case measure => simp [intOf]; omega
                    · have hbe : (x == wordV nx) = false := by simpa using he
                      have HAN := Lib.hid (hA.out.skip hr.out ho.out (fun h => he (by rw [hl'.out, hnx.out] at h; injection h with h; rw [HX.out, h])))
                      clear he
                      go_wp2
                      go_roundw
                      case rel => exact ⟨j + 1, AA, by omega, by go_num, hL.below (by repeat (first | with_reducible exact Below.refl _ _ | with_reducible apply bdrew | with_reducible apply bdrewN | with_reducible apply balloc | ((with_reducible refine bset ?_ ?_ _); rotate_left; (first | omega | (simp <;> omega))))), HAN, (by repeat (first | with_reducible exact hBu | with_reducible apply bdrew | with_reducible apply bdrewN | with_reducible apply balloc | ((with_reducible refine bset ?_ ?_ _); rotate_left; (first | omega | (simp <;> omega))))), (by simp [Cls, go_sem, Fu, yuw0, yuwp1, yuwp2])⟩
                      case measure => simp [intOf]; omega
                  · have HAN := Lib.hid (hA.out.col (by omega) (by omega))
                    go_wp2
                    go_roundw
                    case rel => exact ⟨p + 1, AA, by omega, by go_num, hL.below (by repeat (first | with_reducible exact Below.refl _ _ | with_reducible apply bdrew | with_reducible apply bdrewN | with_reducible apply balloc | ((with_reducible refine bset ?_ ?_ _); rotate_left; (first | omega | (simp <;> omega))))), HAN, (by repeat (first | with_reducible exact hBu | with_reducible apply bdrew | with_reducible apply bdrewN | with_reducible apply balloc | ((with_reducible refine bset ?_ ?_ _); rotate_left; (first | omega | (simp <;> omega))))), (by simp [Cls, go_sem, Fu, yuw0, yuwp1, yuwp2])⟩
                    case measure => simp [intOf]; omega
              · have HC := Lib.hid hcan
                have HAN := Lib.hid (hA.out.none hr.out hcan)
                clear hcan
                go_wp2_with fail
                refine region_still_tail 6 (by kernel_rfl) (by kernel_rfl) ?_
                simp only [List.take_succ_cons, List.take_zero, List.drop_succ_cons, List.drop_zero]
                repeat still_step
                refine wpStill_nil ?_
                go_wp2_with fail
                refine (applies_any _ t Ai Ag Ao ci cg co (hT.below (by repeat (first | with_reducible exact hBt | with_reducible apply bdrew | with_reducible apply bdrewN | with_reducible apply balloc | ((with_reducible refine bset ?_ ?_ _); rotate_left; (first | omega | (simp <;> omega)))))) _ _ _ (hrI.below (by repeat (first | with_reducible exact Below.refl _ _ | with_reducible apply bdrew | with_reducible apply bdrewN | with_reducible apply balloc | ((with_reducible refine bset ?_ ?_ _); rotate_left; (first | omega | (simp <;> omega)))))) hrl h40b p hlp false ⟨fun h => absurd h HC.out, fun h => by cases h⟩).mono ?_
                rintro e w4 ⟨rfl, hB4⟩
                have D4 := dstep w hB4 (by repeat (first | with_reducible exact hBt | with_reducible apply bdrew | with_reducible apply bdrewN | with_reducible apply balloc | ((with_reducible refine bset ?_ ?_ _); rotate_left; (first | omega | (simp <;> omega)))))
                have E4 := dstep w3 hB4 (by repeat (first | with_reducible exact Below.refl _ _ | with_reducible apply bdrew | with_reducible apply bdrewN | with_reducible apply balloc | ((with_reducible refine bset ?_ ?_ _); rotate_left; (first | omega | (simp <;> omega)))))
                have C4 := Cls.below (w := w3) E4 hCt
                have hL4 := hL.below E4
                go_wp2
                go_roundw
                case rel => exact ⟨p + 1, AA, by omega, by go_num, hL4.below (by repeat (first | with_reducible exact Below.refl _ _ | with_reducible apply bdrew | with_reducible apply bdrewN | with_reducible apply balloc | ((with_reducible refine bset ?_ ?_ _); rotate_left; (first | omega | (simp <;> omega))))), HAN, (by repeat (first | with_reducible exact D4 | with_reducible apply bdrew | with_reducible apply bdrewN | with_reducible apply balloc | ((with_reducible refine bset ?_ ?_ _); rotate_left; (first | omega | (simp <;> omega))))), (Cls.below (w := w4) (by repeat (first | with_reducible exact Below.refl _ _ | with_reducible apply bdrew | with_reducible apply bdrewN | with_reducible apply balloc | ((with_reducible refine bset ?_ ?_ _); rotate_left; (first | omega | (simp <;> omega))))) C4)⟩
                case measure => simp [intOf]; omega
            · have HAN := Lib.hid (hA.out.row (by omega) (by omega))
              go_wp2
              go_roundw
              case rel => exact ⟨k + 1, AA, by omega, by go_num, hL.below (by repeat (first | with_reducible exact Below.refl _ _ | with_reducible apply bdrew | with_reducible apply bdrewN | with_reducible apply balloc | ((with_reducible refine bset ?_ ?_ _); rotate_left; (first | omega | (simp <;> omega))))), HAN, (by repeat (first | with_reducible exact hBt | with_reducible apply bdrew | with_reducible apply bdrewN | with_reducible apply balloc | ((with_reducible refine bset ?_ ?_ _); rotate_left; (first | omega | (simp <;> omega))))), (by simp [Cls, go_sem, Ft, ytw0, ytwp1, ytwp2])⟩
              case measure => simp [intOf]; omega
        · have HKE2 := Lib.hid (show ArcsTo n t.ops ls AA ls.length 0 0 by have h := hA.out; rw [show k = ls.length by omega] at h; exact h)
          have haa : AA.length ≤ 1000000000 := by have := hA.out.len; omega
          obtain ⟨A8, c8, rfl, -⟩ := (hL.own 2 _ _ rfl rfl).form_at (arcF_len AA)
          obtain ⟨A9, c9, rfl, -⟩ := (hL.own 3 _ _ rfl rfl).form_at (arcT_len AA)
          obtain ⟨A10, c10, rfl, -⟩ := (hL.own 4 _ _ rfl rfl).form_at (arcC_len AA)
          have HD0 := Lib.hid (show DSt n t.ops t.goal ls (startD t.goal ls) from startD_st HSET.out)
          have HCO := Lib.hid (show ∀ o ∈ t.ops, 0 ≤ o.cost from fun o ho => (HV.out.ops o ho).2.1)
          clear hA
          go_wp2_with fail
          go_loopg [15] (2 * sumV (startD t.goal ls) + 1) (fun gk ag wr => ∃ (D : List Int) (b : Bool), ag = .bool b ∧ Hid (gk = 2 * sumV D + b.toNat) ∧ OwnL (w.heap.size + 1) wr [.slice A5 ls.length c5, .slice A6 ls.length c6, .slice A8 AA.length c8, .slice A9 AA.length c9, .slice A10 AA.length c10] [D, ls.map wordV, arcF AA, arcT AA, arcC AA] ∧ Hid (DSt n t.ops t.goal ls D) ∧ Hid (b = false → ∀ a ∈ AA, ArcOk D a) ∧ Below w.heap.size w wr ∧ Cls wr [(w.heap.size, 0, .int .i64 t.facts), (w.heap.size, 1, .slice Ai t.init.length ci), (w.heap.size, 2, .slice Ag t.goal.length cg), (w.heap.size, 3, .slice Ao t.ops.length co)])
          case atStart => exact ⟨_, true, rfl, Lib.hid rfl, hL.below (by repeat (first | with_reducible exact Below.refl _ _ | with_reducible apply bdrew | with_reducible apply bdrewN | with_reducible apply balloc | ((with_reducible refine bset ?_ ?_ _); rotate_left; (first | omega | (simp <;> omega))))), HD0, Lib.hid (fun h => by cases h), (by repeat (first | with_reducible exact hBs | with_reducible apply bdrew | with_reducible apply bdrewN | with_reducible apply balloc | ((with_reducible refine bset ?_ ?_ _); rotate_left; (first | omega | (simp <;> omega))))), (by simp [Cls, go_sem, Fs, ysw0, yswp1, yswp2])⟩
          case round =>
            clear hL hCs hBs
            obtain ⟨D0, b, rfl, hgk, hL, hD0, hcl, hBp, hCp⟩ := hrel
            obtain ⟨g3, rfl⟩ : ∃ g : Nat, g = gk := ⟨_, rfl⟩
            obtain ⟨w3, rfl⟩ : ∃ wo : World, wo = wr := ⟨_, rfl⟩
            cases b with
            | false =>
              have HDK := Lib.hid (dok_of hD0.out HKE2.out (hcl.out rfl))
              have hown := hL.own 0 _ _ rfl rfl
              go_wp2
              refine bodyPost_ret (v := .slice A5 ls.length c5) ?_ rfl ⟨_, rfl, D0, OwnI.mono hown (by omega), HDK.out, by repeat (first | with_reducible exact hBp | with_reducible apply bdrew | with_reducible apply bdrewN | with_reducible apply balloc | ((with_reducible refine bset ?_ ?_ _); rotate_left; (first | omega | (simp <;> omega))))⟩
              simp [results, Try.results83, go_sem]
            | true =>
              have dps := hBp.size
              have Fp := hCp
              simp only [Cls, and_true] at Fp
              have ypw0 : w.heap.size < w3.heap.size := hCp.blk (b := w.heap.size) (k := 0) (v := .int .i64 t.facts) (by simp)
              have ypwp1 : w.heap.size < w3.heap.size + 1 := (by omega)
              have ypwp2 : w.heap.size < w3.heap.size + 1 + 1 := (by omega)
              go_wp2_with fail
              go_loopg [15, 16] (AA.length) (fun gk ag i wr => ∃ (D : List Int) (b : Bool) (j : Nat), ag = .bool b ∧ i = .int .i64 j ∧ Hid (j + gk = AA.length) ∧ OwnL (w.heap.size + 1) wr [.slice A5 ls.length c5, .slice A6 ls.length c6, .slice A8 AA.length c8, .slice A9 AA.length c9, .slice A10 AA.length c10] [D, ls.map wordV, arcF AA, arcT AA, arcC AA] ∧ Hid (DSt n t.ops t.goal ls D) ∧ Hid (b = true → sumV D < sumV D0) ∧ Hid (b = false → D = D0 ∧ ∀ a ∈ AA.take j, ArcOk D0 a) ∧ Below w.heap.size w wr ∧ Cls wr [(w.heap.size, 0, .int .i64 t.facts), (w.heap.size, 1, .slice Ai t.init.length ci), (w.heap.size, 2, .slice Ag t.goal.length cg), (w.heap.size, 3, .slice Ao t.ops.length co)])
              case atStart => exact ⟨D0, false, 0, rfl, rfl, Lib.hid (by omega), hL.below (by repeat (first | with_reducible exact Below.refl _ _ | with_reducible apply bdrew | with_reducible apply bdrewN | with_reducible apply balloc | ((with_reducible refine bset ?_ ?_ _); rotate_left; (first | omega | (simp <;> omega))))), hD0, Lib.hid (fun h => by cases h), Lib.hid (fun _ => ⟨rfl, by simp⟩), (by repeat (first | with_reducible exact hBp | with_reducible apply bdrew | with_reducible apply bdrewN | with_reducible apply balloc | ((with_reducible refine bset ?_ ?_ _); rotate_left; (first | omega | (simp <;> omega))))), (by simp [Cls, go_sem, Fp, ypw0, ypwp1, ypwp2])⟩
              case round =>
                clear hL hCp hBp
                obtain ⟨D, b1, j, rfl, rfl, hj, hL, hD, ht1, hf1, hBq, hCq⟩ := hrel
                obtain ⟨g4, rfl⟩ : ∃ g : Nat, g = gk := ⟨_, rfl⟩
                obtain ⟨w4, rfl⟩ : ∃ wo : World, wo = wr := ⟨_, rfl⟩
                have dqs := hBq.size
                have Fq := hCq
                simp only [Cls, and_true] at Fq
                have yqw0 : w.heap.size < w4.heap.size := hCq.blk (b := w.heap.size) (k := 0) (v := .int .i64 t.facts) (by simp)
                have yqwp1 : w.heap.size < w4.heap.size + 1 := (by omega)
                have yqwp2 : w.heap.size < w4.heap.size + 1 + 1 := (by omega)
                by_cases hjl : j < AA.length
                · obtain ⟨a, ha⟩ : ∃ a, Hid (AA[j]? = some a) := ⟨_, Lib.hid (List.getElem?_eq_getElem hjl)⟩
                  obtain ⟨kf, kt, cc⟩ := a
                  have HIA := Lib.hid (HKE2.out.sound _ (List.mem_of_getElem? ha.out))
                  have hj1 := Lib.hid (show j + 1 + (g4 - 1) = AA.length ∧ g4 - 1 < g4 by have := hj.out; omega)
                  obtain ⟨hkf, hkt, hcc0, hcc1⟩ : kf < ls.length ∧ kt < ls.length ∧ 0 ≤ cc ∧ cc ≤ 100 := by
                    obtain ⟨l, p, o, h1, h2, h3, h4, h5⟩ := HIA.out
                    have := (HV.out.ops o (List.mem_of_getElem? h2)).2
                    simp only at h5
                    exact ⟨(List.getElem?_eq_some_iff.1 h1).1, (List.getElem?_eq_some_iff.1 h4).1, by omega, by omega⟩
                  obtain ⟨g8, xf, rfl, -, -, hxf, hxfc, -⟩ := (hL.own 2 _ _ rfl rfl).at_ (k := j) (by rw [arcF_len]; exact hjl)
                  obtain rfl : xf = (kf : Int) := by have := hxf.out; unfold arcF at this; rw [List.getElem?_map, ha.out] at this; injection this with this; exact this.symm
                  obtain ⟨g9, xt, rfl, -, -, hxt, hxtc, -⟩ := (hL.own 3 _ _ rfl rfl).at_ (k := j) (by rw [arcT_len]; exact hjl)
                  obtain rfl : xt = (kt : Int) := by have := hxt.out; unfold arcT at this; rw [List.getElem?_map, ha.out] at this; injection this with this; exact this.symm
                  obtain ⟨g10, xc, rfl, -, -, hxc, hxcc, -⟩ := (hL.own 4 _ _ rfl rfl).at_ (k := j) (by rw [arcC_len]; exact hjl)
                  obtain rfl : xc = cc := by have := hxc.out; unfold arcC at this; rw [List.getElem?_map, ha.out] at this; injection this with this; exact this.symm
                  obtain ⟨g5, y, rfl, hg5, -, hy, hyc, hyf⟩ := (hL.own 0 _ _ rfl rfl).at_ (k := kt) (by rw [hD.out.len]; exact hkt)
                  obtain ⟨g5', x, e5, -, -, hx, hxxc, hxxf⟩ := (hL.own 0 _ _ rfl rfl).at_ (k := kf) (by rw [hD.out.len]; exact hkf)
                  injection e5 with e5
                  injection e5 with e5
                  subst e5
                  have hyV := hD.out.all y (List.mem_of_getElem? hy.out)
                  have hxV := hD.out.all x (List.mem_of_getElem? hx.out)
                  obtain ⟨hy0, hy1⟩ := hyV
                  obtain ⟨hx0, hx1⟩ := hxV
                  clear hxf hxt hxc
                  by_cases hy9 : y < 1000000000
                  · have hd1 : decide (y < 1000000000) = true := decide_eq_true hy9
                    by_cases hlt9 : y + xc < x
                    · have hd2 : decide (y + xc < x) = true := decide_eq_true hlt9
                      have HDN := Lib.hid (hD.out.set_ HSET.out HCO.out HIA.out hx.out hy.out hy9 hlt9)
                      have HSM := Lib.hid (sum_set hx.out (by omega : 0 ≤ y + xc) hlt9)
                      have HLD := Lib.hid hD.out.len
                      have hne1 : ¬ g5 = w.heap.size := by omega
                      have hne2 : ¬ w.heap.size = g5 := by omega
                      have hge5 : w.heap.size ≤ g5 := by omega
                      go_wp2_with fail
                      go_quiet (fail)
                      go_wp2_with fail
                      refine region_still_tail 18 (by kernel_rfl) (by kernel_rfl) ?_
                      simp only [List.take_succ_cons, List.take_zero, List.drop_succ_cons, List.drop_zero]
                      repeat still_step
                      refine wpStill_nil ?_
                      go_wp2
                      go_roundg (g4 - 1)
                      case measure => exact hj1.out.2
                      case rel =>
                        refine ⟨D.set kf (y + xc), true, j + 1, rfl, by go_num, Lib.hid hj1.out.1, ?_, HDN, Lib.hid (fun _ => ?_), Lib.hid (fun h => by cases h), ?_, ?_⟩
                        · exact OwnL.write (hL.below (by repeat (first | with_reducible exact Below.refl _ _ | with_reducible apply bdrew | with_reducible apply bdrewN | with_reducible apply balloc | ((with_reducible refine bset ?_ ?_ _); rotate_left; (first | omega | (simp <;> omega)))))) 0 rfl rfl HLD.out kf (y + xc)
                        · have h1 := HSM.out
                          cases b1 with
                          | true => have := ht1.out rfl; omega
                          | false => rw [(hf1.out rfl).1] at h1 ⊢; exact h1
                        · repeat (first | with_reducible exact hBq | with_reducible apply bdrew | with_reducible apply bdrewN | with_reducible apply balloc | ((with_reducible refine bset ?_ ?_ _); rotate_left; (first | omega | (simp <;> omega))))
                        · simp [Cls, go_sem, Fq, yqw0, yqwp1, yqwp2, hne1, hne2]
                    · have hd2 : decide (y + xc < x) = false := decide_eq_false hlt9
                      have HAO := Lib.hid (show ArcOk D (kf, kt, xc) from fun x' y' h1 h2 _ => by
                        have e1 := hx.out
                        have e2 := hy.out
                        simp only at h1 h2
                        rw [e1] at h1; rw [e2] at h2
                        injection h1 with h1; injection h2 with h2
                        show x' ≤ y' + xc
                        omega)
                      go_wp2_with fail
                      go_quiet (fail)
                      go_wp2
                      go_roundg (g4 - 1)
                      case measure => exact hj1.out.2
                      case rel => exact ⟨D, b1, j + 1, rfl, by go_num, Lib.hid hj1.out.1, hL.below (by repeat (first | with_reducible exact Below.refl _ _ | with_reducible apply bdrew | with_reducible apply bdrewN | with_reducible apply balloc | ((with_reducible refine bset ?_ ?_ _); rotate_left; (first | omega | (simp <;> omega))))), hD, ht1, Lib.hid (fun h => ⟨(hf1.out h).1, take_next_ ha.out (hf1.out h).2 (by rw [← (hf1.out h).1]; exact HAO.out)⟩), (by repeat (first | with_reducible exact hBq | with_reducible apply bdrew | with_reducible apply bdrewN | with_reducible apply balloc | ((with_reducible refine bset ?_ ?_ _); rotate_left; (first | omega | (simp <;> omega))))), (Cls.below (w := w4) (by repeat (first | with_reducible exact Below.refl _ _ | with_reducible apply bdrew | with_reducible apply bdrewN | with_reducible apply balloc | ((with_reducible refine bset ?_ ?_ _); rotate_left; (first | omega | (simp <;> omega))))) hCq)⟩
                  · have hd1 : decide (y < 1000000000) = false := decide_eq_false hy9
                    have HAO := Lib.hid (show ArcOk D (kf, kt, xc) from fun x' y' h1 h2 h3 => by
                      have e2 := hy.out
                      simp only at h2
                      rw [e2] at h2
                      injection h2 with h2
                      omega)
                    go_wp2_with fail
                    go_quiet (fail)
                    go_wp2
                    go_roundg (g4 - 1)
                    case measure => exact hj1.out.2
                    case rel => exact ⟨D, b1, j + 1, rfl, by go_num, Lib.hid hj1.out.1, hL.below (by repeat (first | with_reducible exact Below.refl _ _ | with_reducible apply bdrew | with_reducible apply bdrewN | with_reducible apply balloc | ((with_reducible refine bset ?_ ?_ _); rotate_left; (first | omega | (simp <;> omega))))), hD, ht1, Lib.hid (fun h => ⟨(hf1.out h).1, take_next_ ha.out (hf1.out h).2 (by rw [← (hf1.out h).1]; exact HAO.out)⟩), (by repeat (first | with_reducible exact hBq | with_reducible apply bdrew | with_reducible apply bdrewN | with_reducible apply balloc | ((with_reducible refine bset ?_ ?_ _); rotate_left; (first | omega | (simp <;> omega))))), (Cls.below (w := w4) (by repeat (first | with_reducible exact Below.refl _ _ | with_reducible apply bdrew | with_reducible apply bdrewN | with_reducible apply balloc | ((with_reducible refine bset ?_ ?_ _); rotate_left; (first | omega | (simp <;> omega))))) hCq)⟩
                · have hkk := Lib.hid (show j = AA.length by have := hj.out; omega)
                  go_wp2
                  go_roundg (2 * sumV D + b1.toNat)
                  case measure =>
                    rw [hgk.out]
                    cases b1 with
                    | true => have := ht1.out rfl; simp; omega
                    | false => rw [(hf1.out rfl).1]; simp
                  case rel => exact ⟨D, b1, rfl, Lib.hid rfl, hL.below (by repeat (first | with_reducible exact Below.refl _ _ | with_reducible apply bdrew | with_reducible apply bdrewN | with_reducible apply balloc | ((with_reducible refine bset ?_ ?_ _); rotate_left; (first | omega | (simp <;> omega))))), hD, Lib.hid (fun h a ha => by
                    obtain ⟨h1, h2⟩ := hf1.out h
                    rw [h1]
                    exact h2 a (by rw [hkk.out, List.take_length]; exact ha)), (by repeat (first | with_reducible exact hBq | with_reducible apply bdrew | with_reducible apply bdrewN | with_reducible apply balloc | ((with_reducible refine bset ?_ ?_ _); rotate_left; (first | omega | (simp <;> omega))))), (by simp [Cls, go_sem, Fq, yqw0, yqwp1, yqwp2])⟩


end Go.Proofs.Ytihkgdlanfemcaa

namespace Go.Proofs.Ytihkgdlanfemcaa
open Go.RowKit
set_option linter.unusedVariables false
set_option linter.unusedSimpArgs false

/-- What BestFrom returns. -/
def BestOut (n : Nat) (t : TaskV) (st : List Int) (d : Int) : Prop :=
  (d = -1 ∧ ∃ ls : List (List Int), ls.Nodup ∧ ls.length = 2001 ∧ ∀ l ∈ ls, Rch n t.ops st l) ∨ ∃ ls D, RSt n t.ops st ls ls.length 0 ∧ ls.length ≤ 2000 ∧ DOk n t.ops t.goal ls D ∧ D[0]? = some d
theorem BestOut.low {n : Nat} {t : TaskV} {st : List Int} {d : Int} (h : BestOut n t st d) (h0 : 0 ≤ d) {H : List Int → Int} (hH : HCons n t.ops t.goal H) : H st ≤ d := by
  rcases h with ⟨e, _⟩ | ⟨ls, D, hR, _, hD, hd⟩
  · omega
  · exact hD.st.low H hH 0 st d hR.head hd
theorem BestOut.rng {n : Nat} {t : TaskV} {st : List Int} {d : Int} (h : BestOut n t st d) : -1 ≤ d ∧ d ≤ 1000000000 := by
  rcases h with ⟨e, _⟩ | ⟨ls, D, hR, _, hD, hd⟩
  · omega
  · have := hD.st.all d (List.mem_of_getElem? hd)
    unfold InV at this
    omega
set_option maxRecDepth 100000 in
set_option maxHeartbeats 1000000 in
theorem bestfrom_any (w : World) (t : TaskV) (Ai Ag Ao : Option Addr) (ci cg co : Nat) (hT : TaskMem w Ai Ag Ao t) (S : Option Addr) (cs : Nat) (st : List Int) (hS : Ints w S st) (n : Nat) (hn : t.facts = n) (hv : Valid t) (hst : SetP st (n : Int)) :
    Calls Try.prog 38 #[.agg #[.int .i64 t.facts, .slice Ai t.init.length ci, .slice Ag t.goal.length cg, .slice Ao t.ops.length co], .slice S st.length cs] w fun e w' => ∃ d, e = .returned (.int .i64 d) ∧ BestOut n t st d ∧ Below w.heap.size w w' := by
  have HN := Lib.hid hn
  have HV := Lib.hid hv
  have HST := Lib.hid hst
  have HGO := Lib.hid (goal_in hv hn)
  clear hv hn hst
  go_enter Try.func38, Try.ntmps38
  go_wp2_with fail
  refine (reached_any _ t Ai Ag Ao ci cg co (hT.below (by repeat (first | with_reducible exact Below.refl _ _ | with_reducible apply bdrew | with_reducible apply bdrewN | with_reducible apply balloc | ((with_reducible refine bset ?_ ?_ _); rotate_left; (first | omega | (simp <;> omega)))))) _ _ _ (hS.below (by repeat (first | with_reducible exact Below.refl _ _ | with_reducible apply bdrew | with_reducible apply bdrewN | with_reducible apply balloc | ((with_reducible refine bset ?_ ?_ _); rotate_left; (first | omega | (simp <;> omega)))))) n HN.out HV.out HST.out).mono ?_
  rintro e w1 (⟨A, c, ls, rfl, hR, hll, hLL, hB1⟩ | ⟨rfl, hx, hB1⟩)
  · have D1 := dstep w hB1 (by repeat (first | with_reducible exact Below.refl _ _ | with_reducible apply bdrew | with_reducible apply bdrewN | with_reducible apply balloc | ((with_reducible refine bset ?_ ?_ _); rotate_left; (first | omega | (simp <;> omega)))))
    have C1 := Cls.below (l := [(w.heap.size, 0, .int .i64 t.facts), (w.heap.size, 1, .slice Ai t.init.length ci), (w.heap.size, 2, .slice Ag t.goal.length cg), (w.heap.size, 3, .slice Ao t.ops.length co)]) hB1 (by simp [Cls, go_sem])
    have HR := Lib.hid hR
    clear hR hB1
    have d1s := D1.size
    have F1 := C1
    simp only [Cls, and_true] at F1
    have y1w0 : w.heap.size < w1.heap.size := C1.blk (b := w.heap.size) (k := 0) (v := .int .i64 t.facts) (by simp)
    have y1wp1 : w.heap.size < w1.heap.size + 1 := (by omega)
    have y1wp2 : w.heap.size < w1.heap.size + 1 + 1 := (by omega)
    go_wp2_with fail
    refine (costs_all _ t Ai Ag Ao ci cg co (hT.below (by repeat (first | with_reducible exact D1 | with_reducible apply bdrew | with_reducible apply bdrewN | with_reducible apply balloc | ((with_reducible refine bset ?_ ?_ _); rotate_left; (first | omega | (simp <;> omega)))))) A c ls (hLL.below (by repeat (first | with_reducible exact Below.refl _ _ | with_reducible apply bdrew | with_reducible apply bdrewN | with_reducible apply balloc | ((with_reducible refine bset ?_ ?_ _); rotate_left; (first | omega | (simp <;> omega)))))) hll n HN.out HV.out HGO.out HR.out.set).mono ?_
    rintro e w2 ⟨v2, DD, rfl, ho2, hdok, hB2⟩
    have D2 := dstep w hB2 (by repeat (first | with_reducible exact D1 | with_reducible apply bdrew | with_reducible apply bdrewN | with_reducible apply balloc | ((with_reducible refine bset ?_ ?_ _); rotate_left; (first | omega | (simp <;> omega)))))
    have d2s := D2.size
    have C2 := Cls.below (l := [(w.heap.size, 0, .int .i64 t.facts), (w.heap.size, 1, .slice Ai t.init.length ci), (w.heap.size, 2, .slice Ag t.goal.length cg), (w.heap.size, 3, .slice Ao t.ops.length co)]) hB2 (by simp [Cls, go_sem, F1, y1w0, y1wp1, y1wp2])
    have F2 := C2
    simp only [Cls, and_true] at F2
    have y2w0 : w.heap.size < w2.heap.size := C2.blk (b := w.heap.size) (k := 0) (v := .int .i64 t.facts) (by simp)
    have y2wp1 : w.heap.size < w2.heap.size + 1 := (by omega)
    have y2wp2 : w.heap.size < w2.heap.size + 1 + 1 := (by omega)
    have HDK := Lib.hid hdok
    clear hdok
    have HL0 := Lib.hid (show 0 < ls.length from (List.getElem?_eq_some_iff.1 HR.out.head).1)
    have hl0 : 0 < ls.length := HL0.out
    obtain ⟨A2, c2, rfl, -⟩ := ho2.form_at HDK.out.st.len
    obtain ⟨g2, d, rfl, -, -, hd, hdc, -⟩ := ho2.at_ (k := 0) (by rw [HDK.out.st.len]; exact HL0.out)
    go_wp2
    refine bodyPost_ret (v := .int .i64 d) ?_ rfl ⟨d, rfl, .inr ⟨ls, DD, HR.out, hll, HDK.out, hd.out⟩, by repeat (first | with_reducible exact D2 | with_reducible apply bdrew | with_reducible apply bdrewN | with_reducible apply balloc | ((with_reducible refine bset ?_ ?_ _); rotate_left; (first | omega | (simp <;> omega))))⟩
    simp [results, Try.results38, go_sem]
  · have D1 := dstep w hB1 (by repeat (first | with_reducible exact Below.refl _ _ | with_reducible apply bdrew | with_reducible apply bdrewN | with_reducible apply balloc | ((with_reducible refine bset ?_ ?_ _); rotate_left; (first | omega | (simp <;> omega)))))
    have HX := Lib.hid hx
    clear hx
    go_wp2
    refine bodyPost_ret (v := .int .i64 (-1)) ?_ rfl ⟨-1, rfl, .inl ⟨rfl, HX.out⟩, by repeat (first | with_reducible exact D1 | with_reducible apply bdrew | with_reducible apply bdrewN | with_reducible apply balloc | ((with_reducible refine bset ?_ ?_ _); rotate_left; (first | omega | (simp <;> omega))))⟩
    simp [results, Try.results38, go_sem]

set_option maxRecDepth 100000 in
set_option maxHeartbeats 1000000 in
theorem cost_big (w : World) (t : TaskV) (Ai Ag Ao : Option Addr) (ci cg co : Nat) (hT : TaskMem w Ai Ag Ao t) (S : Option Addr) (cs : Nat) (st : List Int) (hS : Ints w S st) (n : Nat) (h8 : 8 < t.facts) :
    Calls Try.prog 43 #[.agg #[.int .i64 t.facts, .slice Ai t.init.length ci, .slice Ag t.goal.length cg, .slice Ao t.ops.length co], .slice S st.length cs] w fun e w' => ∃ d v, e = .returned (.tuple #[.int .i64 d, .bool v]) ∧ Hid (v = true → 0 ≤ d ∧ BestOut n t st d) ∧ Below w.heap.size w w' := by
  have h8' : t.facts > 8 := h8
  go_enter Try.func43, Try.ntmps43
  go_wp2
  refine bodyPost_ret (v := .tuple #[.int .i64 0, .bool false]) ?_ rfl ⟨0, false, rfl, Lib.hid (fun h => by cases h), by repeat (first | with_reducible exact Below.refl _ _ | with_reducible apply bdrew | with_reducible apply bdrewN | with_reducible apply balloc | ((with_reducible refine bset ?_ ?_ _); rotate_left; (first | omega | (simp <;> omega))))⟩
  simp [results, Try.results43, go_sem]

set_option maxRecDepth 100000 in
set_option maxHeartbeats 1000000 in
theorem cost_small (w : World) (t : TaskV) (Ai Ag Ao : Option Addr) (ci cg co : Nat) (hT : TaskMem w Ai Ag Ao t) (S : Option Addr) (cs : Nat) (st : List Int) (hS : Ints w S st) (n : Nat) (hn : t.facts = n) (hv : Valid t) (hst : SetP st (n : Int)) (h8 : ¬ 8 < t.facts) :
    Calls Try.prog 43 #[.agg #[.int .i64 t.facts, .slice Ai t.init.length ci, .slice Ag t.goal.length cg, .slice Ao t.ops.length co], .slice S st.length cs] w fun e w' => ∃ d v, e = .returned (.tuple #[.int .i64 d, .bool v]) ∧ Hid (v = true → 0 ≤ d ∧ BestOut n t st d) ∧ Below w.heap.size w w' := by
  have HN := Lib.hid hn
  have HV := Lib.hid hv
  have HST := Lib.hid hst
  have h8' : ¬ t.facts > 8 := h8
  clear hv hn hst
  go_enter Try.func43, Try.ntmps43
  go_wp2_with fail
  refine (bestfrom_any _ t Ai Ag Ao ci cg co (hT.below (by repeat (first | with_reducible exact Below.refl _ _ | with_reducible apply bdrew | with_reducible apply bdrewN | with_reducible apply balloc | ((with_reducible refine bset ?_ ?_ _); rotate_left; (first | omega | (simp <;> omega)))))) _ _ _ (hS.below (by repeat (first | with_reducible exact Below.refl _ _ | with_reducible apply bdrew | with_reducible apply bdrewN | with_reducible apply balloc | ((with_reducible refine bset ?_ ?_ _); rotate_left; (first | omega | (simp <;> omega)))))) n HN.out HV.out HST.out).mono ?_
  rintro e w1 ⟨d, rfl, hd, hB1⟩
  have D1 := dstep w hB1 (by repeat (first | with_reducible exact Below.refl _ _ | with_reducible apply bdrew | with_reducible apply bdrewN | with_reducible apply balloc | ((with_reducible refine bset ?_ ?_ _); rotate_left; (first | omega | (simp <;> omega)))))
  have d1s := D1.size
  have C1 := Cls.below (l := [(w.heap.size, 0, .int .i64 t.facts), (w.heap.size, 1, .slice Ai t.init.length ci), (w.heap.size, 2, .slice Ag t.goal.length cg), (w.heap.size, 3, .slice Ao t.ops.length co)]) hB1 (by simp [Cls, go_sem])
  have F1 := C1
  simp only [Cls, and_true] at F1
  have y1w0 : w.heap.size < w1.heap.size := C1.blk (b := w.heap.size) (k := 0) (v := .int .i64 t.facts) (by simp)
  have y1wp1 : w.heap.size < w1.heap.size + 1 := (by omega)
  have y1wp2 : w.heap.size < w1.heap.size + 1 + 1 := (by omega)
  have HD := Lib.hid hd
  clear hd
  by_cases h0 : d ≥ 0
  · have HV1 := Lib.hid (show true = true → 0 ≤ d ∧ BestOut n t st d from fun _ => ⟨by omega, HD.out⟩)
    have hd0 : decide (d ≥ 0) = true := decide_eq_true h0
    go_wp2
    refine bodyPost_ret (v := .tuple #[.int .i64 d, .bool true]) ?_ rfl ⟨d, true, rfl, Lib.hid (fun _ => ⟨by omega, HD.out⟩), by repeat (first | with_reducible exact D1 | with_reducible apply bdrew | with_reducible apply bdrewN | with_reducible apply balloc | ((with_reducible refine bset ?_ ?_ _); rotate_left; (first | omega | (simp <;> omega))))⟩
    simp [results, Try.results43, go_sem]
  · have hd0 : decide (d ≥ 0) = false := decide_eq_false h0
    go_wp2
    refine bodyPost_ret (v := .tuple #[.int .i64 d, .bool false]) ?_ rfl ⟨d, false, rfl, Lib.hid (fun h => by cases h), by repeat (first | with_reducible exact D1 | with_reducible apply bdrew | with_reducible apply bdrewN | with_reducible apply balloc | ((with_reducible refine bset ?_ ?_ _); rotate_left; (first | omega | (simp <;> omega))))⟩
    simp [results, Try.results43, go_sem]

theorem cost_any (w : World) (t : TaskV) (Ai Ag Ao : Option Addr) (ci cg co : Nat) (hT : TaskMem w Ai Ag Ao t) (S : Option Addr) (cs : Nat) (st : List Int) (hS : Ints w S st) (n : Nat) (hn : t.facts = n) (hv : Valid t) (hst : SetP st (n : Int)) :
    Calls Try.prog 43 #[.agg #[.int .i64 t.facts, .slice Ai t.init.length ci, .slice Ag t.goal.length cg, .slice Ao t.ops.length co], .slice S st.length cs] w fun e w' => ∃ d v, e = .returned (.tuple #[.int .i64 d, .bool v]) ∧ Hid (v = true → 0 ≤ d ∧ BestOut n t st d) ∧ Below w.heap.size w w' := by
  by_cases h : 8 < t.facts
  · exact cost_big w t Ai Ag Ao ci cg co hT S cs st hS n h
  · exact cost_small w t Ai Ag Ao ci cg co hT S cs st hS n hn hv hst h

end Go.Proofs.Ytihkgdlanfemcaa
