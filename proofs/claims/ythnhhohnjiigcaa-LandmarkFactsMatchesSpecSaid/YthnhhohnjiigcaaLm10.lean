/-
  S.LandmarkOrders, Couples: what they return.
-/
import Derived.Test.YthnhhohnjiigcaaLm9
import Derived.Test.YthnhhohnjiigcaaLm6
namespace Go.Proofs.Ythnhhohnjiigcaa
open Go.RowKit
set_option linter.unusedVariables false
set_option linter.unusedSimpArgs false

/-- The reference's pairs. -/
def RefP (n : Nat) (t : TaskV) (p q : Nat) : Prop := ¬ p = q ∧ ¬ (p : Int) ∈ t.init ∧ Land n t (p : Int) ∧ Land n t (q : Int) ∧ ¬ Reach t.init t.ops (useNot t.ops p) (q : Int)
open Classical in
noncomputable def refRow (n : Nat) (t : TaskV) (p j : Nat) : List (Int × Int) := ((List.range j).filter fun (q : Nat) => decide (RefP n t p q)).map fun (q : Nat) => ((p : Int), (q : Int))
noncomputable def refTo (n : Nat) (t : TaskV) (k : Nat) : List (Int × Int) := (List.range k).flatMap fun (p : Nat) => refRow n t p n
theorem refRow_yes {n : Nat} {t : TaskV} {p j : Nat} (h : RefP n t p j) : refRow n t p j ++ [((p : Int), (j : Int))] = refRow n t p (j + 1) := by
  unfold refRow
  rw [List.range_succ, List.filter_append, List.map_append]
  simp [h]
theorem refRow_no {n : Nat} {t : TaskV} {p j : Nat} (h : ¬ RefP n t p j) : refRow n t p (j + 1) = refRow n t p j := by
  unfold refRow
  rw [List.range_succ, List.filter_append, List.map_append]
  simp [h]
theorem refTo_succ {n : Nat} {t : TaskV} {k : Nat} : refTo n t (k + 1) = refTo n t k ++ refRow n t k n := by
  unfold refTo
  rw [List.range_succ, List.flatMap_append]
  simp
theorem refRow_len (n : Nat) (t : TaskV) (p j : Nat) : (refRow n t p j).length ≤ j := by
  unfold refRow
  rw [List.length_map]
  exact Nat.le_trans (List.length_filter_le _ _) (by simp)
theorem refTo_len (n : Nat) (t : TaskV) (k : Nat) : (refTo n t k).length ≤ k * n := by
  induction k with
  | zero => simp [refTo]
  | succ k ih => rw [refTo_succ, List.length_append, Nat.succ_mul]; have := refRow_len n t k n; omega
theorem flatMap_filter_map {α β γ : Type} (l : List α) (P : α → Bool) (f : α → β) (g : β → List γ) : ((l.filter P).map f).flatMap g = l.flatMap fun x => if P x then g (f x) else [] := by
  induction l with
  | nil => rfl
  | cons a l ih =>
    rw [List.filter_cons, List.flatMap_cons]
    by_cases h : P a = true
    · rw [if_pos h, if_pos h, List.map_cons, List.flatMap_cons, ih]
    · rw [if_neg h, if_neg h, List.nil_append]
      exact ih
open Classical in
theorem ref_row {n : Nat} {t : TaskV} {p : Nat} (hl : Land n t (p : Int)) : ordRow t (landV n t) (p : Int) = refRow n t p n := by
  unfold ordRow
  by_cases hi : (p : Int) ∈ t.init
  · rw [if_pos hi]
    unfold refRow
    rw [List.filter_eq_nil_iff.2 (fun q _ => by simp [RefP, hi])]
    rfl
  · rw [if_neg hi]
    unfold ordPart refRow landV landTo
    rw [List.filter_map, List.map_map, List.filter_filter]
    have e : ∀ q : Nat, (decide (Land n t (q : Int)) && decide (OrdP t (p : Int) (q : Int))) = decide (RefP n t p q) := fun q => by
      rw [Bool.eq_iff_iff]
      simp only [Bool.and_eq_true, decide_eq_true_eq]
      unfold OrdP RefP
      constructor
      · rintro ⟨h1, h2, h3⟩
        exact ⟨fun e => h2 (by rw [e]), hi, hl, h1, h3⟩
      · rintro ⟨h1, _, _, h4, h5⟩
        exact ⟨h4, fun e => h1 (by omega), h5⟩
    congr 1
    apply List.filter_congr
    intro q _
    rw [← e q]
    simp only [Function.comp]
    first | rfl | (rw [Bool.and_comm])
theorem ref_all (n : Nat) (t : TaskV) : refTo n t n = ordV n t := by
  unfold refTo ordV
  rw [show landV n t = ((List.range n).filter fun (p : Nat) => @decide (Land n t (p : Int)) (Classical.propDecidable _)).map (fun (p : Nat) => (p : Int)) from rfl]
  rw [flatMap_filter_map]
  have : ∀ p : Nat, refRow n t p n = (if (@decide (Land n t (p : Int)) (Classical.propDecidable _)) = true then ordRow t (landV n t) (p : Int) else []) := fun p => by
    by_cases h : Land n t (p : Int)
    · rw [if_pos (by simpa using h), ref_row h]
    · rw [if_neg (by simpa using h)]
      unfold refRow
      rw [List.filter_eq_nil_iff.2 (fun q _ => by simp [RefP, h])]
      rfl
  congr 1
  funext p
  exact this p
set_option maxRecDepth 100000 in
set_option maxHeartbeats 4000000 in
theorem lmorders_any (w : World) (t : TaskV) (Ai Ag Ao : Option Addr) (ci cg co : Nat) (hT : TaskMem w Ai Ag Ao t) (n : Nat) (hn : t.facts = n) (hv : Valid t) (hnil : Ai = none → t.init = [] ∧ ci = 0) :
    Calls Try.prog 24 #[.agg #[.int .i64 t.facts, .slice Ai t.init.length ci, .slice Ag t.goal.length cg, .slice Ao t.ops.length co]] w fun e w' => ∃ v, e = .returned v ∧ (∃ B, w.heap.size ≤ B ∧ OwnPP B w' v (ordV n t)) ∧ Below w.heap.size w w' := by
  have HV := Lib.hid hv
  have HN := Lib.hid hn
  have hn24 : n ≤ 24 := by have := hv.f1; omega
  have hn9 : n ≤ 1000000000 := by omega
  have h12 : t.ops.length ≤ 100000000000 := by have := hv.nops; omega
  have HSI := Lib.hid (show SetP t.init (n : Int) by rw [← hn]; exact hv.init)
  have HNI := Lib.hid hnil
  have HOPS := Lib.hid (ops_in hv hn)
  have hli := hT.linit.le
  clear hv hn hnil
  go_enter Try.func24, Try.ntmps24
  go_wp2_with fail
  go_loopw [3, 4] (fun v i wr => ∃ k : Nat, k ≤ n ∧ i = .int .i64 k ∧ OwnPP (w.heap.size + 1) wr v (refTo n t k) ∧ Below w.heap.size w wr ∧ Cls wr [(w.heap.size, 0, .int .i64 t.facts), (w.heap.size, 1, .slice Ai t.init.length ci), (w.heap.size, 2, .slice Ag t.goal.length cg), (w.heap.size, 3, .slice Ao t.ops.length co)]) (fun _ i _ => n - (intOf i).toNat)
  case atStart => exact ⟨0, Nat.zero_le _, rfl, OwnEs.nil _ _, (by repeat (first | with_reducible exact Below.refl _ _ | with_reducible apply bdrew | with_reducible apply bdrewN | with_reducible apply balloc | ((with_reducible refine bset ?_ ?_ _); rotate_left; (first | omega | (simp <;> omega))))), (by simp [Cls, go_sem])⟩
  case round =>
    obtain ⟨k, hk, rfl, hown, hBr, hCr⟩ := hrel
    obtain ⟨w2, rfl⟩ : ∃ wo : World, wo = wr := ⟨_, rfl⟩
    have drs := hBr.size
    have Fr := hCr
    simp only [Cls, and_true] at Fr
    have yrw0 : w.heap.size < w2.heap.size := hCr.blk (b := w.heap.size) (k := 0) (v := .int .i64 t.facts) (by simp)
    have yrwp1 : w.heap.size < w2.heap.size + 1 := (by omega)
    have yrwp2 : w.heap.size < w2.heap.size + 1 + 1 := (by omega)
    by_cases hlt : k < n
    · have hltf : (k : Int) < t.facts := by have := HN.out; omega
      have ho0 : OwnPP (w.heap.size + 1) w2 u3 (refTo n t k ++ refRow n t k 0) := by
        have : refTo n t k ++ refRow n t k 0 = refTo n t k := by simp [refRow]
        rw [this]; exact hown
      clear hown
      go_wp2_with fail
      go_loopw [3, 5] (fun v i wr => ∃ j : Nat, j ≤ n ∧ i = .int .i64 j ∧ OwnPP (w.heap.size + 1) wr v (refTo n t k ++ refRow n t k j) ∧ Below w.heap.size w wr ∧ Cls wr [(w.heap.size, 0, .int .i64 t.facts), (w.heap.size, 1, .slice Ai t.init.length ci), (w.heap.size, 2, .slice Ag t.goal.length cg), (w.heap.size, 3, .slice Ao t.ops.length co)]) (fun _ i _ => n - (intOf i).toNat)
      case atStart => exact ⟨0, Nat.zero_le _, rfl, ho0, (by repeat (first | with_reducible exact hBr | with_reducible apply bdrew | with_reducible apply bdrewN | with_reducible apply balloc | ((with_reducible refine bset ?_ ?_ _); rotate_left; (first | omega | (simp <;> omega))))), hCr⟩
      case round =>
        clear ho0
        obtain ⟨j, hj, rfl, ho3, hBs, hCs⟩ := hrel
        obtain ⟨w3, rfl⟩ : ∃ wo : World, wo = wr := ⟨_, rfl⟩
        have dss := hBs.size
        have Fs := hCs
        simp only [Cls, and_true] at Fs
        have ysw0 : w.heap.size < w3.heap.size := hCs.blk (b := w.heap.size) (k := 0) (v := .int .i64 t.facts) (by simp)
        have yswp1 : w.heap.size < w3.heap.size + 1 := (by omega)
        have yswp2 : w.heap.size < w3.heap.size + 1 + 1 := (by omega)
        by_cases hlj : j < n
        · have hltq : (j : Int) < t.facts := by have := HN.out; omega
          have hlen : (refTo n t k ++ refRow n t k j).length < 1000000000000 := by
            rw [List.length_append]
            have h1 := refTo_len n t k
            have h2 := refRow_len n t k j
            have h3 := Nat.mul_le_mul (show k ≤ 24 by omega) (show n ≤ 24 by omega)
            omega
          by_cases hkj : k = j
          · subst hkj
            have HL := Lib.hid (refRow_no (n := n) (t := t) (p := k) (j := k) (fun h => h.1 rfl))
            go_wp2_with fail
            go_quiet (fail)
            go_wp2
            go_roundw
            case rel => exact ⟨k + 1, by omega, by go_num, by rw [HL.out]; exact ho3.below (by repeat (first | with_reducible exact Below.refl _ _ | with_reducible apply bdrew | with_reducible apply bdrewN | with_reducible apply balloc | ((with_reducible refine bset ?_ ?_ _); rotate_left; (first | omega | (simp <;> omega))))), (by repeat (first | with_reducible exact hBs | with_reducible apply bdrew | with_reducible apply bdrewN | with_reducible apply balloc | ((with_reducible refine bset ?_ ?_ _); rotate_left; (first | omega | (simp <;> omega))))), (Cls.below (w := w3) (by repeat (first | with_reducible exact Below.refl _ _ | with_reducible apply bdrew | with_reducible apply bdrewN | with_reducible apply balloc | ((with_reducible refine bset ?_ ?_ _); rotate_left; (first | omega | (simp <;> omega))))) hCs)⟩
            case measure => simp [intOf]; omega
          · have hb1 : (k != j) = true := by simpa using hkj
            have hb2 : ((k : Int) != (j : Int)) = true := by simp; omega
            have HKJ := Lib.hid hkj
            clear hkj
            by_cases hi : (k : Int) ∈ t.init
            · have HI := Lib.hid hi
              have HL := Lib.hid (refRow_no (n := n) (t := t) (p := k) (j := j) (fun h => h.2.1 hi))
              clear hi
              go_wp2_with fail
              go_quiet ((go_at_call 27; exact Calls.quiet_of_same (((has_yes _ _ _ _ _ (hT.init.below (by repeat (first | with_reducible exact hBs | with_reducible apply bdrew | with_reducible apply bdrewN | with_reducible apply balloc | ((with_reducible refine bset ?_ ?_ _); rotate_left; (first | omega | (simp <;> omega)))))) hli HI.out).mono fun _ _ h => ⟨h.1, h.2.symm⟩))))
              go_wp2
              go_roundw
              case rel => exact ⟨j + 1, by omega, by go_num, by rw [HL.out]; exact ho3.below (by repeat (first | with_reducible exact Below.refl _ _ | with_reducible apply bdrew | with_reducible apply bdrewN | with_reducible apply balloc | ((with_reducible refine bset ?_ ?_ _); rotate_left; (first | omega | (simp <;> omega))))), (by repeat (first | with_reducible exact hBs | with_reducible apply bdrew | with_reducible apply bdrewN | with_reducible apply balloc | ((with_reducible refine bset ?_ ?_ _); rotate_left; (first | omega | (simp <;> omega))))), (Cls.below (w := w3) (by repeat (first | with_reducible exact Below.refl _ _ | with_reducible apply bdrew | with_reducible apply bdrewN | with_reducible apply balloc | ((with_reducible refine bset ?_ ?_ _); rotate_left; (first | omega | (simp <;> omega))))) hCs)⟩
              case measure => simp [intOf]; omega
            · have HI := Lib.hid hi
              clear hi
              have HB := hBs
              have HE := Below.refl w3.heap.size w3
              cases hlp : landB n t (k : Int) with
              | false =>
                have HP := Lib.hid hlp
                have HQ := HP
                have HL := Lib.hid (refRow_no (n := n) (t := t) (p := k) (j := j) (fun h => landB_false.1 hlp h.2.2.1))
                clear hlp
                go_wp2_with fail
                refine wp_region_held_drew (S := fun W => W.cell? ⟨w.heap.size, 0, none⟩ = some (.int .i64 t.facts) ∧ W.cell? ⟨w.heap.size, 1, none⟩ = some (.slice Ai t.init.length ci) ∧ W.cell? ⟨w.heap.size, 2, none⟩ = some (.slice Ag t.goal.length cg) ∧ W.cell? ⟨w.heap.size, 3, none⟩ = some (.slice Ao t.ops.length co)) (by kernel_rfl) (by first | exact hK0 | go_keep) (fun hHeld => ?_)
                refine wpAnyH_take (i := 0) (v := ?vq40) rfl (by kernel_rfl) (by kernel_rfl) (by kernel_rfl) (fun _ _ _ h => h) (Or.inl ⟨by rfl, ?hq40⟩) (by assumption) ?rq40
                case hq40 => (intro w hSw; (try dsimp only at hSw); go_simp; (try with_reducible rfl))
                try simp only [Act.put, List.getElem_toArray, List.getElem_cons_succ, List.getElem_cons_zero, List.setIfInBounds_toArray, List.set_cons_zero, List.set_cons_succ]
                refine wpAnyH_take (i := 1) (v := ?vq41) rfl (by kernel_rfl) (by kernel_rfl) (by kernel_rfl) (fun _ _ _ h => h) (Or.inl ⟨by rfl, ?hq41⟩) (by assumption) ?rq41
                case hq41 => (intro w hSw; (try dsimp only at hSw); go_simp; (try with_reducible rfl))
                try simp only [Act.put, List.getElem_toArray, List.getElem_cons_succ, List.getElem_cons_zero, List.setIfInBounds_toArray, List.set_cons_zero, List.set_cons_succ]
                refine wpAnyH_take (i := 2) (v := ?vq42) rfl (by kernel_rfl) (by kernel_rfl) (by kernel_rfl) (fun _ _ _ h => h) (Or.inl ⟨by rfl, ?hq42⟩) (by assumption) ?rq42
                case hq42 => (intro w hSw; (try dsimp only at hSw); go_simp; (try with_reducible rfl))
                try simp only [Act.put, List.getElem_toArray, List.getElem_cons_succ, List.getElem_cons_zero, List.setIfInBounds_toArray, List.set_cons_zero, List.set_cons_succ]
                refine wpAnyH_take (i := 3) (v := ?vq43) rfl (by kernel_rfl) (by kernel_rfl) (by kernel_rfl) (fun _ _ _ h => h) (Or.inl ⟨by rfl, ?hq43⟩) (by assumption) ?rq43
                case hq43 => (intro w hSw; (try dsimp only at hSw); go_simp; (try with_reducible rfl))
                try simp only [Act.put, List.getElem_toArray, List.getElem_cons_succ, List.getElem_cons_zero, List.setIfInBounds_toArray, List.set_cons_zero, List.set_cons_succ]
                refine wpAnyH_take (i := 4) (v := ?vq44) rfl (by kernel_rfl) (by kernel_rfl) (by kernel_rfl) (fun _ _ _ h => h) (Or.inl ⟨by rfl, ?hq44⟩) (by assumption) ?rq44
                case hq44 => (intro w hSw; (try dsimp only at hSw); go_simp; (try with_reducible rfl))
                try simp only [Act.put, List.getElem_toArray, List.getElem_cons_succ, List.getElem_cons_zero, List.setIfInBounds_toArray, List.set_cons_zero, List.set_cons_succ]
                refine wpAnyH_take (i := 5) (v := ?vq45) rfl (by kernel_rfl) (by kernel_rfl) (by kernel_rfl) (fun _ _ _ h => h) (Or.inl ⟨by rfl, ?hq45⟩) (by assumption) ?rq45
                case hq45 => (intro w hSw; (try dsimp only at hSw); go_simp; (try with_reducible rfl))
                try simp only [Act.put, List.getElem_toArray, List.getElem_cons_succ, List.getElem_cons_zero, List.setIfInBounds_toArray, List.set_cons_zero, List.set_cons_succ]
                refine wpAnyH_take (i := 6) (v := ?vq46) rfl (by kernel_rfl) (by kernel_rfl) (by kernel_rfl) (fun _ _ _ h => h) (Or.inl ⟨by rfl, ?hq46⟩) (by assumption) ?rq46
                case hq46 => (intro w hSw; (try dsimp only at hSw); go_simp; (try with_reducible rfl))
                try simp only [Act.put, List.getElem_toArray, List.getElem_cons_succ, List.getElem_cons_zero, List.setIfInBounds_toArray, List.set_cons_zero, List.set_cons_succ]
                refine wpAnyH_ready (rs := [7]) (by kernel_rfl) (by simp) ?_
                refine AllReadyH.cons rfl (fun K hK => ?_) AllReadyH.nil
                go_simp
                go_at_call 27; refine (has_no _ _ _ _ _ (hT.init.below (by repeat (first | with_reducible exact hBs | with_reducible apply bdrew | with_reducible apply bdrewN | with_reducible apply balloc | ((with_reducible refine bset ?_ ?_ _); rotate_left; (first | omega | (simp <;> omega)))))) hli HI.out).mono ?_; rintro e w9 ⟨rfl, hW⟩; subst hW; have hSS := hHeld
                go_wp2_with fail
                refine hK.out _ _ hSS (fun hHeld => ?_)
                clear hK K
                try simp only [Act.put, List.getElem_toArray, List.getElem_cons_succ, List.getElem_cons_zero, List.setIfInBounds_toArray, List.set_cons_zero, List.set_cons_succ]
                refine wpAnyH_take (i := 8) (v := ?vq48) rfl (by kernel_rfl) (by kernel_rfl) (by kernel_rfl) (fun _ _ _ h => h) (Or.inl ⟨by rfl, ?hq48⟩) (by assumption) ?rq48
                case hq48 => (intro w hSw; (try dsimp only at hSw); go_simp; (try with_reducible rfl))
                try simp only [Act.put, List.getElem_toArray, List.getElem_cons_succ, List.getElem_cons_zero, List.setIfInBounds_toArray, List.set_cons_zero, List.set_cons_succ]
                refine wpAnyH_take (i := 9) (v := ?vq49) rfl (by kernel_rfl) (by kernel_rfl) (by kernel_rfl) (fun _ _ _ h => h) (Or.inl ⟨by rfl, ?hq49⟩) (by assumption) ?rq49
                case hq49 => (intro w hSw; (try dsimp only at hSw); go_simp; (try with_reducible rfl))
                try simp only [Act.put, List.getElem_toArray, List.getElem_cons_succ, List.getElem_cons_zero, List.setIfInBounds_toArray, List.set_cons_zero, List.set_cons_succ]
                refine wpAnyH_take (i := 10) (v := ?vq410) rfl (by kernel_rfl) (by kernel_rfl) (by kernel_rfl) (fun _ _ _ h => h) (Or.inl ⟨by rfl, ?hq410⟩) (by assumption) ?rq410
                case hq410 => (intro w hSw; (try dsimp only at hSw); go_simp; (try with_reducible rfl))
                try simp only [Act.put, List.getElem_toArray, List.getElem_cons_succ, List.getElem_cons_zero, List.setIfInBounds_toArray, List.set_cons_zero, List.set_cons_succ]
                refine wpAnyH_take (i := 11) (v := ?vq411) rfl (by kernel_rfl) (by kernel_rfl) (by kernel_rfl) (fun _ _ _ h => h) (Or.inl ⟨by rfl, ?hq411⟩) (by assumption) ?rq411
                case hq411 => (intro w hSw; (try dsimp only at hSw); go_simp; (try with_reducible rfl))
                try simp only [Act.put, List.getElem_toArray, List.getElem_cons_succ, List.getElem_cons_zero, List.setIfInBounds_toArray, List.set_cons_zero, List.set_cons_succ]
                refine wpAnyH_take (i := 12) (v := ?vq412) rfl (by kernel_rfl) (by kernel_rfl) (by kernel_rfl) (fun _ _ _ h => h) (Or.inl ⟨by rfl, ?hq412⟩) (by assumption) ?rq412
                case hq412 => (intro w hSw; (try dsimp only at hSw); go_simp; (try with_reducible rfl))
                try simp only [Act.put, List.getElem_toArray, List.getElem_cons_succ, List.getElem_cons_zero, List.setIfInBounds_toArray, List.set_cons_zero, List.set_cons_succ]
                refine wpAnyH_ready (rs := [13]) (by kernel_rfl) (by simp) ?_
                refine AllReadyH.cons rfl (fun K hK => ?_) AllReadyH.nil
                go_simp
                go_at_call 54; refine (islandmark_any _ t Ai Ag Ao ci cg co (hT.below (by repeat (first | with_reducible exact HB | with_reducible apply bdrew | with_reducible apply bdrewN | with_reducible apply balloc | ((with_reducible refine bset ?_ ?_ _); rotate_left; (first | omega | (simp <;> omega)))))) n HN.out HV.out HNI.out _).mono ?_; rintro e wx ⟨he, hB⟩; (first | (rw [HP.out] at he; subst he) | (rw [HQ.out] at he; subst he)); have HB' := dstep w hB (by repeat (first | with_reducible exact HB | with_reducible apply bdrew | with_reducible apply bdrewN | with_reducible apply balloc | ((with_reducible refine bset ?_ ?_ _); rotate_left; (first | omega | (simp <;> omega))))); clear HB; have HB := HB'; clear HB'; have HE' := dstep w3 hB (by repeat (first | with_reducible exact HE | with_reducible apply bdrew | with_reducible apply bdrewN | with_reducible apply balloc | ((with_reducible refine bset ?_ ?_ _); rotate_left; (first | omega | (simp <;> omega))))); clear HE; have HE := HE'; clear HE'; have CX := Cls.below (w := w3) HE hCs; have FX := CX; simp only [Cls, and_true] at FX; have hSS : wx.cell? ⟨w.heap.size, 0, none⟩ = some (.int .i64 t.facts) ∧ wx.cell? ⟨w.heap.size, 1, none⟩ = some (.slice Ai t.init.length ci) ∧ wx.cell? ⟨w.heap.size, 2, none⟩ = some (.slice Ag t.goal.length cg) ∧ wx.cell? ⟨w.heap.size, 3, none⟩ = some (.slice Ao t.ops.length co) := (by simp [FX]); clear CX FX hB
                go_wp2_with fail
                refine hK.out _ _ hSS (fun hHeld => ?_)
                clear hK K
                try simp only [Act.put, List.getElem_toArray, List.getElem_cons_succ, List.getElem_cons_zero, List.setIfInBounds_toArray, List.set_cons_zero, List.set_cons_succ]
                refine wpAnyH_take (i := 14) (v := ?vq414) rfl (by kernel_rfl) (by kernel_rfl) (by kernel_rfl) (fun _ _ _ h => h) (Or.inl ⟨by rfl, ?hq414⟩) (by assumption) ?rq414
                case hq414 => (intro w hSw; (try dsimp only at hSw); go_simp; (try with_reducible rfl))
                try simp only [Act.put, List.getElem_toArray, List.getElem_cons_succ, List.getElem_cons_zero, List.setIfInBounds_toArray, List.set_cons_zero, List.set_cons_succ]
                refine wpAnyH_take (i := 15) (v := ?vq415) rfl (by kernel_rfl) (by kernel_rfl) (by kernel_rfl) (fun _ _ _ h => h) (Or.inl ⟨by rfl, ?hq415⟩) (by assumption) ?rq415
                case hq415 => (intro w hSw; (try dsimp only at hSw); go_simp; (try with_reducible rfl))
                try simp only [Act.put, List.getElem_toArray, List.getElem_cons_succ, List.getElem_cons_zero, List.setIfInBounds_toArray, List.set_cons_zero, List.set_cons_succ]
                refine wpAnyH_take (i := 16) (v := undef) rfl (by kernel_rfl) (by kernel_rfl) (by kernel_rfl) (fun _ _ _ h => h) (Or.inr ⟨?wq416, rfl⟩) (by assumption) ?rq416
                case wq416 => simp [Region.wanted, yielded]
                try simp only [Act.put, List.getElem_toArray, List.getElem_cons_succ, List.getElem_cons_zero, List.setIfInBounds_toArray, List.set_cons_zero, List.set_cons_succ]
                refine wpAnyH_take (i := 17) (v := undef) rfl (by kernel_rfl) (by kernel_rfl) (by kernel_rfl) (fun _ _ _ h => h) (Or.inr ⟨?wq417, rfl⟩) (by assumption) ?rq417
                case wq417 => simp [Region.wanted, yielded]
                try simp only [Act.put, List.getElem_toArray, List.getElem_cons_succ, List.getElem_cons_zero, List.setIfInBounds_toArray, List.set_cons_zero, List.set_cons_succ]
                refine wpAnyH_take (i := 18) (v := undef) rfl (by kernel_rfl) (by kernel_rfl) (by kernel_rfl) (fun _ _ _ h => h) (Or.inr ⟨?wq418, rfl⟩) (by assumption) ?rq418
                case wq418 => simp [Region.wanted, yielded]
                try simp only [Act.put, List.getElem_toArray, List.getElem_cons_succ, List.getElem_cons_zero, List.setIfInBounds_toArray, List.set_cons_zero, List.set_cons_succ]
                refine wpAnyH_take (i := 19) (v := ?vq419) rfl (by kernel_rfl) (by kernel_rfl) (by kernel_rfl) (fun _ _ _ h => h) (Or.inl ⟨by rfl, ?hq419⟩) (by assumption) ?rq419
                case hq419 => (intro w hSw; (try dsimp only at hSw); go_simp; (try with_reducible rfl))
                try simp only [Act.put, List.getElem_toArray, List.getElem_cons_succ, List.getElem_cons_zero, List.setIfInBounds_toArray, List.set_cons_zero, List.set_cons_succ]
                refine wpAnyH_take (i := 20) (v := ?vq420) rfl (by kernel_rfl) (by kernel_rfl) (by kernel_rfl) (fun _ _ _ h => h) (Or.inl ⟨by rfl, ?hq420⟩) (by assumption) ?rq420
                case hq420 => (intro w hSw; (try dsimp only at hSw); go_simp; (try with_reducible rfl))
                try simp only [Act.put, List.getElem_toArray, List.getElem_cons_succ, List.getElem_cons_zero, List.setIfInBounds_toArray, List.set_cons_zero, List.set_cons_succ]
                refine wpAnyH_take (i := 21) (v := undef) rfl (by kernel_rfl) (by kernel_rfl) (by kernel_rfl) (fun _ _ _ h => h) (Or.inr ⟨?wq421, rfl⟩) (by assumption) ?rq421
                case wq421 => simp [Region.wanted, yielded]
                try simp only [Act.put, List.getElem_toArray, List.getElem_cons_succ, List.getElem_cons_zero, List.setIfInBounds_toArray, List.set_cons_zero, List.set_cons_succ]
                refine wpAnyH_take (i := 22) (v := undef) rfl (by kernel_rfl) (by kernel_rfl) (by kernel_rfl) (fun _ _ _ h => h) (Or.inr ⟨?wq422, rfl⟩) (by assumption) ?rq422
                case wq422 => simp [Region.wanted, yielded]
                try simp only [Act.put, List.getElem_toArray, List.getElem_cons_succ, List.getElem_cons_zero, List.setIfInBounds_toArray, List.set_cons_zero, List.set_cons_succ]
                refine wpAnyH_take (i := 23) (v := undef) rfl (by kernel_rfl) (by kernel_rfl) (by kernel_rfl) (fun _ _ _ h => h) (Or.inr ⟨?wq423, rfl⟩) (by assumption) ?rq423
                case wq423 => simp [Region.wanted, yielded]
                try simp only [Act.put, List.getElem_toArray, List.getElem_cons_succ, List.getElem_cons_zero, List.setIfInBounds_toArray, List.set_cons_zero, List.set_cons_succ]
                refine wpAnyH_take (i := 24) (v := undef) rfl (by kernel_rfl) (by kernel_rfl) (by kernel_rfl) (fun _ _ _ h => h) (Or.inr ⟨?wq424, rfl⟩) (by assumption) ?rq424
                case wq424 => simp [Region.wanted, yielded]
                try simp only [Act.put, List.getElem_toArray, List.getElem_cons_succ, List.getElem_cons_zero, List.setIfInBounds_toArray, List.set_cons_zero, List.set_cons_succ]
                refine wpAnyH_take (i := 25) (v := undef) rfl (by kernel_rfl) (by kernel_rfl) (by kernel_rfl) (fun _ _ _ h => h) (Or.inr ⟨?wq425, rfl⟩) (by assumption) ?rq425
                case wq425 => simp [Region.wanted, yielded]
                try simp only [Act.put, List.getElem_toArray, List.getElem_cons_succ, List.getElem_cons_zero, List.setIfInBounds_toArray, List.set_cons_zero, List.set_cons_succ]
                refine wpAnyH_take (i := 26) (v := undef) rfl (by kernel_rfl) (by kernel_rfl) (by kernel_rfl) (fun _ _ _ h => h) (Or.inr ⟨?wq426, rfl⟩) (by assumption) ?rq426
                case wq426 => simp [Region.wanted, yielded]
                try simp only [Act.put, List.getElem_toArray, List.getElem_cons_succ, List.getElem_cons_zero, List.setIfInBounds_toArray, List.set_cons_zero, List.set_cons_succ]
                refine wpAnyH_take (i := 27) (v := undef) rfl (by kernel_rfl) (by kernel_rfl) (by kernel_rfl) (fun _ _ _ h => h) (Or.inr ⟨?wq427, rfl⟩) (by assumption) ?rq427
                case wq427 => simp [Region.wanted, yielded]
                try simp only [Act.put, List.getElem_toArray, List.getElem_cons_succ, List.getElem_cons_zero, List.setIfInBounds_toArray, List.set_cons_zero, List.set_cons_succ]
                refine wpAnyH_take (i := 28) (v := undef) rfl (by kernel_rfl) (by kernel_rfl) (by kernel_rfl) (fun _ _ _ h => h) (Or.inr ⟨?wq428, rfl⟩) (by assumption) ?rq428
                case wq428 => simp [Region.wanted, yielded]
                try simp only [Act.put, List.getElem_toArray, List.getElem_cons_succ, List.getElem_cons_zero, List.setIfInBounds_toArray, List.set_cons_zero, List.set_cons_succ]
                refine wpAnyH_take (i := 29) (v := undef) rfl (by kernel_rfl) (by kernel_rfl) (by kernel_rfl) (fun _ _ _ h => h) (Or.inr ⟨?wq429, rfl⟩) (by assumption) ?rq429
                case wq429 => simp [Region.wanted, yielded]
                try simp only [Act.put, List.getElem_toArray, List.getElem_cons_succ, List.getElem_cons_zero, List.setIfInBounds_toArray, List.set_cons_zero, List.set_cons_succ]
                refine wpAnyH_take (i := 30) (v := undef) rfl (by kernel_rfl) (by kernel_rfl) (by kernel_rfl) (fun _ _ _ h => h) (Or.inr ⟨?wq430, rfl⟩) (by assumption) ?rq430
                case wq430 => simp [Region.wanted, yielded]
                try simp only [Act.put, List.getElem_toArray, List.getElem_cons_succ, List.getElem_cons_zero, List.setIfInBounds_toArray, List.set_cons_zero, List.set_cons_succ]
                refine wpAnyH_take (i := 31) (v := ?vq431) rfl (by kernel_rfl) (by kernel_rfl) (by kernel_rfl) (fun _ _ _ h => h) (Or.inl ⟨?wq431, ?hq431⟩) (by assumption) ?rq431
                case wq431 => simp [Region.wanted, yielded]
                case hq431 => (intro w hSw; (try dsimp only at hSw); go_simp; (try with_reducible rfl))
                try simp only [Act.put, List.getElem_toArray, List.getElem_cons_succ, List.getElem_cons_zero, List.setIfInBounds_toArray, List.set_cons_zero, List.set_cons_succ]
                refine wpAnyH_done (by kernel_rfl) ?_ _
                go_wp2
                go_roundw
                case rel => exact ⟨j + 1, by omega, by go_num, by rw [HL.out]; exact ho3.below HE, HB, (Cls.below (w := w3) HE hCs)⟩
                case measure => simp [intOf]; omega
              | true =>
                have HP := Lib.hid hlp
                have HLP := Lib.hid (landB_true.1 hlp)
                clear hlp
                cases hlq : landB n t (j : Int) with
                | false =>
                  have HQ := Lib.hid hlq
                  have HL := Lib.hid (refRow_no (n := n) (t := t) (p := k) (j := j) (fun h => landB_false.1 hlq h.2.2.2.1))
                  clear hlq
                  go_wp2_with fail
                  refine wp_region_held_drew (S := fun W => W.cell? ⟨w.heap.size, 0, none⟩ = some (.int .i64 t.facts) ∧ W.cell? ⟨w.heap.size, 1, none⟩ = some (.slice Ai t.init.length ci) ∧ W.cell? ⟨w.heap.size, 2, none⟩ = some (.slice Ag t.goal.length cg) ∧ W.cell? ⟨w.heap.size, 3, none⟩ = some (.slice Ao t.ops.length co)) (by kernel_rfl) (by first | exact hK0 | go_keep) (fun hHeld => ?_)
                  refine wpAnyH_take (i := 0) (v := ?vq10) rfl (by kernel_rfl) (by kernel_rfl) (by kernel_rfl) (fun _ _ _ h => h) (Or.inl ⟨by rfl, ?hq10⟩) (by assumption) ?rq10
                  case hq10 => (intro w hSw; (try dsimp only at hSw); go_simp; (try with_reducible rfl))
                  try simp only [Act.put, List.getElem_toArray, List.getElem_cons_succ, List.getElem_cons_zero, List.setIfInBounds_toArray, List.set_cons_zero, List.set_cons_succ]
                  refine wpAnyH_take (i := 1) (v := ?vq11) rfl (by kernel_rfl) (by kernel_rfl) (by kernel_rfl) (fun _ _ _ h => h) (Or.inl ⟨by rfl, ?hq11⟩) (by assumption) ?rq11
                  case hq11 => (intro w hSw; (try dsimp only at hSw); go_simp; (try with_reducible rfl))
                  try simp only [Act.put, List.getElem_toArray, List.getElem_cons_succ, List.getElem_cons_zero, List.setIfInBounds_toArray, List.set_cons_zero, List.set_cons_succ]
                  refine wpAnyH_take (i := 2) (v := ?vq12) rfl (by kernel_rfl) (by kernel_rfl) (by kernel_rfl) (fun _ _ _ h => h) (Or.inl ⟨by rfl, ?hq12⟩) (by assumption) ?rq12
                  case hq12 => (intro w hSw; (try dsimp only at hSw); go_simp; (try with_reducible rfl))
                  try simp only [Act.put, List.getElem_toArray, List.getElem_cons_succ, List.getElem_cons_zero, List.setIfInBounds_toArray, List.set_cons_zero, List.set_cons_succ]
                  refine wpAnyH_take (i := 3) (v := ?vq13) rfl (by kernel_rfl) (by kernel_rfl) (by kernel_rfl) (fun _ _ _ h => h) (Or.inl ⟨by rfl, ?hq13⟩) (by assumption) ?rq13
                  case hq13 => (intro w hSw; (try dsimp only at hSw); go_simp; (try with_reducible rfl))
                  try simp only [Act.put, List.getElem_toArray, List.getElem_cons_succ, List.getElem_cons_zero, List.setIfInBounds_toArray, List.set_cons_zero, List.set_cons_succ]
                  refine wpAnyH_take (i := 4) (v := ?vq14) rfl (by kernel_rfl) (by kernel_rfl) (by kernel_rfl) (fun _ _ _ h => h) (Or.inl ⟨by rfl, ?hq14⟩) (by assumption) ?rq14
                  case hq14 => (intro w hSw; (try dsimp only at hSw); go_simp; (try with_reducible rfl))
                  try simp only [Act.put, List.getElem_toArray, List.getElem_cons_succ, List.getElem_cons_zero, List.setIfInBounds_toArray, List.set_cons_zero, List.set_cons_succ]
                  refine wpAnyH_take (i := 5) (v := ?vq15) rfl (by kernel_rfl) (by kernel_rfl) (by kernel_rfl) (fun _ _ _ h => h) (Or.inl ⟨by rfl, ?hq15⟩) (by assumption) ?rq15
                  case hq15 => (intro w hSw; (try dsimp only at hSw); go_simp; (try with_reducible rfl))
                  try simp only [Act.put, List.getElem_toArray, List.getElem_cons_succ, List.getElem_cons_zero, List.setIfInBounds_toArray, List.set_cons_zero, List.set_cons_succ]
                  refine wpAnyH_take (i := 6) (v := ?vq16) rfl (by kernel_rfl) (by kernel_rfl) (by kernel_rfl) (fun _ _ _ h => h) (Or.inl ⟨by rfl, ?hq16⟩) (by assumption) ?rq16
                  case hq16 => (intro w hSw; (try dsimp only at hSw); go_simp; (try with_reducible rfl))
                  try simp only [Act.put, List.getElem_toArray, List.getElem_cons_succ, List.getElem_cons_zero, List.setIfInBounds_toArray, List.set_cons_zero, List.set_cons_succ]
                  refine wpAnyH_ready (rs := [7]) (by kernel_rfl) (by simp) ?_
                  refine AllReadyH.cons rfl (fun K hK => ?_) AllReadyH.nil
                  go_simp
                  go_at_call 27; refine (has_no _ _ _ _ _ (hT.init.below (by repeat (first | with_reducible exact hBs | with_reducible apply bdrew | with_reducible apply bdrewN | with_reducible apply balloc | ((with_reducible refine bset ?_ ?_ _); rotate_left; (first | omega | (simp <;> omega)))))) hli HI.out).mono ?_; rintro e w9 ⟨rfl, hW⟩; subst hW; have hSS := hHeld
                  go_wp2_with fail
                  refine hK.out _ _ hSS (fun hHeld => ?_)
                  clear hK K
                  try simp only [Act.put, List.getElem_toArray, List.getElem_cons_succ, List.getElem_cons_zero, List.setIfInBounds_toArray, List.set_cons_zero, List.set_cons_succ]
                  refine wpAnyH_take (i := 8) (v := ?vq18) rfl (by kernel_rfl) (by kernel_rfl) (by kernel_rfl) (fun _ _ _ h => h) (Or.inl ⟨by rfl, ?hq18⟩) (by assumption) ?rq18
                  case hq18 => (intro w hSw; (try dsimp only at hSw); go_simp; (try with_reducible rfl))
                  try simp only [Act.put, List.getElem_toArray, List.getElem_cons_succ, List.getElem_cons_zero, List.setIfInBounds_toArray, List.set_cons_zero, List.set_cons_succ]
                  refine wpAnyH_take (i := 9) (v := ?vq19) rfl (by kernel_rfl) (by kernel_rfl) (by kernel_rfl) (fun _ _ _ h => h) (Or.inl ⟨by rfl, ?hq19⟩) (by assumption) ?rq19
                  case hq19 => (intro w hSw; (try dsimp only at hSw); go_simp; (try with_reducible rfl))
                  try simp only [Act.put, List.getElem_toArray, List.getElem_cons_succ, List.getElem_cons_zero, List.setIfInBounds_toArray, List.set_cons_zero, List.set_cons_succ]
                  refine wpAnyH_take (i := 10) (v := ?vq110) rfl (by kernel_rfl) (by kernel_rfl) (by kernel_rfl) (fun _ _ _ h => h) (Or.inl ⟨by rfl, ?hq110⟩) (by assumption) ?rq110
                  case hq110 => (intro w hSw; (try dsimp only at hSw); go_simp; (try with_reducible rfl))
                  try simp only [Act.put, List.getElem_toArray, List.getElem_cons_succ, List.getElem_cons_zero, List.setIfInBounds_toArray, List.set_cons_zero, List.set_cons_succ]
                  refine wpAnyH_take (i := 11) (v := ?vq111) rfl (by kernel_rfl) (by kernel_rfl) (by kernel_rfl) (fun _ _ _ h => h) (Or.inl ⟨by rfl, ?hq111⟩) (by assumption) ?rq111
                  case hq111 => (intro w hSw; (try dsimp only at hSw); go_simp; (try with_reducible rfl))
                  try simp only [Act.put, List.getElem_toArray, List.getElem_cons_succ, List.getElem_cons_zero, List.setIfInBounds_toArray, List.set_cons_zero, List.set_cons_succ]
                  refine wpAnyH_take (i := 12) (v := ?vq112) rfl (by kernel_rfl) (by kernel_rfl) (by kernel_rfl) (fun _ _ _ h => h) (Or.inl ⟨by rfl, ?hq112⟩) (by assumption) ?rq112
                  case hq112 => (intro w hSw; (try dsimp only at hSw); go_simp; (try with_reducible rfl))
                  try simp only [Act.put, List.getElem_toArray, List.getElem_cons_succ, List.getElem_cons_zero, List.setIfInBounds_toArray, List.set_cons_zero, List.set_cons_succ]
                  refine wpAnyH_ready (rs := [13]) (by kernel_rfl) (by simp) ?_
                  refine AllReadyH.cons rfl (fun K hK => ?_) AllReadyH.nil
                  go_simp
                  go_at_call 54; refine (islandmark_any _ t Ai Ag Ao ci cg co (hT.below (by repeat (first | with_reducible exact HB | with_reducible apply bdrew | with_reducible apply bdrewN | with_reducible apply balloc | ((with_reducible refine bset ?_ ?_ _); rotate_left; (first | omega | (simp <;> omega)))))) n HN.out HV.out HNI.out _).mono ?_; rintro e wx ⟨he, hB⟩; (first | (rw [HP.out] at he; subst he) | (rw [HQ.out] at he; subst he)); have HB' := dstep w hB (by repeat (first | with_reducible exact HB | with_reducible apply bdrew | with_reducible apply bdrewN | with_reducible apply balloc | ((with_reducible refine bset ?_ ?_ _); rotate_left; (first | omega | (simp <;> omega))))); clear HB; have HB := HB'; clear HB'; have HE' := dstep w3 hB (by repeat (first | with_reducible exact HE | with_reducible apply bdrew | with_reducible apply bdrewN | with_reducible apply balloc | ((with_reducible refine bset ?_ ?_ _); rotate_left; (first | omega | (simp <;> omega))))); clear HE; have HE := HE'; clear HE'; have CX := Cls.below (w := w3) HE hCs; have FX := CX; simp only [Cls, and_true] at FX; have hSS : wx.cell? ⟨w.heap.size, 0, none⟩ = some (.int .i64 t.facts) ∧ wx.cell? ⟨w.heap.size, 1, none⟩ = some (.slice Ai t.init.length ci) ∧ wx.cell? ⟨w.heap.size, 2, none⟩ = some (.slice Ag t.goal.length cg) ∧ wx.cell? ⟨w.heap.size, 3, none⟩ = some (.slice Ao t.ops.length co) := (by simp [FX]); clear CX FX hB
                  go_wp2_with fail
                  refine hK.out _ _ hSS (fun hHeld => ?_)
                  clear hK K
                  try simp only [Act.put, List.getElem_toArray, List.getElem_cons_succ, List.getElem_cons_zero, List.setIfInBounds_toArray, List.set_cons_zero, List.set_cons_succ]
                  refine wpAnyH_take (i := 14) (v := ?vq114) rfl (by kernel_rfl) (by kernel_rfl) (by kernel_rfl) (fun _ _ _ h => h) (Or.inl ⟨by rfl, ?hq114⟩) (by assumption) ?rq114
                  case hq114 => (intro w hSw; (try dsimp only at hSw); go_simp; (try with_reducible rfl))
                  try simp only [Act.put, List.getElem_toArray, List.getElem_cons_succ, List.getElem_cons_zero, List.setIfInBounds_toArray, List.set_cons_zero, List.set_cons_succ]
                  refine wpAnyH_take (i := 15) (v := ?vq115) rfl (by kernel_rfl) (by kernel_rfl) (by kernel_rfl) (fun _ _ _ h => h) (Or.inl ⟨by rfl, ?hq115⟩) (by assumption) ?rq115
                  case hq115 => (intro w hSw; (try dsimp only at hSw); go_simp; (try with_reducible rfl))
                  try simp only [Act.put, List.getElem_toArray, List.getElem_cons_succ, List.getElem_cons_zero, List.setIfInBounds_toArray, List.set_cons_zero, List.set_cons_succ]
                  refine wpAnyH_take (i := 16) (v := ?vq116) rfl (by kernel_rfl) (by kernel_rfl) (by kernel_rfl) (fun _ _ _ h => h) (Or.inl ⟨?wq116, ?hq116⟩) (by assumption) ?rq116
                  case wq116 => simp [Region.wanted, yielded]
                  case hq116 => (intro w hSw; (try dsimp only at hSw); go_simp; (try with_reducible rfl))
                  try simp only [Act.put, List.getElem_toArray, List.getElem_cons_succ, List.getElem_cons_zero, List.setIfInBounds_toArray, List.set_cons_zero, List.set_cons_succ]
                  refine wpAnyH_take (i := 17) (v := ?vq117) rfl (by kernel_rfl) (by kernel_rfl) (by kernel_rfl) (fun _ _ _ h => h) (Or.inl ⟨?wq117, ?hq117⟩) (by assumption) ?rq117
                  case wq117 => simp [Region.wanted, yielded]
                  case hq117 => (intro w hSw; (try dsimp only at hSw); go_simp; (try with_reducible rfl))
                  try simp only [Act.put, List.getElem_toArray, List.getElem_cons_succ, List.getElem_cons_zero, List.setIfInBounds_toArray, List.set_cons_zero, List.set_cons_succ]
                  refine wpAnyH_ready (rs := [18]) (by kernel_rfl) (by simp) ?_
                  refine AllReadyH.cons rfl (fun K hK => ?_) AllReadyH.nil
                  go_simp
                  go_at_call 54; refine (islandmark_any _ t Ai Ag Ao ci cg co (hT.below (by repeat (first | with_reducible exact HB | with_reducible apply bdrew | with_reducible apply bdrewN | with_reducible apply balloc | ((with_reducible refine bset ?_ ?_ _); rotate_left; (first | omega | (simp <;> omega)))))) n HN.out HV.out HNI.out _).mono ?_; rintro e wx ⟨he, hB⟩; (first | (rw [HP.out] at he; subst he) | (rw [HQ.out] at he; subst he)); have HB' := dstep w hB (by repeat (first | with_reducible exact HB | with_reducible apply bdrew | with_reducible apply bdrewN | with_reducible apply balloc | ((with_reducible refine bset ?_ ?_ _); rotate_left; (first | omega | (simp <;> omega))))); clear HB; have HB := HB'; clear HB'; have HE' := dstep w3 hB (by repeat (first | with_reducible exact HE | with_reducible apply bdrew | with_reducible apply bdrewN | with_reducible apply balloc | ((with_reducible refine bset ?_ ?_ _); rotate_left; (first | omega | (simp <;> omega))))); clear HE; have HE := HE'; clear HE'; have CX := Cls.below (w := w3) HE hCs; have FX := CX; simp only [Cls, and_true] at FX; have hSS : wx.cell? ⟨w.heap.size, 0, none⟩ = some (.int .i64 t.facts) ∧ wx.cell? ⟨w.heap.size, 1, none⟩ = some (.slice Ai t.init.length ci) ∧ wx.cell? ⟨w.heap.size, 2, none⟩ = some (.slice Ag t.goal.length cg) ∧ wx.cell? ⟨w.heap.size, 3, none⟩ = some (.slice Ao t.ops.length co) := (by simp [FX]); clear CX FX hB
                  go_wp2_with fail
                  refine hK.out _ _ hSS (fun hHeld => ?_)
                  clear hK K
                  try simp only [Act.put, List.getElem_toArray, List.getElem_cons_succ, List.getElem_cons_zero, List.setIfInBounds_toArray, List.set_cons_zero, List.set_cons_succ]
                  refine wpAnyH_take (i := 19) (v := ?vq119) rfl (by kernel_rfl) (by kernel_rfl) (by kernel_rfl) (fun _ _ _ h => h) (Or.inl ⟨?wq119, ?hq119⟩) (by assumption) ?rq119
                  case wq119 => simp [Region.wanted, yielded]
                  case hq119 => (intro w hSw; (try dsimp only at hSw); go_simp; (try with_reducible rfl))
                  try simp only [Act.put, List.getElem_toArray, List.getElem_cons_succ, List.getElem_cons_zero, List.setIfInBounds_toArray, List.set_cons_zero, List.set_cons_succ]
                  refine wpAnyH_take (i := 20) (v := ?vq120) rfl (by kernel_rfl) (by kernel_rfl) (by kernel_rfl) (fun _ _ _ h => h) (Or.inl ⟨?wq120, ?hq120⟩) (by assumption) ?rq120
                  case wq120 => simp [Region.wanted, yielded]
                  case hq120 => (intro w hSw; (try dsimp only at hSw); go_simp; (try with_reducible rfl))
                  try simp only [Act.put, List.getElem_toArray, List.getElem_cons_succ, List.getElem_cons_zero, List.setIfInBounds_toArray, List.set_cons_zero, List.set_cons_succ]
                  refine wpAnyH_take (i := 21) (v := undef) rfl (by kernel_rfl) (by kernel_rfl) (by kernel_rfl) (fun _ _ _ h => h) (Or.inr ⟨?wq121, rfl⟩) (by assumption) ?rq121
                  case wq121 => simp [Region.wanted, yielded]
                  try simp only [Act.put, List.getElem_toArray, List.getElem_cons_succ, List.getElem_cons_zero, List.setIfInBounds_toArray, List.set_cons_zero, List.set_cons_succ]
                  refine wpAnyH_take (i := 22) (v := undef) rfl (by kernel_rfl) (by kernel_rfl) (by kernel_rfl) (fun _ _ _ h => h) (Or.inr ⟨?wq122, rfl⟩) (by assumption) ?rq122
                  case wq122 => simp [Region.wanted, yielded]
                  try simp only [Act.put, List.getElem_toArray, List.getElem_cons_succ, List.getElem_cons_zero, List.setIfInBounds_toArray, List.set_cons_zero, List.set_cons_succ]
                  refine wpAnyH_take (i := 23) (v := undef) rfl (by kernel_rfl) (by kernel_rfl) (by kernel_rfl) (fun _ _ _ h => h) (Or.inr ⟨?wq123, rfl⟩) (by assumption) ?rq123
                  case wq123 => simp [Region.wanted, yielded]
                  try simp only [Act.put, List.getElem_toArray, List.getElem_cons_succ, List.getElem_cons_zero, List.setIfInBounds_toArray, List.set_cons_zero, List.set_cons_succ]
                  refine wpAnyH_take (i := 24) (v := undef) rfl (by kernel_rfl) (by kernel_rfl) (by kernel_rfl) (fun _ _ _ h => h) (Or.inr ⟨?wq124, rfl⟩) (by assumption) ?rq124
                  case wq124 => simp [Region.wanted, yielded]
                  try simp only [Act.put, List.getElem_toArray, List.getElem_cons_succ, List.getElem_cons_zero, List.setIfInBounds_toArray, List.set_cons_zero, List.set_cons_succ]
                  refine wpAnyH_take (i := 25) (v := undef) rfl (by kernel_rfl) (by kernel_rfl) (by kernel_rfl) (fun _ _ _ h => h) (Or.inr ⟨?wq125, rfl⟩) (by assumption) ?rq125
                  case wq125 => simp [Region.wanted, yielded]
                  try simp only [Act.put, List.getElem_toArray, List.getElem_cons_succ, List.getElem_cons_zero, List.setIfInBounds_toArray, List.set_cons_zero, List.set_cons_succ]
                  refine wpAnyH_take (i := 26) (v := undef) rfl (by kernel_rfl) (by kernel_rfl) (by kernel_rfl) (fun _ _ _ h => h) (Or.inr ⟨?wq126, rfl⟩) (by assumption) ?rq126
                  case wq126 => simp [Region.wanted, yielded]
                  try simp only [Act.put, List.getElem_toArray, List.getElem_cons_succ, List.getElem_cons_zero, List.setIfInBounds_toArray, List.set_cons_zero, List.set_cons_succ]
                  refine wpAnyH_take (i := 27) (v := undef) rfl (by kernel_rfl) (by kernel_rfl) (by kernel_rfl) (fun _ _ _ h => h) (Or.inr ⟨?wq127, rfl⟩) (by assumption) ?rq127
                  case wq127 => simp [Region.wanted, yielded]
                  try simp only [Act.put, List.getElem_toArray, List.getElem_cons_succ, List.getElem_cons_zero, List.setIfInBounds_toArray, List.set_cons_zero, List.set_cons_succ]
                  refine wpAnyH_take (i := 28) (v := undef) rfl (by kernel_rfl) (by kernel_rfl) (by kernel_rfl) (fun _ _ _ h => h) (Or.inr ⟨?wq128, rfl⟩) (by assumption) ?rq128
                  case wq128 => simp [Region.wanted, yielded]
                  try simp only [Act.put, List.getElem_toArray, List.getElem_cons_succ, List.getElem_cons_zero, List.setIfInBounds_toArray, List.set_cons_zero, List.set_cons_succ]
                  refine wpAnyH_take (i := 29) (v := undef) rfl (by kernel_rfl) (by kernel_rfl) (by kernel_rfl) (fun _ _ _ h => h) (Or.inr ⟨?wq129, rfl⟩) (by assumption) ?rq129
                  case wq129 => simp [Region.wanted, yielded]
                  try simp only [Act.put, List.getElem_toArray, List.getElem_cons_succ, List.getElem_cons_zero, List.setIfInBounds_toArray, List.set_cons_zero, List.set_cons_succ]
                  refine wpAnyH_take (i := 30) (v := undef) rfl (by kernel_rfl) (by kernel_rfl) (by kernel_rfl) (fun _ _ _ h => h) (Or.inr ⟨?wq130, rfl⟩) (by assumption) ?rq130
                  case wq130 => simp [Region.wanted, yielded]
                  try simp only [Act.put, List.getElem_toArray, List.getElem_cons_succ, List.getElem_cons_zero, List.setIfInBounds_toArray, List.set_cons_zero, List.set_cons_succ]
                  refine wpAnyH_take (i := 31) (v := ?vq131) rfl (by kernel_rfl) (by kernel_rfl) (by kernel_rfl) (fun _ _ _ h => h) (Or.inl ⟨?wq131, ?hq131⟩) (by assumption) ?rq131
                  case wq131 => simp [Region.wanted, yielded]
                  case hq131 => (intro w hSw; (try dsimp only at hSw); go_simp; (try with_reducible rfl))
                  try simp only [Act.put, List.getElem_toArray, List.getElem_cons_succ, List.getElem_cons_zero, List.setIfInBounds_toArray, List.set_cons_zero, List.set_cons_succ]
                  refine wpAnyH_done (by kernel_rfl) ?_ _
                  go_wp2
                  go_roundw
                  case rel => exact ⟨j + 1, by omega, by go_num, by rw [HL.out]; exact ho3.below HE, HB, (Cls.below (w := w3) HE hCs)⟩
                  case measure => simp [intOf]; omega
                | true =>
                  have HQ := Lib.hid hlq
                  have HLQ := Lib.hid (landB_true.1 hlq)
                  clear hlq
                  have hwl : (withinV n t.init t.ops (useNot t.ops k)).length ≤ 9223372036854775807 := Nat.le_trans withinV_len (by omega)
                  by_cases hre : (j : Int) ∈ withinV n t.init t.ops (useNot t.ops k)
                  · have HRE := Lib.hid hre
                    have HL := Lib.hid (refRow_no (n := n) (t := t) (p := k) (j := j) (fun h => h.2.2.2.2 (withinV_mem.1 hre).2.2))
                    clear hre
                    go_wp2_with fail
                    refine wp_region_held_drew (S := fun W => W.cell? ⟨w.heap.size, 0, none⟩ = some (.int .i64 t.facts) ∧ W.cell? ⟨w.heap.size, 1, none⟩ = some (.slice Ai t.init.length ci) ∧ W.cell? ⟨w.heap.size, 2, none⟩ = some (.slice Ag t.goal.length cg) ∧ W.cell? ⟨w.heap.size, 3, none⟩ = some (.slice Ao t.ops.length co)) (by kernel_rfl) (by first | exact hK0 | go_keep) (fun hHeld => ?_)
                    refine wpAnyH_take (i := 0) (v := ?vq20) rfl (by kernel_rfl) (by kernel_rfl) (by kernel_rfl) (fun _ _ _ h => h) (Or.inl ⟨by rfl, ?hq20⟩) (by assumption) ?rq20
                    case hq20 => (intro w hSw; (try dsimp only at hSw); go_simp; (try with_reducible rfl))
                    try simp only [Act.put, List.getElem_toArray, List.getElem_cons_succ, List.getElem_cons_zero, List.setIfInBounds_toArray, List.set_cons_zero, List.set_cons_succ]
                    refine wpAnyH_take (i := 1) (v := ?vq21) rfl (by kernel_rfl) (by kernel_rfl) (by kernel_rfl) (fun _ _ _ h => h) (Or.inl ⟨by rfl, ?hq21⟩) (by assumption) ?rq21
                    case hq21 => (intro w hSw; (try dsimp only at hSw); go_simp; (try with_reducible rfl))
                    try simp only [Act.put, List.getElem_toArray, List.getElem_cons_succ, List.getElem_cons_zero, List.setIfInBounds_toArray, List.set_cons_zero, List.set_cons_succ]
                    refine wpAnyH_take (i := 2) (v := ?vq22) rfl (by kernel_rfl) (by kernel_rfl) (by kernel_rfl) (fun _ _ _ h => h) (Or.inl ⟨by rfl, ?hq22⟩) (by assumption) ?rq22
                    case hq22 => (intro w hSw; (try dsimp only at hSw); go_simp; (try with_reducible rfl))
                    try simp only [Act.put, List.getElem_toArray, List.getElem_cons_succ, List.getElem_cons_zero, List.setIfInBounds_toArray, List.set_cons_zero, List.set_cons_succ]
                    refine wpAnyH_take (i := 3) (v := ?vq23) rfl (by kernel_rfl) (by kernel_rfl) (by kernel_rfl) (fun _ _ _ h => h) (Or.inl ⟨by rfl, ?hq23⟩) (by assumption) ?rq23
                    case hq23 => (intro w hSw; (try dsimp only at hSw); go_simp; (try with_reducible rfl))
                    try simp only [Act.put, List.getElem_toArray, List.getElem_cons_succ, List.getElem_cons_zero, List.setIfInBounds_toArray, List.set_cons_zero, List.set_cons_succ]
                    refine wpAnyH_take (i := 4) (v := ?vq24) rfl (by kernel_rfl) (by kernel_rfl) (by kernel_rfl) (fun _ _ _ h => h) (Or.inl ⟨by rfl, ?hq24⟩) (by assumption) ?rq24
                    case hq24 => (intro w hSw; (try dsimp only at hSw); go_simp; (try with_reducible rfl))
                    try simp only [Act.put, List.getElem_toArray, List.getElem_cons_succ, List.getElem_cons_zero, List.setIfInBounds_toArray, List.set_cons_zero, List.set_cons_succ]
                    refine wpAnyH_take (i := 5) (v := ?vq25) rfl (by kernel_rfl) (by kernel_rfl) (by kernel_rfl) (fun _ _ _ h => h) (Or.inl ⟨by rfl, ?hq25⟩) (by assumption) ?rq25
                    case hq25 => (intro w hSw; (try dsimp only at hSw); go_simp; (try with_reducible rfl))
                    try simp only [Act.put, List.getElem_toArray, List.getElem_cons_succ, List.getElem_cons_zero, List.setIfInBounds_toArray, List.set_cons_zero, List.set_cons_succ]
                    refine wpAnyH_take (i := 6) (v := ?vq26) rfl (by kernel_rfl) (by kernel_rfl) (by kernel_rfl) (fun _ _ _ h => h) (Or.inl ⟨by rfl, ?hq26⟩) (by assumption) ?rq26
                    case hq26 => (intro w hSw; (try dsimp only at hSw); go_simp; (try with_reducible rfl))
                    try simp only [Act.put, List.getElem_toArray, List.getElem_cons_succ, List.getElem_cons_zero, List.setIfInBounds_toArray, List.set_cons_zero, List.set_cons_succ]
                    refine wpAnyH_ready (rs := [7]) (by kernel_rfl) (by simp) ?_
                    refine AllReadyH.cons rfl (fun K hK => ?_) AllReadyH.nil
                    go_simp
                    go_at_call 27; refine (has_no _ _ _ _ _ (hT.init.below (by repeat (first | with_reducible exact hBs | with_reducible apply bdrew | with_reducible apply bdrewN | with_reducible apply balloc | ((with_reducible refine bset ?_ ?_ _); rotate_left; (first | omega | (simp <;> omega)))))) hli HI.out).mono ?_; rintro e w9 ⟨rfl, hW⟩; subst hW; have hSS := hHeld
                    go_wp2_with fail
                    refine hK.out _ _ hSS (fun hHeld => ?_)
                    clear hK K
                    try simp only [Act.put, List.getElem_toArray, List.getElem_cons_succ, List.getElem_cons_zero, List.setIfInBounds_toArray, List.set_cons_zero, List.set_cons_succ]
                    refine wpAnyH_take (i := 8) (v := ?vq28) rfl (by kernel_rfl) (by kernel_rfl) (by kernel_rfl) (fun _ _ _ h => h) (Or.inl ⟨by rfl, ?hq28⟩) (by assumption) ?rq28
                    case hq28 => (intro w hSw; (try dsimp only at hSw); go_simp; (try with_reducible rfl))
                    try simp only [Act.put, List.getElem_toArray, List.getElem_cons_succ, List.getElem_cons_zero, List.setIfInBounds_toArray, List.set_cons_zero, List.set_cons_succ]
                    refine wpAnyH_take (i := 9) (v := ?vq29) rfl (by kernel_rfl) (by kernel_rfl) (by kernel_rfl) (fun _ _ _ h => h) (Or.inl ⟨by rfl, ?hq29⟩) (by assumption) ?rq29
                    case hq29 => (intro w hSw; (try dsimp only at hSw); go_simp; (try with_reducible rfl))
                    try simp only [Act.put, List.getElem_toArray, List.getElem_cons_succ, List.getElem_cons_zero, List.setIfInBounds_toArray, List.set_cons_zero, List.set_cons_succ]
                    refine wpAnyH_take (i := 10) (v := ?vq210) rfl (by kernel_rfl) (by kernel_rfl) (by kernel_rfl) (fun _ _ _ h => h) (Or.inl ⟨by rfl, ?hq210⟩) (by assumption) ?rq210
                    case hq210 => (intro w hSw; (try dsimp only at hSw); go_simp; (try with_reducible rfl))
                    try simp only [Act.put, List.getElem_toArray, List.getElem_cons_succ, List.getElem_cons_zero, List.setIfInBounds_toArray, List.set_cons_zero, List.set_cons_succ]
                    refine wpAnyH_take (i := 11) (v := ?vq211) rfl (by kernel_rfl) (by kernel_rfl) (by kernel_rfl) (fun _ _ _ h => h) (Or.inl ⟨by rfl, ?hq211⟩) (by assumption) ?rq211
                    case hq211 => (intro w hSw; (try dsimp only at hSw); go_simp; (try with_reducible rfl))
                    try simp only [Act.put, List.getElem_toArray, List.getElem_cons_succ, List.getElem_cons_zero, List.setIfInBounds_toArray, List.set_cons_zero, List.set_cons_succ]
                    refine wpAnyH_take (i := 12) (v := ?vq212) rfl (by kernel_rfl) (by kernel_rfl) (by kernel_rfl) (fun _ _ _ h => h) (Or.inl ⟨by rfl, ?hq212⟩) (by assumption) ?rq212
                    case hq212 => (intro w hSw; (try dsimp only at hSw); go_simp; (try with_reducible rfl))
                    try simp only [Act.put, List.getElem_toArray, List.getElem_cons_succ, List.getElem_cons_zero, List.setIfInBounds_toArray, List.set_cons_zero, List.set_cons_succ]
                    refine wpAnyH_ready (rs := [13]) (by kernel_rfl) (by simp) ?_
                    refine AllReadyH.cons rfl (fun K hK => ?_) AllReadyH.nil
                    go_simp
                    go_at_call 54; refine (islandmark_any _ t Ai Ag Ao ci cg co (hT.below (by repeat (first | with_reducible exact HB | with_reducible apply bdrew | with_reducible apply bdrewN | with_reducible apply balloc | ((with_reducible refine bset ?_ ?_ _); rotate_left; (first | omega | (simp <;> omega)))))) n HN.out HV.out HNI.out _).mono ?_; rintro e wx ⟨he, hB⟩; (first | (rw [HP.out] at he; subst he) | (rw [HQ.out] at he; subst he)); have HB' := dstep w hB (by repeat (first | with_reducible exact HB | with_reducible apply bdrew | with_reducible apply bdrewN | with_reducible apply balloc | ((with_reducible refine bset ?_ ?_ _); rotate_left; (first | omega | (simp <;> omega))))); clear HB; have HB := HB'; clear HB'; have HE' := dstep w3 hB (by repeat (first | with_reducible exact HE | with_reducible apply bdrew | with_reducible apply bdrewN | with_reducible apply balloc | ((with_reducible refine bset ?_ ?_ _); rotate_left; (first | omega | (simp <;> omega))))); clear HE; have HE := HE'; clear HE'; have CX := Cls.below (w := w3) HE hCs; have FX := CX; simp only [Cls, and_true] at FX; have hSS : wx.cell? ⟨w.heap.size, 0, none⟩ = some (.int .i64 t.facts) ∧ wx.cell? ⟨w.heap.size, 1, none⟩ = some (.slice Ai t.init.length ci) ∧ wx.cell? ⟨w.heap.size, 2, none⟩ = some (.slice Ag t.goal.length cg) ∧ wx.cell? ⟨w.heap.size, 3, none⟩ = some (.slice Ao t.ops.length co) := (by simp [FX]); clear CX FX hB
                    go_wp2_with fail
                    refine hK.out _ _ hSS (fun hHeld => ?_)
                    clear hK K
                    try simp only [Act.put, List.getElem_toArray, List.getElem_cons_succ, List.getElem_cons_zero, List.setIfInBounds_toArray, List.set_cons_zero, List.set_cons_succ]
                    refine wpAnyH_take (i := 14) (v := ?vq214) rfl (by kernel_rfl) (by kernel_rfl) (by kernel_rfl) (fun _ _ _ h => h) (Or.inl ⟨by rfl, ?hq214⟩) (by assumption) ?rq214
                    case hq214 => (intro w hSw; (try dsimp only at hSw); go_simp; (try with_reducible rfl))
                    try simp only [Act.put, List.getElem_toArray, List.getElem_cons_succ, List.getElem_cons_zero, List.setIfInBounds_toArray, List.set_cons_zero, List.set_cons_succ]
                    refine wpAnyH_take (i := 15) (v := ?vq215) rfl (by kernel_rfl) (by kernel_rfl) (by kernel_rfl) (fun _ _ _ h => h) (Or.inl ⟨by rfl, ?hq215⟩) (by assumption) ?rq215
                    case hq215 => (intro w hSw; (try dsimp only at hSw); go_simp; (try with_reducible rfl))
                    try simp only [Act.put, List.getElem_toArray, List.getElem_cons_succ, List.getElem_cons_zero, List.setIfInBounds_toArray, List.set_cons_zero, List.set_cons_succ]
                    refine wpAnyH_take (i := 16) (v := ?vq216) rfl (by kernel_rfl) (by kernel_rfl) (by kernel_rfl) (fun _ _ _ h => h) (Or.inl ⟨?wq216, ?hq216⟩) (by assumption) ?rq216
                    case wq216 => simp [Region.wanted, yielded]
                    case hq216 => (intro w hSw; (try dsimp only at hSw); go_simp; (try with_reducible rfl))
                    try simp only [Act.put, List.getElem_toArray, List.getElem_cons_succ, List.getElem_cons_zero, List.setIfInBounds_toArray, List.set_cons_zero, List.set_cons_succ]
                    refine wpAnyH_take (i := 17) (v := ?vq217) rfl (by kernel_rfl) (by kernel_rfl) (by kernel_rfl) (fun _ _ _ h => h) (Or.inl ⟨?wq217, ?hq217⟩) (by assumption) ?rq217
                    case wq217 => simp [Region.wanted, yielded]
                    case hq217 => (intro w hSw; (try dsimp only at hSw); go_simp; (try with_reducible rfl))
                    try simp only [Act.put, List.getElem_toArray, List.getElem_cons_succ, List.getElem_cons_zero, List.setIfInBounds_toArray, List.set_cons_zero, List.set_cons_succ]
                    refine wpAnyH_ready (rs := [18]) (by kernel_rfl) (by simp) ?_
                    refine AllReadyH.cons rfl (fun K hK => ?_) AllReadyH.nil
                    go_simp
                    go_at_call 54; refine (islandmark_any _ t Ai Ag Ao ci cg co (hT.below (by repeat (first | with_reducible exact HB | with_reducible apply bdrew | with_reducible apply bdrewN | with_reducible apply balloc | ((with_reducible refine bset ?_ ?_ _); rotate_left; (first | omega | (simp <;> omega)))))) n HN.out HV.out HNI.out _).mono ?_; rintro e wx ⟨he, hB⟩; (first | (rw [HP.out] at he; subst he) | (rw [HQ.out] at he; subst he)); have HB' := dstep w hB (by repeat (first | with_reducible exact HB | with_reducible apply bdrew | with_reducible apply bdrewN | with_reducible apply balloc | ((with_reducible refine bset ?_ ?_ _); rotate_left; (first | omega | (simp <;> omega))))); clear HB; have HB := HB'; clear HB'; have HE' := dstep w3 hB (by repeat (first | with_reducible exact HE | with_reducible apply bdrew | with_reducible apply bdrewN | with_reducible apply balloc | ((with_reducible refine bset ?_ ?_ _); rotate_left; (first | omega | (simp <;> omega))))); clear HE; have HE := HE'; clear HE'; have CX := Cls.below (w := w3) HE hCs; have FX := CX; simp only [Cls, and_true] at FX; have hSS : wx.cell? ⟨w.heap.size, 0, none⟩ = some (.int .i64 t.facts) ∧ wx.cell? ⟨w.heap.size, 1, none⟩ = some (.slice Ai t.init.length ci) ∧ wx.cell? ⟨w.heap.size, 2, none⟩ = some (.slice Ag t.goal.length cg) ∧ wx.cell? ⟨w.heap.size, 3, none⟩ = some (.slice Ao t.ops.length co) := (by simp [FX]); clear CX FX hB
                    go_wp2_with fail
                    refine hK.out _ _ hSS (fun hHeld => ?_)
                    clear hK K
                    try simp only [Act.put, List.getElem_toArray, List.getElem_cons_succ, List.getElem_cons_zero, List.setIfInBounds_toArray, List.set_cons_zero, List.set_cons_succ]
                    refine wpAnyH_take (i := 19) (v := ?vq219) rfl (by kernel_rfl) (by kernel_rfl) (by kernel_rfl) (fun _ _ _ h => h) (Or.inl ⟨?wq219, ?hq219⟩) (by assumption) ?rq219
                    case wq219 => simp [Region.wanted, yielded]
                    case hq219 => (intro w hSw; (try dsimp only at hSw); go_simp; (try with_reducible rfl))
                    try simp only [Act.put, List.getElem_toArray, List.getElem_cons_succ, List.getElem_cons_zero, List.setIfInBounds_toArray, List.set_cons_zero, List.set_cons_succ]
                    refine wpAnyH_take (i := 20) (v := ?vq220) rfl (by kernel_rfl) (by kernel_rfl) (by kernel_rfl) (fun _ _ _ h => h) (Or.inl ⟨?wq220, ?hq220⟩) (by assumption) ?rq220
                    case wq220 => simp [Region.wanted, yielded]
                    case hq220 => (intro w hSw; (try dsimp only at hSw); go_simp; (try with_reducible rfl))
                    try simp only [Act.put, List.getElem_toArray, List.getElem_cons_succ, List.getElem_cons_zero, List.setIfInBounds_toArray, List.set_cons_zero, List.set_cons_succ]
                    refine wpAnyH_take (i := 21) (v := ?vq221) rfl (by kernel_rfl) (by kernel_rfl) (by kernel_rfl) (fun _ _ _ h => h) (Or.inl ⟨?wq221, ?hq221⟩) (by assumption) ?rq221
                    case wq221 => simp [Region.wanted, yielded]
                    case hq221 => (intro w hSw; (try dsimp only at hSw); go_simp; (try with_reducible rfl))
                    try simp only [Act.put, List.getElem_toArray, List.getElem_cons_succ, List.getElem_cons_zero, List.setIfInBounds_toArray, List.set_cons_zero, List.set_cons_succ]
                    refine wpAnyH_take (i := 22) (v := ?vq222) rfl (by kernel_rfl) (by kernel_rfl) (by kernel_rfl) (fun _ _ _ h => h) (Or.inl ⟨?wq222, ?hq222⟩) (by assumption) ?rq222
                    case wq222 => simp [Region.wanted, yielded]
                    case hq222 => (intro w hSw; (try dsimp only at hSw); go_simp; (try with_reducible rfl))
                    try simp only [Act.put, List.getElem_toArray, List.getElem_cons_succ, List.getElem_cons_zero, List.setIfInBounds_toArray, List.set_cons_zero, List.set_cons_succ]
                    refine wpAnyH_take (i := 23) (v := ?vq223) rfl (by kernel_rfl) (by kernel_rfl) (by kernel_rfl) (fun _ _ _ h => h) (Or.inl ⟨?wq223, ?hq223⟩) (by assumption) ?rq223
                    case wq223 => simp [Region.wanted, yielded]
                    case hq223 => (intro w hSw; (try dsimp only at hSw); go_simp; (try with_reducible rfl))
                    try simp only [Act.put, List.getElem_toArray, List.getElem_cons_succ, List.getElem_cons_zero, List.setIfInBounds_toArray, List.set_cons_zero, List.set_cons_succ]
                    refine wpAnyH_take (i := 24) (v := ?vq224) rfl (by kernel_rfl) (by kernel_rfl) (by kernel_rfl) (fun _ _ _ h => h) (Or.inl ⟨?wq224, ?hq224⟩) (by assumption) ?rq224
                    case wq224 => simp [Region.wanted, yielded]
                    case hq224 => (intro w hSw; (try dsimp only at hSw); go_simp; (try with_reducible rfl))
                    try simp only [Act.put, List.getElem_toArray, List.getElem_cons_succ, List.getElem_cons_zero, List.setIfInBounds_toArray, List.set_cons_zero, List.set_cons_succ]
                    refine wpAnyH_take (i := 25) (v := ?vq225) rfl (by kernel_rfl) (by kernel_rfl) (by kernel_rfl) (fun _ _ _ h => h) (Or.inl ⟨?wq225, ?hq225⟩) (by assumption) ?rq225
                    case wq225 => simp [Region.wanted, yielded]
                    case hq225 => (intro w hSw; (try dsimp only at hSw); go_simp; (try with_reducible rfl))
                    try simp only [Act.put, List.getElem_toArray, List.getElem_cons_succ, List.getElem_cons_zero, List.setIfInBounds_toArray, List.set_cons_zero, List.set_cons_succ]
                    refine wpAnyH_take (i := 28) (v := ?vq228) rfl (by kernel_rfl) (by kernel_rfl) (by kernel_rfl) (fun _ _ _ h => h) (Or.inl ⟨?wq228, ?hq228⟩) (by assumption) ?rq228
                    case wq228 => simp [Region.wanted, yielded]
                    case hq228 => (intro w hSw; (try dsimp only at hSw); go_simp; (try with_reducible rfl))
                    try simp only [Act.put, List.getElem_toArray, List.getElem_cons_succ, List.getElem_cons_zero, List.setIfInBounds_toArray, List.set_cons_zero, List.set_cons_succ]
                    refine wpAnyH_ready (rs := [26]) (by kernel_rfl) (by simp) ?_
                    refine AllReadyH.cons rfl (fun K hK => ?_) AllReadyH.nil
                    go_simp
                    go_at_call 55; refine (adders_any _ t Ai Ag Ao ci cg co (hT.below (by repeat (first | with_reducible exact HB | with_reducible apply bdrew | with_reducible apply bdrewN | with_reducible apply balloc | ((with_reducible refine bset ?_ ?_ _); rotate_left; (first | omega | (simp <;> omega)))))) (k : Int) h12).mono ?_; rintro e w1 ⟨v1, rfl, ho1, hB1⟩; obtain ⟨A1, c1, rfl⟩ := OwnEs.form ho1; have hbl1 := OwnBs.bools ho1; have HAL := Lib.hid (addersV_len t.ops (k : Int)); have D1 := dstep w hB1 (by repeat (first | with_reducible exact HB | with_reducible apply bdrew | with_reducible apply bdrewN | with_reducible apply balloc | ((with_reducible refine bset ?_ ?_ _); rotate_left; (first | omega | (simp <;> omega))))); have E1 := dstep w3 hB1 (by repeat (first | with_reducible exact HE | with_reducible apply bdrew | with_reducible apply bdrewN | with_reducible apply balloc | ((with_reducible refine bset ?_ ?_ _); rotate_left; (first | omega | (simp <;> omega))))); have C1 := Cls.below (w := w3) E1 hCs; have F1 := C1; simp only [Cls, and_true] at F1; have hSS : w1.cell? ⟨w.heap.size, 0, none⟩ = some (.int .i64 t.facts) ∧ w1.cell? ⟨w.heap.size, 1, none⟩ = some (.slice Ai t.init.length ci) ∧ w1.cell? ⟨w.heap.size, 2, none⟩ = some (.slice Ag t.goal.length cg) ∧ w1.cell? ⟨w.heap.size, 3, none⟩ = some (.slice Ao t.ops.length co) := (by simp [F1])
                    go_wp2_with fail
                    refine hK.out _ _ hSS (fun hHeld => ?_)
                    clear hK K
                    try simp only [Act.put, List.getElem_toArray, List.getElem_cons_succ, List.getElem_cons_zero, List.setIfInBounds_toArray, List.set_cons_zero, List.set_cons_succ]
                    refine wpAnyH_ready (rs := [27]) (by kernel_rfl) (by simp) ?_
                    refine AllReadyH.cons rfl (fun K hK => ?_) AllReadyH.nil
                    go_simp
                    go_at_call 37; refine (within_at _ t Ai Ag Ao ci cg co (hT.below (by repeat (first | with_reducible exact D1 | with_reducible apply bdrew | with_reducible apply bdrewN | with_reducible apply balloc | ((with_reducible refine bset ?_ ?_ _); rotate_left; (first | omega | (simp <;> omega)))))) n HN.out hn9 _ _ _ (hT.init.below (by repeat (first | with_reducible exact D1 | with_reducible apply bdrew | with_reducible apply bdrewN | with_reducible apply balloc | ((with_reducible refine bset ?_ ?_ _); rotate_left; (first | omega | (simp <;> omega)))))) HSI.out HNI.out HOPS.out _ _ _ _ hbl1 HAL.out (by first | with_reducible rfl | exact HAL.out.symm) (useNot t.ops (k : Int)) (fun k d h => adders_use h)).mono ?_; rintro e w2 ⟨v2, rfl, ho2, hB2⟩; obtain ⟨A2, c2, rfl, hnil2, hI2⟩ := ho2.form; clear hnil2 ho2; have D2 := dstep w hB2 (by repeat (first | with_reducible exact D1 | with_reducible apply bdrew | with_reducible apply bdrewN | with_reducible apply balloc | ((with_reducible refine bset ?_ ?_ _); rotate_left; (first | omega | (simp <;> omega))))); have C2 := C1.below hB2; have F2 := C2; simp only [Cls, and_true] at F2; have E2 := dstep w3 hB2 (by repeat (first | with_reducible exact E1 | with_reducible apply bdrew | with_reducible apply bdrewN | with_reducible apply balloc | ((with_reducible refine bset ?_ ?_ _); rotate_left; (first | omega | (simp <;> omega))))); have hSS : w2.cell? ⟨w.heap.size, 0, none⟩ = some (.int .i64 t.facts) ∧ w2.cell? ⟨w.heap.size, 1, none⟩ = some (.slice Ai t.init.length ci) ∧ w2.cell? ⟨w.heap.size, 2, none⟩ = some (.slice Ag t.goal.length cg) ∧ w2.cell? ⟨w.heap.size, 3, none⟩ = some (.slice Ao t.ops.length co) := (by simp [F2])
                    go_wp2_with fail
                    refine hK.out _ _ hSS (fun hHeld => ?_)
                    clear hK K
                    try simp only [Act.put, List.getElem_toArray, List.getElem_cons_succ, List.getElem_cons_zero, List.setIfInBounds_toArray, List.set_cons_zero, List.set_cons_succ]
                    refine wpAnyH_ready (rs := [29]) (by kernel_rfl) (by simp) ?_
                    refine AllReadyH.cons rfl (fun K hK => ?_) AllReadyH.nil
                    go_simp
                    go_at_call 27; refine (has_yes _ _ _ _ _ hI2 hwl HRE.out).mono ?_; rintro e w9 ⟨rfl, hW⟩; subst hW; have hSS := hHeld
                    go_wp2_with fail
                    refine hK.out _ _ hSS (fun hHeld => ?_)
                    clear hK K
                    try simp only [Act.put, List.getElem_toArray, List.getElem_cons_succ, List.getElem_cons_zero, List.setIfInBounds_toArray, List.set_cons_zero, List.set_cons_succ]
                    refine wpAnyH_take (i := 30) (v := ?vq230) rfl (by kernel_rfl) (by kernel_rfl) (by kernel_rfl) (fun _ _ _ h => h) (Or.inl ⟨?wq230, ?hq230⟩) (by assumption) ?rq230
                    case wq230 => simp [Region.wanted, yielded]
                    case hq230 => (intro w hSw; (try dsimp only at hSw); go_simp; (try with_reducible rfl))
                    try simp only [Act.put, List.getElem_toArray, List.getElem_cons_succ, List.getElem_cons_zero, List.setIfInBounds_toArray, List.set_cons_zero, List.set_cons_succ]
                    refine wpAnyH_take (i := 31) (v := ?vq231) rfl (by kernel_rfl) (by kernel_rfl) (by kernel_rfl) (fun _ _ _ h => h) (Or.inl ⟨?wq231, ?hq231⟩) (by assumption) ?rq231
                    case wq231 => simp [Region.wanted, yielded]
                    case hq231 => (intro w hSw; (try dsimp only at hSw); go_simp; (try with_reducible rfl))
                    try simp only [Act.put, List.getElem_toArray, List.getElem_cons_succ, List.getElem_cons_zero, List.setIfInBounds_toArray, List.set_cons_zero, List.set_cons_succ]
                    refine wpAnyH_done (by kernel_rfl) ?_ _
                    go_wp2
                    go_roundw
                    case rel => exact ⟨j + 1, by omega, by go_num, by rw [HL.out]; exact ho3.below E2, D2, (Cls.below (w := w3) E2 hCs)⟩
                    case measure => simp [intOf]; omega
                  · have HRE := Lib.hid hre
                    have HL := Lib.hid (refRow_yes (n := n) (t := t) (p := k) (j := j) ⟨HKJ.out, HI.out, HLP.out, HLQ.out, fun h => hre (withinV_mem.2 ⟨by omega, by omega, h⟩)⟩)
                    clear hre
                    go_wp2_with fail
                    refine wp_region_held_drew (S := fun W => W.cell? ⟨w.heap.size, 0, none⟩ = some (.int .i64 t.facts) ∧ W.cell? ⟨w.heap.size, 1, none⟩ = some (.slice Ai t.init.length ci) ∧ W.cell? ⟨w.heap.size, 2, none⟩ = some (.slice Ag t.goal.length cg) ∧ W.cell? ⟨w.heap.size, 3, none⟩ = some (.slice Ao t.ops.length co)) (by kernel_rfl) (by first | exact hK0 | go_keep) (fun hHeld => ?_)
                    refine wpAnyH_take (i := 0) (v := ?vq30) rfl (by kernel_rfl) (by kernel_rfl) (by kernel_rfl) (fun _ _ _ h => h) (Or.inl ⟨by rfl, ?hq30⟩) (by assumption) ?rq30
                    case hq30 => (intro w hSw; (try dsimp only at hSw); go_simp; (try with_reducible rfl))
                    try simp only [Act.put, List.getElem_toArray, List.getElem_cons_succ, List.getElem_cons_zero, List.setIfInBounds_toArray, List.set_cons_zero, List.set_cons_succ]
                    refine wpAnyH_take (i := 1) (v := ?vq31) rfl (by kernel_rfl) (by kernel_rfl) (by kernel_rfl) (fun _ _ _ h => h) (Or.inl ⟨by rfl, ?hq31⟩) (by assumption) ?rq31
                    case hq31 => (intro w hSw; (try dsimp only at hSw); go_simp; (try with_reducible rfl))
                    try simp only [Act.put, List.getElem_toArray, List.getElem_cons_succ, List.getElem_cons_zero, List.setIfInBounds_toArray, List.set_cons_zero, List.set_cons_succ]
                    refine wpAnyH_take (i := 2) (v := ?vq32) rfl (by kernel_rfl) (by kernel_rfl) (by kernel_rfl) (fun _ _ _ h => h) (Or.inl ⟨by rfl, ?hq32⟩) (by assumption) ?rq32
                    case hq32 => (intro w hSw; (try dsimp only at hSw); go_simp; (try with_reducible rfl))
                    try simp only [Act.put, List.getElem_toArray, List.getElem_cons_succ, List.getElem_cons_zero, List.setIfInBounds_toArray, List.set_cons_zero, List.set_cons_succ]
                    refine wpAnyH_take (i := 3) (v := ?vq33) rfl (by kernel_rfl) (by kernel_rfl) (by kernel_rfl) (fun _ _ _ h => h) (Or.inl ⟨by rfl, ?hq33⟩) (by assumption) ?rq33
                    case hq33 => (intro w hSw; (try dsimp only at hSw); go_simp; (try with_reducible rfl))
                    try simp only [Act.put, List.getElem_toArray, List.getElem_cons_succ, List.getElem_cons_zero, List.setIfInBounds_toArray, List.set_cons_zero, List.set_cons_succ]
                    refine wpAnyH_take (i := 4) (v := ?vq34) rfl (by kernel_rfl) (by kernel_rfl) (by kernel_rfl) (fun _ _ _ h => h) (Or.inl ⟨by rfl, ?hq34⟩) (by assumption) ?rq34
                    case hq34 => (intro w hSw; (try dsimp only at hSw); go_simp; (try with_reducible rfl))
                    try simp only [Act.put, List.getElem_toArray, List.getElem_cons_succ, List.getElem_cons_zero, List.setIfInBounds_toArray, List.set_cons_zero, List.set_cons_succ]
                    refine wpAnyH_take (i := 5) (v := ?vq35) rfl (by kernel_rfl) (by kernel_rfl) (by kernel_rfl) (fun _ _ _ h => h) (Or.inl ⟨by rfl, ?hq35⟩) (by assumption) ?rq35
                    case hq35 => (intro w hSw; (try dsimp only at hSw); go_simp; (try with_reducible rfl))
                    try simp only [Act.put, List.getElem_toArray, List.getElem_cons_succ, List.getElem_cons_zero, List.setIfInBounds_toArray, List.set_cons_zero, List.set_cons_succ]
                    refine wpAnyH_take (i := 6) (v := ?vq36) rfl (by kernel_rfl) (by kernel_rfl) (by kernel_rfl) (fun _ _ _ h => h) (Or.inl ⟨by rfl, ?hq36⟩) (by assumption) ?rq36
                    case hq36 => (intro w hSw; (try dsimp only at hSw); go_simp; (try with_reducible rfl))
                    try simp only [Act.put, List.getElem_toArray, List.getElem_cons_succ, List.getElem_cons_zero, List.setIfInBounds_toArray, List.set_cons_zero, List.set_cons_succ]
                    refine wpAnyH_ready (rs := [7]) (by kernel_rfl) (by simp) ?_
                    refine AllReadyH.cons rfl (fun K hK => ?_) AllReadyH.nil
                    go_simp
                    go_at_call 27; refine (has_no _ _ _ _ _ (hT.init.below (by repeat (first | with_reducible exact hBs | with_reducible apply bdrew | with_reducible apply bdrewN | with_reducible apply balloc | ((with_reducible refine bset ?_ ?_ _); rotate_left; (first | omega | (simp <;> omega)))))) hli HI.out).mono ?_; rintro e w9 ⟨rfl, hW⟩; subst hW; have hSS := hHeld
                    go_wp2_with fail
                    refine hK.out _ _ hSS (fun hHeld => ?_)
                    clear hK K
                    try simp only [Act.put, List.getElem_toArray, List.getElem_cons_succ, List.getElem_cons_zero, List.setIfInBounds_toArray, List.set_cons_zero, List.set_cons_succ]
                    refine wpAnyH_take (i := 8) (v := ?vq38) rfl (by kernel_rfl) (by kernel_rfl) (by kernel_rfl) (fun _ _ _ h => h) (Or.inl ⟨by rfl, ?hq38⟩) (by assumption) ?rq38
                    case hq38 => (intro w hSw; (try dsimp only at hSw); go_simp; (try with_reducible rfl))
                    try simp only [Act.put, List.getElem_toArray, List.getElem_cons_succ, List.getElem_cons_zero, List.setIfInBounds_toArray, List.set_cons_zero, List.set_cons_succ]
                    refine wpAnyH_take (i := 9) (v := ?vq39) rfl (by kernel_rfl) (by kernel_rfl) (by kernel_rfl) (fun _ _ _ h => h) (Or.inl ⟨by rfl, ?hq39⟩) (by assumption) ?rq39
                    case hq39 => (intro w hSw; (try dsimp only at hSw); go_simp; (try with_reducible rfl))
                    try simp only [Act.put, List.getElem_toArray, List.getElem_cons_succ, List.getElem_cons_zero, List.setIfInBounds_toArray, List.set_cons_zero, List.set_cons_succ]
                    refine wpAnyH_take (i := 10) (v := ?vq310) rfl (by kernel_rfl) (by kernel_rfl) (by kernel_rfl) (fun _ _ _ h => h) (Or.inl ⟨by rfl, ?hq310⟩) (by assumption) ?rq310
                    case hq310 => (intro w hSw; (try dsimp only at hSw); go_simp; (try with_reducible rfl))
                    try simp only [Act.put, List.getElem_toArray, List.getElem_cons_succ, List.getElem_cons_zero, List.setIfInBounds_toArray, List.set_cons_zero, List.set_cons_succ]
                    refine wpAnyH_take (i := 11) (v := ?vq311) rfl (by kernel_rfl) (by kernel_rfl) (by kernel_rfl) (fun _ _ _ h => h) (Or.inl ⟨by rfl, ?hq311⟩) (by assumption) ?rq311
                    case hq311 => (intro w hSw; (try dsimp only at hSw); go_simp; (try with_reducible rfl))
                    try simp only [Act.put, List.getElem_toArray, List.getElem_cons_succ, List.getElem_cons_zero, List.setIfInBounds_toArray, List.set_cons_zero, List.set_cons_succ]
                    refine wpAnyH_take (i := 12) (v := ?vq312) rfl (by kernel_rfl) (by kernel_rfl) (by kernel_rfl) (fun _ _ _ h => h) (Or.inl ⟨by rfl, ?hq312⟩) (by assumption) ?rq312
                    case hq312 => (intro w hSw; (try dsimp only at hSw); go_simp; (try with_reducible rfl))
                    try simp only [Act.put, List.getElem_toArray, List.getElem_cons_succ, List.getElem_cons_zero, List.setIfInBounds_toArray, List.set_cons_zero, List.set_cons_succ]
                    refine wpAnyH_ready (rs := [13]) (by kernel_rfl) (by simp) ?_
                    refine AllReadyH.cons rfl (fun K hK => ?_) AllReadyH.nil
                    go_simp
                    go_at_call 54; refine (islandmark_any _ t Ai Ag Ao ci cg co (hT.below (by repeat (first | with_reducible exact HB | with_reducible apply bdrew | with_reducible apply bdrewN | with_reducible apply balloc | ((with_reducible refine bset ?_ ?_ _); rotate_left; (first | omega | (simp <;> omega)))))) n HN.out HV.out HNI.out _).mono ?_; rintro e wx ⟨he, hB⟩; (first | (rw [HP.out] at he; subst he) | (rw [HQ.out] at he; subst he)); have HB' := dstep w hB (by repeat (first | with_reducible exact HB | with_reducible apply bdrew | with_reducible apply bdrewN | with_reducible apply balloc | ((with_reducible refine bset ?_ ?_ _); rotate_left; (first | omega | (simp <;> omega))))); clear HB; have HB := HB'; clear HB'; have HE' := dstep w3 hB (by repeat (first | with_reducible exact HE | with_reducible apply bdrew | with_reducible apply bdrewN | with_reducible apply balloc | ((with_reducible refine bset ?_ ?_ _); rotate_left; (first | omega | (simp <;> omega))))); clear HE; have HE := HE'; clear HE'; have CX := Cls.below (w := w3) HE hCs; have FX := CX; simp only [Cls, and_true] at FX; have hSS : wx.cell? ⟨w.heap.size, 0, none⟩ = some (.int .i64 t.facts) ∧ wx.cell? ⟨w.heap.size, 1, none⟩ = some (.slice Ai t.init.length ci) ∧ wx.cell? ⟨w.heap.size, 2, none⟩ = some (.slice Ag t.goal.length cg) ∧ wx.cell? ⟨w.heap.size, 3, none⟩ = some (.slice Ao t.ops.length co) := (by simp [FX]); clear CX FX hB
                    go_wp2_with fail
                    refine hK.out _ _ hSS (fun hHeld => ?_)
                    clear hK K
                    try simp only [Act.put, List.getElem_toArray, List.getElem_cons_succ, List.getElem_cons_zero, List.setIfInBounds_toArray, List.set_cons_zero, List.set_cons_succ]
                    refine wpAnyH_take (i := 14) (v := ?vq314) rfl (by kernel_rfl) (by kernel_rfl) (by kernel_rfl) (fun _ _ _ h => h) (Or.inl ⟨by rfl, ?hq314⟩) (by assumption) ?rq314
                    case hq314 => (intro w hSw; (try dsimp only at hSw); go_simp; (try with_reducible rfl))
                    try simp only [Act.put, List.getElem_toArray, List.getElem_cons_succ, List.getElem_cons_zero, List.setIfInBounds_toArray, List.set_cons_zero, List.set_cons_succ]
                    refine wpAnyH_take (i := 15) (v := ?vq315) rfl (by kernel_rfl) (by kernel_rfl) (by kernel_rfl) (fun _ _ _ h => h) (Or.inl ⟨by rfl, ?hq315⟩) (by assumption) ?rq315
                    case hq315 => (intro w hSw; (try dsimp only at hSw); go_simp; (try with_reducible rfl))
                    try simp only [Act.put, List.getElem_toArray, List.getElem_cons_succ, List.getElem_cons_zero, List.setIfInBounds_toArray, List.set_cons_zero, List.set_cons_succ]
                    refine wpAnyH_take (i := 16) (v := ?vq316) rfl (by kernel_rfl) (by kernel_rfl) (by kernel_rfl) (fun _ _ _ h => h) (Or.inl ⟨?wq316, ?hq316⟩) (by assumption) ?rq316
                    case wq316 => simp [Region.wanted, yielded]
                    case hq316 => (intro w hSw; (try dsimp only at hSw); go_simp; (try with_reducible rfl))
                    try simp only [Act.put, List.getElem_toArray, List.getElem_cons_succ, List.getElem_cons_zero, List.setIfInBounds_toArray, List.set_cons_zero, List.set_cons_succ]
                    refine wpAnyH_take (i := 17) (v := ?vq317) rfl (by kernel_rfl) (by kernel_rfl) (by kernel_rfl) (fun _ _ _ h => h) (Or.inl ⟨?wq317, ?hq317⟩) (by assumption) ?rq317
                    case wq317 => simp [Region.wanted, yielded]
                    case hq317 => (intro w hSw; (try dsimp only at hSw); go_simp; (try with_reducible rfl))
                    try simp only [Act.put, List.getElem_toArray, List.getElem_cons_succ, List.getElem_cons_zero, List.setIfInBounds_toArray, List.set_cons_zero, List.set_cons_succ]
                    refine wpAnyH_ready (rs := [18]) (by kernel_rfl) (by simp) ?_
                    refine AllReadyH.cons rfl (fun K hK => ?_) AllReadyH.nil
                    go_simp
                    go_at_call 54; refine (islandmark_any _ t Ai Ag Ao ci cg co (hT.below (by repeat (first | with_reducible exact HB | with_reducible apply bdrew | with_reducible apply bdrewN | with_reducible apply balloc | ((with_reducible refine bset ?_ ?_ _); rotate_left; (first | omega | (simp <;> omega)))))) n HN.out HV.out HNI.out _).mono ?_; rintro e wx ⟨he, hB⟩; (first | (rw [HP.out] at he; subst he) | (rw [HQ.out] at he; subst he)); have HB' := dstep w hB (by repeat (first | with_reducible exact HB | with_reducible apply bdrew | with_reducible apply bdrewN | with_reducible apply balloc | ((with_reducible refine bset ?_ ?_ _); rotate_left; (first | omega | (simp <;> omega))))); clear HB; have HB := HB'; clear HB'; have HE' := dstep w3 hB (by repeat (first | with_reducible exact HE | with_reducible apply bdrew | with_reducible apply bdrewN | with_reducible apply balloc | ((with_reducible refine bset ?_ ?_ _); rotate_left; (first | omega | (simp <;> omega))))); clear HE; have HE := HE'; clear HE'; have CX := Cls.below (w := w3) HE hCs; have FX := CX; simp only [Cls, and_true] at FX; have hSS : wx.cell? ⟨w.heap.size, 0, none⟩ = some (.int .i64 t.facts) ∧ wx.cell? ⟨w.heap.size, 1, none⟩ = some (.slice Ai t.init.length ci) ∧ wx.cell? ⟨w.heap.size, 2, none⟩ = some (.slice Ag t.goal.length cg) ∧ wx.cell? ⟨w.heap.size, 3, none⟩ = some (.slice Ao t.ops.length co) := (by simp [FX]); clear CX FX hB
                    go_wp2_with fail
                    refine hK.out _ _ hSS (fun hHeld => ?_)
                    clear hK K
                    try simp only [Act.put, List.getElem_toArray, List.getElem_cons_succ, List.getElem_cons_zero, List.setIfInBounds_toArray, List.set_cons_zero, List.set_cons_succ]
                    refine wpAnyH_take (i := 19) (v := ?vq319) rfl (by kernel_rfl) (by kernel_rfl) (by kernel_rfl) (fun _ _ _ h => h) (Or.inl ⟨?wq319, ?hq319⟩) (by assumption) ?rq319
                    case wq319 => simp [Region.wanted, yielded]
                    case hq319 => (intro w hSw; (try dsimp only at hSw); go_simp; (try with_reducible rfl))
                    try simp only [Act.put, List.getElem_toArray, List.getElem_cons_succ, List.getElem_cons_zero, List.setIfInBounds_toArray, List.set_cons_zero, List.set_cons_succ]
                    refine wpAnyH_take (i := 20) (v := ?vq320) rfl (by kernel_rfl) (by kernel_rfl) (by kernel_rfl) (fun _ _ _ h => h) (Or.inl ⟨?wq320, ?hq320⟩) (by assumption) ?rq320
                    case wq320 => simp [Region.wanted, yielded]
                    case hq320 => (intro w hSw; (try dsimp only at hSw); go_simp; (try with_reducible rfl))
                    try simp only [Act.put, List.getElem_toArray, List.getElem_cons_succ, List.getElem_cons_zero, List.setIfInBounds_toArray, List.set_cons_zero, List.set_cons_succ]
                    refine wpAnyH_take (i := 21) (v := ?vq321) rfl (by kernel_rfl) (by kernel_rfl) (by kernel_rfl) (fun _ _ _ h => h) (Or.inl ⟨?wq321, ?hq321⟩) (by assumption) ?rq321
                    case wq321 => simp [Region.wanted, yielded]
                    case hq321 => (intro w hSw; (try dsimp only at hSw); go_simp; (try with_reducible rfl))
                    try simp only [Act.put, List.getElem_toArray, List.getElem_cons_succ, List.getElem_cons_zero, List.setIfInBounds_toArray, List.set_cons_zero, List.set_cons_succ]
                    refine wpAnyH_take (i := 22) (v := ?vq322) rfl (by kernel_rfl) (by kernel_rfl) (by kernel_rfl) (fun _ _ _ h => h) (Or.inl ⟨?wq322, ?hq322⟩) (by assumption) ?rq322
                    case wq322 => simp [Region.wanted, yielded]
                    case hq322 => (intro w hSw; (try dsimp only at hSw); go_simp; (try with_reducible rfl))
                    try simp only [Act.put, List.getElem_toArray, List.getElem_cons_succ, List.getElem_cons_zero, List.setIfInBounds_toArray, List.set_cons_zero, List.set_cons_succ]
                    refine wpAnyH_take (i := 23) (v := ?vq323) rfl (by kernel_rfl) (by kernel_rfl) (by kernel_rfl) (fun _ _ _ h => h) (Or.inl ⟨?wq323, ?hq323⟩) (by assumption) ?rq323
                    case wq323 => simp [Region.wanted, yielded]
                    case hq323 => (intro w hSw; (try dsimp only at hSw); go_simp; (try with_reducible rfl))
                    try simp only [Act.put, List.getElem_toArray, List.getElem_cons_succ, List.getElem_cons_zero, List.setIfInBounds_toArray, List.set_cons_zero, List.set_cons_succ]
                    refine wpAnyH_take (i := 24) (v := ?vq324) rfl (by kernel_rfl) (by kernel_rfl) (by kernel_rfl) (fun _ _ _ h => h) (Or.inl ⟨?wq324, ?hq324⟩) (by assumption) ?rq324
                    case wq324 => simp [Region.wanted, yielded]
                    case hq324 => (intro w hSw; (try dsimp only at hSw); go_simp; (try with_reducible rfl))
                    try simp only [Act.put, List.getElem_toArray, List.getElem_cons_succ, List.getElem_cons_zero, List.setIfInBounds_toArray, List.set_cons_zero, List.set_cons_succ]
                    refine wpAnyH_take (i := 25) (v := ?vq325) rfl (by kernel_rfl) (by kernel_rfl) (by kernel_rfl) (fun _ _ _ h => h) (Or.inl ⟨?wq325, ?hq325⟩) (by assumption) ?rq325
                    case wq325 => simp [Region.wanted, yielded]
                    case hq325 => (intro w hSw; (try dsimp only at hSw); go_simp; (try with_reducible rfl))
                    try simp only [Act.put, List.getElem_toArray, List.getElem_cons_succ, List.getElem_cons_zero, List.setIfInBounds_toArray, List.set_cons_zero, List.set_cons_succ]
                    refine wpAnyH_take (i := 28) (v := ?vq328) rfl (by kernel_rfl) (by kernel_rfl) (by kernel_rfl) (fun _ _ _ h => h) (Or.inl ⟨?wq328, ?hq328⟩) (by assumption) ?rq328
                    case wq328 => simp [Region.wanted, yielded]
                    case hq328 => (intro w hSw; (try dsimp only at hSw); go_simp; (try with_reducible rfl))
                    try simp only [Act.put, List.getElem_toArray, List.getElem_cons_succ, List.getElem_cons_zero, List.setIfInBounds_toArray, List.set_cons_zero, List.set_cons_succ]
                    refine wpAnyH_ready (rs := [26]) (by kernel_rfl) (by simp) ?_
                    refine AllReadyH.cons rfl (fun K hK => ?_) AllReadyH.nil
                    go_simp
                    go_at_call 55; refine (adders_any _ t Ai Ag Ao ci cg co (hT.below (by repeat (first | with_reducible exact HB | with_reducible apply bdrew | with_reducible apply bdrewN | with_reducible apply balloc | ((with_reducible refine bset ?_ ?_ _); rotate_left; (first | omega | (simp <;> omega)))))) (k : Int) h12).mono ?_; rintro e w1 ⟨v1, rfl, ho1, hB1⟩; obtain ⟨A1, c1, rfl⟩ := OwnEs.form ho1; have hbl1 := OwnBs.bools ho1; have HAL := Lib.hid (addersV_len t.ops (k : Int)); have D1 := dstep w hB1 (by repeat (first | with_reducible exact HB | with_reducible apply bdrew | with_reducible apply bdrewN | with_reducible apply balloc | ((with_reducible refine bset ?_ ?_ _); rotate_left; (first | omega | (simp <;> omega))))); have E1 := dstep w3 hB1 (by repeat (first | with_reducible exact HE | with_reducible apply bdrew | with_reducible apply bdrewN | with_reducible apply balloc | ((with_reducible refine bset ?_ ?_ _); rotate_left; (first | omega | (simp <;> omega))))); have C1 := Cls.below (w := w3) E1 hCs; have F1 := C1; simp only [Cls, and_true] at F1; have hSS : w1.cell? ⟨w.heap.size, 0, none⟩ = some (.int .i64 t.facts) ∧ w1.cell? ⟨w.heap.size, 1, none⟩ = some (.slice Ai t.init.length ci) ∧ w1.cell? ⟨w.heap.size, 2, none⟩ = some (.slice Ag t.goal.length cg) ∧ w1.cell? ⟨w.heap.size, 3, none⟩ = some (.slice Ao t.ops.length co) := (by simp [F1])
                    go_wp2_with fail
                    refine hK.out _ _ hSS (fun hHeld => ?_)
                    clear hK K
                    try simp only [Act.put, List.getElem_toArray, List.getElem_cons_succ, List.getElem_cons_zero, List.setIfInBounds_toArray, List.set_cons_zero, List.set_cons_succ]
                    refine wpAnyH_ready (rs := [27]) (by kernel_rfl) (by simp) ?_
                    refine AllReadyH.cons rfl (fun K hK => ?_) AllReadyH.nil
                    go_simp
                    go_at_call 37; refine (within_at _ t Ai Ag Ao ci cg co (hT.below (by repeat (first | with_reducible exact D1 | with_reducible apply bdrew | with_reducible apply bdrewN | with_reducible apply balloc | ((with_reducible refine bset ?_ ?_ _); rotate_left; (first | omega | (simp <;> omega)))))) n HN.out hn9 _ _ _ (hT.init.below (by repeat (first | with_reducible exact D1 | with_reducible apply bdrew | with_reducible apply bdrewN | with_reducible apply balloc | ((with_reducible refine bset ?_ ?_ _); rotate_left; (first | omega | (simp <;> omega)))))) HSI.out HNI.out HOPS.out _ _ _ _ hbl1 HAL.out (by first | with_reducible rfl | exact HAL.out.symm) (useNot t.ops (k : Int)) (fun k d h => adders_use h)).mono ?_; rintro e w2 ⟨v2, rfl, ho2, hB2⟩; obtain ⟨A2, c2, rfl, hnil2, hI2⟩ := ho2.form; clear hnil2 ho2; have D2 := dstep w hB2 (by repeat (first | with_reducible exact D1 | with_reducible apply bdrew | with_reducible apply bdrewN | with_reducible apply balloc | ((with_reducible refine bset ?_ ?_ _); rotate_left; (first | omega | (simp <;> omega))))); have C2 := C1.below hB2; have F2 := C2; simp only [Cls, and_true] at F2; have E2 := dstep w3 hB2 (by repeat (first | with_reducible exact E1 | with_reducible apply bdrew | with_reducible apply bdrewN | with_reducible apply balloc | ((with_reducible refine bset ?_ ?_ _); rotate_left; (first | omega | (simp <;> omega))))); have hSS : w2.cell? ⟨w.heap.size, 0, none⟩ = some (.int .i64 t.facts) ∧ w2.cell? ⟨w.heap.size, 1, none⟩ = some (.slice Ai t.init.length ci) ∧ w2.cell? ⟨w.heap.size, 2, none⟩ = some (.slice Ag t.goal.length cg) ∧ w2.cell? ⟨w.heap.size, 3, none⟩ = some (.slice Ao t.ops.length co) := (by simp [F2])
                    go_wp2_with fail
                    refine hK.out _ _ hSS (fun hHeld => ?_)
                    clear hK K
                    try simp only [Act.put, List.getElem_toArray, List.getElem_cons_succ, List.getElem_cons_zero, List.setIfInBounds_toArray, List.set_cons_zero, List.set_cons_succ]
                    refine wpAnyH_ready (rs := [29]) (by kernel_rfl) (by simp) ?_
                    refine AllReadyH.cons rfl (fun K hK => ?_) AllReadyH.nil
                    go_simp
                    go_at_call 27; refine (has_no _ _ _ _ _ hI2 hwl HRE.out).mono ?_; rintro e w9 ⟨rfl, hW⟩; subst hW; have hSS := hHeld
                    go_wp2_with fail
                    refine hK.out _ _ hSS (fun hHeld => ?_)
                    clear hK K
                    try simp only [Act.put, List.getElem_toArray, List.getElem_cons_succ, List.getElem_cons_zero, List.setIfInBounds_toArray, List.set_cons_zero, List.set_cons_succ]
                    refine wpAnyH_take (i := 30) (v := ?vq330) rfl (by kernel_rfl) (by kernel_rfl) (by kernel_rfl) (fun _ _ _ h => h) (Or.inl ⟨?wq330, ?hq330⟩) (by assumption) ?rq330
                    case wq330 => simp [Region.wanted, yielded]
                    case hq330 => (intro w hSw; (try dsimp only at hSw); go_simp; (try with_reducible rfl))
                    try simp only [Act.put, List.getElem_toArray, List.getElem_cons_succ, List.getElem_cons_zero, List.setIfInBounds_toArray, List.set_cons_zero, List.set_cons_succ]
                    refine wpAnyH_take (i := 31) (v := ?vq331) rfl (by kernel_rfl) (by kernel_rfl) (by kernel_rfl) (fun _ _ _ h => h) (Or.inl ⟨?wq331, ?hq331⟩) (by assumption) ?rq331
                    case wq331 => simp [Region.wanted, yielded]
                    case hq331 => (intro w hSw; (try dsimp only at hSw); go_simp; (try with_reducible rfl))
                    try simp only [Act.put, List.getElem_toArray, List.getElem_cons_succ, List.getElem_cons_zero, List.setIfInBounds_toArray, List.set_cons_zero, List.set_cons_succ]
                    refine wpAnyH_done (by kernel_rfl) ?_ _
                    have ho4 := ho3.below E2
                    go_wp2_with (at_builtin; go_must (refine wpList_el ppair_stable 34 16 (.agg #[.int .i64 0, .int .i64 0]) Try.underlying34 info_pair rfl (by decide) (by decide) rfl (.tmp 50) (.tmp 54) rfl w [(w.heap.size, 0, .int .i64 t.facts), (w.heap.size, 1, .slice Ai t.init.length ci), (w.heap.size, 2, .slice Ag t.goal.length cg), (w.heap.size, 3, .slice Ao t.ops.length co)] rfl (OwnPP.below ho4 ?p1) ⟨w2.heap.size, 0, none⟩ 1 rfl [.int .i64 k, .int .i64 j] ((k : Int), (j : Int)) rfl (cells_two ?p2 ?p10) ?p8 rfl hlen ?p3 ?p4 ?p5 ?p6 ?p7 ?_; (case p1 => repeat (first | with_reducible exact Below.refl _ _ | with_reducible apply bdrew | with_reducible apply bdrewN | with_reducible apply balloc | ((with_reducible refine bset ?_ ?_ _); rotate_left; (first | omega | (simp <;> omega))))); (case p2 => simp [go_sem]); (case p10 => simp [go_sem]); (case p3 => (have := D2.size; have := (C2.blk (b := w.heap.size) (k := 0) (v := .int .i64 t.facts) (by simp)); simp <;> omega)); (case p4 => omega); (case p5 => repeat (first | with_reducible exact D2 | with_reducible apply bdrew | with_reducible apply bdrewN | with_reducible apply balloc | ((with_reducible refine bset ?_ ?_ _); rotate_left; (first | omega | (simp <;> omega))))); (case p6 => exact Cls.below (w := w2) (by repeat (first | with_reducible exact Below.refl _ _ | with_reducible apply bdrew | with_reducible apply bdrewN | with_reducible apply balloc | ((with_reducible refine bset ?_ ?_ _); rotate_left; (first | omega | (simp <;> omega))))) C2); (case p7 => (simp <;> omega)); (case p8 => intro u hu; simp at hu; rcases hu with rfl | rfl <;> rfl); intro v6 w6 o6 D6 C6 sz6 G6 at6; clear G6 at6))
                    go_roundw
                    case rel => exact ⟨j + 1, by omega, by go_num, by rw [← HL.out, ← List.append_assoc]; exact o6, D6, C6⟩
                    case measure => simp [intOf]; omega
        · have hje : j = n := by omega
          rw [hje, ← refTo_succ] at ho3
          have hltq : ¬ (j : Int) < t.facts := by have := HN.out; omega
          clear hje
          go_wp2
          go_roundw
          case rel => exact ⟨k + 1, by omega, by go_num, ho3, (by repeat (first | with_reducible exact hBs | with_reducible apply bdrew | with_reducible apply bdrewN | with_reducible apply balloc | ((with_reducible refine bset ?_ ?_ _); rotate_left; (first | omega | (simp <;> omega))))), (Cls.below (w := w3) (by repeat (first | with_reducible exact Below.refl _ _ | with_reducible apply bdrew | with_reducible apply bdrewN | with_reducible apply balloc | ((with_reducible refine bset ?_ ?_ _); rotate_left; (first | omega | (simp <;> omega))))) hCs)⟩
          case measure => simp [intOf]; omega
    · have hltf : ¬ (k : Int) < t.facts := by have := HN.out; omega
      have hke : k = n := by omega
      rw [hke, ref_all] at hown
      clear hke
      go_wp2
      go_ret
      exact ⟨_, rfl, ⟨_, by omega, hown⟩, hBr⟩


end Go.Proofs.Ythnhhohnjiigcaa
