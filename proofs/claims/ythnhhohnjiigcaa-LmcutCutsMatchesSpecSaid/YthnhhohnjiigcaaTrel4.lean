/-
  FactValues, the reference's: what it returns.
-/
import Derived.Test.YthnhhohnjiigcaaTrel3
namespace Go.Proofs.Ythnhhohnjiigcaa
open Go.RowKit
set_option linter.unusedVariables false
set_option linter.unusedSimpArgs false

theorem combined_at (A B : Option Addr) (c d m : Nat) (vs xs : List Int) (w : World) (h1 : Ints w A vs) (h2 : Ints w B xs) (hm : vs.length = m) (h3 : lenOk xs.length) (h4 : m ≤ 1000000000000) (h5 : ∀ x ∈ xs, 0 ≤ x ∧ x < (m : Int)) (h6 : AllV vs) (s : Bool) :
    Calls Try.prog 64 #[.slice A m c, .slice B xs.length d, .bool s] w fun e w' => e = .returned (.int .i64 (combV s vs xs)) ∧ w' = w := by
  subst hm
  exact (combined_any A B c d vs xs w h1 h2 h3.le (by omega) h5 h6 s).mono fun _ _ h => ⟨h.1, h.2.symm⟩
theorem ints_at (A B : Option Addr) (c d m : Nat) (xs ys : List Int) (w : World) (hI : Ints w A xs) (hJ : Ints w B ys) (h1 : xs.length = m) (h2 : ys.length = m) (hl : m ≤ 1000000000000) (v : Bool) (hv : v = decide (xs = ys)) :
    Calls Try.prog 21 #[.slice A m c, .slice B m d] w fun e w' => e = .returned (.bool v) ∧ Below w.heap.size w w' := by
  have h := ints_any A B c d xs ys w hI hJ (by omega) (by omega)
  rw [h1, h2] at h
  rw [hv]
  exact h
theorem OwnI.form_at {base n : Nat} {w : World} {v : Value} {xs : List Int} (h : OwnI base w v xs) (hn : xs.length = n) : ∃ A c, v = .slice A n c ∧ (A = none → xs = [] ∧ c = 0) := by
  obtain ⟨A, c, e, h1, _⟩ := h.form
  exact ⟨A, c, by rw [e, hn], h1⟩
theorem OwnI.nil_at {base n c : Nat} {w : World} {A : Option Addr} {xs : List Int} (h : OwnI base w (.slice A n c) xs) : A = none → xs = [] ∧ c = 0 := by
  obtain ⟨A', c', e, h1, _⟩ := h.form
  injection e with e1 e2 e3
  subst e1; subst e3
  exact h1
theorem OwnI.ints_at {base n c : Nat} {w : World} {A : Option Addr} {xs : List Int} (h : OwnI base w (.slice A n c) xs) : Ints w A xs := by
  obtain ⟨A', c', e, h1⟩ := h.ints
  injection e with e
  rw [e]; exact h1
theorem OwnI.blk {base n c : Nat} {w : World} {A : Option Addr} {xs : List Int} (h : OwnI base w (.slice A n c) xs) : ∀ g, A = some ⟨g, 0, none⟩ → base ≤ g ∧ g < w.heap.size := fun g e => by
  subst e
  exact World.ownsRow.lt h g rfl
/-- One round of the reference: what is lowered so far. -/
def Lowered (s : Bool) (ops : List OpV) (cs : List Int) (k : Nat) (V V' : List Int) : Prop :=
  (V' = V ∨ sumV V' < sumV V) ∧ ∀ (i : Nat) (o : OpV) (c : Int), i < k → ops[i]? = some o → cs[i]? = some c → ∀ p ∈ o.add, valAt V' p ≤ opV s V o c
section
variable {s : Bool} {n : Nat} {st : List Int} {ops : List OpV} {cs V V' : List Int}
theorem Lowered.start : Lowered s ops cs 0 V V := ⟨Or.inl rfl, fun i o c hi => absurd hi (by omega)⟩
theorem Lowered.set_ {k : Nat} (h : Lowered s ops cs k V V') {i : Nat} {x y : Int} (hy : V'[i]? = some y) (h0 : 0 ≤ x) (hlt : x < y) : Lowered s ops cs k V (V'.set i x) := by
  have h1 := sum_set hy h0 hlt
  refine ⟨Or.inr ?_, fun j o c hj ho hc p hp => Int.le_trans (LeV.set_ hy (Int.le_of_lt hlt) p) (h.2 j o c hj ho hc p hp)⟩
  rcases h.1 with e | e
  · rw [← e]; exact h1
  · omega
theorem Lowered.succ {k : Nat} {o : OpV} {c : Int} (h : Lowered s ops cs k V V') (ho : ops[k]? = some o) (hc : cs[k]? = some c) (h2 : ∀ p ∈ o.add, valAt V' p ≤ opV s V o c) : Lowered s ops cs (k + 1) V V' := by
  refine ⟨h.1, fun i o' c' hi ho' hc' p hp => ?_⟩
  by_cases e : i = k
  · subst e
    rw [ho] at ho'; injection ho' with ho'; subst ho'
    rw [hc] at hc'; injection hc' with hc'; subst hc'
    exact h2 p hp
  · exact h.2 i o' c' (by omega) ho' hc' p hp
theorem Lowered.closed (h : Lowered s ops cs ops.length V V) : ClosedTo s ops cs ops.length V := h.2
theorem Lowered.less {k : Nat} (h : Lowered s ops cs k V V') (hne : ¬ V' = V) : sumV V' < sumV V := h.1.resolve_left hne
end

set_option maxRecDepth 100000 in
set_option maxHeartbeats 1000000 in
theorem factvalues_any (w : World) (t : TaskV) (Ai Ag Ao : Option Addr) (ci cg co : Nat) (hT : TaskMem w Ai Ag Ao t) (n : Nat) (hn : t.facts = n) (hn24 : n ≤ 1000000000) (S : Option Addr) (cs : Nat) (st : List Int) (hS : Ints w S st) (hls : lenOk st.length) (hst : ∀ p ∈ st, 0 ≤ p ∧ p < (n : Int)) (C : Option Addr) (cc : Nat) (cost : List Int) (hC : Ints w C cost) (hlc : cost.length = t.ops.length) (hcv : AllV cost) (hops : ∀ o ∈ t.ops, (∀ p ∈ o.pre, 0 ≤ p ∧ p < (n : Int)) ∧ ∀ p ∈ o.add, 0 ≤ p ∧ p < (n : Int)) (s : Bool) :
    Calls Try.prog 34 #[.agg #[.int .i64 t.facts, .slice Ai t.init.length ci, .slice Ag t.goal.length cg, .slice Ao t.ops.length co], .slice S st.length cs, .slice C cost.length cc, .bool s] w fun e w' => ∃ v, e = .returned v ∧ OwnI w.heap.size w' v (valuesV s n st t.ops cost) ∧ Best s n st t.ops cost (valuesV s n st t.ops cost) ∧ Below w.heap.size w w' := by
  have hls' := hls.le
  have hlo := hT.lops.le
  have hn' := hn
  rw [hn]
  have HST := Lib.hid hst
  have HCV := Lib.hid hcv
  have HOPS := Lib.hid hops
  have HLC := Lib.hid hlc
  clear hst hcv hops hlc
  go_enter Try.func34, Try.ntmps34
  go_wp2_with fail
  go_loopg [9, 10] (n) (fun gk v i wr => ∃ k : Nat, i = .int .i64 k ∧ Hid (k + gk = n) ∧ OwnI (w.heap.size + 1) wr v ((initV n st).take k) ∧ Below w.heap.size w wr ∧ Cls wr [(w.heap.size, 0, .int .i64 (n : Int)), (w.heap.size, 1, .slice Ai t.init.length ci), (w.heap.size, 2, .slice Ag t.goal.length cg), (w.heap.size, 3, .slice Ao t.ops.length co)])
  case atStart => exact ⟨0, rfl, Lib.hid (by omega), by simpa using OwnI.nil _ _, (by repeat (first | with_reducible exact Below.refl _ _ | with_reducible apply bdrew | with_reducible apply bdrewN | with_reducible apply balloc | ((with_reducible refine bset ?_ ?_ _); rotate_left; (first | omega | (simp <;> omega))))), (by simp [Cls, go_sem])⟩
  case round =>
    obtain ⟨k, rfl, hk, hown, hBr, hCr⟩ := hrel
    have drs := hBr.size
    have Fr := hCr
    simp only [Cls, and_true] at Fr
    have yrw0 : w.heap.size < wr.heap.size := hCr.blk (b := w.heap.size) (k := 0) (v := .int .i64 (n : Int)) (by simp)
    have yrwp1 : w.heap.size < wr.heap.size + 1 := (by omega)
    have yrwp2 : w.heap.size < wr.heap.size + 1 + 1 := (by omega)
    by_cases hlt : k < n
    · have hlen : ((initV n st).take k).length < 1000000000000 := by simp [initV_len]; omega
      have hk1 := Lib.hid (show k + 1 + (gk - 1) = n ∧ gk - 1 < gk by have := hk.out; omega)
      have hget := Lib.hid (initV_get (st := st) hlt)
      by_cases hin : (k : Int) ∈ st
      · have hin' := Lib.hid hin
        clear hin
        have hnext := Lib.hid (show (initV n st).take k ++ [0] = (initV n st).take (k + 1) by rw [List.take_add_one, hget.out]; simp [hin'.out])
        go_wp2_with fail
        refine (has_yes _ _ _ _ _ (hS.below (by repeat (first | with_reducible exact hBr | with_reducible apply bdrew | with_reducible apply bdrewN | with_reducible apply balloc | ((with_reducible refine bset ?_ ?_ _); rotate_left; (first | omega | (simp <;> omega)))))) hls' hin'.out).mono ?_
        rintro e w' ⟨rfl, rfl⟩
        go_wp2_with (at_builtin; go_must (refine wpList_push rfl (.tmp 25) (.tmp 26) rfl w [(w.heap.size, 0, .int .i64 (n : Int)), (w.heap.size, 1, .slice Ai t.init.length ci), (w.heap.size, 2, .slice Ag t.goal.length cg), (w.heap.size, 3, .slice Ao t.ops.length co)] (w.heap.size + 1) u9 _ (0) rfl (OwnI.below hown ?p1) ⟨wr.heap.size, 0, none⟩ 1 rfl ?p2 hlen ?p3 ?p4 ?p5 ?p6 ?p7 ?_; (case p1 => repeat (first | with_reducible exact Below.refl _ _ | with_reducible apply bdrew | with_reducible apply bdrewN | with_reducible apply balloc | ((with_reducible refine bset ?_ ?_ _); rotate_left; (first | omega | (simp <;> omega))))); (case p2 => simp [Cls, go_sem, Fr, yrw0, yrwp1, yrwp2]); (case p3 => (first | omega | (simp <;> omega))); (case p4 => (first | omega | (simp <;> omega))); (case p5 => repeat (first | with_reducible exact hBr | with_reducible apply bdrew | with_reducible apply bdrewN | with_reducible apply balloc | ((with_reducible refine bset ?_ ?_ _); rotate_left; (first | omega | (simp <;> omega))))); (case p6 => simp [Cls, go_sem, Fr, yrw0, yrwp1, yrwp2]); (case p7 => (simp <;> omega)); intro v1 w1 o1 D1 C1 sz1; have d1s := D1.size; have F1 := C1; simp only [Cls, and_true] at F1; have y1w0 : w.heap.size < w1.heap.size := C1.blk (b := w.heap.size) (k := 0) (v := .int .i64 (n : Int)) (by simp); have y1wp1 : w.heap.size < w1.heap.size + 1 := (by omega); have y1wp2 : w.heap.size < w1.heap.size + 1 + 1 := (by omega)))
        go_roundg (gk - 1)
        case measure => exact hk1.out.2
        case rel => exact ⟨k + 1, by go_num, Lib.hid hk1.out.1, by rw [← hnext.out]; exact o1, (by repeat (first | with_reducible exact D1 | with_reducible apply bdrew | with_reducible apply bdrewN | with_reducible apply balloc | ((with_reducible refine bset ?_ ?_ _); rotate_left; (first | omega | (simp <;> omega))))), (by simp [Cls, go_sem, F1, y1w0, y1wp1, y1wp2])⟩
      · have hin' := Lib.hid hin
        clear hin
        have hnext := Lib.hid (show (initV n st).take k ++ [1000000000] = (initV n st).take (k + 1) by rw [List.take_add_one, hget.out]; simp [hin'.out])
        go_wp2_with fail
        refine (has_no _ _ _ _ _ (hS.below (by repeat (first | with_reducible exact hBr | with_reducible apply bdrew | with_reducible apply bdrewN | with_reducible apply balloc | ((with_reducible refine bset ?_ ?_ _); rotate_left; (first | omega | (simp <;> omega)))))) hls' hin'.out).mono ?_
        rintro e w' ⟨rfl, rfl⟩
        go_wp2_with (at_builtin; go_must (refine wpList_push rfl (.tmp 28) (.tmp 29) rfl w [(w.heap.size, 0, .int .i64 (n : Int)), (w.heap.size, 1, .slice Ai t.init.length ci), (w.heap.size, 2, .slice Ag t.goal.length cg), (w.heap.size, 3, .slice Ao t.ops.length co)] (w.heap.size + 1) u9 _ (1000000000) rfl (OwnI.below hown ?p1) ⟨wr.heap.size, 0, none⟩ 1 rfl ?p2 hlen ?p3 ?p4 ?p5 ?p6 ?p7 ?_; (case p1 => repeat (first | with_reducible exact Below.refl _ _ | with_reducible apply bdrew | with_reducible apply bdrewN | with_reducible apply balloc | ((with_reducible refine bset ?_ ?_ _); rotate_left; (first | omega | (simp <;> omega))))); (case p2 => simp [Cls, go_sem, Fr, yrw0, yrwp1, yrwp2]); (case p3 => (first | omega | (simp <;> omega))); (case p4 => (first | omega | (simp <;> omega))); (case p5 => repeat (first | with_reducible exact hBr | with_reducible apply bdrew | with_reducible apply bdrewN | with_reducible apply balloc | ((with_reducible refine bset ?_ ?_ _); rotate_left; (first | omega | (simp <;> omega))))); (case p6 => simp [Cls, go_sem, Fr, yrw0, yrwp1, yrwp2]); (case p7 => (simp <;> omega)); intro v1 w1 o1 D1 C1 sz1; have d1s := D1.size; have F1 := C1; simp only [Cls, and_true] at F1; have y1w0 : w.heap.size < w1.heap.size := C1.blk (b := w.heap.size) (k := 0) (v := .int .i64 (n : Int)) (by simp); have y1wp1 : w.heap.size < w1.heap.size + 1 := (by omega); have y1wp2 : w.heap.size < w1.heap.size + 1 + 1 := (by omega)))
        go_roundg (gk - 1)
        case measure => exact hk1.out.2
        case rel => exact ⟨k + 1, by go_num, Lib.hid hk1.out.1, by rw [← hnext.out]; exact o1, (by repeat (first | with_reducible exact D1 | with_reducible apply bdrew | with_reducible apply bdrewN | with_reducible apply balloc | ((with_reducible refine bset ?_ ?_ _); rotate_left; (first | omega | (simp <;> omega))))), (by simp [Cls, go_sem, F1, y1w0, y1wp1, y1wp2])⟩
    · rw [List.take_of_length_le (by rw [initV_len]; omega)] at hown
      obtain ⟨w1, rfl⟩ : ∃ wo : World, wo = wr := ⟨_, rfl⟩
      go_wp2_with fail
      have hVn := initV_len n st
      obtain ⟨A0, d0, rfl, hnil0⟩ := hown.form_at hVn
      go_loopg [9] (sumV (initV n st)) (fun gk v wr => ∃ (V : List Int) (A : Option Addr) (d : Nat), v = .slice A n d ∧ Hid (gk = sumV V) ∧ OwnI (w.heap.size + 1) wr (.slice A n d) V ∧ Hid (A = none → V = [] ∧ d = 0) ∧ Above s n st t.ops cost V ∧ Below w.heap.size w wr ∧ Cls wr [(w.heap.size, 0, .int .i64 (n : Int)), (w.heap.size, 1, .slice Ai t.init.length ci), (w.heap.size, 2, .slice Ag t.goal.length cg), (w.heap.size, 3, .slice Ao t.ops.length co)])
      case atStart => exact ⟨_, A0, d0, rfl, Lib.hid rfl, hown, Lib.hid hnil0, initV_above HST.out, (by repeat (first | with_reducible exact hBr | with_reducible apply bdrew | with_reducible apply bdrewN | with_reducible apply balloc | ((with_reducible refine bset ?_ ?_ _); rotate_left; (first | omega | (simp <;> omega))))), (by simp [Cls, go_sem, Fr, yrw0, yrwp1, yrwp2])⟩
      case round =>
        obtain ⟨V, An, dn, rfl, hgk, hown, hnil, hV, hBp, hCp⟩ := hrel
        obtain ⟨g2, rfl⟩ : ∃ g : Nat, g = gk := ⟨_, rfl⟩
        obtain ⟨w2, rfl⟩ : ∃ wo : World, wo = wr := ⟨_, rfl⟩
        have hVl := Lib.hid hV.shape.len
        have hIn := hown.ints_at
        have hn25 : n ≤ 1000000000000 := by omega
        have dps := hBp.size
        have Fp := hCp
        simp only [Cls, and_true] at Fp
        have ypw0 : w.heap.size < w2.heap.size := hCp.blk (b := w.heap.size) (k := 0) (v := .int .i64 (n : Int)) (by simp)
        have ypwp1 : w.heap.size < w2.heap.size + 1 := (by omega)
        have ypwp2 : w.heap.size < w2.heap.size + 1 + 1 := (by omega)
        go_wp2_with (at_builtin; go_must (refine wpList_copy rfl (.const (.slice none 0 0)) (.tmp 31) rfl An dn n V rfl rfl hVl.out hnil.out hIn hn25 ?_; intro A1 d1 w3 o3 hnil1 B3; have D3 := dstep w B3 (by repeat (first | with_reducible exact hBp | with_reducible apply bdrew | with_reducible apply bdrewN | with_reducible apply balloc | ((with_reducible refine bset ?_ ?_ _); rotate_left; (first | omega | (simp <;> omega))))); have d3s := D3.size; have C3 := Cls.below (l := [(w.heap.size, 0, .int .i64 (n : Int)), (w.heap.size, 1, .slice Ai t.init.length ci), (w.heap.size, 2, .slice Ag t.goal.length cg), (w.heap.size, 3, .slice Ao t.ops.length co)]) B3 (by simp [Cls, go_sem, Fp, ypw0, ypwp1, ypwp2]); have F3 := C3; simp only [Cls, and_true] at F3; have y3w0 : w.heap.size < w3.heap.size := C3.blk (b := w.heap.size) (k := 0) (v := .int .i64 (n : Int)) (by simp); have y3wp1 : w.heap.size < w3.heap.size + 1 := (by omega); have y3wp2 : w.heap.size < w3.heap.size + 1 + 1 := (by omega)))
        go_loopg [12] (t.ops.length) (fun gk i wr => ∃ (V' : List Int) (k : Nat), i = .int .i64 k ∧ Hid (k + gk = t.ops.length) ∧ OwnI w2.heap.size wr (.slice A1 n d1) V' ∧ Above s n st t.ops cost V' ∧ Hid (Lowered s t.ops cost k V V') ∧ Below w2.heap.size w2 wr ∧ Below w.heap.size w wr ∧ Cls wr [(w.heap.size, 0, .int .i64 (n : Int)), (w.heap.size, 1, .slice Ai t.init.length ci), (w.heap.size, 2, .slice Ag t.goal.length cg), (w.heap.size, 3, .slice Ao t.ops.length co)])
        case atStart => exact ⟨V, 0, rfl, Lib.hid (by omega), o3, hV, Lib.hid Lowered.start, B3, (by repeat (first | with_reducible exact D3 | with_reducible apply bdrew | with_reducible apply bdrewN | with_reducible apply balloc | ((with_reducible refine bset ?_ ?_ _); rotate_left; (first | omega | (simp <;> omega))))), (by simp [Cls, go_sem, F3, y3w0, y3wp1, y3wp2])⟩
        case round =>
          obtain ⟨V1, k, rfl, hk, o4, hV1, hlow, hB4, hBs, hCs⟩ := hrel
          obtain ⟨g4, rfl⟩ : ∃ g : Nat, g = gk := ⟨_, rfl⟩
          obtain ⟨w4, rfl⟩ : ∃ wo : World, wo = wr := ⟨_, rfl⟩
          have dss := hBs.size
          have Fs := hCs
          simp only [Cls, and_true] at Fs
          have ysw0 : w.heap.size < w4.heap.size := hCs.blk (b := w.heap.size) (k := 0) (v := .int .i64 (n : Int)) (by simp)
          have yswp1 : w.heap.size < w4.heap.size + 1 := (by omega)
          have yswp2 : w.heap.size < w4.heap.size + 1 + 1 := (by omega)
          by_cases hlt : k < t.ops.length
          · have hkc : k < cost.length := by have := HLC.out; omega
            obtain ⟨ad, o, Ap, cp, Aa, ca, Ad, cd', rfl, ho, hc0, hc1, hc2, hc3, hm⟩ := hT.ops.at2 hBs hlt
            obtain ⟨cd, cv, rfl, hcx, hcc⟩ := (hC.below hBs).at_ hkc
            have hcin := HCV.out cv (List.mem_of_getElem? hcx.out)
            have hoo := Lib.hid (HOPS.out o (List.mem_of_getElem? ho.out))
            have hcomb := combV_in (s := s) hV.shape.all o.pre
            obtain ⟨v, hv⟩ : ∃ v, Hid (opV s V o cv = v) := ⟨_, Lib.hid rfl⟩
            have hbd := Lib.hid (bound_of hV ho.out hcx.out hcin)
            have hvin := opV_in (s := s) hV.shape.all o hcin
            rw [hv.out] at hvin hbd
            have hblk := o4.blk
            have hcc2 : ∀ ob : Obj, (w4.alloc ob).cell? (cd.add k) = some (.int .i64 cv) := fun ob => (((Below.refl _ _).alloc (Nat.le_refl _) _).cell (World.block_lt_of_cell? w4 _ hcc)).trans hcc
            go_wp2_with fail
            refine region_still (by kernel_rfl) (by kernel_rfl) ?_
            repeat still_step
            still_call (combined_at _ _ _ _ _ _ _ _ (hIn.below (by repeat (first | with_reducible exact hB4 | with_reducible apply bdrew | with_reducible apply bdrewN | with_reducible apply balloc | ((with_reducible refine bset ?_ ?_ _); rotate_left; (first | omega | (simp <;> omega)))))) (hm.pre.below (by repeat (first | with_reducible exact hBs | with_reducible apply bdrew | with_reducible apply bdrewN | with_reducible apply balloc | ((with_reducible refine bset ?_ ?_ _); rotate_left; (first | omega | (simp <;> omega)))))) hVl.out hm.lpre hn25 hoo.out.1 hV.shape.all s)
            repeat still_step
            still_call ((rplus_any _ _ _ hcomb hcin).mono fun _ _ h => ⟨h.1, h.2.symm⟩)
            repeat still_step
            refine wpStill_nil ?_
            have hv' : plusV (combV s V o.pre) cv = v := hv.out
            rw [hv']
            have hlc' := hm.ladd.le
            go_wp2_with fail
            go_loopg [15] (o.add.length) (fun gk i wr => ∃ (V' : List Int) (j : Nat), i = .int .i64 j ∧ Hid (j + gk = o.add.length) ∧ OwnI w2.heap.size wr (.slice A1 n d1) V' ∧ Above s n st t.ops cost V' ∧ Hid (Lowered s t.ops cost k V V' ∧ ∀ p ∈ o.add.take j, valAt V' p ≤ v) ∧ Below w2.heap.size w2 wr ∧ Below w.heap.size w wr ∧ Cls wr [(w.heap.size, 0, .int .i64 (n : Int)), (w.heap.size, 1, .slice Ai t.init.length ci), (w.heap.size, 2, .slice Ag t.goal.length cg), (w.heap.size, 3, .slice (some ad) t.ops.length co), (w4.heap.size, 0, .slice Ap o.pre.length cp), (w4.heap.size, 1, .slice Aa o.add.length ca), (w4.heap.size, 2, .slice Ad o.del.length cd'), (w4.heap.size, 3, .int .i64 o.cost)])
            case atStart => exact ⟨V1, 0, rfl, Lib.hid (by omega), (OwnI.below o4 (by repeat (first | with_reducible exact Below.refl _ _ | with_reducible apply bdrew | with_reducible apply bdrewN | with_reducible apply balloc | ((with_reducible refine bset ?_ ?_ _); rotate_left; (first | omega | (simp <;> omega)))))), hV1, Lib.hid ⟨hlow.out, by simp⟩, (by repeat (first | with_reducible exact hB4 | with_reducible apply bdrew | with_reducible apply bdrewN | with_reducible apply balloc | ((with_reducible refine bset ?_ ?_ _); rotate_left; (first | omega | (simp <;> omega))))), (by repeat (first | with_reducible exact hBs | with_reducible apply bdrew | with_reducible apply bdrewN | with_reducible apply balloc | ((with_reducible refine bset ?_ ?_ _); rotate_left; (first | omega | (simp <;> omega))))), (by simp [Cls, go_sem, Fs, ysw0, yswp1, yswp2])⟩
            case round =>
              obtain ⟨V2, j, rfl, hj, o5, hV2, hlow2, hB5, hBu, hCu⟩ := hrel
              obtain ⟨w5, rfl⟩ : ∃ wo : World, wo = wr := ⟨_, rfl⟩
              have dus := hBu.size
              have Fu := hCu
              simp only [Cls, and_true] at Fu
              have yuw0 : w.heap.size < w5.heap.size := hCu.blk (b := w.heap.size) (k := 0) (v := .int .i64 (n : Int)) (by simp)
              have yuwp1 : w.heap.size < w5.heap.size + 1 := (by omega)
              have yuwp2 : w.heap.size < w5.heap.size + 1 + 1 := (by omega)
              have yuw40 : w4.heap.size < w5.heap.size := hCu.blk (b := w4.heap.size) (k := 0) (v := .slice Ap o.pre.length cp) (by simp)
              have yuw4p1 : w4.heap.size < w5.heap.size + 1 := (by omega)
              have yuw4p2 : w4.heap.size < w5.heap.size + 1 + 1 := (by omega)
              by_cases hlj : j < o.add.length
              · obtain ⟨pd, p, rfl, hp, hpc⟩ := (hm.add.below hBu).at_ hlj
                obtain ⟨p0, p1⟩ := hoo.out.2 p (List.mem_of_getElem? hp.out)
                have hl2 := hV2.shape.len
                obtain ⟨gg, y, rfl, hg2, hg5, hy, hyc, hyf⟩ := o5.at_ (k := p.toNat) (by omega)
                have hg4 := (hblk gg rfl).2
                have hj1 := Lib.hid (show j + 1 + (gk - 1) = o.add.length ∧ gk - 1 < gk by have := hj.out; omega)
                have hpm := List.mem_of_getElem? hp.out
                have hva := Lib.hid (valAt_of hy.out)
                have hab := Lib.hid (fun hlt : v < y => above_set hV2 hbd.out hpm hvin hy.out hlt)
                have hsm := Lib.hid (fun hlt : v < y => Lowered.set_ hlow2.out.1 hy.out hvin.1 hlt)
                have hle := Lib.hid (fun (hlt : v < y) (x : Int) => LeV.set_ hy.out (Int.le_of_lt hlt) x)
                have hsame : V2.set p.toNat y = V2 := by
                  apply List.ext_getElem?
                  intro q
                  rw [List.getElem?_set]
                  split
                  · rename_i e; subst e; rw [if_pos (by omega)]; exact hy.out.symm
                  · rfl
                have hsame' := Lib.hid hsame
                have hself := Lib.hid (fun (hlt : v < y) => (show valAt (V2.set p.toNat v) p ≤ v by rw [valAt_set (by omega), if_pos rfl]; exact Int.le_refl _))
                have hpm' := Lib.hid hpm
                have hV2' := Lib.hid hV2
                clear hsame hpm hV2
                by_cases hvy : v < y
                · have hvy' := Lib.hid hvy
                  go_wp2_with fail
                  refine region_still_tail 17 (by kernel_rfl) (by kernel_rfl) ?_
                  simp only [List.take_succ_cons, List.take_zero, List.drop_succ_cons, List.drop_zero]
                  repeat still_step
                  refine wpStill_nil ?_
                  go_wp2
                  go_roundg (gk - 1)
                  case measure => exact hj1.out.2
                  case rel =>
                    have hset := o5.set_ hl2 p.toNat v
                    have hfar := hCu.far ⟨gg, p.toNat, none⟩ (.int .i64 v) (by simp; omega)
                    refine ⟨V2.set p.toNat v, j + 1, rfl, Lib.hid hj1.out.1, hset, hab.out hvy'.out, Lib.hid ⟨hsm.out hvy'.out, ?_⟩, (by repeat (first | with_reducible exact hB5 | with_reducible apply bdrew | with_reducible apply bdrewN | with_reducible apply balloc | ((with_reducible refine bset ?_ ?_ _); rotate_left; (first | omega | (simp <;> omega))))), (by repeat (first | with_reducible exact hBu | with_reducible apply bdrew | with_reducible apply bdrewN | with_reducible apply balloc | ((with_reducible refine bset ?_ ?_ _); rotate_left; (first | omega | (simp <;> omega))))), hfar⟩
                    refine forall_take_succ hp.out (fun q hq => Int.le_trans (hle.out hvy'.out q) (hlow2.out.2 q hq)) (hself.out hvy'.out)
                · have hvy' := Lib.hid hvy
                  go_wp2_with fail
                  refine region_still_tail 17 (by kernel_rfl) (by kernel_rfl) ?_
                  simp only [List.take_succ_cons, List.take_zero, List.drop_succ_cons, List.drop_zero]
                  repeat still_step
                  refine wpStill_nil ?_
                  go_wp2
                  go_roundg (gk - 1)
                  case measure => exact hj1.out.2
                  case rel =>
                    have hset := o5.set_ hl2 p.toNat y
                    have hfar := hCu.far ⟨gg, p.toNat, none⟩ (.int .i64 y) (by simp; omega)
                    rw [hsame'.out] at hset
                    refine ⟨V2, j + 1, rfl, Lib.hid hj1.out.1, hset, hV2'.out, Lib.hid ⟨hlow2.out.1, ?_⟩, (by repeat (first | with_reducible exact hB5 | with_reducible apply bdrew | with_reducible apply bdrewN | with_reducible apply balloc | ((with_reducible refine bset ?_ ?_ _); rotate_left; (first | omega | (simp <;> omega))))), (by repeat (first | with_reducible exact hBu | with_reducible apply bdrew | with_reducible apply bdrewN | with_reducible apply balloc | ((with_reducible refine bset ?_ ?_ _); rotate_left; (first | omega | (simp <;> omega))))), hfar⟩
                    refine forall_take_succ hp.out hlow2.out.2 ?_
                    rw [hva.out]
                    have := hvy'.out
                    omega
              · have hend := hj.out
                have hk1 := Lib.hid (show k + 1 + (g4 - 1) = t.ops.length ∧ g4 - 1 < g4 by have := hk.out; omega)
                go_wp2
                go_roundg (g4 - 1)
                case measure => exact hk1.out.2
                case rel =>
                  refine ⟨V2, k + 1, by go_num, Lib.hid hk1.out.1, o5, hV2, Lib.hid (Lowered.succ hlow2.out.1 ho.out hcx.out ?_), (by repeat (first | with_reducible exact hB5 | with_reducible apply bdrew | with_reducible apply bdrewN | with_reducible apply balloc | ((with_reducible refine bset ?_ ?_ _); rotate_left; (first | omega | (simp <;> omega))))), (by repeat (first | with_reducible exact hBu | with_reducible apply bdrew | with_reducible apply bdrewN | with_reducible apply balloc | ((with_reducible refine bset ?_ ?_ _); rotate_left; (first | omega | (simp <;> omega))))), (by simp [Cls, go_sem, Fu, yuw0, yuwp1, yuwp2, yuw40, yuw4p1, yuw4p2])⟩
                  rw [hv.out]
                  exact forall_take_all hlj hlow2.out.2
          · have hkk := hk.out
            obtain rfl : k = t.ops.length := by omega
            have hV1l := hV1.shape.len
            by_cases hsame : V1 = V
            · subst hsame
              have hB := best_of hV (Lowered.closed hlow.out)
              have e := best_eq hB
              have he := Lib.hid e
              have hB' := Lib.hid hB
              clear e hB
              go_wp2_with fail
              refine (ints_at _ _ _ _ _ _ _ _ o4.ints_at (hIn.below (by repeat (first | with_reducible exact hB4 | with_reducible apply bdrew | with_reducible apply bdrewN | with_reducible apply balloc | ((with_reducible refine bset ?_ ?_ _); rotate_left; (first | omega | (simp <;> omega)))))) hV1l hVl.out hn25 true (by simp)).mono ?_
              rintro e w1 ⟨rfl, hB1⟩
              have D1 := dstep w hB1 (by repeat (first | with_reducible exact hBs | with_reducible apply bdrew | with_reducible apply bdrewN | with_reducible apply balloc | ((with_reducible refine bset ?_ ?_ _); rotate_left; (first | omega | (simp <;> omega)))))
              have d1s := D1.size
              have C1 := Cls.below (l := [(w.heap.size, 0, .int .i64 (n : Int)), (w.heap.size, 1, .slice Ai t.init.length ci), (w.heap.size, 2, .slice Ag t.goal.length cg), (w.heap.size, 3, .slice Ao t.ops.length co)]) hB1 (by simp [Cls, go_sem, Fs, ysw0, yswp1, yswp2])
              have F1 := C1
              simp only [Cls, and_true] at F1
              have y1w0 : w.heap.size < w1.heap.size := C1.blk (b := w.heap.size) (k := 0) (v := .int .i64 (n : Int)) (by simp)
              have y1wp1 : w.heap.size < w1.heap.size + 1 := (by omega)
              have y1wp2 : w.heap.size < w1.heap.size + 1 + 1 := (by omega)
              go_wp2
              go_ret
              refine ⟨_, rfl, ?_, ?_, by repeat (first | with_reducible exact D1 | with_reducible apply bdrew | with_reducible apply bdrewN | with_reducible apply balloc | ((with_reducible refine bset ?_ ?_ _); rotate_left; (first | omega | (simp <;> omega))))⟩
              · rw [← he.out]
                exact OwnI.below (OwnI.below (OwnI.mono hown (by omega)) (by repeat (first | with_reducible exact hB4 | with_reducible apply bdrew | with_reducible apply bdrewN | with_reducible apply balloc | ((with_reducible refine bset ?_ ?_ _); rotate_left; (first | omega | (simp <;> omega)))))) hB1
              · rw [← he.out]; exact hB'.out
            · have hs' := Lib.hid hsame
              have hless := Lib.hid (Lowered.less hlow.out hsame)
              have hV1' := Lib.hid hV1
              have hnil4 := Lib.hid o4.nil_at
              clear hsame
              go_wp2_with fail
              refine (ints_at _ _ _ _ _ _ _ _ o4.ints_at (hIn.below (by repeat (first | with_reducible exact hB4 | with_reducible apply bdrew | with_reducible apply bdrewN | with_reducible apply balloc | ((with_reducible refine bset ?_ ?_ _); rotate_left; (first | omega | (simp <;> omega)))))) hV1l hVl.out hn25 false (by simp [hs'.out])).mono ?_
              rintro e w1 ⟨rfl, hB1⟩
              have D1 := dstep w hB1 (by repeat (first | with_reducible exact hBs | with_reducible apply bdrew | with_reducible apply bdrewN | with_reducible apply balloc | ((with_reducible refine bset ?_ ?_ _); rotate_left; (first | omega | (simp <;> omega)))))
              have d1s := D1.size
              have C1 := Cls.below (l := [(w.heap.size, 0, .int .i64 (n : Int)), (w.heap.size, 1, .slice Ai t.init.length ci), (w.heap.size, 2, .slice Ag t.goal.length cg), (w.heap.size, 3, .slice Ao t.ops.length co)]) hB1 (by simp [Cls, go_sem, Fs, ysw0, yswp1, yswp2])
              have F1 := C1
              simp only [Cls, and_true] at F1
              have y1w0 : w.heap.size < w1.heap.size := C1.blk (b := w.heap.size) (k := 0) (v := .int .i64 (n : Int)) (by simp)
              have y1wp1 : w.heap.size < w1.heap.size + 1 := (by omega)
              have y1wp2 : w.heap.size < w1.heap.size + 1 + 1 := (by omega)
              go_wp2
              go_roundg (sumV V1)
              case measure => rw [hgk.out]; exact hless.out
              case rel => exact ⟨V1, A1, d1, rfl, Lib.hid rfl, OwnI.mono (OwnI.below o4 hB1) (by omega), Lib.hid hnil4.out, hV1'.out, (by repeat (first | with_reducible exact D1 | with_reducible apply bdrew | with_reducible apply bdrewN | with_reducible apply balloc | ((with_reducible refine bset ?_ ?_ _); rotate_left; (first | omega | (simp <;> omega))))), (by simp [Cls, go_sem, F1, y1w0, y1wp1, y1wp2])⟩


end Go.Proofs.Ythnhhohnjiigcaa
