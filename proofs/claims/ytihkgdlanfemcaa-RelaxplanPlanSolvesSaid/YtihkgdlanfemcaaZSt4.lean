/-
  strips.Run, Works, Solves, Play: what they return.
-/
import Derived.Test.YtihkgdlanfemcaaZSt3
import Derived.Test.YtihkgdlanfemcaaZMA
import Derived.Test.YtihkgdlanfemcaaZMC
import Derived.Test.YtihkgdlanfemcaaZMH
import Derived.Test.YtihkgdlanfemcaaZMI
namespace Go.Proofs.Ytihkgdlanfemcaa
open Go.RowKit
set_option linter.unusedVariables false
set_option linter.unusedSimpArgs false

theorem ll_one {B : Nat} {w : World} {A : Option Addr} {c : Nat} {xs : List Int} (h : Fresh B w A c xs) (hB : B ≤ w.heap.size) : OwnLL B (w.alloc (.cells #[.slice A xs.length c] 22)) (.slice (some ⟨w.heap.size, 0, none⟩) 1 1) [xs] := by
  refine ⟨[.slice A xs.length c], ⟨by simp, .inr ⟨w.heap.size, 1, #[.slice A xs.length c], rfl, hB, Arr.new w _ [.slice A xs.length c], by simp, by decide, by simp, by simp⟩⟩, fun i a ha => ?_⟩
  cases i with
  | succ i => simp at ha
  | zero =>
    simp at ha
    subst ha
    have h2 := (plist_stable B).below h (w' := w.alloc (.cells #[.slice A xs.length c] 22)) ((Below.refl _ _).alloc (Nat.le_refl _) _)
    obtain ⟨A', c', e, h3, h4, h5, h6, h7⟩ := h2
    obtain ⟨A1, c1, e1, _, _, _, _, h8⟩ := h
    refine ⟨A', c', e, h3, h4, h5, h6, fun ad hA => ⟨?_, (h7 ad hA).2⟩⟩
    have e2 := e.symm.trans e1
    injection e2 with e2
    injection e2 with e2 e3 e4
    subst e2
    have := (h8 ad hA).2.1
    intro hc
    have hc2 : ad.block = w.heap.size := by simpa [Value.ownBlock] using hc
    omega
theorem PList.neq {B : Nat} {w : World} {row : Option Nat} {A : Option Addr} {n c : Nat} {r : List Int} (h : PList B w row [.slice A n c] r) {ad : Addr} (hA : A = some ad) : some ad.block ≠ row := by
  obtain ⟨A', c', e, _, _, _, _, h7⟩ := h
  injection e with e
  injection e with e2 e3 e4
  subst e2
  exact (h7 ad hA).1
set_option maxRecDepth 100000 in
set_option maxHeartbeats 4000000 in
theorem run_any (w : World) (t : TaskV) (Ai Ag Ao : Option Addr) (ci cg co : Nat) (hT : TaskMem w Ai Ag Ao t) (hR : OpsRead w Ao t.ops) (S : Option Addr) (cs : Nat) (st : List Int) (hS : Ints w S st) (hst : SetP st t.facts) (P : Option Addr) (cp : Nat) (plan : List Int) (hP : Ints w P plan) (n : Nat) (hn : t.facts = n) (hv : Valid t) (hok : StepsOk t.ops.length plan) :
    Calls Try.prog 121 #[.agg #[.int .i64 t.facts, .slice Ai t.init.length ci, .slice Ag t.goal.length cg, .slice Ao t.ops.length co], .slice S st.length cs, .slice P plan.length cp] w fun e w' => ∃ v, e = .returned v ∧ (∃ B, w.heap.size ≤ B ∧ OwnLL B w' v (runV n t.ops st plan)) ∧ Below w.heap.size w w' := by
  have HV := Lib.hid hv
  have HN := Lib.hid hn
  have hl60 := hok.1
  have HOK := Lib.hid hok.2
  have hlS : st.length ≤ 1000000000000 := by have := SetP.length hst hv.f0; have := hv.f1; omega
  have HST := Lib.hid (show SetP st (n : Int) by rw [← hn]; exact hst)
  clear hv hn hok hst
  go_enter Try.func121, Try.ntmps121
  go_wp2_with fail
  refine (clone_any _ _ _ _ (hS.below (by repeat (first | with_reducible exact Below.refl _ _ | with_reducible apply bdrew | with_reducible apply bdrewN | with_reducible apply balloc | ((with_reducible refine bset ?_ ?_ _); rotate_left; (first | omega | (simp <;> omega)))))) hlS).mono ?_
  rintro e w1 ⟨A1, c1, rfl, hF1, hB1⟩
  have D1 := dstep w hB1 (by repeat (first | with_reducible exact Below.refl _ _ | with_reducible apply bdrew | with_reducible apply bdrewN | with_reducible apply balloc | ((with_reducible refine bset ?_ ?_ _); rotate_left; (first | omega | (simp <;> omega)))))
  have d1s := D1.size
  have hz1 := hB1.size
  have hz1' : w.heap.size + 1 ≤ w1.heap.size := by simpa using hz1
  have hF1' : Fresh (w.heap.size + 1) w1 A1 c1 st := by simpa using hF1
  have C1 := Cls.below (l := [(w.heap.size, 0, .int .i64 t.facts), (w.heap.size, 1, .slice Ai t.init.length ci), (w.heap.size, 2, .slice Ag t.goal.length cg), (w.heap.size, 3, .slice Ao t.ops.length co)]) hB1 (by simp [Cls, go_sem])
  have HR1 := Lib.hid (ll_one hF1' hz1')
  have HI1 := Lib.hid (hF1'.ints.below (balloc (Below.refl _ _) : Below w1.heap.size w1 (w1.alloc (.cells #[.slice A1 st.length c1] 22))))
  clear hF1 hF1' hz1 hB1
  have F1 := C1
  simp only [Cls, and_true] at F1
  have y1w0 : w.heap.size < w1.heap.size := C1.blk (b := w.heap.size) (k := 0) (v := .int .i64 t.facts) (by simp)
  have y1wp1 : w.heap.size < w1.heap.size + 1 := (by omega)
  have y1wp2 : w.heap.size < w1.heap.size + 1 + 1 := (by omega)
  go_wp2_with fail
  go_loopw [1, 7, 15] (fun a v i wr => ∃ (k : Nat) (S' : Option Addr) (c' : Nat) (s' : List Int) (pre : List (List Int)), k ≤ plan.length ∧ a = .slice S' s'.length c' ∧ i = .int .i64 k ∧ Ints wr S' s' ∧ Hid (SetP s' (n : Int)) ∧ OwnLL (w.heap.size + 1) wr v (pre ++ [s']) ∧ Hid (pre.length = k) ∧ Hid (runV n t.ops st plan = pre ++ runV n t.ops s' (plan.drop k)) ∧ Below w.heap.size w wr ∧ Cls wr [(w.heap.size, 0, .int .i64 t.facts), (w.heap.size, 1, .slice Ai t.init.length ci), (w.heap.size, 2, .slice Ag t.goal.length cg), (w.heap.size, 3, .slice Ao t.ops.length co)]) (fun _ _ i _ => plan.length - (intOf i).toNat)
  case atStart => exact ⟨0, S, cs, st, [], Nat.zero_le _, rfl, rfl, hS.below (by repeat (first | with_reducible exact D1 | with_reducible apply bdrew | with_reducible apply bdrewN | with_reducible apply balloc | ((with_reducible refine bset ?_ ?_ _); rotate_left; (first | omega | (simp <;> omega))))), HST, (by simpa using HR1.out), Lib.hid rfl, Lib.hid (by simp), (by repeat (first | with_reducible exact D1 | with_reducible apply bdrew | with_reducible apply bdrewN | with_reducible apply balloc | ((with_reducible refine bset ?_ ?_ _); rotate_left; (first | omega | (simp <;> omega))))), (by simp [Cls, go_sem, F1, y1w0, y1wp1, y1wp2])⟩
  case round =>
    obtain ⟨k, S', c', s', pre, hk, rfl, rfl, hI', HS', hown, HPL, HRV, hBr, hCr⟩ := hrel
    obtain ⟨w2, rfl⟩ : ∃ wo : World, wo = wr := ⟨_, rfl⟩
    have drs := hBr.size
    have Fr := hCr
    simp only [Cls, and_true] at Fr
    have yrw0 : w.heap.size < w2.heap.size := hCr.blk (b := w.heap.size) (k := 0) (v := .int .i64 t.facts) (by simp)
    have yrwp1 : w.heap.size < w2.heap.size + 1 := (by omega)
    have yrwp2 : w.heap.size < w2.heap.size + 1 + 1 := (by omega)
    by_cases hlt : k < plan.length
    · obtain ⟨ad, x, rfl, hx, hcx⟩ := (hP.below hBr).at_ hlt
      have hx0 := (HOK.out x (List.mem_of_getElem? hx.out)).1
      have hx1 := (HOK.out x (List.mem_of_getElem? hx.out)).2
      obtain ⟨kx, rfl⟩ : ∃ kx : Nat, x = (kx : Int) := ⟨x.toNat, by omega⟩
      have hkx : kx < t.ops.length := by omega
      have HDR := Lib.hid (show plan.drop k = (kx : Int) :: plan.drop (k + 1) by
        obtain ⟨h1, h2⟩ := List.getElem?_eq_some_iff.1 hx.out
        rw [List.drop_eq_getElem_cons h1, h2])
      have HSF := Lib.hid (show SetP s' t.facts by rw [HN.out]; exact HS'.out)
      by_cases hcan : CanV t.ops s' (kx : Int)
      · have HC := Lib.hid hcan
        clear hcan
        go_wp2_with fail
        refine (can_any _ t Ai Ag Ao ci cg co (hT.below (by repeat (first | with_reducible exact hBr | with_reducible apply bdrew | with_reducible apply bdrewN | with_reducible apply balloc | ((with_reducible refine bset ?_ ?_ _); rotate_left; (first | omega | (simp <;> omega)))))) _ _ _ (hI'.below (by repeat (first | with_reducible exact Below.refl _ _ | with_reducible apply bdrew | with_reducible apply bdrewN | with_reducible apply balloc | ((with_reducible refine bset ?_ ?_ _); rotate_left; (first | omega | (simp <;> omega)))))) HSF.out HV.out kx hkx true ⟨fun _ => rfl, fun _ => HC.out⟩).mono ?_
        rintro e w3 ⟨rfl, hB3⟩
        have D3 := dstep w hB3 (by repeat (first | with_reducible exact hBr | with_reducible apply bdrew | with_reducible apply bdrewN | with_reducible apply balloc | ((with_reducible refine bset ?_ ?_ _); rotate_left; (first | omega | (simp <;> omega)))))
        have d3s := D3.size
        have Ew2_3 := dstep w2 hB3 (by repeat (first | with_reducible exact Below.refl _ _ | with_reducible apply bdrew | with_reducible apply bdrewN | with_reducible apply balloc | ((with_reducible refine bset ?_ ?_ _); rotate_left; (first | omega | (simp <;> omega)))))
        have C3 := Cls.below (l := [(w.heap.size, 0, .int .i64 t.facts), (w.heap.size, 1, .slice Ai t.init.length ci), (w.heap.size, 2, .slice Ag t.goal.length cg), (w.heap.size, 3, .slice Ao t.ops.length co)]) hB3 (by simp [Cls, go_sem, Fr, yrw0, yrwp1, yrwp2])
        have F3 := C3
        simp only [Cls, and_true] at F3
        have y3w0 : w.heap.size < w3.heap.size := C3.blk (b := w.heap.size) (k := 0) (v := .int .i64 t.facts) (by simp)
        have y3wp1 : w.heap.size < w3.heap.size + 1 := (by omega)
        have y3wp2 : w.heap.size < w3.heap.size + 1 + 1 := (by omega)
        go_wp2_with fail
        refine (next_any _ t Ai Ag Ao ci cg co (hR.below (by repeat (first | with_reducible exact D3 | with_reducible apply bdrew | with_reducible apply bdrewN | with_reducible apply balloc | ((with_reducible refine bset ?_ ?_ _); rotate_left; (first | omega | (simp <;> omega)))))) _ _ _ (hI'.below (by repeat (first | with_reducible exact Ew2_3 | with_reducible apply bdrew | with_reducible apply bdrewN | with_reducible apply balloc | ((with_reducible refine bset ?_ ?_ _); rotate_left; (first | omega | (simp <;> omega)))))) HSF.out n HN.out HV.out kx hkx).mono ?_
        rintro e w4 ⟨v4, rfl, ho4, hB4⟩
        have D4 := dstep w hB4 (by repeat (first | with_reducible exact D3 | with_reducible apply bdrew | with_reducible apply bdrewN | with_reducible apply balloc | ((with_reducible refine bset ?_ ?_ _); rotate_left; (first | omega | (simp <;> omega)))))
        have d4s := D4.size
        have Ew2_4 := dstep w2 hB4 (by repeat (first | with_reducible exact Ew2_3 | with_reducible apply bdrew | with_reducible apply bdrewN | with_reducible apply balloc | ((with_reducible refine bset ?_ ?_ _); rotate_left; (first | omega | (simp <;> omega)))))
        have C4 := Cls.below (l := [(w.heap.size, 0, .int .i64 t.facts), (w.heap.size, 1, .slice Ai t.init.length ci), (w.heap.size, 2, .slice Ag t.goal.length cg), (w.heap.size, 3, .slice Ao t.ops.length co)]) hB4 (by simp [Cls, go_sem, F3, y3w0, y3wp1, y3wp2])
        have F4 := C4
        simp only [Cls, and_true] at F4
        have y4w0 : w.heap.size < w4.heap.size := C4.blk (b := w.heap.size) (k := 0) (v := .int .i64 t.facts) (by simp)
        have y4wp1 : w.heap.size < w4.heap.size + 1 := (by omega)
        have y4wp2 : w.heap.size < w4.heap.size + 1 + 1 := (by omega)
        obtain ⟨A4, c4, rfl, hn4, hI4⟩ := ho4.form
        clear hn4
        have hown4 := hown.below (by repeat (first | with_reducible exact Ew2_4 | with_reducible apply bdrew | with_reducible apply bdrewN | with_reducible apply balloc | ((with_reducible refine bset ?_ ?_ _); rotate_left; (first | omega | (simp <;> omega)))))
        have hrow : ∀ b, u7.ownBlock = some b → b < w3.heap.size := fun b hb => by
          have h1 := (OwnEs.lt hown b hb).2
          have h2 := Ew2_3.size
          omega
        have HY := Lib.hid (plist_of (B := w.heap.size + 1) (row := u7.ownBlock) ho4 (by omega) hrow)
        have hlen : (pre ++ [s']).length < 1000000000000 := by rw [List.length_append]; have := HPL.out; simp; omega
        have HRV2 := Lib.hid (show runV n t.ops st plan = (pre ++ [s']) ++ runV n t.ops (nextV n s' (opAt t.ops (kx : Int))) (plan.drop (k + 1)) by
          rw [HRV.out, HDR.out, runV_yes HC.out]; simp)
        have HPL2 := Lib.hid (show (pre ++ [s']).length = k + 1 by rw [List.length_append, HPL.out]; rfl)
        have HS4 := Lib.hid (nextV_set n s' (opAt t.ops (kx : Int)))
        go_wp2_with (at_builtin; go_must (refine wpList_el (plist_stable _) 27 24 (.slice none 0 0) Try.underlying27 info_list rfl (by decide) (by decide) rfl (.tmp 28) (.tmp 30) rfl w [(w.heap.size, 0, .int .i64 t.facts), (w.heap.size, 1, .slice Ai t.init.length ci), (w.heap.size, 2, .slice Ag t.goal.length cg), (w.heap.size, 3, .slice Ao t.ops.length co)] rfl (OwnLL.below hown4 ?p1) ⟨w4.heap.size, 0, none⟩ 1 rfl [.slice A4 (nextV n s' (opAt t.ops (kx : Int))).length c4] (nextV n s' (opAt t.ops (kx : Int))) rfl (cells_one ?p2) ?p8 ((plist_stable _).below HY.out ?p9) hlen ?p3 (by omega) ?p5 ?p6 ?p7 ?_; (case p1 => repeat (first | with_reducible exact Below.refl _ _ | with_reducible apply bdrew | with_reducible apply bdrewN | with_reducible apply balloc | ((with_reducible refine bset ?_ ?_ _); rotate_left; (first | omega | (simp <;> omega))))); (case p2 => simp [go_sem]); (case p3 => (first | omega | (simp <;> omega))); (case p5 => repeat (first | with_reducible exact D4 | with_reducible apply bdrew | with_reducible apply bdrewN | with_reducible apply balloc | ((with_reducible refine bset ?_ ?_ _); rotate_left; (first | omega | (simp <;> omega))))); (case p6 => simp [Cls, go_sem, F4, y4w0, y4wp1, y4wp2]); (case p7 => (simp <;> omega)); (case p8 => intro u hu; simp at hu; subst hu; rfl); (case p9 => repeat (first | with_reducible exact Below.refl _ _ | with_reducible apply bdrew | with_reducible apply bdrewN | with_reducible apply balloc | ((with_reducible refine bset ?_ ?_ _); rotate_left; (first | omega | (simp <;> omega))))); intro v6 w6 o6 D6 C6 sz6 G6 at6; have d6s := D6.size; have HI6 := Lib.hid (Ints.grown (hI4.below (balloc (Below.refl _ _) : Below w4.heap.size w4 (w4.alloc (.cells #[.slice A4 (nextV n s' (opAt t.ops (kx : Int))).length c4] 22)))) G6 (fun ad hA => (HY.out.neq hA))); clear G6 at6))
        go_roundw
        case rel => exact ⟨k + 1, A4, c4, nextV n s' (opAt t.ops (kx : Int)), pre ++ [s'], by omega, rfl, by go_num, HI6.out, HS4, o6, HPL2, HRV2, D6, C6⟩
        case measure => simp [intOf]; omega
      · have HC := Lib.hid hcan
        clear hcan
        go_wp2_with fail
        refine (can_any _ t Ai Ag Ao ci cg co (hT.below (by repeat (first | with_reducible exact hBr | with_reducible apply bdrew | with_reducible apply bdrewN | with_reducible apply balloc | ((with_reducible refine bset ?_ ?_ _); rotate_left; (first | omega | (simp <;> omega)))))) _ _ _ (hI'.below (by repeat (first | with_reducible exact Below.refl _ _ | with_reducible apply bdrew | with_reducible apply bdrewN | with_reducible apply balloc | ((with_reducible refine bset ?_ ?_ _); rotate_left; (first | omega | (simp <;> omega)))))) HSF.out HV.out kx hkx false ⟨fun h => absurd h HC.out, fun h => by cases h⟩).mono ?_
        rintro e w3 ⟨rfl, hB3⟩
        have D3 := dstep w hB3 (by repeat (first | with_reducible exact hBr | with_reducible apply bdrew | with_reducible apply bdrewN | with_reducible apply balloc | ((with_reducible refine bset ?_ ?_ _); rotate_left; (first | omega | (simp <;> omega)))))
        have d3s := D3.size
        have Ew2_3 := dstep w2 hB3 (by repeat (first | with_reducible exact Below.refl _ _ | with_reducible apply bdrew | with_reducible apply bdrewN | with_reducible apply balloc | ((with_reducible refine bset ?_ ?_ _); rotate_left; (first | omega | (simp <;> omega)))))
        have C3 := Cls.below (l := [(w.heap.size, 0, .int .i64 t.facts), (w.heap.size, 1, .slice Ai t.init.length ci), (w.heap.size, 2, .slice Ag t.goal.length cg), (w.heap.size, 3, .slice Ao t.ops.length co)]) hB3 (by simp [Cls, go_sem, Fr, yrw0, yrwp1, yrwp2])
        have F3 := C3
        simp only [Cls, and_true] at F3
        have y3w0 : w.heap.size < w3.heap.size := C3.blk (b := w.heap.size) (k := 0) (v := .int .i64 t.facts) (by simp)
        have y3wp1 : w.heap.size < w3.heap.size + 1 := (by omega)
        have y3wp2 : w.heap.size < w3.heap.size + 1 + 1 := (by omega)
        have HE := Lib.hid (show runV n t.ops st plan = pre ++ [s'] by rw [HRV.out, HDR.out, runV_no HC.out])
        go_wp2
        refine bodyPost_ret (v := u7) ?_ rfl ⟨_, rfl, ⟨w.heap.size + 1, by omega, ?_⟩, by repeat (first | with_reducible exact D3 | with_reducible apply bdrew | with_reducible apply bdrewN | with_reducible apply balloc | ((with_reducible refine bset ?_ ?_ _); rotate_left; (first | omega | (simp <;> omega))))⟩
        · simp [results, Try.results121, go_sem]
        · rw [HE.out]; exact hown.below (by repeat (first | with_reducible exact Ew2_3 | with_reducible apply bdrew | with_reducible apply bdrewN | with_reducible apply balloc | ((with_reducible refine bset ?_ ?_ _); rotate_left; (first | omega | (simp <;> omega)))))
    · have HE := Lib.hid (show runV n t.ops st plan = pre ++ [s'] by rw [HRV.out, List.drop_eq_nil_of_le (by omega), runV_nil])
      go_wp2
      refine bodyPost_ret (v := u7) ?_ rfl ⟨_, rfl, ⟨w.heap.size + 1, by omega, ?_⟩, by repeat (first | with_reducible exact hBr | with_reducible apply bdrew | with_reducible apply bdrewN | with_reducible apply balloc | ((with_reducible refine bset ?_ ?_ _); rotate_left; (first | omega | (simp <;> omega))))⟩
      · simp [results, Try.results121, go_sem]
      · rw [HE.out]; exact hown.below (by repeat (first | with_reducible exact Below.refl _ _ | with_reducible apply bdrew | with_reducible apply bdrewN | with_reducible apply balloc | ((with_reducible refine bset ?_ ?_ _); rotate_left; (first | omega | (simp <;> omega)))))

set_option maxRecDepth 100000 in
set_option maxHeartbeats 1000000 in
theorem works_full (w : World) (t : TaskV) (Ai Ag Ao : Option Addr) (ci cg co : Nat) (hT : TaskMem w Ai Ag Ao t) (hR : OpsRead w Ao t.ops) (S : Option Addr) (cs : Nat) (st : List Int) (hS : Ints w S st) (hst : SetP st t.facts) (P : Option Addr) (cp : Nat) (plan : List Int) (hP : Ints w P plan) (n : Nat) (hn : t.facts = n) (hv : Valid t) (hok : StepsOk t.ops.length plan) (hful : (runV n t.ops st plan).length = plan.length + 1) (v : Bool) (hval : (∃ r, (runV n t.ops st plan)[plan.length]? = some r ∧ ∀ q ∈ t.goal, q ∈ r) ↔ v = true) :
    Calls Try.prog 97 #[.agg #[.int .i64 t.facts, .slice Ai t.init.length ci, .slice Ag t.goal.length cg, .slice Ao t.ops.length co], .slice S st.length cs, .slice P plan.length cp] w fun e w' => e = .returned (.bool v) ∧ Below w.heap.size w w' := by
  have HV := Lib.hid hv
  have HN := Lib.hid hn
  have HOK := Lib.hid hok
  have HST := Lib.hid hst
  have hl60 := hok.1
  have h40 : t.ops.length ≤ 1000000 := by have := hv.nops; omega
  have hlg : t.goal.length ≤ 9223372036854775807 := by have := SetP.length hv.goal hv.f0; have := hv.f1; omega
  clear hv hn hok hst
  go_enter Try.func97, Try.ntmps97
  go_wp2_with fail
  refine (run_any _ t Ai Ag Ao ci cg co (hT.below (by repeat (first | with_reducible exact Below.refl _ _ | with_reducible apply bdrew | with_reducible apply bdrewN | with_reducible apply balloc | ((with_reducible refine bset ?_ ?_ _); rotate_left; (first | omega | (simp <;> omega)))))) (hR.below (by repeat (first | with_reducible exact Below.refl _ _ | with_reducible apply bdrew | with_reducible apply bdrewN | with_reducible apply balloc | ((with_reducible refine bset ?_ ?_ _); rotate_left; (first | omega | (simp <;> omega)))))) _ _ _ (hS.below (by repeat (first | with_reducible exact Below.refl _ _ | with_reducible apply bdrew | with_reducible apply bdrewN | with_reducible apply balloc | ((with_reducible refine bset ?_ ?_ _); rotate_left; (first | omega | (simp <;> omega)))))) HST.out _ _ _ (hP.below (by repeat (first | with_reducible exact Below.refl _ _ | with_reducible apply bdrew | with_reducible apply bdrewN | with_reducible apply balloc | ((with_reducible refine bset ?_ ?_ _); rotate_left; (first | omega | (simp <;> omega)))))) n HN.out HV.out HOK.out).mono ?_
  rintro e w1 ⟨v1, rfl, ⟨bR, hbR, hoR⟩, hB1⟩
  have D1 := dstep w hB1 (by repeat (first | with_reducible exact Below.refl _ _ | with_reducible apply bdrew | with_reducible apply bdrewN | with_reducible apply balloc | ((with_reducible refine bset ?_ ?_ _); rotate_left; (first | omega | (simp <;> omega)))))
  have d1s := D1.size
  have C1 := Cls.below (l := [(w.heap.size, 0, .int .i64 t.facts), (w.heap.size, 1, .slice Ai t.init.length ci), (w.heap.size, 2, .slice Ag t.goal.length cg), (w.heap.size, 3, .slice Ao t.ops.length co)]) hB1 (by simp [Cls, go_sem])
  have F1 := C1
  simp only [Cls, and_true] at F1
  have y1w0 : w.heap.size < w1.heap.size := C1.blk (b := w.heap.size) (k := 0) (v := .int .i64 t.facts) (by simp)
  have y1wp1 : w.heap.size < w1.heap.size + 1 := (by omega)
  have y1wp2 : w.heap.size < w1.heap.size + 1 + 1 := (by omega)
  obtain ⟨A1, c1, rfl⟩ := OwnEs.form hoR
  have hoR' : OwnLL bR w1 (.slice A1 (plan.length + 1) c1) (runV n t.ops st plan) := by rw [← hful]; exact hoR
  obtain ⟨g, cs', r, rfl, hgb, hgl, hr, hcl, hcell, A', c', rfl, hJ, hJn, hJ1, hJ2, hJ3⟩ := OwnEs.at_ hoR' (i := plan.length) (by omega)
  have hcr : w1.cell? ⟨g, plan.length, none⟩ = some (.slice A' r.length c') := by have := hcell 0 _ rfl; simpa using this
  have HRS := Lib.hid (runV_set (n := n) (ops := t.ops) plan st (by rw [← HN.out]; exact HST.out) r (List.mem_of_getElem? hr.out))
  have hrl : r.length ≤ 9223372036854775807 := by have := SetP.length HRS.out (by omega); have := HV.out.f1; have := HN.out; omega
  have HVL : Hid ((∀ q ∈ t.goal, q ∈ r) ↔ v = true) := Lib.hid (by
    rw [← hval]
    constructor
    · exact fun h => ⟨r, hr.out, h⟩
    · rintro ⟨r', h1, h2⟩
      rw [hr.out] at h1
      injection h1 with h1
      rw [h1]; exact h2)
  rw [hful]
  clear hval hful hoR hcell hcl hJn hJ1 hJ2 hJ3 hgb hr
  go_wp2_with fail
  go_quiet ((go_at_call 99; exact Calls.quiet_of_same ((scontains_v _ _ _ _ _ _ _ v (hJ.below (by repeat (first | with_reducible exact Below.refl _ _ | with_reducible apply bdrew | with_reducible apply bdrewN | with_reducible apply balloc | ((with_reducible refine bset ?_ ?_ _); rotate_left; (first | omega | (simp <;> omega)))))) (hT.goal.below (by repeat (first | with_reducible exact D1 | with_reducible apply bdrew | with_reducible apply bdrewN | with_reducible apply balloc | ((with_reducible refine bset ?_ ?_ _); rotate_left; (first | omega | (simp <;> omega)))))) hrl hlg (SetP.pairwise HRS.out) (SetP.pairwise HV.out.goal) HVL.out).mono fun _ _ h => ⟨h.1, h.2.symm⟩)))
  go_wp2
  refine bodyPost_ret (v := .bool v) ?_ rfl ⟨rfl, by repeat (first | with_reducible exact D1 | with_reducible apply bdrew | with_reducible apply bdrewN | with_reducible apply balloc | ((with_reducible refine bset ?_ ?_ _); rotate_left; (first | omega | (simp <;> omega))))⟩
  simp [results, Try.results97, go_sem, F1, y1w0, y1wp1, y1wp2]

set_option maxRecDepth 100000 in
set_option maxHeartbeats 1000000 in
theorem solves_4 (w : World) (t : TaskV) (Ai Ag Ao : Option Addr) (ci cg co : Nat) (hT : TaskMem w Ai Ag Ao t) (hR : OpsRead w Ao t.ops) (P : Option Addr) (cp : Nat) (plan : List Int) (hP : Ints w P plan) (n : Nat) (hn : t.facts = n) (hv : Valid t) (hok : StepsOk t.ops.length plan) (hful : (runV n t.ops t.init plan).length = plan.length + 1) (v : Bool) (hval : (∃ r, (runV n t.ops t.init plan)[plan.length]? = some r ∧ ∀ q ∈ t.goal, q ∈ r) ↔ v = true) :
    Calls Try.prog 57 #[.agg #[.int .i64 t.facts, .slice Ai t.init.length ci, .slice Ag t.goal.length cg, .slice Ao t.ops.length co], .slice P plan.length cp] w fun e w' => e = .returned (.tuple #[.bool v, .agg #[.int .i64 0, .int .i64 0]]) ∧ Below w.heap.size w w' := by
  have HV := Lib.hid hv
  have HN := Lib.hid hn
  have HOK := Lib.hid hok
  have hl60 := hok.1
  have h40 : t.ops.length ≤ 1000000 := by have := hv.nops; omega
  have hlg : t.goal.length ≤ 9223372036854775807 := by have := SetP.length hv.goal hv.f0; have := hv.f1; omega
  clear hv hn hok
  have hlP : plan.length ≤ 9223372036854775807 := by omega
  have HST := Lib.hid HV.out.init
  have HX := Lib.hid hful
  clear hful
  have HVL := Lib.hid hval
  clear hval
  go_enter Try.func57, Try.ntmps57
  go_wp2_with fail
  refine (planfault_3 _ t Ai Ag Ao ci cg co (hT.below (by repeat (first | with_reducible exact Below.refl _ _ | with_reducible apply bdrew | with_reducible apply bdrewN | with_reducible apply balloc | ((with_reducible refine bset ?_ ?_ _); rotate_left; (first | omega | (simp <;> omega)))))) _ _ _ (hP.below (by repeat (first | with_reducible exact Below.refl _ _ | with_reducible apply bdrew | with_reducible apply bdrewN | with_reducible apply balloc | ((with_reducible refine bset ?_ ?_ _); rotate_left; (first | omega | (simp <;> omega)))))) hlP HV.out HOK.out).mono ?_
  rintro e w1 ⟨rfl, hB1⟩
  have D1 := dstep w hB1 (by repeat (first | with_reducible exact Below.refl _ _ | with_reducible apply bdrew | with_reducible apply bdrewN | with_reducible apply balloc | ((with_reducible refine bset ?_ ?_ _); rotate_left; (first | omega | (simp <;> omega)))))
  have d1s := D1.size
  have C1 := Cls.below (l := [(w.heap.size, 0, .int .i64 t.facts), (w.heap.size, 1, .slice Ai t.init.length ci), (w.heap.size, 2, .slice Ag t.goal.length cg), (w.heap.size, 3, .slice Ao t.ops.length co), (w.heap.size + 1, 0, .int .i64 0), (w.heap.size + 1, 1, .int .i64 0)]) hB1 (by simp [Cls, go_sem])
  have F1 := C1
  simp only [Cls, and_true] at F1
  have y1w1 : w.heap.size + 1 < w1.heap.size := C1.blk (b := w.heap.size + 1) (k := 0) (v := .int .i64 0) (by simp)
  have y1w0 : w.heap.size < w1.heap.size := (by omega)
  have y1wp1 : w.heap.size < w1.heap.size + 1 := (by omega)
  have y1wp2 : w.heap.size < w1.heap.size + 1 + 1 := (by omega)
  go_wp2_with fail
  refine (works_full _ t Ai Ag Ao ci cg co (hT.below (by repeat (first | with_reducible exact D1 | with_reducible apply bdrew | with_reducible apply bdrewN | with_reducible apply balloc | ((with_reducible refine bset ?_ ?_ _); rotate_left; (first | omega | (simp <;> omega)))))) (hR.below (by repeat (first | with_reducible exact D1 | with_reducible apply bdrew | with_reducible apply bdrewN | with_reducible apply balloc | ((with_reducible refine bset ?_ ?_ _); rotate_left; (first | omega | (simp <;> omega)))))) _ _ _ (hT.init.below (by repeat (first | with_reducible exact D1 | with_reducible apply bdrew | with_reducible apply bdrewN | with_reducible apply balloc | ((with_reducible refine bset ?_ ?_ _); rotate_left; (first | omega | (simp <;> omega)))))) HST.out _ _ _ (hP.below (by repeat (first | with_reducible exact D1 | with_reducible apply bdrew | with_reducible apply bdrewN | with_reducible apply balloc | ((with_reducible refine bset ?_ ?_ _); rotate_left; (first | omega | (simp <;> omega)))))) n HN.out HV.out HOK.out HX.out v HVL.out).mono ?_
  rintro e w2 ⟨rfl, hB2⟩
  have D2 := dstep w hB2 (by repeat (first | with_reducible exact D1 | with_reducible apply bdrew | with_reducible apply bdrewN | with_reducible apply balloc | ((with_reducible refine bset ?_ ?_ _); rotate_left; (first | omega | (simp <;> omega)))))
  have d2s := D2.size
  have C2 := Cls.below (l := [(w.heap.size, 0, .int .i64 t.facts), (w.heap.size, 1, .slice Ai t.init.length ci), (w.heap.size, 2, .slice Ag t.goal.length cg), (w.heap.size, 3, .slice Ao t.ops.length co), (w.heap.size + 1, 0, .int .i64 0), (w.heap.size + 1, 1, .int .i64 0), (w1.heap.size, 0, .int .i64 0), (w1.heap.size, 1, .int .i64 0)]) hB2 (by simp [Cls, go_sem, F1, y1w1, y1w0, y1wp1, y1wp2])
  have F2 := C2
  simp only [Cls, and_true] at F2
  have y2w1 : w.heap.size + 1 < w2.heap.size := C2.blk (b := w.heap.size + 1) (k := 0) (v := .int .i64 0) (by simp)
  have y2w0 : w.heap.size < w2.heap.size := (by omega)
  have y2wp1 : w.heap.size < w2.heap.size + 1 := (by omega)
  have y2wp2 : w.heap.size < w2.heap.size + 1 + 1 := (by omega)
  have y2w10 : w1.heap.size < w2.heap.size := C2.blk (b := w1.heap.size) (k := 0) (v := .int .i64 0) (by simp)
  have y2w1p1 : w1.heap.size < w2.heap.size + 1 := (by omega)
  have y2w1p2 : w1.heap.size < w2.heap.size + 1 + 1 := (by omega)
  go_wp2
  refine bodyPost_ret (v := .tuple #[.bool v, .agg #[.int .i64 0, .int .i64 0]]) ?_ rfl ⟨rfl, by repeat (first | with_reducible exact D2 | with_reducible apply bdrew | with_reducible apply bdrewN | with_reducible apply balloc | ((with_reducible refine bset ?_ ?_ _); rotate_left; (first | omega | (simp <;> omega))))⟩
  simp [results, Try.results57, go_sem, F2, y2w1, y2w0, y2wp1, y2wp2, y2w10, y2w1p1, y2w1p2]

end Go.Proofs.Ytihkgdlanfemcaa
