/-
  relaxed.Values: what it returns.
  FactValues, the reference's: what it returns.
  OwnCosts, GoalValue; estimate, Max, Add: what they return.
  relaxed.Close: what it returns.
  estimate, Max, Add: what they return.
  Max, Add, Reachable: what they return.
-/
import Derived.Test.YtihkgdlanfemcaaMD
import Derived.Test.YtihkgdlanfemcaaMC
namespace Go.Proofs.Ytihkgdlanfemcaa
open Go.RowKit
set_option linter.unusedVariables false
set_option linter.unusedSimpArgs false

/-- A function value that combines values of facts. -/
def Combines (G : FuncId) (s : Bool) : Prop := Enters G ∧ ∀ (A B : Option Addr) (c d : Nat) (vs xs : List Int) (w : World), Ints w A vs → Ints w B xs → xs.length ≤ 9223372036854775807 → vs.length ≤ 9223372036854775807 → (∀ x ∈ xs, 0 ≤ x ∧ x < vs.length) → AllV vs →
    Calls Try.prog G #[.slice A vs.length c, .slice B xs.length d] w fun e w' => e = .returned (.int .i64 (combV s vs xs)) ∧ w = w'
theorem Combines.at_ {G : FuncId} {s : Bool} (h : Combines G s) (A B : Option Addr) (c d m : Nat) (vs xs : List Int) (w : World) (h1 : Ints w A vs) (h2 : Ints w B xs) (hm : vs.length = m) (h3 : lenOk xs.length) (h4 : m ≤ 1000000000000) (h5 : ∀ x ∈ xs, 0 ≤ x ∧ x < (m : Int)) (h6 : AllV vs) :
    Calls Try.prog G #[.slice A m c, .slice B xs.length d] w fun e w' => e = .returned (.int .i64 (combV s vs xs)) ∧ w' = w := by
  subst hm
  exact (h.2 A B c d vs xs w h1 h2 h3.le (by omega) h5 h6).mono fun _ _ h => ⟨h.1, h.2.symm⟩
theorem greatest_combines : Combines 87 false := ⟨fun args w => by kernel_rfl, fun A B c d vs xs w h1 h2 h3 h4 h5 h6 => greatest_any A B c d vs xs w h1 h2 h3 h4 h5 h6⟩
theorem sum_combines : Combines 111 true := ⟨fun args w => by kernel_rfl, fun A B c d vs xs w h1 h2 h3 h4 h5 h6 => sum_any A B c d vs xs w h1 h2 h3 h4 h5 h6⟩

set_option maxRecDepth 100000 in
set_option maxHeartbeats 1000000 in
theorem values_any (w : World) (t : TaskV) (Ai Ag Ao : Option Addr) (ci cg co : Nat) (hT : TaskMem w Ai Ag Ao t) (n : Nat) (hn : t.facts = n) (hn24 : n ≤ 1000000000000) (S : Option Addr) (cs : Nat) (st : List Int) (hS : Ints w S st) (hls : lenOk st.length) (hst : ∀ p ∈ st, 0 ≤ p ∧ p < (n : Int)) (C : Option Addr) (cc : Nat) (cost : List Int) (hC : Ints w C cost) (hlc : cost.length = t.ops.length) (hcv : AllV cost) (hops : ∀ o ∈ t.ops, (∀ p ∈ o.pre, 0 ≤ p ∧ p < (n : Int)) ∧ ∀ p ∈ o.add, 0 ≤ p ∧ p < (n : Int)) (G : FuncId) (s : Bool) (hG : Combines G s) :
    Calls Try.prog 108 #[.agg #[.int .i64 t.facts, .slice Ai t.init.length ci, .slice Ag t.goal.length cg, .slice Ao t.ops.length co], .slice S st.length cs, .slice C cost.length cc, .func (.func G) #[] #[]] w fun e w' => ∃ g, e = .returned (.slice (some ⟨g, 0, none⟩) n n) ∧ w.heap.size ≤ g ∧ IArr w' g (valuesV s n st t.ops cost) ∧ Best s n st t.ops cost (valuesV s n st t.ops cost) ∧ Below w.heap.size w w' := by
  have hls' := hls.le
  have hlo := hT.lops.le
  have hn' := hn
  rw [hn]
  have hmk := make_ints n hn24
  have hE := hG.1
  have hE' : ∀ (args : Array Value) (w : World), (callFunc G args).run Try.prog w = .ok (.enter G args) w := hE
  clear hE
  have HST := Lib.hid hst
  have HCV := Lib.hid hcv
  have HOPS := Lib.hid hops
  have HLC := Lib.hid hlc
  clear hst hcv hops hlc
  go_enter Try.func108, Try.ntmps108
  go_wp2_with fail
  go_loopw [24] (fun i wr => ∃ k : Nat, k ≤ n ∧ i = .int .i64 k ∧ IArr wr (w.heap.size + 1) (List.replicate k 1000000000 ++ List.replicate (n - k) 0) ∧ Below w.heap.size w wr ∧ Cls wr [(w.heap.size, 0, .int .i64 (n : Int)), (w.heap.size, 1, .slice Ai t.init.length ci), (w.heap.size, 2, .slice Ag t.goal.length cg), (w.heap.size, 3, .slice Ao t.ops.length co)]) (fun i _ => n - (intOf i).toNat)
  case atStart =>
    refine ⟨0, Nat.zero_le _, rfl, ?_, (by repeat (first | with_reducible exact Below.refl _ _ | with_reducible apply bdrew | with_reducible apply bdrewN | with_reducible apply balloc | ((with_reducible refine bset ?_ ?_ _); rotate_left; (first | omega | (simp <;> omega))))), (by simp [Cls, go_sem])⟩
    rw [fill_zero]
    exact IArr.made _ _ _ (by simp)
  case round =>
    obtain ⟨k, hk, rfl, hA, hBr, hCr⟩ := hrel
    have drs := hBr.size
    have Fr := hCr
    simp only [Cls, and_true] at Fr
    have yrw0 : w.heap.size < wr.heap.size := hCr.blk (b := w.heap.size) (k := 0) (v := .int .i64 (n : Int)) (by simp)
    have yrwp1 : w.heap.size < wr.heap.size + 1 := (by omega)
    have yrwp2 : w.heap.size < wr.heap.size + 1 + 1 := (by omega)
    by_cases hlt : k < n
    · obtain ⟨x, hx, hc, hf⟩ := hA.cell (i := k) (by rw [fill_len hk]; exact hlt)
      have hlen := fill_len hk (1000000000 : Int) 0
      go_wp2
      go_roundw
      case rel =>
        refine ⟨k + 1, by omega, by go_num, ?_, (by repeat (first | with_reducible exact hBr | with_reducible apply bdrew | with_reducible apply bdrewN | with_reducible apply balloc | ((with_reducible refine bset ?_ ?_ _); rotate_left; (first | omega | (simp <;> omega))))), (by simp [Cls, go_sem, Fr, yrw0, yrwp1, yrwp2])⟩
        rw [← fill_succ hlt]
        exact hA.set_ k _
      case measure => simp [intOf]; omega
    · rw [fill_all hlt hk, ← init2_nil] at hA
      obtain ⟨w1, rfl⟩ : ∃ wo : World, wo = wr := ⟨_, rfl⟩
      go_wp2_with fail
      go_loopg [33] (st.length) (fun gk i wr => ∃ k : Nat, Hid (k + gk = st.length) ∧ i = .int .i64 k ∧ IArr wr (w.heap.size + 1) (init2 n (st.take k)) ∧ Below w.heap.size w wr ∧ Cls wr [(w.heap.size, 0, .int .i64 (n : Int)), (w.heap.size, 1, .slice Ai t.init.length ci), (w.heap.size, 2, .slice Ag t.goal.length cg), (w.heap.size, 3, .slice Ao t.ops.length co)])
      case atStart => exact ⟨0, Lib.hid (by omega), rfl, by simpa using hA, (by repeat (first | with_reducible exact hBr | with_reducible apply bdrew | with_reducible apply bdrewN | with_reducible apply balloc | ((with_reducible refine bset ?_ ?_ _); rotate_left; (first | omega | (simp <;> omega))))), (by simp [Cls, go_sem, Fr, yrw0, yrwp1, yrwp2])⟩
      case round =>
        obtain ⟨k, hk, rfl, hA, hBq, hCq⟩ := hrel
        have dqs := hBq.size
        have Fq := hCq
        simp only [Cls, and_true] at Fq
        have yqw0 : w.heap.size < wr.heap.size := hCq.blk (b := w.heap.size) (k := 0) (v := .int .i64 (n : Int)) (by simp)
        have yqwp1 : w.heap.size < wr.heap.size + 1 := (by omega)
        have yqwp2 : w.heap.size < wr.heap.size + 1 + 1 := (by omega)
        by_cases hlt : k < st.length
        · obtain ⟨sd, x, rfl, hx, hc⟩ := (hS.below hBq).at_ hlt
          obtain ⟨x0, x1⟩ := HST.out x (List.mem_of_getElem? hx.out)
          have hlen := init2_len n (st.take k)
          obtain ⟨y, hy, hd, hf⟩ := hA.cell (i := x.toNat) (by omega)
          have hk1 := Lib.hid (show k + 1 + (gk - 1) = st.length ∧ gk - 1 < gk by have := hk.out; omega)
          go_wp2
          go_roundg (gk - 1)
          case measure => exact hk1.out.2
          case rel =>
            refine ⟨k + 1, Lib.hid hk1.out.1, by go_num, ?_, (by repeat (first | with_reducible exact hBq | with_reducible apply bdrew | with_reducible apply bdrewN | with_reducible apply balloc | ((with_reducible refine bset ?_ ?_ _); rotate_left; (first | omega | (simp <;> omega))))), (by simp [Cls, go_sem, Fq, yqw0, yqwp1, yqwp2])⟩
            rw [init2_succ hx.out]
            exact hA.set_ _ _
        · rw [List.take_of_length_le (by omega), init2_eq HST.out] at hA
          obtain ⟨w2, rfl⟩ : ∃ wo : World, wo = wr := ⟨_, rfl⟩
          go_wp2_with fail
          go_loopg [13] (2 * sumV (initV n st) + 1) (fun gk ch wr => ∃ (V : List Int) (b : Bool), ch = .bool b ∧ Hid (gk = 2 * sumV V + b.toNat) ∧ IArr wr (w.heap.size + 1) V ∧ Above s n st t.ops cost V ∧ Hid (b = false → ClosedTo s t.ops cost t.ops.length V) ∧ Below w.heap.size w wr ∧ Cls wr [(w.heap.size, 0, .int .i64 (n : Int)), (w.heap.size, 1, .slice Ai t.init.length ci), (w.heap.size, 2, .slice Ag t.goal.length cg), (w.heap.size, 3, .slice Ao t.ops.length co)])
          case atStart => exact ⟨_, true, rfl, Lib.hid rfl, hA, initV_above HST.out, Lib.hid (fun h => by cases h), (by repeat (first | with_reducible exact hBq | with_reducible apply bdrew | with_reducible apply bdrewN | with_reducible apply balloc | ((with_reducible refine bset ?_ ?_ _); rotate_left; (first | omega | (simp <;> omega))))), (by simp [Cls, go_sem, Fq, yqw0, yqwp1, yqwp2])⟩
          case round =>
            obtain ⟨V0, b, rfl, hgk, hA0, hV0, hcl, hBp, hCp⟩ := hrel
            obtain ⟨g3, rfl⟩ : ∃ g : Nat, g = gk := ⟨_, rfl⟩
            obtain ⟨w3, rfl⟩ : ∃ wo : World, wo = wr := ⟨_, rfl⟩
            cases b with
            | false =>
              have hB := best_of hV0 (hcl.out rfl)
              have e := best_eq hB
              rw [e] at hB hA0
              have hB' := Lib.hid hB
              clear e hB hV0 hcl
              skip
              have dps := hBp.size
              have Fp := hCp
              simp only [Cls, and_true] at Fp
              have ypw0 : w.heap.size < w3.heap.size := hCp.blk (b := w.heap.size) (k := 0) (v := .int .i64 (n : Int)) (by simp)
              have ypwp1 : w.heap.size < w3.heap.size + 1 := (by omega)
              have ypwp2 : w.heap.size < w3.heap.size + 1 + 1 := (by omega)
              go_wp2
              go_ret
              exact ⟨_, rfl, by omega, hA0, hB'.out, hBp⟩
            | true =>
              have dps := hBp.size
              have Fp := hCp
              simp only [Cls, and_true] at Fp
              have ypw0 : w.heap.size < w3.heap.size := hCp.blk (b := w.heap.size) (k := 0) (v := .int .i64 (n : Int)) (by simp)
              have ypwp1 : w.heap.size < w3.heap.size + 1 := (by omega)
              have ypwp2 : w.heap.size < w3.heap.size + 1 + 1 := (by omega)
              go_wp2_with fail
              go_loopg [13, 45] (t.ops.length) (fun gk ch i wr => ∃ (V : List Int) (b : Bool) (k : Nat), ch = .bool b ∧ i = .int .i64 k ∧ Hid (k + gk = t.ops.length) ∧ IArr wr (w.heap.size + 1) V ∧ Above s n st t.ops cost V ∧ Hid (b = true → sumV V < sumV V0) ∧ Hid (b = false → sumV V ≤ sumV V0 ∧ ClosedTo s t.ops cost k V) ∧ Below w.heap.size w wr ∧ Cls wr [(w.heap.size, 0, .int .i64 (n : Int)), (w.heap.size, 1, .slice Ai t.init.length ci), (w.heap.size, 2, .slice Ag t.goal.length cg), (w.heap.size, 3, .slice Ao t.ops.length co)])
              case atStart => exact ⟨V0, false, 0, rfl, rfl, Lib.hid (by omega), hA0, hV0, Lib.hid (fun h => by cases h), Lib.hid (fun _ => ⟨Nat.le_refl _, closedTo_zero⟩), (by repeat (first | with_reducible exact hBp | with_reducible apply bdrew | with_reducible apply bdrewN | with_reducible apply balloc | ((with_reducible refine bset ?_ ?_ _); rotate_left; (first | omega | (simp <;> omega))))), (by simp [Cls, go_sem, Fp, ypw0, ypwp1, ypwp2])⟩
              case round =>
                obtain ⟨V1, b1, k, rfl, rfl, hk, hA1, hV1, ht1, hf1, hBs, hCs⟩ := hrel
                obtain ⟨g4, rfl⟩ : ∃ g : Nat, g = gk := ⟨_, rfl⟩
                obtain ⟨w4, rfl⟩ : ∃ wo : World, wo = wr := ⟨_, rfl⟩
                have dss := hBs.size
                have Fs := hCs
                simp only [Cls, and_true] at Fs
                have ysw0 : w.heap.size < w4.heap.size := hCs.blk (b := w.heap.size) (k := 0) (v := .int .i64 (n : Int)) (by simp)
                have yswp1 : w.heap.size < w4.heap.size + 1 := (by omega)
                have yswp2 : w.heap.size < w4.heap.size + 1 + 1 := (by omega)
                by_cases hlt : k < t.ops.length
                · obtain ⟨ad, o, A0, c0, A1, c1, A2, c2, rfl, ho, hc0, hc1, hc2, hc3, hm⟩ := hT.ops.at2 hBs hlt
                  have hkc : k < cost.length := by have := HLC.out; omega
                  obtain ⟨cd, cv, rfl, hcx, hcc⟩ := (hC.below hBs).at_ (show k < cost.length by have := HLC.out; omega)
                  have hcin := HCV.out cv (List.mem_of_getElem? hcx.out)
                  have hoo := Lib.hid (HOPS.out o (List.mem_of_getElem? ho.out))
                  have hAi := hA1.ints
                  have hVl := hV1.shape.len
                  have hcomb := combV_in (s := s) hV1.shape.all o.pre
                  obtain ⟨v, hv⟩ : ∃ v, Hid (opV s V1 o cv = v) := ⟨_, Lib.hid rfl⟩
                  have hbd := Lib.hid (bound_of hV1 ho.out hcx.out hcin)
                  have hvin := opV_in (s := s) hV1.shape.all o hcin
                  rw [hv.out] at hvin hbd
                  have hcc2 : ∀ ob : Obj, (w4.alloc ob).cell? (cd.add k) = some (.int .i64 cv) := fun ob => (((Below.refl _ _).alloc (Nat.le_refl _) _).cell (World.block_lt_of_cell? w4 _ hcc)).trans hcc
                  go_wp2_with fail
                  refine region_still (by kernel_rfl) (by kernel_rfl) ?_
                  repeat still_step
                  still_call (hG.at_ _ _ _ _ _ _ _ _ (hAi.below ((Below.refl _ _).alloc (Nat.le_refl _) _).drew) (hm.pre.below (by repeat (first | with_reducible exact hBs | with_reducible apply bdrew | with_reducible apply bdrewN | with_reducible apply balloc | ((with_reducible refine bset ?_ ?_ _); rotate_left; (first | omega | (simp <;> omega)))))) hVl hm.lpre hn24 hoo.out.1 hV1.shape.all)
                  repeat still_step
                  still_call ((plus_any _ _ _ hcomb hcin).mono fun _ _ h => ⟨h.1, h.2.symm⟩)
                  repeat still_step
                  refine wpStill_nil ?_
                  have hv' : plusV (combV s V1 o.pre) cv = v := hv.out
                  rw [hv']
                  have hlc' := hm.ladd.le
                  go_wp2_with fail
                  go_loopg [13, 63] (o.add.length) (fun gk ch i wr => ∃ (V : List Int) (b : Bool) (j : Nat), ch = .bool b ∧ i = .int .i64 j ∧ Hid (j + gk = o.add.length) ∧ IArr wr (w.heap.size + 1) V ∧ Above s n st t.ops cost V ∧ Hid (b = true → sumV V < sumV V0) ∧ Hid (b = false → V = V1 ∧ sumV V ≤ sumV V0 ∧ ClosedTo s t.ops cost k V ∧ ∀ p ∈ o.add.take j, valAt V p ≤ v) ∧ Below w.heap.size w wr ∧ Cls wr [(w.heap.size, 0, .int .i64 (n : Int)), (w.heap.size, 1, .slice Ai t.init.length ci), (w.heap.size, 2, .slice Ag t.goal.length cg), (w.heap.size, 3, .slice (some ad) t.ops.length co)])
                  case atStart => exact ⟨V1, b1, 0, rfl, rfl, Lib.hid (by omega), (hA1.below (by repeat (first | with_reducible exact Below.refl _ _ | with_reducible apply bdrew | with_reducible apply bdrewN | with_reducible apply balloc | ((with_reducible refine bset ?_ ?_ _); rotate_left; (first | omega | (simp <;> omega)))))), hV1, ht1, Lib.hid (fun h => ⟨rfl, (hf1.out h).1, (hf1.out h).2, by simp⟩), (by repeat (first | with_reducible exact hBs | with_reducible apply bdrew | with_reducible apply bdrewN | with_reducible apply balloc | ((with_reducible refine bset ?_ ?_ _); rotate_left; (first | omega | (simp <;> omega))))), (by simp [Cls, go_sem, Fs, ysw0, yswp1, yswp2])⟩
                  case round =>
                    obtain ⟨V2, b2, j, rfl, rfl, hj, hA2, hV2, ht2, hf2, hBu, hCu⟩ := hrel
                    obtain ⟨w5, rfl⟩ : ∃ wo : World, wo = wr := ⟨_, rfl⟩
                    have dus := hBu.size
                    have Fu := hCu
                    simp only [Cls, and_true] at Fu
                    have yuw0 : w.heap.size < w5.heap.size := hCu.blk (b := w.heap.size) (k := 0) (v := .int .i64 (n : Int)) (by simp)
                    have yuwp1 : w.heap.size < w5.heap.size + 1 := (by omega)
                    have yuwp2 : w.heap.size < w5.heap.size + 1 + 1 := (by omega)
                    by_cases hlj : j < o.add.length
                    · obtain ⟨pd, p, rfl, hp, hpc⟩ := (hm.add.below hBu).at_ hlj
                      obtain ⟨p0, p1⟩ := hoo.out.2 p (List.mem_of_getElem? hp.out)
                      have hl2 := hV2.shape.len
                      obtain ⟨y, hy, hyc, hyf⟩ := hA2.cell (i := p.toNat) (by omega)
                      have hj1 := Lib.hid (show j + 1 + (gk - 1) = o.add.length ∧ gk - 1 < gk by have := hj.out; omega)
                      have hpm := List.mem_of_getElem? hp.out
                      have hva := Lib.hid (valAt_of hy.out)
                      have hab := fun hlt : v < y => above_set hV2 hbd.out hpm hvin hy.out hlt
                      have hsm := fun hlt : v < y => sum_set hy.out hvin.1 hlt
                      have hab' := Lib.hid hab
                      have hsm' := Lib.hid hsm
                      have hpm' := Lib.hid hpm
                      have hV2' := Lib.hid hV2
                      clear hab hsm hpm hV2
                      by_cases hvy : v < y
                      · have hvy' := Lib.hid hvy
                        go_wp2
                        go_roundg (gk - 1)
                        case measure => exact hj1.out.2
                        case rel =>
                          refine ⟨V2.set p.toNat v, true, j + 1, rfl, by go_num, Lib.hid hj1.out.1, hA2.set_ _ _, hab'.out hvy'.out, Lib.hid (fun _ => ?_), Lib.hid (fun h => by cases h), (by repeat (first | with_reducible exact hBu | with_reducible apply bdrew | with_reducible apply bdrewN | with_reducible apply balloc | ((with_reducible refine bset ?_ ?_ _); rotate_left; (first | omega | (simp <;> omega))))), (by simp [Cls, go_sem, Fu, yuw0, yuwp1, yuwp2])⟩
                          have h1 := hsm'.out hvy'.out
                          cases b2 with
                          | true => have := ht2.out rfl; omega
                          | false => have := (hf2.out rfl).2.1; omega
                      · have hvy' := Lib.hid hvy
                        go_wp2
                        go_roundg (gk - 1)
                        case measure => exact hj1.out.2
                        case rel =>
                          refine ⟨V2, b2, j + 1, rfl, by go_num, Lib.hid hj1.out.1, hA2, hV2'.out, ht2, Lib.hid (fun h => ⟨(hf2.out h).1, (hf2.out h).2.1, (hf2.out h).2.2.1, forall_take_succ hp.out (hf2.out h).2.2.2 ?_⟩), (by repeat (first | with_reducible exact hBu | with_reducible apply bdrew | with_reducible apply bdrewN | with_reducible apply balloc | ((with_reducible refine bset ?_ ?_ _); rotate_left; (first | omega | (simp <;> omega))))), (by simp [Cls, go_sem, Fu, yuw0, yuwp1, yuwp2])⟩
                          rw [hva.out]
                          have := hvy'.out
                          omega
                    · have hend := hj.out
                      have hk1 := Lib.hid (show k + 1 + (g4 - 1) = t.ops.length ∧ g4 - 1 < g4 by have := hk.out; omega)
                      go_wp2
                      go_roundg (g4 - 1)
                      case measure => exact hk1.out.2
                      case rel =>
                        refine ⟨V2, b2, k + 1, rfl, by go_num, Lib.hid hk1.out.1, hA2, hV2, ht2, Lib.hid (fun h => ⟨(hf2.out h).2.1, ?_⟩), (by repeat (first | with_reducible exact hBu | with_reducible apply bdrew | with_reducible apply bdrewN | with_reducible apply balloc | ((with_reducible refine bset ?_ ?_ _); rotate_left; (first | omega | (simp <;> omega))))), (by simp [Cls, go_sem, Fu, yuw0, yuwp1, yuwp2])⟩
                        obtain ⟨rfl, h2, h3, h4⟩ := hf2.out h
                        refine closedTo_succ h3 ho.out hcx.out ?_
                        rw [hv.out]
                        exact forall_take_all hlj h4
                · have hkk := Lib.hid (show k = t.ops.length by have := hk.out; omega)
                  go_wp2
                  go_roundg (2 * sumV V1 + b1.toNat)
                  case measure =>
                    rw [hgk.out]
                    cases b1 with
                    | true => have := ht1.out rfl; simp; omega
                    | false => have := (hf1.out rfl).1; simp; omega
                  case rel => exact ⟨V1, b1, rfl, Lib.hid rfl, hA1, hV1, Lib.hid (fun h => by rw [← hkk.out]; exact (hf1.out h).2), (by repeat (first | with_reducible exact hBs | with_reducible apply bdrew | with_reducible apply bdrewN | with_reducible apply balloc | ((with_reducible refine bset ?_ ?_ _); rotate_left; (first | omega | (simp <;> omega))))), (by simp [Cls, go_sem, Fs, ysw0, yswp1, yswp2])⟩


end Go.Proofs.Ytihkgdlanfemcaa

namespace Go.Proofs.Ytihkgdlanfemcaa
open Go.RowKit
theorem ints_at (A B : Option Addr) (c d m : Nat) (xs ys : List Int) (w : World) (hI : Ints w A xs) (hJ : Ints w B ys) (h1 : xs.length = m) (h2 : ys.length = m) (hl : m ≤ 1000000000000) (v : Bool) (hv : v = decide (xs = ys)) :
    Calls Try.prog 33 #[.slice A m c, .slice B m d] w fun e w' => e = .returned (.bool v) ∧ Below w.heap.size w w' := by
  have h := ints_any A B c d xs ys w hI hJ (by omega) (by omega)
  rw [h1, h2] at h
  rw [hv]
  exact h
theorem OwnI.form_at {base n : Nat} {w : World} {v : Value} {xs : List Int} (h : OwnI base w v xs) (hn : xs.length = n) : ∃ A c, v = .slice A n c ∧ (A = none → xs = [] ∧ c = 0) := by
  obtain ⟨A, c, e, h1, _⟩ := h.form
  exact ⟨A, c, by rw [e, hn], h1⟩
theorem OwnI.nil_at {base n c : Nat} {w : World} {A : Option Addr} {xs : List Int} (h : OwnI base w (.slice A n c) xs) : A = none → xs = [] ∧ c = 0 := by
  obtain ⟨A', c', e, h1, _⟩ := h.form
  injection e with e1 e2 e3
  subst e1; subst e3
  exact h1
theorem OwnI.ints_at {base n c : Nat} {w : World} {A : Option Addr} {xs : List Int} (h : OwnI base w (.slice A n c) xs) : Ints w A xs := by
  obtain ⟨A', c', e, h1⟩ := h.ints
  injection e with e
  rw [e]; exact h1
theorem OwnI.blk {base n c : Nat} {w : World} {A : Option Addr} {xs : List Int} (h : OwnI base w (.slice A n c) xs) : ∀ g, A = some ⟨g, 0, none⟩ → base ≤ g ∧ g < w.heap.size := fun g e => by
  subst e
  exact World.ownsRow.lt h g rfl
/-- One round of the reference: what is lowered so far. -/
def Lowered (s : Bool) (ops : List OpV) (cs : List Int) (k : Nat) (V V' : List Int) : Prop :=
  (V' = V ∨ sumV V' < sumV V) ∧ ∀ (i : Nat) (o : OpV) (c : Int), i < k → ops[i]? = some o → cs[i]? = some c → ∀ p ∈ o.add, valAt V' p ≤ opV s V o c
section
variable {s : Bool} {n : Nat} {st : List Int} {ops : List OpV} {cs V V' : List Int}
theorem Lowered.start : Lowered s ops cs 0 V V := ⟨Or.inl rfl, fun i o c hi => absurd hi (by omega)⟩
theorem Lowered.set_ {k : Nat} (h : Lowered s ops cs k V V') {i : Nat} {x y : Int} (hy : V'[i]? = some y) (h0 : 0 ≤ x) (hlt : x < y) : Lowered s ops cs k V (V'.set i x) := by
  have h1 := sum_set hy h0 hlt
  refine ⟨Or.inr ?_, fun j o c hj ho hc p hp => Int.le_trans (LeV.set_ hy (Int.le_of_lt hlt) p) (h.2 j o c hj ho hc p hp)⟩
  rcases h.1 with e | e
  · rw [← e]; exact h1
  · omega
theorem Lowered.succ {k : Nat} {o : OpV} {c : Int} (h : Lowered s ops cs k V V') (ho : ops[k]? = some o) (hc : cs[k]? = some c) (h2 : ∀ p ∈ o.add, valAt V' p ≤ opV s V o c) : Lowered s ops cs (k + 1) V V' := by
  refine ⟨h.1, fun i o' c' hi ho' hc' p hp => ?_⟩
  by_cases e : i = k
  · subst e
    rw [ho] at ho'; injection ho' with ho'; subst ho'
    rw [hc] at hc'; injection hc' with hc'; subst hc'
    exact h2 p hp
  · exact h.2 i o' c' (by omega) ho' hc' p hp
theorem Lowered.closed (h : Lowered s ops cs ops.length V V) : ClosedTo s ops cs ops.length V := h.2
theorem Lowered.less {k : Nat} (h : Lowered s ops cs k V V') (hne : ¬ V' = V) : sumV V' < sumV V := h.1.resolve_left hne
end
end Go.Proofs.Ytihkgdlanfemcaa

namespace Go.Proofs.Ytihkgdlanfemcaa
open Go.RowKit
end Go.Proofs.Ytihkgdlanfemcaa

namespace Go.Proofs.Ytihkgdlanfemcaa
open Go.RowKit
set_option linter.unusedVariables false
set_option linter.unusedSimpArgs false

/-- A function value that tells whether an operator may be used. -/
def Uses (F : FuncId) (caps : Array Value) (use : Nat → Bool) (m : Nat) (w : World) : Prop :=
  Enters F ∧ ∀ (k : Nat) (wr : World), k < m → Below w.heap.size w wr → Calls Try.prog F (#[.int .i64 k] ++ caps) wr fun e w' => e = .returned (.bool (use k)) ∧ Below wr.heap.size wr w'
theorem all_at (A B : Option Addr) (c d n : Nat) (bs : List Bool) (xs : List Int) (w : World) (hI : Bools w A bs) (hJ : Ints w B xs) (hn : bs.length = n) (hl : lenOk xs.length) (hb : n ≤ 1000000000000) (hx : ∀ x ∈ xs, 0 ≤ x ∧ x < (n : Int)) (v : Bool) (hv : v = true ↔ AllIn bs xs) :
    Calls Try.prog 107 #[.slice A n c, .slice B xs.length d] w fun e w' => e = .returned (.bool v) ∧ Below w.heap.size w w' := by
  subst hn
  exact all_any A B c d bs xs w hI hJ hl.le (by omega) hx v hv

set_option maxRecDepth 100000 in
set_option maxHeartbeats 1000000 in
theorem close_any (w : World) (t : TaskV) (Ai Ag Ao : Option Addr) (ci cg co : Nat) (hT : TaskMem w Ai Ag Ao t) (n : Nat) (hn : t.facts = n) (hn24 : n ≤ 1000000000000) (S : Option Addr) (cs : Nat) (st : List Int) (hS : Ints w S st) (hls : lenOk st.length) (hst : ∀ p ∈ st, 0 ≤ p ∧ p < (n : Int)) (hops : ∀ o ∈ t.ops, (∀ p ∈ o.pre, 0 ≤ p ∧ p < (n : Int)) ∧ ∀ p ∈ o.add, 0 ≤ p ∧ p < (n : Int)) (F : FuncId) (caps : Array Value) (use : Nat → Bool) (hU : Uses F caps use t.ops.length w) :
    Calls Try.prog 84 #[.agg #[.int .i64 t.facts, .slice Ai t.init.length ci, .slice Ag t.goal.length cg, .slice Ao t.ops.length co], .slice S st.length cs, .func (.func F) #[] caps] w fun e w' => ∃ g, e = .returned (.slice (some ⟨g, 0, none⟩) n n) ∧ w.heap.size ≤ g ∧ BArr w' g (closeV n st t.ops use) ∧ Below w.heap.size w w' := by
  have hls' := hls.le
  have hlo := hT.lops.le
  have hn' := hn
  rw [hn]
  have hmk := make_bools n hn24
  have hE := hU.1
  have hE' : ∀ (args : Array Value) (w : World), (callFunc F args).run Try.prog w = .ok (.enter F args) w := hE
  clear hE
  have HST := Lib.hid hst
  have HOPS := Lib.hid hops
  clear hst hops
  go_enter Try.func84, Try.ntmps84
  go_wp2_with fail
  go_loopg [20] (st.length) (fun gk i wr => ∃ k : Nat, Hid (k + gk = st.length) ∧ i = .int .i64 k ∧ BArr wr (w.heap.size + 1) (init3 n (st.take k)) ∧ Below w.heap.size w wr ∧ Cls wr [(w.heap.size, 0, .int .i64 (n : Int)), (w.heap.size, 1, .slice Ai t.init.length ci), (w.heap.size, 2, .slice Ag t.goal.length cg), (w.heap.size, 3, .slice Ao t.ops.length co)])
  case atStart =>
    refine ⟨0, Lib.hid (by omega), rfl, ?_, (by repeat (first | with_reducible exact Below.refl _ _ | with_reducible apply bdrew | with_reducible apply bdrewN | with_reducible apply balloc | ((with_reducible refine bset ?_ ?_ _); rotate_left; (first | omega | (simp <;> omega))))), (by simp [Cls, go_sem])⟩
    rw [List.take_zero, init3_nil]
    exact BArr.made _ _ _ (by simp)
  case round =>
    obtain ⟨k, hk, rfl, hA, hBq, hCq⟩ := hrel
    have dqs := hBq.size
    have Fq := hCq
    simp only [Cls, and_true] at Fq
    have yqw0 : w.heap.size < wr.heap.size := hCq.blk (b := w.heap.size) (k := 0) (v := .int .i64 (n : Int)) (by simp)
    have yqwp1 : w.heap.size < wr.heap.size + 1 := (by omega)
    have yqwp2 : w.heap.size < wr.heap.size + 1 + 1 := (by omega)
    by_cases hlt : k < st.length
    · obtain ⟨sd, x, rfl, hx, hc⟩ := (hS.below hBq).at_ hlt
      obtain ⟨x0, x1⟩ := HST.out x (List.mem_of_getElem? hx.out)
      have hlen := init3_len n (st.take k)
      obtain ⟨y, hy, hd, hf⟩ := hA.cell (i := x.toNat) (by omega)
      have hk1 := Lib.hid (show k + 1 + (gk - 1) = st.length ∧ gk - 1 < gk by have := hk.out; omega)
      go_wp2
      go_roundg (gk - 1)
      case measure => exact hk1.out.2
      case rel =>
        refine ⟨k + 1, Lib.hid hk1.out.1, by go_num, ?_, (by repeat (first | with_reducible exact hBq | with_reducible apply bdrew | with_reducible apply bdrewN | with_reducible apply balloc | ((with_reducible refine bset ?_ ?_ _); rotate_left; (first | omega | (simp <;> omega))))), (by simp [Cls, go_sem, Fq, yqw0, yqwp1, yqwp2])⟩
        rw [init3_succ hx.out]
        exact hA.set_ _ _
    · rw [List.take_of_length_le (by omega)] at hA
      obtain ⟨w2, rfl⟩ : ∃ wo : World, wo = wr := ⟨_, rfl⟩
      go_wp2_with fail
      go_loopg [10] (2 * falses (init3 n st) + 1) (fun gk ch wr => ∃ (V : List Bool) (b : Bool), ch = .bool b ∧ Hid (gk = 2 * falses V + b.toNat) ∧ BArr wr (w.heap.size + 1) V ∧ Sound n st t.ops use V ∧ Hid (b = false → ClosedB t.ops use t.ops.length V) ∧ Below w.heap.size w wr ∧ Cls wr [(w.heap.size, 0, .int .i64 (n : Int)), (w.heap.size, 1, .slice Ai t.init.length ci), (w.heap.size, 2, .slice Ag t.goal.length cg), (w.heap.size, 3, .slice Ao t.ops.length co)])
      case atStart => exact ⟨_, true, rfl, Lib.hid rfl, hA, init3_sound HST.out, Lib.hid (fun h => by cases h), (by repeat (first | with_reducible exact hBq | with_reducible apply bdrew | with_reducible apply bdrewN | with_reducible apply balloc | ((with_reducible refine bset ?_ ?_ _); rotate_left; (first | omega | (simp <;> omega))))), (by simp [Cls, go_sem, Fq, yqw0, yqwp1, yqwp2])⟩
      case round =>
        obtain ⟨V0, b, rfl, hgk, hA0, hV0, hcl, hBp, hCp⟩ := hrel
        obtain ⟨g3, rfl⟩ : ∃ g : Nat, g = gk := ⟨_, rfl⟩
        obtain ⟨w3, rfl⟩ : ∃ wo : World, wo = wr := ⟨_, rfl⟩
        cases b with
        | false =>
          have e := hV0.eq (hcl.out rfl)
          rw [e] at hA0
          clear e hV0 hcl
          have dps := hBp.size
          have Fp := hCp
          simp only [Cls, and_true] at Fp
          have ypw0 : w.heap.size < w3.heap.size := hCp.blk (b := w.heap.size) (k := 0) (v := .int .i64 (n : Int)) (by simp)
          have ypwp1 : w.heap.size < w3.heap.size + 1 := (by omega)
          have ypwp2 : w.heap.size < w3.heap.size + 1 + 1 := (by omega)
          go_wp2
          go_ret
          exact ⟨_, rfl, by omega, hA0, hBp⟩
        | true =>
          have dps := hBp.size
          have Fp := hCp
          simp only [Cls, and_true] at Fp
          have ypw0 : w.heap.size < w3.heap.size := hCp.blk (b := w.heap.size) (k := 0) (v := .int .i64 (n : Int)) (by simp)
          have ypwp1 : w.heap.size < w3.heap.size + 1 := (by omega)
          have ypwp2 : w.heap.size < w3.heap.size + 1 + 1 := (by omega)
          go_wp2_with fail
          go_loopg [10, 32] (t.ops.length) (fun gk ch i wr => ∃ (V : List Bool) (b : Bool) (k : Nat), ch = .bool b ∧ i = .int .i64 k ∧ Hid (k + gk = t.ops.length) ∧ BArr wr (w.heap.size + 1) V ∧ Sound n st t.ops use V ∧ Hid (b = true → falses V < falses V0) ∧ Hid (b = false → falses V ≤ falses V0 ∧ ClosedB t.ops use k V) ∧ Below w.heap.size w wr ∧ Cls wr [(w.heap.size, 0, .int .i64 (n : Int)), (w.heap.size, 1, .slice Ai t.init.length ci), (w.heap.size, 2, .slice Ag t.goal.length cg), (w.heap.size, 3, .slice Ao t.ops.length co)])
          case atStart => exact ⟨V0, false, 0, rfl, rfl, Lib.hid (by omega), hA0, hV0, Lib.hid (fun h => by cases h), Lib.hid (fun _ => ⟨Nat.le_refl _, closedB_zero⟩), (by repeat (first | with_reducible exact hBp | with_reducible apply bdrew | with_reducible apply bdrewN | with_reducible apply balloc | ((with_reducible refine bset ?_ ?_ _); rotate_left; (first | omega | (simp <;> omega))))), (by simp [Cls, go_sem, Fp, ypw0, ypwp1, ypwp2])⟩
          case round =>
            obtain ⟨V1, b1, k, rfl, rfl, hk, hA1, hV1, ht1, hf1, hBs, hCs⟩ := hrel
            obtain ⟨g4, rfl⟩ : ∃ g : Nat, g = gk := ⟨_, rfl⟩
            obtain ⟨w4, rfl⟩ : ∃ wo : World, wo = wr := ⟨_, rfl⟩
            have dss := hBs.size
            have Fs := hCs
            simp only [Cls, and_true] at Fs
            have ysw0 : w.heap.size < w4.heap.size := hCs.blk (b := w.heap.size) (k := 0) (v := .int .i64 (n : Int)) (by simp)
            have yswp1 : w.heap.size < w4.heap.size + 1 := (by omega)
            have yswp2 : w.heap.size < w4.heap.size + 1 + 1 := (by omega)
            by_cases hlt : k < t.ops.length
            · obtain ⟨ad, o, A0, c0, A1, c1, A2, c2, rfl, ho, hc0, hc1, hc2, hc3, hm⟩ := hT.ops.at2 hBs hlt
              have hoo := Lib.hid (HOPS.out o (List.mem_of_getElem? ho.out))
              have hVl := Lib.hid hV1.len
              have hk1 := Lib.hid (show k + 1 + (g4 - 1) = t.ops.length ∧ g4 - 1 < g4 by have := hk.out; omega)
              cases hu : use k with
              | false =>
                have HU := Lib.hid hu
                clear hu
                go_wp2_with fail
                refine (hU.2 k _ hlt (by repeat (first | with_reducible exact hBs | with_reducible apply bdrew | with_reducible apply bdrewN | with_reducible apply balloc | ((with_reducible refine bset ?_ ?_ _); rotate_left; (first | omega | (simp <;> omega)))))).mono ?_
                rintro e w6 ⟨he, hB6⟩
                rw [HU.out] at he
                subst he
                have D6 := dstep w hB6 (by repeat (first | with_reducible exact hBs | with_reducible apply bdrew | with_reducible apply bdrewN | with_reducible apply balloc | ((with_reducible refine bset ?_ ?_ _); rotate_left; (first | omega | (simp <;> omega)))))
                have d6s := D6.size
                have C6 := Cls.below (l := [(w.heap.size, 0, .int .i64 (n : Int)), (w.heap.size, 1, .slice Ai t.init.length ci), (w.heap.size, 2, .slice Ag t.goal.length cg), (w.heap.size, 3, .slice (some ad) t.ops.length co), (w4.heap.size, 0, .slice A0 o.pre.length c0), (w4.heap.size, 1, .slice A1 o.add.length c1), (w4.heap.size, 2, .slice A2 o.del.length c2), (w4.heap.size, 3, .int .i64 o.cost)]) hB6 (by simp [Cls, go_sem, Fs, ysw0, yswp1, yswp2])
                have F6 := C6
                simp only [Cls, and_true] at F6
                have y6w0 : w.heap.size < w6.heap.size := C6.blk (b := w.heap.size) (k := 0) (v := .int .i64 (n : Int)) (by simp)
                have y6wp1 : w.heap.size < w6.heap.size + 1 := (by omega)
                have y6wp2 : w.heap.size < w6.heap.size + 1 + 1 := (by omega)
                have y6w40 : w4.heap.size < w6.heap.size := C6.blk (b := w4.heap.size) (k := 0) (v := .slice A0 o.pre.length c0) (by simp)
                have y6w4p1 : w4.heap.size < w6.heap.size + 1 := (by omega)
                have y6w4p2 : w4.heap.size < w6.heap.size + 1 + 1 := (by omega)
                have E6 := dstep w4 hB6 (by repeat (first | with_reducible exact Below.refl _ _ | with_reducible apply bdrew | with_reducible apply bdrewN | with_reducible apply balloc | ((with_reducible refine bset ?_ ?_ _); rotate_left; (first | omega | (simp <;> omega)))))
                go_wp2
                go_roundg (g4 - 1)
                case measure => exact hk1.out.2
                case rel =>
                  refine ⟨V1, b1, k + 1, rfl, by go_num, Lib.hid hk1.out.1, BArr.below hA1 E6, hV1, ht1, Lib.hid (fun h => ⟨(hf1.out h).1, closedB_succ (hf1.out h).2 ho.out (fun hh hp => absurd hh (by rw [HU.out]; simp))⟩), (by repeat (first | with_reducible exact D6 | with_reducible apply bdrew | with_reducible apply bdrewN | with_reducible apply balloc | ((with_reducible refine bset ?_ ?_ _); rotate_left; (first | omega | (simp <;> omega))))), (by simp [Cls, go_sem, F6, y6w0, y6wp1, y6wp2, y6w40, y6w4p1, y6w4p2])⟩
              | true =>
                have HU := Lib.hid hu
                clear hu
                by_cases hall : AllIn V1 o.pre
                · skip
                  have HAll := Lib.hid hall
                  clear hall
                  go_wp2_with fail
                  refine (hU.2 k _ hlt (by repeat (first | with_reducible exact hBs | with_reducible apply bdrew | with_reducible apply bdrewN | with_reducible apply balloc | ((with_reducible refine bset ?_ ?_ _); rotate_left; (first | omega | (simp <;> omega)))))).mono ?_
                  rintro e w6 ⟨he, hB6⟩
                  rw [HU.out] at he
                  subst he
                  have D6 := dstep w hB6 (by repeat (first | with_reducible exact hBs | with_reducible apply bdrew | with_reducible apply bdrewN | with_reducible apply balloc | ((with_reducible refine bset ?_ ?_ _); rotate_left; (first | omega | (simp <;> omega)))))
                  have d6s := D6.size
                  have C6 := Cls.below (l := [(w.heap.size, 0, .int .i64 (n : Int)), (w.heap.size, 1, .slice Ai t.init.length ci), (w.heap.size, 2, .slice Ag t.goal.length cg), (w.heap.size, 3, .slice (some ad) t.ops.length co), (w4.heap.size, 0, .slice A0 o.pre.length c0), (w4.heap.size, 1, .slice A1 o.add.length c1), (w4.heap.size, 2, .slice A2 o.del.length c2), (w4.heap.size, 3, .int .i64 o.cost)]) hB6 (by simp [Cls, go_sem, Fs, ysw0, yswp1, yswp2])
                  have F6 := C6
                  simp only [Cls, and_true] at F6
                  have y6w0 : w.heap.size < w6.heap.size := C6.blk (b := w.heap.size) (k := 0) (v := .int .i64 (n : Int)) (by simp)
                  have y6wp1 : w.heap.size < w6.heap.size + 1 := (by omega)
                  have y6wp2 : w.heap.size < w6.heap.size + 1 + 1 := (by omega)
                  have y6w40 : w4.heap.size < w6.heap.size := C6.blk (b := w4.heap.size) (k := 0) (v := .slice A0 o.pre.length c0) (by simp)
                  have y6w4p1 : w4.heap.size < w6.heap.size + 1 := (by omega)
                  have y6w4p2 : w4.heap.size < w6.heap.size + 1 + 1 := (by omega)
                  have E6 := dstep w4 hB6 (by repeat (first | with_reducible exact Below.refl _ _ | with_reducible apply bdrew | with_reducible apply bdrewN | with_reducible apply balloc | ((with_reducible refine bset ?_ ?_ _); rotate_left; (first | omega | (simp <;> omega)))))
                  go_wp2_with fail
                  refine (all_at _ _ _ _ _ _ _ _ (BArr.below hA1 (by repeat (first | with_reducible exact E6 | with_reducible apply bdrew | with_reducible apply bdrewN | with_reducible apply balloc | ((with_reducible refine bset ?_ ?_ _); rotate_left; (first | omega | (simp <;> omega)))))).bools (hm.pre.below (by repeat (first | with_reducible exact D6 | with_reducible apply bdrew | with_reducible apply bdrewN | with_reducible apply balloc | ((with_reducible refine bset ?_ ?_ _); rotate_left; (first | omega | (simp <;> omega)))))) hVl.out hm.lpre hn24 hoo.out.1 true (by simp [HAll.out])).mono ?_
                  rintro e w7 ⟨rfl, hB7⟩
                  have D7 := dstep w hB7 (by repeat (first | with_reducible exact D6 | with_reducible apply bdrew | with_reducible apply bdrewN | with_reducible apply balloc | ((with_reducible refine bset ?_ ?_ _); rotate_left; (first | omega | (simp <;> omega)))))
                  have d7s := D7.size
                  have C7 := Cls.below (l := [(w.heap.size, 0, .int .i64 (n : Int)), (w.heap.size, 1, .slice Ai t.init.length ci), (w.heap.size, 2, .slice Ag t.goal.length cg), (w.heap.size, 3, .slice (some ad) t.ops.length co), (w4.heap.size, 0, .slice A0 o.pre.length c0), (w4.heap.size, 1, .slice A1 o.add.length c1), (w4.heap.size, 2, .slice A2 o.del.length c2), (w4.heap.size, 3, .int .i64 o.cost)]) hB7 (by simp [Cls, go_sem, F6, y6w0, y6wp1, y6wp2, y6w40, y6w4p1, y6w4p2])
                  have F7 := C7
                  simp only [Cls, and_true] at F7
                  have y7w0 : w.heap.size < w7.heap.size := C7.blk (b := w.heap.size) (k := 0) (v := .int .i64 (n : Int)) (by simp)
                  have y7wp1 : w.heap.size < w7.heap.size + 1 := (by omega)
                  have y7wp2 : w.heap.size < w7.heap.size + 1 + 1 := (by omega)
                  have y7w40 : w4.heap.size < w7.heap.size := C7.blk (b := w4.heap.size) (k := 0) (v := .slice A0 o.pre.length c0) (by simp)
                  have y7w4p1 : w4.heap.size < w7.heap.size + 1 := (by omega)
                  have y7w4p2 : w4.heap.size < w7.heap.size + 1 + 1 := (by omega)
                  have E7 := dstep w4 hB7 (by repeat (first | with_reducible exact E6 | with_reducible apply bdrew | with_reducible apply bdrewN | with_reducible apply balloc | ((with_reducible refine bset ?_ ?_ _); rotate_left; (first | omega | (simp <;> omega)))))
                  have hlc' := hm.ladd.le
                  have hA7 := BArr.below hA1 E7
                  have hpreR := Lib.hid (hV1.pre HAll.out (fun q hq => (hoo.out.1 q hq).1))
                  go_wp2_with fail
                  go_loopg [10, 51] (o.add.length) (fun gk ch i wr => ∃ (V : List Bool) (b : Bool) (j : Nat), ch = .bool b ∧ i = .int .i64 j ∧ Hid (j + gk = o.add.length) ∧ BArr wr (w.heap.size + 1) V ∧ Sound n st t.ops use V ∧ Hid (b = true → falses V < falses V0) ∧ Hid (b = false → falses V ≤ falses V0 ∧ ClosedB t.ops use k V ∧ ∀ p ∈ o.add.take j, V[p.toNat]? = some true) ∧ Below w.heap.size w wr ∧ Cls wr [(w.heap.size, 0, .int .i64 (n : Int)), (w.heap.size, 1, .slice Ai t.init.length ci), (w.heap.size, 2, .slice Ag t.goal.length cg), (w.heap.size, 3, .slice (some ad) t.ops.length co)])
                  case atStart => exact ⟨V1, b1, 0, rfl, rfl, Lib.hid (by omega), hA7, hV1, ht1, Lib.hid (fun h => ⟨(hf1.out h).1, (hf1.out h).2, by simp⟩), (by repeat (first | with_reducible exact D7 | with_reducible apply bdrew | with_reducible apply bdrewN | with_reducible apply balloc | ((with_reducible refine bset ?_ ?_ _); rotate_left; (first | omega | (simp <;> omega))))), (by simp [Cls, go_sem, F7, y7w0, y7wp1, y7wp2, y7w40, y7w4p1, y7w4p2])⟩
                  case round =>
                    obtain ⟨V2, b2, j, rfl, rfl, hj, hA2, hV2, ht2, hf2, hBu, hCu⟩ := hrel
                    obtain ⟨w8, rfl⟩ : ∃ wo : World, wo = wr := ⟨_, rfl⟩
                    have dus := hBu.size
                    have Fu := hCu
                    simp only [Cls, and_true] at Fu
                    have yuw0 : w.heap.size < w8.heap.size := hCu.blk (b := w.heap.size) (k := 0) (v := .int .i64 (n : Int)) (by simp)
                    have yuwp1 : w.heap.size < w8.heap.size + 1 := (by omega)
                    have yuwp2 : w.heap.size < w8.heap.size + 1 + 1 := (by omega)
                    by_cases hlj : j < o.add.length
                    · obtain ⟨pd, p, rfl, hp, hpc⟩ := (hm.add.below hBu).at_ hlj
                      obtain ⟨p0, p1⟩ := hoo.out.2 p (List.mem_of_getElem? hp.out)
                      have hl2 := hV2.len
                      obtain ⟨y, hy, hyc, hyf⟩ := hA2.cell (i := p.toNat) (by omega)
                      have hj1 := Lib.hid (show j + 1 + (gk - 1) = o.add.length ∧ gk - 1 < gk by have := hj.out; omega)
                      have hset := Lib.hid (hV2.set_ ho.out HU.out hpreR.out (List.mem_of_getElem? hp.out) p0)
                      have hfal := Lib.hid (fun e : y = false => falses_set (bs := V2) (i := p.toNat) (by rw [hy.out, e]))
                      have hsame : y = true → V2.set p.toNat true = V2 := fun e => by
                        apply List.ext_getElem?
                        intro q
                        rw [List.getElem?_set]
                        split
                        · rename_i e2; subst e2; rw [if_pos (by omega), hy.out, e]
                        · rfl
                      have hsame' := Lib.hid hsame
                      clear hsame hV2
                      cases b2 with
                      | true =>
                        go_wp2
                        go_roundg (gk - 1)
                        case measure => exact hj1.out.2
                        case rel =>
                          refine ⟨V2.set p.toNat true, true, j + 1, rfl, by go_num, Lib.hid hj1.out.1, hA2.set_ _ _, hset.out, Lib.hid (fun _ => ?_), Lib.hid (fun h => by cases h), (by repeat (first | with_reducible exact hBu | with_reducible apply bdrew | with_reducible apply bdrewN | with_reducible apply balloc | ((with_reducible refine bset ?_ ?_ _); rotate_left; (first | omega | (simp <;> omega))))), (by simp [Cls, go_sem, Fu, yuw0, yuwp1, yuwp2])⟩
                          have h2 := ht2.out (by simp)
                          cases y with
                          | true => rw [hsame'.out (by simp)]; exact h2
                          | false => have := hfal.out (by simp); omega
                      | false =>
                        cases y with
                        | true =>
                          go_wp2
                          go_roundg (gk - 1)
                          case measure => exact hj1.out.2
                          case rel =>
                            refine ⟨V2.set p.toNat true, false, j + 1, rfl, by go_num, Lib.hid hj1.out.1, hA2.set_ _ _, hset.out, Lib.hid (fun h => by cases h), Lib.hid (fun _ => ?_), (by repeat (first | with_reducible exact hBu | with_reducible apply bdrew | with_reducible apply bdrewN | with_reducible apply balloc | ((with_reducible refine bset ?_ ?_ _); rotate_left; (first | omega | (simp <;> omega))))), (by simp [Cls, go_sem, Fu, yuw0, yuwp1, yuwp2])⟩
                            rw [hsame'.out (by simp)]
                            exact ⟨(hf2.out (by simp)).1, (hf2.out (by simp)).2.1, forall_take_succ (P := fun p : Int => V2[p.toNat]? = some true) hp.out (hf2.out (by simp)).2.2 hy.out⟩
                        | false =>
                          go_wp2
                          go_roundg (gk - 1)
                          case measure => exact hj1.out.2
                          case rel =>
                            refine ⟨V2.set p.toNat true, true, j + 1, rfl, by go_num, Lib.hid hj1.out.1, hA2.set_ _ _, hset.out, Lib.hid (fun _ => ?_), Lib.hid (fun h => by cases h), (by repeat (first | with_reducible exact hBu | with_reducible apply bdrew | with_reducible apply bdrewN | with_reducible apply balloc | ((with_reducible refine bset ?_ ?_ _); rotate_left; (first | omega | (simp <;> omega))))), (by simp [Cls, go_sem, Fu, yuw0, yuwp1, yuwp2])⟩
                            have := hfal.out (by simp)
                            have := (hf2.out (by simp)).1
                            omega
                    · go_wp2
                      go_roundg (g4 - 1)
                      case measure => exact hk1.out.2
                      case rel =>
                        refine ⟨V2, b2, k + 1, rfl, by go_num, Lib.hid hk1.out.1, hA2, hV2, ht2, Lib.hid (fun h => ⟨(hf2.out h).1, closedB_succ (hf2.out h).2.1 ho.out (fun _ _ => forall_take_all hlj (hf2.out h).2.2)⟩), (by repeat (first | with_reducible exact hBu | with_reducible apply bdrew | with_reducible apply bdrewN | with_reducible apply balloc | ((with_reducible refine bset ?_ ?_ _); rotate_left; (first | omega | (simp <;> omega))))), (by simp [Cls, go_sem, Fu, yuw0, yuwp1, yuwp2])⟩
                · skip
                  have HAll := Lib.hid hall
                  clear hall
                  go_wp2_with fail
                  refine (hU.2 k _ hlt (by repeat (first | with_reducible exact hBs | with_reducible apply bdrew | with_reducible apply bdrewN | with_reducible apply balloc | ((with_reducible refine bset ?_ ?_ _); rotate_left; (first | omega | (simp <;> omega)))))).mono ?_
                  rintro e w6 ⟨he, hB6⟩
                  rw [HU.out] at he
                  subst he
                  have D6 := dstep w hB6 (by repeat (first | with_reducible exact hBs | with_reducible apply bdrew | with_reducible apply bdrewN | with_reducible apply balloc | ((with_reducible refine bset ?_ ?_ _); rotate_left; (first | omega | (simp <;> omega)))))
                  have d6s := D6.size
                  have C6 := Cls.below (l := [(w.heap.size, 0, .int .i64 (n : Int)), (w.heap.size, 1, .slice Ai t.init.length ci), (w.heap.size, 2, .slice Ag t.goal.length cg), (w.heap.size, 3, .slice (some ad) t.ops.length co), (w4.heap.size, 0, .slice A0 o.pre.length c0), (w4.heap.size, 1, .slice A1 o.add.length c1), (w4.heap.size, 2, .slice A2 o.del.length c2), (w4.heap.size, 3, .int .i64 o.cost)]) hB6 (by simp [Cls, go_sem, Fs, ysw0, yswp1, yswp2])
                  have F6 := C6
                  simp only [Cls, and_true] at F6
                  have y6w0 : w.heap.size < w6.heap.size := C6.blk (b := w.heap.size) (k := 0) (v := .int .i64 (n : Int)) (by simp)
                  have y6wp1 : w.heap.size < w6.heap.size + 1 := (by omega)
                  have y6wp2 : w.heap.size < w6.heap.size + 1 + 1 := (by omega)
                  have y6w40 : w4.heap.size < w6.heap.size := C6.blk (b := w4.heap.size) (k := 0) (v := .slice A0 o.pre.length c0) (by simp)
                  have y6w4p1 : w4.heap.size < w6.heap.size + 1 := (by omega)
                  have y6w4p2 : w4.heap.size < w6.heap.size + 1 + 1 := (by omega)
                  have E6 := dstep w4 hB6 (by repeat (first | with_reducible exact Below.refl _ _ | with_reducible apply bdrew | with_reducible apply bdrewN | with_reducible apply balloc | ((with_reducible refine bset ?_ ?_ _); rotate_left; (first | omega | (simp <;> omega)))))
                  go_wp2_with fail
                  refine (all_at _ _ _ _ _ _ _ _ (BArr.below hA1 (by repeat (first | with_reducible exact E6 | with_reducible apply bdrew | with_reducible apply bdrewN | with_reducible apply balloc | ((with_reducible refine bset ?_ ?_ _); rotate_left; (first | omega | (simp <;> omega)))))).bools (hm.pre.below (by repeat (first | with_reducible exact D6 | with_reducible apply bdrew | with_reducible apply bdrewN | with_reducible apply balloc | ((with_reducible refine bset ?_ ?_ _); rotate_left; (first | omega | (simp <;> omega)))))) hVl.out hm.lpre hn24 hoo.out.1 false (by simp [HAll.out])).mono ?_
                  rintro e w7 ⟨rfl, hB7⟩
                  have D7 := dstep w hB7 (by repeat (first | with_reducible exact D6 | with_reducible apply bdrew | with_reducible apply bdrewN | with_reducible apply balloc | ((with_reducible refine bset ?_ ?_ _); rotate_left; (first | omega | (simp <;> omega)))))
                  have d7s := D7.size
                  have C7 := Cls.below (l := [(w.heap.size, 0, .int .i64 (n : Int)), (w.heap.size, 1, .slice Ai t.init.length ci), (w.heap.size, 2, .slice Ag t.goal.length cg), (w.heap.size, 3, .slice (some ad) t.ops.length co), (w4.heap.size, 0, .slice A0 o.pre.length c0), (w4.heap.size, 1, .slice A1 o.add.length c1), (w4.heap.size, 2, .slice A2 o.del.length c2), (w4.heap.size, 3, .int .i64 o.cost)]) hB7 (by simp [Cls, go_sem, F6, y6w0, y6wp1, y6wp2, y6w40, y6w4p1, y6w4p2])
                  have F7 := C7
                  simp only [Cls, and_true] at F7
                  have y7w0 : w.heap.size < w7.heap.size := C7.blk (b := w.heap.size) (k := 0) (v := .int .i64 (n : Int)) (by simp)
                  have y7wp1 : w.heap.size < w7.heap.size + 1 := (by omega)
                  have y7wp2 : w.heap.size < w7.heap.size + 1 + 1 := (by omega)
                  have y7w40 : w4.heap.size < w7.heap.size := C7.blk (b := w4.heap.size) (k := 0) (v := .slice A0 o.pre.length c0) (by simp)
                  have y7w4p1 : w4.heap.size < w7.heap.size + 1 := (by omega)
                  have y7w4p2 : w4.heap.size < w7.heap.size + 1 + 1 := (by omega)
                  have E7 := dstep w4 hB7 (by repeat (first | with_reducible exact E6 | with_reducible apply bdrew | with_reducible apply bdrewN | with_reducible apply balloc | ((with_reducible refine bset ?_ ?_ _); rotate_left; (first | omega | (simp <;> omega)))))
                  go_wp2
                  go_roundg (g4 - 1)
                  case measure => exact hk1.out.2
                  case rel =>
                    refine ⟨V1, b1, k + 1, rfl, by go_num, Lib.hid hk1.out.1, BArr.below hA1 E7, hV1, ht1, Lib.hid (fun h => ⟨(hf1.out h).1, closedB_succ (hf1.out h).2 ho.out (fun hh hp => absurd (show AllIn V1 o.pre from hp) HAll.out)⟩), (by repeat (first | with_reducible exact D7 | with_reducible apply bdrew | with_reducible apply bdrewN | with_reducible apply balloc | ((with_reducible refine bset ?_ ?_ _); rotate_left; (first | omega | (simp <;> omega))))), (by simp [Cls, go_sem, F7, y7w0, y7wp1, y7wp2, y7w40, y7w4p1, y7w4p2])⟩
            · have hkk := Lib.hid (show k = t.ops.length by have := hk.out; omega)
              go_wp2
              go_roundg (2 * falses V1 + b1.toNat)
              case measure =>
                rw [hgk.out]
                cases b1 with
                | true => have := ht1.out rfl; simp; omega
                | false => have := (hf1.out rfl).1; simp; omega
              case rel => exact ⟨V1, b1, rfl, Lib.hid rfl, hA1, hV1, Lib.hid (fun h => by rw [← hkk.out]; exact (hf1.out h).2), (by repeat (first | with_reducible exact hBs | with_reducible apply bdrew | with_reducible apply bdrewN | with_reducible apply balloc | ((with_reducible refine bset ?_ ?_ _); rotate_left; (first | omega | (simp <;> omega))))), (by simp [Cls, go_sem, Fs, ysw0, yswp1, yswp2])⟩


end Go.Proofs.Ytihkgdlanfemcaa

namespace Go.Proofs.Ytihkgdlanfemcaa
open Go.RowKit
set_option linter.unusedVariables false
set_option linter.unusedSimpArgs false

set_option maxRecDepth 100000 in
theorem values_at (w : World) (t : TaskV) (Ai Ag Ao : Option Addr) (ci cg co : Nat) (hT : TaskMem w Ai Ag Ao t) (n : Nat) (hn : t.facts = n) (hn24 : n ≤ 1000000000000) (S : Option Addr) (cs : Nat) (st : List Int) (hS : Ints w S st) (hls : lenOk st.length) (hst : ∀ p ∈ st, 0 ≤ p ∧ p < (n : Int)) (C : Option Addr) (cc m : Nat) (cost : List Int) (hC : Ints w C cost) (hm : m = t.ops.length) (hlc : cost.length = t.ops.length) (hcv : AllV cost) (hops : ∀ o ∈ t.ops, (∀ p ∈ o.pre, 0 ≤ p ∧ p < (n : Int)) ∧ ∀ p ∈ o.add, 0 ≤ p ∧ p < (n : Int)) (G : FuncId) (s : Bool) (hG : Combines G s) :
    Calls Try.prog 108 #[.agg #[.int .i64 t.facts, .slice Ai t.init.length ci, .slice Ag t.goal.length cg, .slice Ao t.ops.length co], .slice S st.length cs, .slice C m cc, .func (.func G) #[] #[]] w fun e w' => ∃ g, e = .returned (.slice (some ⟨g, 0, none⟩) n n) ∧ w.heap.size ≤ g ∧ IArr w' g (valuesV s n st t.ops cost) ∧ Best s n st t.ops cost (valuesV s n st t.ops cost) ∧ Below w.heap.size w w' := by
  obtain rfl : m = cost.length := by rw [hm, hlc]
  exact values_any w t Ai Ag Ao ci cg co hT n hn hn24 S cs st hS hls hst C cc cost hC hlc hcv hops G s hG
theorem costs_in {t : TaskV} (hv : Valid t) : AllV (t.ops.map (·.cost)) := fun v h => by
  obtain ⟨o, ho, rfl⟩ := List.mem_map.1 h
  have := (hv.ops o ho).2
  unfold InV; omega
theorem ops_in {t : TaskV} {n : Nat} (hv : Valid t) (hn : t.facts = n) : ∀ o ∈ t.ops, (∀ p ∈ o.pre, 0 ≤ p ∧ p < (n : Int)) ∧ ∀ p ∈ o.add, 0 ≤ p ∧ p < (n : Int) := fun o ho => by
  have := (hv.ops o ho).1
  rw [hn] at this
  exact ⟨this.1.1, this.2.1.1⟩
theorem goal_in {t : TaskV} {n : Nat} (hv : Valid t) (hn : t.facts = n) : ∀ p ∈ t.goal, 0 ≤ p ∧ p < (n : Int) := fun p hp => by
  have := hv.goal.1 p hp
  rw [hn] at this
  exact this
set_option maxRecDepth 100000 in
set_option maxHeartbeats 400000 in
theorem estimate_1 (w : World) (t : TaskV) (Ai Ag Ao : Option Addr) (ci cg co : Nat) (hT : TaskMem w Ai Ag Ao t) (S : Option Addr) (cs : Nat) (st : List Int) (hS : Ints w S st) (hls : lenOk st.length) (G : FuncId) (h : ¬ (sfault t st).1 = 0) :
    Calls Try.prog 86 #[.agg #[.int .i64 t.facts, .slice Ai t.init.length ci, .slice Ag t.goal.length cg, .slice Ao t.ops.length co], .slice S st.length cs, .func (.func G) #[] #[]] w fun e w' => e = .returned (.tuple #[.slice none 0 0, .int .i64 0, .agg #[.int .i64 (sfault t st).1, .int .i64 (sfault t st).2]]) ∧ Below w.heap.size w w' := by
  have N := bb_no h
  have N' := bn_yes h
  go_enter Try.func86, Try.ntmps86
  go_wp2_with fail
  refine (statefault_any _ _ _ _ _ _ _ _ (hT.below (by repeat (first | with_reducible exact Below.refl _ _ | with_reducible apply bdrew | with_reducible apply bdrewN | with_reducible apply balloc | ((with_reducible refine bset ?_ ?_ _); rotate_left; (first | omega | (simp <;> omega)))))) _ _ _ (hS.below (by repeat (first | with_reducible exact Below.refl _ _ | with_reducible apply bdrew | with_reducible apply bdrewN | with_reducible apply balloc | ((with_reducible refine bset ?_ ?_ _); rotate_left; (first | omega | (simp <;> omega)))))) hls).mono ?_
  rintro e w1 ⟨rfl, hB1⟩
  have D1 := dstep w hB1 (by repeat (first | with_reducible exact Below.refl _ _ | with_reducible apply bdrew | with_reducible apply bdrewN | with_reducible apply balloc | ((with_reducible refine bset ?_ ?_ _); rotate_left; (first | omega | (simp <;> omega)))))
  have d1s := D1.size
  have C1 := Cls.below (l := [(w.heap.size, 0, .int .i64 t.facts), (w.heap.size, 1, .slice Ai t.init.length ci), (w.heap.size, 2, .slice Ag t.goal.length cg), (w.heap.size, 3, .slice Ao t.ops.length co), (w.heap.size + 1, 0, .int .i64 0), (w.heap.size + 1, 1, .int .i64 0)]) hB1 (by simp [Cls, go_sem])
  have F1 := C1
  simp only [Cls, and_true] at F1
  have y1w1 : w.heap.size + 1 < w1.heap.size := C1.blk (b := w.heap.size + 1) (k := 0) (v := .int .i64 0) (by simp)
  have y1w0 : w.heap.size < w1.heap.size := (by omega)
  have y1wp1 : w.heap.size < w1.heap.size + 1 := (by omega)
  have y1wp2 : w.heap.size < w1.heap.size + 1 + 1 := (by omega)
  go_wp2_with fail
  refine region_still_tail 3 (by kernel_rfl) (by kernel_rfl) ?_
  simp only [List.take_succ_cons, List.take_zero, List.drop_succ_cons, List.drop_zero]
  repeat still_step
  refine wpStill_nil ?_
  go_wp2
  refine bodyPost_ret (v := .tuple #[.slice none 0 0, .int .i64 0, .agg #[.int .i64 (sfault t st).1, .int .i64 (sfault t st).2]]) ?_ rfl ⟨rfl, by repeat (first | with_reducible exact D1 | with_reducible apply bdrew | with_reducible apply bdrewN | with_reducible apply balloc | ((with_reducible refine bset ?_ ?_ _); rotate_left; (first | omega | (simp <;> omega))))⟩
  simp [results, Try.results86, go_sem, F1, y1w1, y1w0, y1wp1, y1wp2]

set_option maxRecDepth 100000 in
set_option maxHeartbeats 4000000 in
theorem estimate_2 (w : World) (t : TaskV) (Ai Ag Ao : Option Addr) (ci cg co : Nat) (hT : TaskMem w Ai Ag Ao t) (S : Option Addr) (cs : Nat) (st : List Int) (hS : Ints w S st) (hls : lenOk st.length) (n : Nat) (hn : t.facts = n) (hv : Valid t) (h2 : SetP st t.facts) (G : FuncId) (s : Bool) (hG : Combines G s) :
    Calls Try.prog 86 #[.agg #[.int .i64 t.facts, .slice Ai t.init.length ci, .slice Ag t.goal.length cg, .slice Ao t.ops.length co], .slice S st.length cs, .func (.func G) #[] #[]] w fun e w' => ∃ g, e = .returned (.tuple #[.slice (some ⟨g, 0, none⟩) n n, .int .i64 (combV s (valuesV s n st t.ops (t.ops.map (·.cost))) t.goal), .agg #[.int .i64 0, .int .i64 0]]) ∧ w.heap.size ≤ g ∧ IArr w' g (valuesV s n st t.ops (t.ops.map (·.cost))) ∧ Best s n st t.ops (t.ops.map (·.cost)) (valuesV s n st t.ops (t.ops.map (·.cost))) ∧ Below w.heap.size w w' := by
  have hE := hG.1
  have hE' : ∀ (args : Array Value) (w : World), (callFunc G args).run Try.prog w = .ok (.enter G args) w := hE
  clear hE
  have HN := Lib.hid hn
  have HV := Lib.hid hv
  have H2 := Lib.hid h2
  clear hv h2 hn
  go_enter Try.func86, Try.ntmps86
  go_wp2_with fail
  refine (statefault_3 _ _ _ _ _ _ _ _ (hT.below (by repeat (first | with_reducible exact Below.refl _ _ | with_reducible apply bdrew | with_reducible apply bdrewN | with_reducible apply balloc | ((with_reducible refine bset ?_ ?_ _); rotate_left; (first | omega | (simp <;> omega)))))) _ _ _ (hS.below (by repeat (first | with_reducible exact Below.refl _ _ | with_reducible apply bdrew | with_reducible apply bdrewN | with_reducible apply balloc | ((with_reducible refine bset ?_ ?_ _); rotate_left; (first | omega | (simp <;> omega)))))) hls HV.out H2.out).mono ?_
  rintro e w1 ⟨rfl, hB1⟩
  have D1 := dstep w hB1 (by repeat (first | with_reducible exact Below.refl _ _ | with_reducible apply bdrew | with_reducible apply bdrewN | with_reducible apply balloc | ((with_reducible refine bset ?_ ?_ _); rotate_left; (first | omega | (simp <;> omega)))))
  have d1s := D1.size
  have C1 := Cls.below (l := [(w.heap.size, 0, .int .i64 t.facts), (w.heap.size, 1, .slice Ai t.init.length ci), (w.heap.size, 2, .slice Ag t.goal.length cg), (w.heap.size, 3, .slice Ao t.ops.length co), (w.heap.size + 1, 0, .int .i64 0), (w.heap.size + 1, 1, .int .i64 0)]) hB1 (by simp [Cls, go_sem])
  have F1 := C1
  simp only [Cls, and_true] at F1
  have y1w1 : w.heap.size + 1 < w1.heap.size := C1.blk (b := w.heap.size + 1) (k := 0) (v := .int .i64 0) (by simp)
  have y1w0 : w.heap.size < w1.heap.size := (by omega)
  have y1wp1 : w.heap.size < w1.heap.size + 1 := (by omega)
  have y1wp2 : w.heap.size < w1.heap.size + 1 + 1 := (by omega)
  have hn24 : n ≤ 1000000000000 := by have := HV.out.f1; have := HN.out; omega
  have HST := Lib.hid (fun p hp => by have := H2.out.1 p hp; rw [HN.out] at this; exact this : ∀ p ∈ st, 0 ≤ p ∧ p < (n : Int))
  have HLC := Lib.hid (show (t.ops.map (·.cost)).length = t.ops.length by simp)
  have HCV := Lib.hid (costs_in HV.out)
  have HOPS := Lib.hid (ops_in HV.out HN.out)
  go_wp2_with fail
  go_region_held3 (fun W => W.cell? ⟨w.heap.size, 0, none⟩ = some (.int .i64 t.facts) ∧ W.cell? ⟨w.heap.size, 1, none⟩ = some (.slice Ai t.init.length ci) ∧ W.cell? ⟨w.heap.size, 2, none⟩ = some (.slice Ag t.goal.length cg) ∧ W.cell? ⟨w.heap.size, 3, none⟩ = some (.slice Ao t.ops.length co)) (first | exact hK | go_keep) (first | (go_at_call 109; refine (costs_any _ _ _ _ _ _ _ _ (hT.below (by repeat (first | with_reducible exact D1 | with_reducible apply bdrew | with_reducible apply bdrewN | with_reducible apply balloc | ((with_reducible refine bset ?_ ?_ _); rotate_left; (first | omega | (simp <;> omega)))))) HV.out.nops).mono ?_; rintro e w2 ⟨v2, rfl, ho2, hB2⟩; have D2 := dstep w hB2 (by repeat (first | with_reducible exact D1 | with_reducible apply bdrew | with_reducible apply bdrewN | with_reducible apply balloc | ((with_reducible refine bset ?_ ?_ _); rotate_left; (first | omega | (simp <;> omega))))); have d2s := D2.size; have C2 := Cls.below (l := [(w.heap.size, 0, .int .i64 t.facts), (w.heap.size, 1, .slice Ai t.init.length ci), (w.heap.size, 2, .slice Ag t.goal.length cg), (w.heap.size, 3, .slice Ao t.ops.length co), (w.heap.size + 1, 0, .int .i64 0), (w.heap.size + 1, 1, .int .i64 0)]) hB2 (by simp [Cls, go_sem, F1, y1w1, y1w0, y1wp1, y1wp2]); have F2 := C2; simp only [Cls, and_true] at F2; have y2w1 : w.heap.size + 1 < w2.heap.size := C2.blk (b := w.heap.size + 1) (k := 0) (v := .int .i64 0) (by simp); have y2w0 : w.heap.size < w2.heap.size := (by omega); have y2wp1 : w.heap.size < w2.heap.size + 1 := (by omega); have y2wp2 : w.heap.size < w2.heap.size + 1 + 1 := (by omega); obtain ⟨A2, c2, rfl, hnil2, hI2⟩ := ho2.form; have hK : w2.cell? ⟨w.heap.size, 0, none⟩ = some (.int .i64 t.facts) ∧ w2.cell? ⟨w.heap.size, 1, none⟩ = some (.slice Ai t.init.length ci) ∧ w2.cell? ⟨w.heap.size, 2, none⟩ = some (.slice Ag t.goal.length cg) ∧ w2.cell? ⟨w.heap.size, 3, none⟩ = some (.slice Ao t.ops.length co) := (by simp [F2])) | (go_at_call 108; refine (values_at _ _ _ _ _ _ _ _ (hT.below (by repeat (first | with_reducible exact D2 | with_reducible apply bdrew | with_reducible apply bdrewN | with_reducible apply balloc | ((with_reducible refine bset ?_ ?_ _); rotate_left; (first | omega | (simp <;> omega)))))) n HN.out hn24 _ _ _ (hS.below (by repeat (first | with_reducible exact D2 | with_reducible apply bdrew | with_reducible apply bdrewN | with_reducible apply balloc | ((with_reducible refine bset ?_ ?_ _); rotate_left; (first | omega | (simp <;> omega)))))) hls HST.out _ _ _ _ (hI2.below (by repeat (first | with_reducible exact Below.refl _ _ | with_reducible apply bdrew | with_reducible apply bdrewN | with_reducible apply balloc | ((with_reducible refine bset ?_ ?_ _); rotate_left; (first | omega | (simp <;> omega)))))) rfl HLC.out HCV.out HOPS.out _ _ hG).mono ?_; rintro e w3 ⟨g3, rfl, hg3, hA3, hB3', hB3⟩; have D3 := dstep w hB3 (by repeat (first | with_reducible exact D2 | with_reducible apply bdrew | with_reducible apply bdrewN | with_reducible apply balloc | ((with_reducible refine bset ?_ ?_ _); rotate_left; (first | omega | (simp <;> omega))))); have d3s := D3.size; have C3 := Cls.below (l := [(w.heap.size, 0, .int .i64 t.facts), (w.heap.size, 1, .slice Ai t.init.length ci), (w.heap.size, 2, .slice Ag t.goal.length cg), (w.heap.size, 3, .slice Ao t.ops.length co), (w.heap.size + 1, 0, .int .i64 0), (w.heap.size + 1, 1, .int .i64 0)]) hB3 (by simp [Cls, go_sem, F2, y2w1, y2w0, y2wp1, y2wp2]); have F3 := C3; simp only [Cls, and_true] at F3; have y3w1 : w.heap.size + 1 < w3.heap.size := C3.blk (b := w.heap.size + 1) (k := 0) (v := .int .i64 0) (by simp); have y3w0 : w.heap.size < w3.heap.size := (by omega); have y3wp1 : w.heap.size < w3.heap.size + 1 := (by omega); have y3wp2 : w.heap.size < w3.heap.size + 1 + 1 := (by omega); have hK : w3.cell? ⟨w.heap.size, 0, none⟩ = some (.int .i64 t.facts) ∧ w3.cell? ⟨w.heap.size, 1, none⟩ = some (.slice Ai t.init.length ci) ∧ w3.cell? ⟨w.heap.size, 2, none⟩ = some (.slice Ag t.goal.length cg) ∧ w3.cell? ⟨w.heap.size, 3, none⟩ = some (.slice Ao t.ops.length co) := (by simp [F3])))
  have HGO := Lib.hid (goal_in HV.out HN.out)
  have HAL := Lib.hid hB3'.fix.shape.all
  have HLN := Lib.hid hB3'.fix.shape.len
  have HBB := Lib.hid hB3'
  clear hB3'
  go_wp2_with fail
  refine (hG.at_ _ _ _ _ _ _ _ _ (hA3.below (by repeat (first | with_reducible exact Below.refl _ _ | with_reducible apply bdrew | with_reducible apply bdrewN | with_reducible apply balloc | ((with_reducible refine bset ?_ ?_ _); rotate_left; (first | omega | (simp <;> omega)))))).ints (hT.goal.below (by repeat (first | with_reducible exact D3 | with_reducible apply bdrew | with_reducible apply bdrewN | with_reducible apply balloc | ((with_reducible refine bset ?_ ?_ _); rotate_left; (first | omega | (simp <;> omega)))))) HLN.out hT.lgoal hn24 HGO.out HAL.out).mono ?_
  rintro e w4 ⟨rfl, rfl⟩
  go_wp2
  refine bodyPost_ret (v := .tuple #[.slice (some ⟨g3, 0, none⟩) n n, .int .i64 (combV s (valuesV s n st t.ops (t.ops.map (·.cost))) t.goal), .agg #[.int .i64 0, .int .i64 0]]) ?_ rfl ⟨g3, rfl, by omega, ?_, HBB.out, by repeat (first | with_reducible exact D3 | with_reducible apply bdrew | with_reducible apply bdrewN | with_reducible apply balloc | ((with_reducible refine bset ?_ ?_ _); rotate_left; (first | omega | (simp <;> omega))))⟩
  · simp [results, Try.results86, go_sem, F3, y3w1, y3w0, y3wp1, y3wp2]
  · repeat (first | with_reducible exact hA3 | (with_reducible refine IArr.far ?_ ?_ _; rotate_left; (first | omega | (simp; omega))))


end Go.Proofs.Ytihkgdlanfemcaa

namespace Go.Proofs.Ytihkgdlanfemcaa
open Go.RowKit
set_option linter.unusedVariables false
set_option linter.unusedSimpArgs false

set_option maxRecDepth 100000 in
set_option maxHeartbeats 400000 in
theorem max_1 (w : World) (t : TaskV) (Ai Ag Ao : Option Addr) (ci cg co : Nat) (hT : TaskMem w Ai Ag Ao t) (S : Option Addr) (cs : Nat) (st : List Int) (hS : Ints w S st) (hls : lenOk st.length) (h : ¬ (sfault t st).1 = 0) :
    Calls Try.prog 41 #[.agg #[.int .i64 t.facts, .slice Ai t.init.length ci, .slice Ag t.goal.length cg, .slice Ao t.ops.length co], .slice S st.length cs] w fun e w' => e = .returned (.tuple #[.slice none 0 0, .int .i64 0, .agg #[.int .i64 (sfault t st).1, .int .i64 (sfault t st).2]]) ∧ Below w.heap.size w w' := by
  go_enter Try.func41, Try.ntmps41
  go_wp2_with fail
  refine (estimate_1 _ _ _ _ _ _ _ _ (hT.below (by repeat (first | with_reducible exact Below.refl _ _ | with_reducible apply bdrew | with_reducible apply bdrewN | with_reducible apply balloc | ((with_reducible refine bset ?_ ?_ _); rotate_left; (first | omega | (simp <;> omega)))))) _ _ _ (hS.below (by repeat (first | with_reducible exact Below.refl _ _ | with_reducible apply bdrew | with_reducible apply bdrewN | with_reducible apply balloc | ((with_reducible refine bset ?_ ?_ _); rotate_left; (first | omega | (simp <;> omega)))))) hls 87 h).mono ?_
  rintro e w1 ⟨rfl, hB1⟩
  have D1 := dstep w hB1 (by repeat (first | with_reducible exact Below.refl _ _ | with_reducible apply bdrew | with_reducible apply bdrewN | with_reducible apply balloc | ((with_reducible refine bset ?_ ?_ _); rotate_left; (first | omega | (simp <;> omega)))))
  have d1s := D1.size
  have C1 := Cls.below (l := [(w.heap.size, 0, .int .i64 t.facts), (w.heap.size, 1, .slice Ai t.init.length ci), (w.heap.size, 2, .slice Ag t.goal.length cg), (w.heap.size, 3, .slice Ao t.ops.length co), (w.heap.size + 1, 0, .int .i64 0), (w.heap.size + 1, 1, .int .i64 0)]) hB1 (by simp [Cls, go_sem])
  have F1 := C1
  simp only [Cls, and_true] at F1
  have y1w1 : w.heap.size + 1 < w1.heap.size := C1.blk (b := w.heap.size + 1) (k := 0) (v := .int .i64 0) (by simp)
  have y1w0 : w.heap.size < w1.heap.size := (by omega)
  have y1wp1 : w.heap.size < w1.heap.size + 1 := (by omega)
  have y1wp2 : w.heap.size < w1.heap.size + 1 + 1 := (by omega)
  go_wp2
  refine bodyPost_ret (v := .tuple #[.slice none 0 0, .int .i64 0, .agg #[.int .i64 (sfault t st).1, .int .i64 (sfault t st).2]]) ?_ rfl ⟨rfl, by repeat (first | with_reducible exact D1 | with_reducible apply bdrew | with_reducible apply bdrewN | with_reducible apply balloc | ((with_reducible refine bset ?_ ?_ _); rotate_left; (first | omega | (simp <;> omega))))⟩
  simp [results, Try.results41, go_sem, F1, y1w1, y1w0, y1wp1, y1wp2]

set_option maxRecDepth 100000 in
set_option maxHeartbeats 400000 in
theorem max_2 (w : World) (t : TaskV) (Ai Ag Ao : Option Addr) (ci cg co : Nat) (hT : TaskMem w Ai Ag Ao t) (S : Option Addr) (cs : Nat) (st : List Int) (hS : Ints w S st) (hls : lenOk st.length) (n : Nat) (hn : t.facts = n) (hv : Valid t) (h2 : SetP st t.facts) :
    Calls Try.prog 41 #[.agg #[.int .i64 t.facts, .slice Ai t.init.length ci, .slice Ag t.goal.length cg, .slice Ao t.ops.length co], .slice S st.length cs] w fun e w' => ∃ g, e = .returned (.tuple #[.slice (some ⟨g, 0, none⟩) n n, .int .i64 (combV false (valuesV false n st t.ops (t.ops.map (·.cost))) t.goal), .agg #[.int .i64 0, .int .i64 0]]) ∧ w.heap.size ≤ g ∧ IArr w' g (valuesV false n st t.ops (t.ops.map (·.cost))) ∧ Best false n st t.ops (t.ops.map (·.cost)) (valuesV false n st t.ops (t.ops.map (·.cost))) ∧ Below w.heap.size w w' := by
  have HN := Lib.hid hn
  have HV := Lib.hid hv
  have H2 := Lib.hid h2
  clear hv h2 hn
  go_enter Try.func41, Try.ntmps41
  go_wp2_with fail
  refine (estimate_2 _ _ _ _ _ _ _ _ (hT.below (by repeat (first | with_reducible exact Below.refl _ _ | with_reducible apply bdrew | with_reducible apply bdrewN | with_reducible apply balloc | ((with_reducible refine bset ?_ ?_ _); rotate_left; (first | omega | (simp <;> omega)))))) _ _ _ (hS.below (by repeat (first | with_reducible exact Below.refl _ _ | with_reducible apply bdrew | with_reducible apply bdrewN | with_reducible apply balloc | ((with_reducible refine bset ?_ ?_ _); rotate_left; (first | omega | (simp <;> omega)))))) hls n HN.out HV.out H2.out 87 false greatest_combines).mono ?_
  rintro e w1 ⟨g1, rfl, hg1, hA1, hb1, hB1⟩
  have D1 := dstep w hB1 (by repeat (first | with_reducible exact Below.refl _ _ | with_reducible apply bdrew | with_reducible apply bdrewN | with_reducible apply balloc | ((with_reducible refine bset ?_ ?_ _); rotate_left; (first | omega | (simp <;> omega)))))
  have d1s := D1.size
  have C1 := Cls.below (l := [(w.heap.size, 0, .int .i64 t.facts), (w.heap.size, 1, .slice Ai t.init.length ci), (w.heap.size, 2, .slice Ag t.goal.length cg), (w.heap.size, 3, .slice Ao t.ops.length co), (w.heap.size + 1, 0, .int .i64 0), (w.heap.size + 1, 1, .int .i64 0)]) hB1 (by simp [Cls, go_sem])
  have F1 := C1
  simp only [Cls, and_true] at F1
  have y1w1 : w.heap.size + 1 < w1.heap.size := C1.blk (b := w.heap.size + 1) (k := 0) (v := .int .i64 0) (by simp)
  have y1w0 : w.heap.size < w1.heap.size := (by omega)
  have y1wp1 : w.heap.size < w1.heap.size + 1 := (by omega)
  have y1wp2 : w.heap.size < w1.heap.size + 1 + 1 := (by omega)
  have HBB := Lib.hid hb1
  clear hb1
  go_wp2
  refine bodyPost_ret (v := .tuple #[.slice (some ⟨g1, 0, none⟩) n n, .int .i64 (combV false (valuesV false n st t.ops (t.ops.map (·.cost))) t.goal), .agg #[.int .i64 0, .int .i64 0]]) ?_ rfl ⟨g1, rfl, by simp at hg1; omega, ?_, HBB.out, by repeat (first | with_reducible exact D1 | with_reducible apply bdrew | with_reducible apply bdrewN | with_reducible apply balloc | ((with_reducible refine bset ?_ ?_ _); rotate_left; (first | omega | (simp <;> omega))))⟩
  · simp [results, Try.results41, go_sem, F1, y1w1, y1w0, y1wp1, y1wp2]
  · simp at hg1
    repeat (first | with_reducible exact hA1 | (with_reducible refine IArr.far ?_ ?_ _; rotate_left; (first | omega | (simp; omega))))

set_option maxRecDepth 100000 in
set_option maxHeartbeats 400000 in
theorem add_1 (w : World) (t : TaskV) (Ai Ag Ao : Option Addr) (ci cg co : Nat) (hT : TaskMem w Ai Ag Ao t) (S : Option Addr) (cs : Nat) (st : List Int) (hS : Ints w S st) (hls : lenOk st.length) (h : ¬ (sfault t st).1 = 0) :
    Calls Try.prog 89 #[.agg #[.int .i64 t.facts, .slice Ai t.init.length ci, .slice Ag t.goal.length cg, .slice Ao t.ops.length co], .slice S st.length cs] w fun e w' => e = .returned (.tuple #[.slice none 0 0, .int .i64 0, .agg #[.int .i64 (sfault t st).1, .int .i64 (sfault t st).2]]) ∧ Below w.heap.size w w' := by
  go_enter Try.func89, Try.ntmps89
  go_wp2_with fail
  refine (estimate_1 _ _ _ _ _ _ _ _ (hT.below (by repeat (first | with_reducible exact Below.refl _ _ | with_reducible apply bdrew | with_reducible apply bdrewN | with_reducible apply balloc | ((with_reducible refine bset ?_ ?_ _); rotate_left; (first | omega | (simp <;> omega)))))) _ _ _ (hS.below (by repeat (first | with_reducible exact Below.refl _ _ | with_reducible apply bdrew | with_reducible apply bdrewN | with_reducible apply balloc | ((with_reducible refine bset ?_ ?_ _); rotate_left; (first | omega | (simp <;> omega)))))) hls 111 h).mono ?_
  rintro e w1 ⟨rfl, hB1⟩
  have D1 := dstep w hB1 (by repeat (first | with_reducible exact Below.refl _ _ | with_reducible apply bdrew | with_reducible apply bdrewN | with_reducible apply balloc | ((with_reducible refine bset ?_ ?_ _); rotate_left; (first | omega | (simp <;> omega)))))
  have d1s := D1.size
  have C1 := Cls.below (l := [(w.heap.size, 0, .int .i64 t.facts), (w.heap.size, 1, .slice Ai t.init.length ci), (w.heap.size, 2, .slice Ag t.goal.length cg), (w.heap.size, 3, .slice Ao t.ops.length co), (w.heap.size + 1, 0, .int .i64 0), (w.heap.size + 1, 1, .int .i64 0)]) hB1 (by simp [Cls, go_sem])
  have F1 := C1
  simp only [Cls, and_true] at F1
  have y1w1 : w.heap.size + 1 < w1.heap.size := C1.blk (b := w.heap.size + 1) (k := 0) (v := .int .i64 0) (by simp)
  have y1w0 : w.heap.size < w1.heap.size := (by omega)
  have y1wp1 : w.heap.size < w1.heap.size + 1 := (by omega)
  have y1wp2 : w.heap.size < w1.heap.size + 1 + 1 := (by omega)
  go_wp2
  refine bodyPost_ret (v := .tuple #[.slice none 0 0, .int .i64 0, .agg #[.int .i64 (sfault t st).1, .int .i64 (sfault t st).2]]) ?_ rfl ⟨rfl, by repeat (first | with_reducible exact D1 | with_reducible apply bdrew | with_reducible apply bdrewN | with_reducible apply balloc | ((with_reducible refine bset ?_ ?_ _); rotate_left; (first | omega | (simp <;> omega))))⟩
  simp [results, Try.results89, go_sem, F1, y1w1, y1w0, y1wp1, y1wp2]

set_option maxRecDepth 100000 in
set_option maxHeartbeats 400000 in
theorem add_2 (w : World) (t : TaskV) (Ai Ag Ao : Option Addr) (ci cg co : Nat) (hT : TaskMem w Ai Ag Ao t) (S : Option Addr) (cs : Nat) (st : List Int) (hS : Ints w S st) (hls : lenOk st.length) (n : Nat) (hn : t.facts = n) (hv : Valid t) (h2 : SetP st t.facts) :
    Calls Try.prog 89 #[.agg #[.int .i64 t.facts, .slice Ai t.init.length ci, .slice Ag t.goal.length cg, .slice Ao t.ops.length co], .slice S st.length cs] w fun e w' => ∃ g, e = .returned (.tuple #[.slice (some ⟨g, 0, none⟩) n n, .int .i64 (combV true (valuesV true n st t.ops (t.ops.map (·.cost))) t.goal), .agg #[.int .i64 0, .int .i64 0]]) ∧ w.heap.size ≤ g ∧ IArr w' g (valuesV true n st t.ops (t.ops.map (·.cost))) ∧ Best true n st t.ops (t.ops.map (·.cost)) (valuesV true n st t.ops (t.ops.map (·.cost))) ∧ Below w.heap.size w w' := by
  have HN := Lib.hid hn
  have HV := Lib.hid hv
  have H2 := Lib.hid h2
  clear hv h2 hn
  go_enter Try.func89, Try.ntmps89
  go_wp2_with fail
  refine (estimate_2 _ _ _ _ _ _ _ _ (hT.below (by repeat (first | with_reducible exact Below.refl _ _ | with_reducible apply bdrew | with_reducible apply bdrewN | with_reducible apply balloc | ((with_reducible refine bset ?_ ?_ _); rotate_left; (first | omega | (simp <;> omega)))))) _ _ _ (hS.below (by repeat (first | with_reducible exact Below.refl _ _ | with_reducible apply bdrew | with_reducible apply bdrewN | with_reducible apply balloc | ((with_reducible refine bset ?_ ?_ _); rotate_left; (first | omega | (simp <;> omega)))))) hls n HN.out HV.out H2.out 111 true sum_combines).mono ?_
  rintro e w1 ⟨g1, rfl, hg1, hA1, hb1, hB1⟩
  have D1 := dstep w hB1 (by repeat (first | with_reducible exact Below.refl _ _ | with_reducible apply bdrew | with_reducible apply bdrewN | with_reducible apply balloc | ((with_reducible refine bset ?_ ?_ _); rotate_left; (first | omega | (simp <;> omega)))))
  have d1s := D1.size
  have C1 := Cls.below (l := [(w.heap.size, 0, .int .i64 t.facts), (w.heap.size, 1, .slice Ai t.init.length ci), (w.heap.size, 2, .slice Ag t.goal.length cg), (w.heap.size, 3, .slice Ao t.ops.length co), (w.heap.size + 1, 0, .int .i64 0), (w.heap.size + 1, 1, .int .i64 0)]) hB1 (by simp [Cls, go_sem])
  have F1 := C1
  simp only [Cls, and_true] at F1
  have y1w1 : w.heap.size + 1 < w1.heap.size := C1.blk (b := w.heap.size + 1) (k := 0) (v := .int .i64 0) (by simp)
  have y1w0 : w.heap.size < w1.heap.size := (by omega)
  have y1wp1 : w.heap.size < w1.heap.size + 1 := (by omega)
  have y1wp2 : w.heap.size < w1.heap.size + 1 + 1 := (by omega)
  have HBB := Lib.hid hb1
  clear hb1
  go_wp2
  refine bodyPost_ret (v := .tuple #[.slice (some ⟨g1, 0, none⟩) n n, .int .i64 (combV true (valuesV true n st t.ops (t.ops.map (·.cost))) t.goal), .agg #[.int .i64 0, .int .i64 0]]) ?_ rfl ⟨g1, rfl, by simp at hg1; omega, ?_, HBB.out, by repeat (first | with_reducible exact D1 | with_reducible apply bdrew | with_reducible apply bdrewN | with_reducible apply balloc | ((with_reducible refine bset ?_ ?_ _); rotate_left; (first | omega | (simp <;> omega))))⟩
  · simp [results, Try.results89, go_sem, F1, y1w1, y1w0, y1wp1, y1wp2]
  · simp at hg1
    repeat (first | with_reducible exact hA1 | (with_reducible refine IArr.far ?_ ?_ _; rotate_left; (first | omega | (simp; omega))))

theorem reach1_any (k : Nat) (w : World) : Calls Try.prog 85 #[.int .i64 k] w fun e w' => e = .returned (.bool true) ∧ w = w' := by
  go_enter Try.func85, Try.ntmps85
  go_wp2
  go_ret
  exact ⟨rfl, rfl⟩
theorem reach1_uses (m : Nat) (w : World) : Uses 85 #[] (fun _ => true) m w :=
  ⟨fun args w => by kernel_rfl, fun k wr _ _ => (reach1_any k wr).mono fun _ _ h => ⟨h.1, h.2 ▸ Below.refl _ _⟩⟩
/-- The true places among the first k. -/
def trues (bs : List Bool) (k : Nat) : List Int := ((List.range k).filter fun p => bs[p]? == some true).map fun (p : Nat) => (p : Int)
theorem trues_len (bs : List Bool) (k : Nat) : (trues bs k).length ≤ k := by
  unfold trues
  rw [List.length_map]
  exact Nat.le_trans (List.length_filter_le _ _) (by simp)
theorem trues_yes {bs : List Bool} {k : Nat} (h : bs[k]? = some true) : trues bs k ++ [(k : Int)] = trues bs (k + 1) := by
  unfold trues
  rw [List.range_succ, List.filter_append, List.map_append]
  simp [h]
theorem trues_no {bs : List Bool} {k : Nat} (h : bs[k]? = some false) : trues bs (k + 1) = trues bs k := by
  unfold trues
  rw [List.range_succ, List.filter_append, List.map_append]
  simp [h]
theorem trues_close {n : Nat} {st : List Int} {ops : List OpV} {use : Nat → Bool} : trues (closeV n st ops use) n = withinV n st ops use := by
  unfold trues withinV
  congr 1
  apply List.filter_congr
  intro p hp
  have hp' : p < n := by simpa using hp
  rw [Bool.eq_iff_iff]
  simp only [beq_iff_eq]
  rw [closeV_get hp']
  exact (@decide_eq_true_iff _ (Classical.propDecidable _)).symm
set_option maxRecDepth 100000 in
set_option maxHeartbeats 400000 in
theorem reachable_1 (w : World) (t : TaskV) (Ai Ag Ao : Option Addr) (ci cg co : Nat) (hT : TaskMem w Ai Ag Ao t) (S : Option Addr) (cs : Nat) (st : List Int) (hS : Ints w S st) (hls : lenOk st.length) (h : ¬ (sfault t st).1 = 0) :
    Calls Try.prog 39 #[.agg #[.int .i64 t.facts, .slice Ai t.init.length ci, .slice Ag t.goal.length cg, .slice Ao t.ops.length co], .slice S st.length cs] w fun e w' => e = .returned (.tuple #[.slice none 0 0, .agg #[.int .i64 (sfault t st).1, .int .i64 (sfault t st).2]]) ∧ Below w.heap.size w w' := by
  have N := bb_no h
  have N' := bn_yes h
  go_enter Try.func39, Try.ntmps39
  go_wp2_with fail
  refine (statefault_any _ _ _ _ _ _ _ _ (hT.below (by repeat (first | with_reducible exact Below.refl _ _ | with_reducible apply bdrew | with_reducible apply bdrewN | with_reducible apply balloc | ((with_reducible refine bset ?_ ?_ _); rotate_left; (first | omega | (simp <;> omega)))))) _ _ _ (hS.below (by repeat (first | with_reducible exact Below.refl _ _ | with_reducible apply bdrew | with_reducible apply bdrewN | with_reducible apply balloc | ((with_reducible refine bset ?_ ?_ _); rotate_left; (first | omega | (simp <;> omega)))))) hls).mono ?_
  rintro e w1 ⟨rfl, hB1⟩
  have D1 := dstep w hB1 (by repeat (first | with_reducible exact Below.refl _ _ | with_reducible apply bdrew | with_reducible apply bdrewN | with_reducible apply balloc | ((with_reducible refine bset ?_ ?_ _); rotate_left; (first | omega | (simp <;> omega)))))
  have d1s := D1.size
  have C1 := Cls.below (l := [(w.heap.size, 0, .int .i64 t.facts), (w.heap.size, 1, .slice Ai t.init.length ci), (w.heap.size, 2, .slice Ag t.goal.length cg), (w.heap.size, 3, .slice Ao t.ops.length co), (w.heap.size + 1, 0, .int .i64 0), (w.heap.size + 1, 1, .int .i64 0)]) hB1 (by simp [Cls, go_sem])
  have F1 := C1
  simp only [Cls, and_true] at F1
  have y1w1 : w.heap.size + 1 < w1.heap.size := C1.blk (b := w.heap.size + 1) (k := 0) (v := .int .i64 0) (by simp)
  have y1w0 : w.heap.size < w1.heap.size := (by omega)
  have y1wp1 : w.heap.size < w1.heap.size + 1 := (by omega)
  have y1wp2 : w.heap.size < w1.heap.size + 1 + 1 := (by omega)
  go_wp2_with fail
  refine region_still_tail 2 (by kernel_rfl) (by kernel_rfl) ?_
  simp only [List.take_succ_cons, List.take_zero, List.drop_succ_cons, List.drop_zero]
  repeat still_step
  refine wpStill_nil ?_
  go_wp2
  refine bodyPost_ret (v := .tuple #[.slice none 0 0, .agg #[.int .i64 (sfault t st).1, .int .i64 (sfault t st).2]]) ?_ rfl ⟨rfl, by repeat (first | with_reducible exact D1 | with_reducible apply bdrew | with_reducible apply bdrewN | with_reducible apply balloc | ((with_reducible refine bset ?_ ?_ _); rotate_left; (first | omega | (simp <;> omega))))⟩
  simp [results, Try.results39, go_sem, F1, y1w1, y1w0, y1wp1, y1wp2]

set_option maxRecDepth 100000 in
set_option maxHeartbeats 400000 in
theorem reachable_2 (w : World) (t : TaskV) (Ai Ag Ao : Option Addr) (ci cg co : Nat) (hT : TaskMem w Ai Ag Ao t) (S : Option Addr) (cs : Nat) (st : List Int) (hS : Ints w S st) (hls : lenOk st.length) (n : Nat) (hn : t.facts = n) (hv : Valid t) (h2 : SetP st t.facts) :
    Calls Try.prog 39 #[.agg #[.int .i64 t.facts, .slice Ai t.init.length ci, .slice Ag t.goal.length cg, .slice Ao t.ops.length co], .slice S st.length cs] w fun e w' => ∃ v, e = .returned (.tuple #[v, .agg #[.int .i64 0, .int .i64 0]]) ∧ OwnI w.heap.size w' v (withinV n st t.ops fun _ => true) ∧ Below w.heap.size w w' := by
  have HN := Lib.hid hn
  have HV := Lib.hid hv
  have H2 := Lib.hid h2
  clear hv h2 hn
  go_enter Try.func39, Try.ntmps39
  go_wp2_with fail
  refine (statefault_3 _ _ _ _ _ _ _ _ (hT.below (by repeat (first | with_reducible exact Below.refl _ _ | with_reducible apply bdrew | with_reducible apply bdrewN | with_reducible apply balloc | ((with_reducible refine bset ?_ ?_ _); rotate_left; (first | omega | (simp <;> omega)))))) _ _ _ (hS.below (by repeat (first | with_reducible exact Below.refl _ _ | with_reducible apply bdrew | with_reducible apply bdrewN | with_reducible apply balloc | ((with_reducible refine bset ?_ ?_ _); rotate_left; (first | omega | (simp <;> omega)))))) hls HV.out H2.out).mono ?_
  rintro e w1 ⟨rfl, hB1⟩
  have D1 := dstep w hB1 (by repeat (first | with_reducible exact Below.refl _ _ | with_reducible apply bdrew | with_reducible apply bdrewN | with_reducible apply balloc | ((with_reducible refine bset ?_ ?_ _); rotate_left; (first | omega | (simp <;> omega)))))
  have d1s := D1.size
  have C1 := Cls.below (l := [(w.heap.size, 0, .int .i64 t.facts), (w.heap.size, 1, .slice Ai t.init.length ci), (w.heap.size, 2, .slice Ag t.goal.length cg), (w.heap.size, 3, .slice Ao t.ops.length co), (w.heap.size + 1, 0, .int .i64 0), (w.heap.size + 1, 1, .int .i64 0)]) hB1 (by simp [Cls, go_sem])
  have F1 := C1
  simp only [Cls, and_true] at F1
  have y1w1 : w.heap.size + 1 < w1.heap.size := C1.blk (b := w.heap.size + 1) (k := 0) (v := .int .i64 0) (by simp)
  have y1w0 : w.heap.size < w1.heap.size := (by omega)
  have y1wp1 : w.heap.size < w1.heap.size + 1 := (by omega)
  have y1wp2 : w.heap.size < w1.heap.size + 1 + 1 := (by omega)
  have hn24 : n ≤ 1000000000000 := by have := HV.out.f1; have := HN.out; omega
  have HST := Lib.hid (fun p hp => by have := H2.out.1 p hp; rw [HN.out] at this; exact this : ∀ p ∈ st, 0 ≤ p ∧ p < (n : Int))
  have HOPS := Lib.hid (ops_in HV.out HN.out)
  go_wp2_with fail
  refine (close_any _ _ _ _ _ _ _ _ (hT.below (by repeat (first | with_reducible exact D1 | with_reducible apply bdrew | with_reducible apply bdrewN | with_reducible apply balloc | ((with_reducible refine bset ?_ ?_ _); rotate_left; (first | omega | (simp <;> omega)))))) n HN.out hn24 _ _ _ (hS.below (by repeat (first | with_reducible exact D1 | with_reducible apply bdrew | with_reducible apply bdrewN | with_reducible apply balloc | ((with_reducible refine bset ?_ ?_ _); rotate_left; (first | omega | (simp <;> omega)))))) hls HST.out HOPS.out _ #[] _ (reach1_uses _ _)).mono ?_
  rintro e w2 ⟨g2, rfl, hg2, hA2, hB2⟩
  have D2 := dstep w hB2 (by repeat (first | with_reducible exact D1 | with_reducible apply bdrew | with_reducible apply bdrewN | with_reducible apply balloc | ((with_reducible refine bset ?_ ?_ _); rotate_left; (first | omega | (simp <;> omega)))))
  have d2s := D2.size
  have C2 := Cls.below (l := [(w.heap.size, 0, .int .i64 t.facts), (w.heap.size, 1, .slice Ai t.init.length ci), (w.heap.size, 2, .slice Ag t.goal.length cg), (w.heap.size, 3, .slice Ao t.ops.length co), (w.heap.size + 1, 0, .int .i64 0), (w.heap.size + 1, 1, .int .i64 0)]) hB2 (by simp [Cls, go_sem, F1, y1w1, y1w0, y1wp1, y1wp2])
  have F2 := C2
  simp only [Cls, and_true] at F2
  have y2w1 : w.heap.size + 1 < w2.heap.size := C2.blk (b := w.heap.size + 1) (k := 0) (v := .int .i64 0) (by simp)
  have y2w0 : w.heap.size < w2.heap.size := (by omega)
  have y2wp1 : w.heap.size < w2.heap.size + 1 := (by omega)
  have y2wp2 : w.heap.size < w2.heap.size + 1 + 1 := (by omega)
  have hcl := closeV_len n st t.ops (fun _ => true)
  go_wp2_with fail
  go_loopw [7, 21] (fun v i wr => ∃ k : Nat, k ≤ n ∧ i = .int .i64 k ∧ OwnI w2.heap.size wr v (trues (closeV n st t.ops fun _ => true) k) ∧ Below w2.heap.size w2 wr ∧ Cls wr [(w.heap.size, 0, .int .i64 t.facts), (w.heap.size, 1, .slice Ai t.init.length ci), (w.heap.size, 2, .slice Ag t.goal.length cg), (w.heap.size, 3, .slice Ao t.ops.length co), (w.heap.size + 1, 0, .int .i64 0), (w.heap.size + 1, 1, .int .i64 0)]) (fun _ i _ => n - (intOf i).toNat)
  case atStart => exact ⟨0, Nat.zero_le _, rfl, OwnI.nil _ _, (by repeat (first | with_reducible exact Below.refl _ _ | with_reducible apply bdrew | with_reducible apply bdrewN | with_reducible apply balloc | ((with_reducible refine bset ?_ ?_ _); rotate_left; (first | omega | (simp <;> omega))))), (by simp [Cls, go_sem, F2, y2w1, y2w0, y2wp1, y2wp2])⟩
  case round =>
    obtain ⟨k, hk, rfl, hown, hBr, hCr⟩ := hrel
    have drs := hBr.size
    have Fr := hCr
    simp only [Cls, and_true] at Fr
    have yrw1 : w.heap.size + 1 < wr.heap.size := hCr.blk (b := w.heap.size + 1) (k := 0) (v := .int .i64 0) (by simp)
    have yrw0 : w.heap.size < wr.heap.size := (by omega)
    have yrwp1 : w.heap.size < wr.heap.size + 1 := (by omega)
    have yrwp2 : w.heap.size < wr.heap.size + 1 + 1 := (by omega)
    by_cases hlt : k < n
    · obtain ⟨x, hx, hc, hf⟩ := (hA2.below hBr).cell (i := k) (by rw [hcl]; exact hlt)
      have hlen := Nat.lt_of_le_of_lt (trues_len (closeV n st t.ops fun _ => true) k) (show k < 1000000000000 by omega)
      cases x with
      | true =>
        have HT1 := Lib.hid (trues_yes hx.out)
        go_wp2_with (at_builtin; go_must (refine wpList_push rfl (.tmp 27) (.tmp 29) rfl w2 [(w.heap.size, 0, .int .i64 t.facts), (w.heap.size, 1, .slice Ai t.init.length ci), (w.heap.size, 2, .slice Ag t.goal.length cg), (w.heap.size, 3, .slice Ao t.ops.length co), (w.heap.size + 1, 0, .int .i64 0), (w.heap.size + 1, 1, .int .i64 0)] (w2.heap.size) u7 _ ((k : Int)) rfl (OwnI.below hown ?p1) ⟨wr.heap.size, 0, none⟩ 1 rfl ?p2 hlen ?p3 ?p4 ?p5 ?p6 ?p7 ?_; (case p1 => repeat (first | with_reducible exact Below.refl _ _ | with_reducible apply bdrew | with_reducible apply bdrewN | with_reducible apply balloc | ((with_reducible refine bset ?_ ?_ _); rotate_left; (first | omega | (simp <;> omega))))); (case p2 => simp [Cls, go_sem, Fr, yrw1, yrw0, yrwp1, yrwp2]); (case p3 => (first | omega | (simp <;> omega))); (case p4 => (first | omega | (simp <;> omega))); (case p5 => repeat (first | with_reducible exact hBr | with_reducible apply bdrew | with_reducible apply bdrewN | with_reducible apply balloc | ((with_reducible refine bset ?_ ?_ _); rotate_left; (first | omega | (simp <;> omega))))); (case p6 => simp [Cls, go_sem, Fr, yrw1, yrw0, yrwp1, yrwp2]); (case p7 => (simp <;> omega)); intro v3 w3 o3 D3 C3 sz3; have d3s := D3.size; have F3 := C3; simp only [Cls, and_true] at F3; have y3w1 : w.heap.size + 1 < w3.heap.size := C3.blk (b := w.heap.size + 1) (k := 0) (v := .int .i64 0) (by simp); have y3w0 : w.heap.size < w3.heap.size := (by omega); have y3wp1 : w.heap.size < w3.heap.size + 1 := (by omega); have y3wp2 : w.heap.size < w3.heap.size + 1 + 1 := (by omega)))
        go_roundw
        case rel => exact ⟨k + 1, by omega, by go_num, by rw [← HT1.out]; exact o3, (by repeat (first | with_reducible exact D3 | with_reducible apply bdrew | with_reducible apply bdrewN | with_reducible apply balloc | ((with_reducible refine bset ?_ ?_ _); rotate_left; (first | omega | (simp <;> omega))))), (by simp [Cls, go_sem, F3, y3w1, y3w0, y3wp1, y3wp2])⟩
        case measure => simp [intOf]; omega
      | false =>
        have HT1 := Lib.hid (trues_no hx.out)
        go_wp2
        go_roundw
        case rel => exact ⟨k + 1, by omega, by go_num, by rw [HT1.out]; exact hown, (by repeat (first | with_reducible exact hBr | with_reducible apply bdrew | with_reducible apply bdrewN | with_reducible apply balloc | ((with_reducible refine bset ?_ ?_ _); rotate_left; (first | omega | (simp <;> omega))))), (by simp [Cls, go_sem, Fr, yrw1, yrw0, yrwp1, yrwp2])⟩
        case measure => simp [intOf]; omega
    · have hkn : k = n := by omega
      rw [hkn, trues_close] at hown
      clear hkn
      go_wp2
      obtain ⟨A9, c9, rfl, hnil9, hI9⟩ := hown.form
      refine bodyPost_ret (v := .tuple #[.slice A9 (withinV n st t.ops fun _ => true).length c9, .agg #[.int .i64 0, .int .i64 0]]) ?_ rfl ⟨_, rfl, ?_, ?_⟩
      · simp [results, Try.results39, go_sem, Fr, yrw1, yrw0, yrwp1, yrwp2]
      · refine OwnI.mono (base := w2.heap.size) ?_ (by omega)
        repeat (first | with_reducible exact hown | (with_reducible refine OwnI.far ?_ ?_ _; rotate_left; (first | omega | (simp; omega))))
      · have D9 := dstep w hBr D2
        repeat (first | with_reducible exact D9 | with_reducible apply bdrew | with_reducible apply bdrewN | with_reducible apply balloc | ((with_reducible refine bset ?_ ?_ _); rotate_left; (first | omega | (simp <;> omega))))


end Go.Proofs.Ytihkgdlanfemcaa
