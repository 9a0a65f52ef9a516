/-
  relaxed.Values: what it returns.
  FactValues, the reference's: what it returns.
  OwnCosts, GoalValue; estimate, Max, Add: what they return.
  relaxed.Close: what it returns.
  estimate, Max, Add: what they return.
  Max, Add, Reachable: what they return.
  R.Copy, R.With: what they return.
  S.Within: what it returns.
  two, relaxedExample: what they return.
  landmark.without, facts, Facts: what they return.
  S.IsCut: what it returns.
  landmark.facts, Facts: what they return.
  landmark.Facts: what it returns.
-/
import Derived.Test.YtihkgdlanfemcaaY7
import Derived.Test.YtihkgdlanfemcaaY2
import Derived.Test.YtihkgdlanfemcaaY1
namespace Go.Proofs.Ytihkgdlanfemcaa
open Go.RowKit
set_option linter.unusedVariables false
set_option linter.unusedSimpArgs false

/-- A function value that combines values of facts. -/
def Combines (G : FuncId) (s : Bool) : Prop := Enters G ∧ ∀ (A B : Option Addr) (c d : Nat) (vs xs : List Int) (w : World), Ints w A vs → Ints w B xs → xs.length ≤ 9223372036854775807 → vs.length ≤ 9223372036854775807 → (∀ x ∈ xs, 0 ≤ x ∧ x < vs.length) → AllV vs →
    Calls Try.prog G #[.slice A vs.length c, .slice B xs.length d] w fun e w' => e = .returned (.int .i64 (combV s vs xs)) ∧ w = w'
theorem Combines.at_ {G : FuncId} {s : Bool} (h : Combines G s) (A B : Option Addr) (c d m : Nat) (vs xs : List Int) (w : World) (h1 : Ints w A vs) (h2 : Ints w B xs) (hm : vs.length = m) (h3 : lenOk xs.length) (h4 : m ≤ 1000000000000) (h5 : ∀ x ∈ xs, 0 ≤ x ∧ x < (m : Int)) (h6 : AllV vs) :
    Calls Try.prog G #[.slice A m c, .slice B xs.length d] w fun e w' => e = .returned (.int .i64 (combV s vs xs)) ∧ w' = w := by
  subst hm
  exact (h.2 A B c d vs xs w h1 h2 h3.le (by omega) h5 h6).mono fun _ _ h => ⟨h.1, h.2.symm⟩
theorem greatest_combines : Combines 87 false := ⟨fun args w => by kernel_rfl, fun A B c d vs xs w h1 h2 h3 h4 h5 h6 => greatest_any A B c d vs xs w h1 h2 h3 h4 h5 h6⟩
set_option maxRecDepth 100000 in
set_option maxHeartbeats 1000000 in
theorem values_any (w : World) (t : TaskV) (Ai Ag Ao : Option Addr) (ci cg co : Nat) (hT : TaskMem w Ai Ag Ao t) (n : Nat) (hn : t.facts = n) (hn24 : n ≤ 1000000000000) (S : Option Addr) (cs : Nat) (st : List Int) (hS : Ints w S st) (hls : lenOk st.length) (hst : ∀ p ∈ st, 0 ≤ p ∧ p < (n : Int)) (C : Option Addr) (cc : Nat) (cost : List Int) (hC : Ints w C cost) (hlc : cost.length = t.ops.length) (hcv : AllV cost) (hops : ∀ o ∈ t.ops, (∀ p ∈ o.pre, 0 ≤ p ∧ p < (n : Int)) ∧ ∀ p ∈ o.add, 0 ≤ p ∧ p < (n : Int)) (G : FuncId) (s : Bool) (hG : Combines G s) :
    Calls Try.prog 108 #[.agg #[.int .i64 t.facts, .slice Ai t.init.length ci, .slice Ag t.goal.length cg, .slice Ao t.ops.length co], .slice S st.length cs, .slice C cost.length cc, .func (.func G) #[] #[]] w fun e w' => ∃ g, e = .returned (.slice (some ⟨g, 0, none⟩) n n) ∧ w.heap.size ≤ g ∧ IArr w' g (valuesV s n st t.ops cost) ∧ Best s n st t.ops cost (valuesV s n st t.ops cost) ∧ Below w.heap.size w w' := by
  have hls' := hls.le
  have hlo := hT.lops.le
  have hn' := hn
  rw [hn]
  have hmk := make_ints n hn24
  have hE := hG.1
  have hE' : ∀ (args : Array Value) (w : World), (callFunc G args).run Try.prog w = .ok (.enter G args) w := hE
  clear hE
  have HST := Lib.hid hst
  have HCV := Lib.hid hcv
  have HOPS := Lib.hid hops
  have HLC := Lib.hid hlc
  clear hst hcv hops hlc
  go_enter Try.func108, Try.ntmps108
  go_wp2_with fail
  go_loopw [24] (fun i wr => ∃ k : Nat, k ≤ n ∧ i = .int .i64 k ∧ IArr wr (w.heap.size + 1) (List.replicate k 1000000000 ++ List.replicate (n - k) 0) ∧ Below w.heap.size w wr ∧ Cls wr [(w.heap.size, 0, .int .i64 (n : Int)), (w.heap.size, 1, .slice Ai t.init.length ci), (w.heap.size, 2, .slice Ag t.goal.length cg), (w.heap.size, 3, .slice Ao t.ops.length co)]) (fun i _ => n - (intOf i).toNat)
  case atStart =>
    refine ⟨0, Nat.zero_le _, rfl, ?_, (by repeat (first | with_reducible exact Below.refl _ _ | with_reducible apply bdrew | with_reducible apply bdrewN | with_reducible apply balloc | ((with_reducible refine bset ?_ ?_ _); rotate_left; (first | omega | (simp <;> omega))))), (by simp [Cls, go_sem])⟩
    rw [fill_zero]
    exact IArr.made _ _ _ (by simp)
  case round =>
    obtain ⟨k, hk, rfl, hA, hBr, hCr⟩ := hrel
    have drs := hBr.size
    have Fr := hCr
    simp only [Cls, and_true] at Fr
    have yrw0 : w.heap.size < wr.heap.size := hCr.blk (b := w.heap.size) (k := 0) (v := .int .i64 (n : Int)) (by simp)
    have yrwp1 : w.heap.size < wr.heap.size + 1 := (by omega)
    have yrwp2 : w.heap.size < wr.heap.size + 1 + 1 := (by omega)
    by_cases hlt : k < n
    · obtain ⟨x, hx, hc, hf⟩ := hA.cell (i := k) (by rw [fill_len hk]; exact hlt)
      have hlen := fill_len hk (1000000000 : Int) 0
      go_wp2
      go_roundw
      case rel =>
        refine ⟨k + 1, by omega, by go_num, ?_, (by repeat (first | with_reducible exact hBr | with_reducible apply bdrew | with_reducible apply bdrewN | with_reducible apply balloc | ((with_reducible refine bset ?_ ?_ _); rotate_left; (first | omega | (simp <;> omega))))), (by simp [Cls, go_sem, Fr, yrw0, yrwp1, yrwp2])⟩
        rw [← fill_succ hlt]
        exact hA.set_ k _
      case measure => simp [intOf]; omega
    · rw [fill_all hlt hk, ← init2_nil] at hA
      obtain ⟨w1, rfl⟩ : ∃ wo : World, wo = wr := ⟨_, rfl⟩
      go_wp2_with fail
      go_loopg [33] (st.length) (fun gk i wr => ∃ k : Nat, Hid (k + gk = st.length) ∧ i = .int .i64 k ∧ IArr wr (w.heap.size + 1) (init2 n (st.take k)) ∧ Below w.heap.size w wr ∧ Cls wr [(w.heap.size, 0, .int .i64 (n : Int)), (w.heap.size, 1, .slice Ai t.init.length ci), (w.heap.size, 2, .slice Ag t.goal.length cg), (w.heap.size, 3, .slice Ao t.ops.length co)])
      case atStart => exact ⟨0, Lib.hid (by omega), rfl, by simpa using hA, (by repeat (first | with_reducible exact hBr | with_reducible apply bdrew | with_reducible apply bdrewN | with_reducible apply balloc | ((with_reducible refine bset ?_ ?_ _); rotate_left; (first | omega | (simp <;> omega))))), (by simp [Cls, go_sem, Fr, yrw0, yrwp1, yrwp2])⟩
      case round =>
        obtain ⟨k, hk, rfl, hA, hBq, hCq⟩ := hrel
        have dqs := hBq.size
        have Fq := hCq
        simp only [Cls, and_true] at Fq
        have yqw0 : w.heap.size < wr.heap.size := hCq.blk (b := w.heap.size) (k := 0) (v := .int .i64 (n : Int)) (by simp)
        have yqwp1 : w.heap.size < wr.heap.size + 1 := (by omega)
        have yqwp2 : w.heap.size < wr.heap.size + 1 + 1 := (by omega)
        by_cases hlt : k < st.length
        · obtain ⟨sd, x, rfl, hx, hc⟩ := (hS.below hBq).at_ hlt
          obtain ⟨x0, x1⟩ := HST.out x (List.mem_of_getElem? hx.out)
          have hlen := init2_len n (st.take k)
          obtain ⟨y, hy, hd, hf⟩ := hA.cell (i := x.toNat) (by omega)
          have hk1 := Lib.hid (show k + 1 + (gk - 1) = st.length ∧ gk - 1 < gk by have := hk.out; omega)
          go_wp2
          go_roundg (gk - 1)
          case measure => exact hk1.out.2
          case rel =>
            refine ⟨k + 1, Lib.hid hk1.out.1, by go_num, ?_, (by repeat (first | with_reducible exact hBq | with_reducible apply bdrew | with_reducible apply bdrewN | with_reducible apply balloc | ((with_reducible refine bset ?_ ?_ _); rotate_left; (first | omega | (simp <;> omega))))), (by simp [Cls, go_sem, Fq, yqw0, yqwp1, yqwp2])⟩
            rw [init2_succ hx.out]
            exact hA.set_ _ _
        · rw [List.take_of_length_le (by omega), init2_eq HST.out] at hA
          obtain ⟨w2, rfl⟩ : ∃ wo : World, wo = wr := ⟨_, rfl⟩
          go_wp2_with fail
          go_loopg [13] (2 * sumV (initV n st) + 1) (fun gk ch wr => ∃ (V : List Int) (b : Bool), ch = .bool b ∧ Hid (gk = 2 * sumV V + b.toNat) ∧ IArr wr (w.heap.size + 1) V ∧ Above s n st t.ops cost V ∧ Hid (b = false → ClosedTo s t.ops cost t.ops.length V) ∧ Below w.heap.size w wr ∧ Cls wr [(w.heap.size, 0, .int .i64 (n : Int)), (w.heap.size, 1, .slice Ai t.init.length ci), (w.heap.size, 2, .slice Ag t.goal.length cg), (w.heap.size, 3, .slice Ao t.ops.length co)])
          case atStart => exact ⟨_, true, rfl, Lib.hid rfl, hA, initV_above HST.out, Lib.hid (fun h => by cases h), (by repeat (first | with_reducible exact hBq | with_reducible apply bdrew | with_reducible apply bdrewN | with_reducible apply balloc | ((with_reducible refine bset ?_ ?_ _); rotate_left; (first | omega | (simp <;> omega))))), (by simp [Cls, go_sem, Fq, yqw0, yqwp1, yqwp2])⟩
          case round =>
            obtain ⟨V0, b, rfl, hgk, hA0, hV0, hcl, hBp, hCp⟩ := hrel
            obtain ⟨g3, rfl⟩ : ∃ g : Nat, g = gk := ⟨_, rfl⟩
            obtain ⟨w3, rfl⟩ : ∃ wo : World, wo = wr := ⟨_, rfl⟩
            cases b with
            | false =>
              have hB := best_of hV0 (hcl.out rfl)
              have e := best_eq hB
              rw [e] at hB hA0
              have hB' := Lib.hid hB
              clear e hB hV0 hcl
              skip
              have dps := hBp.size
              have Fp := hCp
              simp only [Cls, and_true] at Fp
              have ypw0 : w.heap.size < w3.heap.size := hCp.blk (b := w.heap.size) (k := 0) (v := .int .i64 (n : Int)) (by simp)
              have ypwp1 : w.heap.size < w3.heap.size + 1 := (by omega)
              have ypwp2 : w.heap.size < w3.heap.size + 1 + 1 := (by omega)
              go_wp2
              go_ret
              exact ⟨_, rfl, by omega, hA0, hB'.out, hBp⟩
            | true =>
              have dps := hBp.size
              have Fp := hCp
              simp only [Cls, and_true] at Fp
              have ypw0 : w.heap.size < w3.heap.size := hCp.blk (b := w.heap.size) (k := 0) (v := .int .i64 (n : Int)) (by simp)
              have ypwp1 : w.heap.size < w3.heap.size + 1 := (by omega)
              have ypwp2 : w.heap.size < w3.heap.size + 1 + 1 := (by omega)
              go_wp2_with fail
              go_loopg [13, 45] (t.ops.length) (fun gk ch i wr => ∃ (V : List Int) (b : Bool) (k : Nat), ch = .bool b ∧ i = .int .i64 k ∧ Hid (k + gk = t.ops.length) ∧ IArr wr (w.heap.size + 1) V ∧ Above s n st t.ops cost V ∧ Hid (b = true → sumV V < sumV V0) ∧ Hid (b = false → sumV V ≤ sumV V0 ∧ ClosedTo s t.ops cost k V) ∧ Below w.heap.size w wr ∧ Cls wr [(w.heap.size, 0, .int .i64 (n : Int)), (w.heap.size, 1, .slice Ai t.init.length ci), (w.heap.size, 2, .slice Ag t.goal.length cg), (w.heap.size, 3, .slice Ao t.ops.length co)])
              case atStart => exact ⟨V0, false, 0, rfl, rfl, Lib.hid (by omega), hA0, hV0, Lib.hid (fun h => by cases h), Lib.hid (fun _ => ⟨Nat.le_refl _, closedTo_zero⟩), (by repeat (first | with_reducible exact hBp | with_reducible apply bdrew | with_reducible apply bdrewN | with_reducible apply balloc | ((with_reducible refine bset ?_ ?_ _); rotate_left; (first | omega | (simp <;> omega))))), (by simp [Cls, go_sem, Fp, ypw0, ypwp1, ypwp2])⟩
              case round =>
                obtain ⟨V1, b1, k, rfl, rfl, hk, hA1, hV1, ht1, hf1, hBs, hCs⟩ := hrel
                obtain ⟨g4, rfl⟩ : ∃ g : Nat, g = gk := ⟨_, rfl⟩
                obtain ⟨w4, rfl⟩ : ∃ wo : World, wo = wr := ⟨_, rfl⟩
                have dss := hBs.size
                have Fs := hCs
                simp only [Cls, and_true] at Fs
                have ysw0 : w.heap.size < w4.heap.size := hCs.blk (b := w.heap.size) (k := 0) (v := .int .i64 (n : Int)) (by simp)
                have yswp1 : w.heap.size < w4.heap.size + 1 := (by omega)
                have yswp2 : w.heap.size < w4.heap.size + 1 + 1 := (by omega)
                by_cases hlt : k < t.ops.length
                · obtain ⟨ad, o, A0, c0, A1, c1, A2, c2, rfl, ho, hc0, hc1, hc2, hc3, hm⟩ := hT.ops.at2 hBs hlt
                  have hkc : k < cost.length := by have := HLC.out; omega
                  obtain ⟨cd, cv, rfl, hcx, hcc⟩ := (hC.below hBs).at_ (show k < cost.length by have := HLC.out; omega)
                  have hcin := HCV.out cv (List.mem_of_getElem? hcx.out)
                  have hoo := Lib.hid (HOPS.out o (List.mem_of_getElem? ho.out))
                  have hAi := hA1.ints
                  have hVl := hV1.shape.len
                  have hcomb := combV_in (s := s) hV1.shape.all o.pre
                  obtain ⟨v, hv⟩ : ∃ v, Hid (opV s V1 o cv = v) := ⟨_, Lib.hid rfl⟩
                  have hbd := Lib.hid (bound_of hV1 ho.out hcx.out hcin)
                  have hvin := opV_in (s := s) hV1.shape.all o hcin
                  rw [hv.out] at hvin hbd
                  have hcc2 : ∀ ob : Obj, (w4.alloc ob).cell? (cd.add k) = some (.int .i64 cv) := fun ob => (((Below.refl _ _).alloc (Nat.le_refl _) _).cell (World.block_lt_of_cell? w4 _ hcc)).trans hcc
                  go_wp2_with fail
                  refine region_still (by kernel_rfl) (by kernel_rfl) ?_
                  repeat still_step
                  still_call (hG.at_ _ _ _ _ _ _ _ _ (hAi.below ((Below.refl _ _).alloc (Nat.le_refl _) _).drew) (hm.pre.below (by repeat (first | with_reducible exact hBs | with_reducible apply bdrew | with_reducible apply bdrewN | with_reducible apply balloc | ((with_reducible refine bset ?_ ?_ _); rotate_left; (first | omega | (simp <;> omega)))))) hVl hm.lpre hn24 hoo.out.1 hV1.shape.all)
                  repeat still_step
                  still_call ((plus_any _ _ _ hcomb hcin).mono fun _ _ h => ⟨h.1, h.2.symm⟩)
                  repeat still_step
                  refine wpStill_nil ?_
                  have hv' : plusV (combV s V1 o.pre) cv = v := hv.out
                  rw [hv']
                  have hlc' := hm.ladd.le
                  go_wp2_with fail
                  go_loopg [13, 63] (o.add.length) (fun gk ch i wr => ∃ (V : List Int) (b : Bool) (j : Nat), ch = .bool b ∧ i = .int .i64 j ∧ Hid (j + gk = o.add.length) ∧ IArr wr (w.heap.size + 1) V ∧ Above s n st t.ops cost V ∧ Hid (b = true → sumV V < sumV V0) ∧ Hid (b = false → V = V1 ∧ sumV V ≤ sumV V0 ∧ ClosedTo s t.ops cost k V ∧ ∀ p ∈ o.add.take j, valAt V p ≤ v) ∧ Below w.heap.size w wr ∧ Cls wr [(w.heap.size, 0, .int .i64 (n : Int)), (w.heap.size, 1, .slice Ai t.init.length ci), (w.heap.size, 2, .slice Ag t.goal.length cg), (w.heap.size, 3, .slice (some ad) t.ops.length co)])
                  case atStart => exact ⟨V1, b1, 0, rfl, rfl, Lib.hid (by omega), (hA1.below (by repeat (first | with_reducible exact Below.refl _ _ | with_reducible apply bdrew | with_reducible apply bdrewN | with_reducible apply balloc | ((with_reducible refine bset ?_ ?_ _); rotate_left; (first | omega | (simp <;> omega)))))), hV1, ht1, Lib.hid (fun h => ⟨rfl, (hf1.out h).1, (hf1.out h).2, by simp⟩), (by repeat (first | with_reducible exact hBs | with_reducible apply bdrew | with_reducible apply bdrewN | with_reducible apply balloc | ((with_reducible refine bset ?_ ?_ _); rotate_left; (first | omega | (simp <;> omega))))), (by simp [Cls, go_sem, Fs, ysw0, yswp1, yswp2])⟩
                  case round =>
                    obtain ⟨V2, b2, j, rfl, rfl, hj, hA2, hV2, ht2, hf2, hBu, hCu⟩ := hrel
                    obtain ⟨w5, rfl⟩ : ∃ wo : World, wo = wr := ⟨_, rfl⟩
                    have dus := hBu.size
                    have Fu := hCu
                    simp only [Cls, and_true] at Fu
                    have yuw0 : w.heap.size < w5.heap.size := hCu.blk (b := w.heap.size) (k := 0) (v := .int .i64 (n : Int)) (by simp)
                    have yuwp1 : w.heap.size < w5.heap.size + 1 := (by omega)
                    have yuwp2 : w.heap.size < w5.heap.size + 1 + 1 := (by omega)
                    by_cases hlj : j < o.add.length
                    · obtain ⟨pd, p, rfl, hp, hpc⟩ := (hm.add.below hBu).at_ hlj
                      obtain ⟨p0, p1⟩ := hoo.out.2 p (List.mem_of_getElem? hp.out)
                      have hl2 := hV2.shape.len
                      obtain ⟨y, hy, hyc, hyf⟩ := hA2.cell (i := p.toNat) (by omega)
                      have hj1 := Lib.hid (show j + 1 + (gk - 1) = o.add.length ∧ gk - 1 < gk by have := hj.out; omega)
                      have hpm := List.mem_of_getElem? hp.out
                      have hva := Lib.hid (valAt_of hy.out)
                      have hab := fun hlt : v < y => above_set hV2 hbd.out hpm hvin hy.out hlt
                      have hsm := fun hlt : v < y => sum_set hy.out hvin.1 hlt
                      have hab' := Lib.hid hab
                      have hsm' := Lib.hid hsm
                      have hpm' := Lib.hid hpm
                      have hV2' := Lib.hid hV2
                      clear hab hsm hpm hV2
                      by_cases hvy : v < y
                      · have hvy' := Lib.hid hvy
                        go_wp2
                        go_roundg (gk - 1)
                        case measure => exact hj1.out.2
                        case rel =>
                          refine ⟨V2.set p.toNat v, true, j + 1, rfl, by go_num, Lib.hid hj1.out.1, hA2.set_ _ _, hab'.out hvy'.out, Lib.hid (fun _ => ?_), Lib.hid (fun h => by cases h), (by repeat (first | with_reducible exact hBu | with_reducible apply bdrew | with_reducible apply bdrewN | with_reducible apply balloc | ((with_reducible refine bset ?_ ?_ _); rotate_left; (first | omega | (simp <;> omega))))), (by simp [Cls, go_sem, Fu, yuw0, yuwp1, yuwp2])⟩
                          have h1 := hsm'.out hvy'.out
                          cases b2 with
                          | true => have := ht2.out rfl; omega
                          | false => have := (hf2.out rfl).2.1; omega
                      · have hvy' := Lib.hid hvy
                        go_wp2
                        go_roundg (gk - 1)
                        case measure => exact hj1.out.2
                        case rel =>
                          refine ⟨V2, b2, j + 1, rfl, by go_num, Lib.hid hj1.out.1, hA2, hV2'.out, ht2, Lib.hid (fun h => ⟨(hf2.out h).1, (hf2.out h).2.1, (hf2.out h).2.2.1, forall_take_succ hp.out (hf2.out h).2.2.2 ?_⟩), (by repeat (first | with_reducible exact hBu | with_reducible apply bdrew | with_reducible apply bdrewN | with_reducible apply balloc | ((with_reducible refine bset ?_ ?_ _); rotate_left; (first | omega | (simp <;> omega))))), (by simp [Cls, go_sem, Fu, yuw0, yuwp1, yuwp2])⟩
                          rw [hva.out]
                          have := hvy'.out
                          omega
                    · have hend := hj.out
                      have hk1 := Lib.hid (show k + 1 + (g4 - 1) = t.ops.length ∧ g4 - 1 < g4 by have := hk.out; omega)
                      go_wp2
                      go_roundg (g4 - 1)
                      case measure => exact hk1.out.2
                      case rel =>
                        refine ⟨V2, b2, k + 1, rfl, by go_num, Lib.hid hk1.out.1, hA2, hV2, ht2, Lib.hid (fun h => ⟨(hf2.out h).2.1, ?_⟩), (by repeat (first | with_reducible exact hBu | with_reducible apply bdrew | with_reducible apply bdrewN | with_reducible apply balloc | ((with_reducible refine bset ?_ ?_ _); rotate_left; (first | omega | (simp <;> omega))))), (by simp [Cls, go_sem, Fu, yuw0, yuwp1, yuwp2])⟩
                        obtain ⟨rfl, h2, h3, h4⟩ := hf2.out h
                        refine closedTo_succ h3 ho.out hcx.out ?_
                        rw [hv.out]
                        exact forall_take_all hlj h4
                · have hkk := Lib.hid (show k = t.ops.length by have := hk.out; omega)
                  go_wp2
                  go_roundg (2 * sumV V1 + b1.toNat)
                  case measure =>
                    rw [hgk.out]
                    cases b1 with
                    | true => have := ht1.out rfl; simp; omega
                    | false => have := (hf1.out rfl).1; simp; omega
                  case rel => exact ⟨V1, b1, rfl, Lib.hid rfl, hA1, hV1, Lib.hid (fun h => by rw [← hkk.out]; exact (hf1.out h).2), (by repeat (first | with_reducible exact hBs | with_reducible apply bdrew | with_reducible apply bdrewN | with_reducible apply balloc | ((with_reducible refine bset ?_ ?_ _); rotate_left; (first | omega | (simp <;> omega))))), (by simp [Cls, go_sem, Fs, ysw0, yswp1, yswp2])⟩


end Go.Proofs.Ytihkgdlanfemcaa

namespace Go.Proofs.Ytihkgdlanfemcaa
open Go.RowKit
theorem ints_at (A B : Option Addr) (c d m : Nat) (xs ys : List Int) (w : World) (hI : Ints w A xs) (hJ : Ints w B ys) (h1 : xs.length = m) (h2 : ys.length = m) (hl : m ≤ 1000000000000) (v : Bool) (hv : v = decide (xs = ys)) :
    Calls Try.prog 33 #[.slice A m c, .slice B m d] w fun e w' => e = .returned (.bool v) ∧ Below w.heap.size w w' := by
  have h := ints_any A B c d xs ys w hI hJ (by omega) (by omega)
  rw [h1, h2] at h
  rw [hv]
  exact h
theorem OwnI.form_at {base n : Nat} {w : World} {v : Value} {xs : List Int} (h : OwnI base w v xs) (hn : xs.length = n) : ∃ A c, v = .slice A n c ∧ (A = none → xs = [] ∧ c = 0) := by
  obtain ⟨A, c, e, h1, _⟩ := h.form
  exact ⟨A, c, by rw [e, hn], h1⟩
theorem OwnI.ints_at {base n c : Nat} {w : World} {A : Option Addr} {xs : List Int} (h : OwnI base w (.slice A n c) xs) : Ints w A xs := by
  obtain ⟨A', c', e, h1⟩ := h.ints
  injection e with e
  rw [e]; exact h1
theorem OwnI.blk {base n c : Nat} {w : World} {A : Option Addr} {xs : List Int} (h : OwnI base w (.slice A n c) xs) : ∀ g, A = some ⟨g, 0, none⟩ → base ≤ g ∧ g < w.heap.size := fun g e => by
  subst e
  exact World.ownsRow.lt h g rfl
/-- One round of the reference: what is lowered so far. -/
def Lowered (s : Bool) (ops : List OpV) (cs : List Int) (k : Nat) (V V' : List Int) : Prop :=
  (V' = V ∨ sumV V' < sumV V) ∧ ∀ (i : Nat) (o : OpV) (c : Int), i < k → ops[i]? = some o → cs[i]? = some c → ∀ p ∈ o.add, valAt V' p ≤ opV s V o c
section
variable {s : Bool} {n : Nat} {st : List Int} {ops : List OpV} {cs V V' : List Int}
theorem Lowered.start : Lowered s ops cs 0 V V := ⟨Or.inl rfl, fun i o c hi => absurd hi (by omega)⟩
theorem Lowered.set_ {k : Nat} (h : Lowered s ops cs k V V') {i : Nat} {x y : Int} (hy : V'[i]? = some y) (h0 : 0 ≤ x) (hlt : x < y) : Lowered s ops cs k V (V'.set i x) := by
  have h1 := sum_set hy h0 hlt
  refine ⟨Or.inr ?_, fun j o c hj ho hc p hp => Int.le_trans (LeV.set_ hy (Int.le_of_lt hlt) p) (h.2 j o c hj ho hc p hp)⟩
  rcases h.1 with e | e
  · rw [← e]; exact h1
  · omega
theorem Lowered.succ {k : Nat} {o : OpV} {c : Int} (h : Lowered s ops cs k V V') (ho : ops[k]? = some o) (hc : cs[k]? = some c) (h2 : ∀ p ∈ o.add, valAt V' p ≤ opV s V o c) : Lowered s ops cs (k + 1) V V' := by
  refine ⟨h.1, fun i o' c' hi ho' hc' p hp => ?_⟩
  by_cases e : i = k
  · subst e
    rw [ho] at ho'; injection ho' with ho'; subst ho'
    rw [hc] at hc'; injection hc' with hc'; subst hc'
    exact h2 p hp
  · exact h.2 i o' c' (by omega) ho' hc' p hp
theorem Lowered.closed (h : Lowered s ops cs ops.length V V) : ClosedTo s ops cs ops.length V := h.2
theorem Lowered.less {k : Nat} (h : Lowered s ops cs k V V') (hne : ¬ V' = V) : sumV V' < sumV V := h.1.resolve_left hne
end
end Go.Proofs.Ytihkgdlanfemcaa

namespace Go.Proofs.Ytihkgdlanfemcaa
open Go.RowKit
end Go.Proofs.Ytihkgdlanfemcaa

namespace Go.Proofs.Ytihkgdlanfemcaa
open Go.RowKit
set_option linter.unusedVariables false
set_option linter.unusedSimpArgs false
end Go.Proofs.Ytihkgdlanfemcaa

namespace Go.Proofs.Ytihkgdlanfemcaa
open Go.RowKit
set_option linter.unusedVariables false
set_option linter.unusedSimpArgs false

set_option maxRecDepth 100000 in
theorem values_at (w : World) (t : TaskV) (Ai Ag Ao : Option Addr) (ci cg co : Nat) (hT : TaskMem w Ai Ag Ao t) (n : Nat) (hn : t.facts = n) (hn24 : n ≤ 1000000000000) (S : Option Addr) (cs : Nat) (st : List Int) (hS : Ints w S st) (hls : lenOk st.length) (hst : ∀ p ∈ st, 0 ≤ p ∧ p < (n : Int)) (C : Option Addr) (cc m : Nat) (cost : List Int) (hC : Ints w C cost) (hm : m = t.ops.length) (hlc : cost.length = t.ops.length) (hcv : AllV cost) (hops : ∀ o ∈ t.ops, (∀ p ∈ o.pre, 0 ≤ p ∧ p < (n : Int)) ∧ ∀ p ∈ o.add, 0 ≤ p ∧ p < (n : Int)) (G : FuncId) (s : Bool) (hG : Combines G s) :
    Calls Try.prog 108 #[.agg #[.int .i64 t.facts, .slice Ai t.init.length ci, .slice Ag t.goal.length cg, .slice Ao t.ops.length co], .slice S st.length cs, .slice C m cc, .func (.func G) #[] #[]] w fun e w' => ∃ g, e = .returned (.slice (some ⟨g, 0, none⟩) n n) ∧ w.heap.size ≤ g ∧ IArr w' g (valuesV s n st t.ops cost) ∧ Best s n st t.ops cost (valuesV s n st t.ops cost) ∧ Below w.heap.size w w' := by
  obtain rfl : m = cost.length := by rw [hm, hlc]
  exact values_any w t Ai Ag Ao ci cg co hT n hn hn24 S cs st hS hls hst C cc cost hC hlc hcv hops G s hG
theorem ops_in {t : TaskV} {n : Nat} (hv : Valid t) (hn : t.facts = n) : ∀ o ∈ t.ops, (∀ p ∈ o.pre, 0 ≤ p ∧ p < (n : Int)) ∧ ∀ p ∈ o.add, 0 ≤ p ∧ p < (n : Int) := fun o ho => by
  have := (hv.ops o ho).1
  rw [hn] at this
  exact ⟨this.1.1, this.2.1.1⟩
theorem goal_in {t : TaskV} {n : Nat} (hv : Valid t) (hn : t.facts = n) : ∀ p ∈ t.goal, 0 ≤ p ∧ p < (n : Int) := fun p hp => by
  have := hv.goal.1 p hp
  rw [hn] at this
  exact this
end Go.Proofs.Ytihkgdlanfemcaa

namespace Go.Proofs.Ytihkgdlanfemcaa
open Go.RowKit
set_option linter.unusedVariables false
set_option linter.unusedSimpArgs false
end Go.Proofs.Ytihkgdlanfemcaa

namespace Go.Proofs.Ytihkgdlanfemcaa
open Go.RowKit
set_option linter.unusedVariables false
set_option linter.unusedSimpArgs false
end Go.Proofs.Ytihkgdlanfemcaa

namespace Go.Proofs.Ytihkgdlanfemcaa
open Go.RowKit
end Go.Proofs.Ytihkgdlanfemcaa

namespace Go.Proofs.Ytihkgdlanfemcaa
open Go.RowKit
set_option linter.unusedVariables false
set_option linter.unusedSimpArgs false
def chainV : TaskV := ⟨2, [], [1], [⟨[], [0], [], 2⟩, ⟨[0], [1], [], 3⟩]⟩
theorem ints_one {w : World} {g : Nat} {x : Int} (h0 : w.cell? ⟨g, 0, none⟩ = some (.int .i64 x)) : Ints w (some ⟨g, 0, none⟩) [x] := fun j u hu => by
  cases j with
  | zero => simp at hu; subst hu; exact ⟨_, rfl, h0⟩
  | succ j => simp at hu
theorem ints_two {w : World} {g : Nat} {x y : Int} (h0 : w.cell? ⟨g, 0, none⟩ = some (.int .i64 x)) (h1 : w.cell? ⟨g, 1, none⟩ = some (.int .i64 y)) : Ints w (some ⟨g, 0, none⟩) [x, y] := fun j u hu => by
  cases j with
  | zero => simp at hu; subst hu; exact ⟨_, rfl, h0⟩
  | succ j =>
    cases j with
    | zero => simp at hu; subst hu; exact ⟨_, rfl, h1⟩
    | succ j => simp at hu
theorem ops_two {w : World} {g : Nat} {o p : OpV} {A0 A1 A2 B0 B1 B2 : Option Addr} {c0 c1 c2 d0 d1 d2 : Nat} (h0 : w.cell? ⟨g, 0, none⟩ = some (.slice A0 o.pre.length c0)) (h1 : w.cell? ⟨g, 1, none⟩ = some (.slice A1 o.add.length c1)) (h2 : w.cell? ⟨g, 2, none⟩ = some (.slice A2 o.del.length c2)) (h3 : w.cell? ⟨g, 3, none⟩ = some (.int .i64 o.cost)) (hm : OpMem w A0 A1 A2 o)
    (k0 : w.cell? ⟨g, 4, none⟩ = some (.slice B0 p.pre.length d0)) (k1 : w.cell? ⟨g, 5, none⟩ = some (.slice B1 p.add.length d1)) (k2 : w.cell? ⟨g, 6, none⟩ = some (.slice B2 p.del.length d2)) (k3 : w.cell? ⟨g, 7, none⟩ = some (.int .i64 p.cost)) (km : OpMem w B0 B1 B2 p) : OpsAt w (some ⟨g, 0, none⟩) [o, p] := fun j u hu => by
  cases j with
  | zero => simp at hu; subst hu; exact ⟨_, _, _, _, _, _, _, rfl, h0, h1, h2, h3, hm⟩
  | succ j =>
    cases j with
    | zero => simp at hu; subst hu; exact ⟨_, _, _, _, _, _, _, rfl, k0, k1, k2, k3, km⟩
    | succ j => simp at hu
end Go.Proofs.Ytihkgdlanfemcaa

namespace Go.Proofs.Ytihkgdlanfemcaa
open Go.RowKit
set_option linter.unusedVariables false
set_option linter.unusedSimpArgs false
end Go.Proofs.Ytihkgdlanfemcaa

namespace Go.Proofs.Ytihkgdlanfemcaa
open Go.RowKit
set_option linter.unusedVariables false
set_option linter.unusedSimpArgs false

/-- The operators that are no elements of a list. -/
def useOut (l : List Int) (k : Nat) : Bool := !decide ((k : Int) ∈ l)
end Go.Proofs.Ytihkgdlanfemcaa

namespace Go.Proofs.Ytihkgdlanfemcaa
open Go.RowKit
end Go.Proofs.Ytihkgdlanfemcaa

namespace Go.Proofs.Ytihkgdlanfemcaa
open Go.RowKit
end Go.Proofs.Ytihkgdlanfemcaa
