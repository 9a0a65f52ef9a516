/-
  relaxed.Close: what it returns.
-/
import Derived.Test.YtiaokmofoaeifaaTrel5
import Derived.Test.YtiaokmofoaeifaaRclose
namespace Go.Proofs.Ytiaokmofoaeifaa
open Go.RowKit
set_option linter.unusedVariables false
set_option linter.unusedSimpArgs false

/-- A function value that tells whether an operator may be used. -/
def Uses (F : FuncId) (caps : Array Value) (use : Nat → Bool) (m : Nat) (w : World) : Prop :=
  Enters F ∧ ∀ (k : Nat) (wr : World), k < m → Below w.heap.size w wr → Calls Try.prog F (#[.int .i64 k] ++ caps) wr fun e w' => e = .returned (.bool (use k)) ∧ Below wr.heap.size wr w'
theorem all_at (A B : Option Addr) (c d n : Nat) (bs : List Bool) (xs : List Int) (w : World) (hI : Bools w A bs) (hJ : Ints w B xs) (hn : bs.length = n) (hl : lenOk xs.length) (hb : n ≤ 1000000000000) (hx : ∀ x ∈ xs, 0 ≤ x ∧ x < (n : Int)) (v : Bool) (hv : v = true ↔ AllIn bs xs) :
    Calls Try.prog 79 #[.slice A n c, .slice B xs.length d] w fun e w' => e = .returned (.bool v) ∧ Below w.heap.size w w' := by
  subst hn
  exact all_any A B c d bs xs w hI hJ hl.le (by omega) hx v hv

set_option maxRecDepth 100000 in
set_option maxHeartbeats 1000000 in
theorem close_any (w : World) (t : TaskV) (Ai Ag Ao : Option Addr) (ci cg co : Nat) (hT : TaskMem w Ai Ag Ao t) (n : Nat) (hn : t.facts = n) (hn24 : n ≤ 1000000000000) (S : Option Addr) (cs : Nat) (st : List Int) (hS : Ints w S st) (hls : lenOk st.length) (hst : ∀ p ∈ st, 0 ≤ p ∧ p < (n : Int)) (hops : ∀ o ∈ t.ops, (∀ p ∈ o.pre, 0 ≤ p ∧ p < (n : Int)) ∧ ∀ p ∈ o.add, 0 ≤ p ∧ p < (n : Int)) (F : FuncId) (caps : Array Value) (use : Nat → Bool) (hU : Uses F caps use t.ops.length w) :
    Calls Try.prog 62 #[.agg #[.int .i64 t.facts, .slice Ai t.init.length ci, .slice Ag t.goal.length cg, .slice Ao t.ops.length co], .slice S st.length cs, .func (.func F) #[] caps] w fun e w' => ∃ g, e = .returned (.slice (some ⟨g, 0, none⟩) n n) ∧ w.heap.size ≤ g ∧ BArr w' g (closeV n st t.ops use) ∧ Below w.heap.size w w' := by
  have hls' := hls.le
  have hlo := hT.lops.le
  have hn' := hn
  rw [hn]
  have hmk := make_bools n hn24
  have hE := hU.1
  have hE' : ∀ (args : Array Value) (w : World), (callFunc F args).run Try.prog w = .ok (.enter F args) w := hE
  clear hE
  have HST := Lib.hid hst
  have HOPS := Lib.hid hops
  clear hst hops
  go_enter Try.func62, Try.ntmps62
  go_wp2_with fail
  go_loopg [20] (st.length) (fun gk i wr => ∃ k : Nat, Hid (k + gk = st.length) ∧ i = .int .i64 k ∧ BArr wr (w.heap.size + 1) (init3 n (st.take k)) ∧ Below w.heap.size w wr ∧ Cls wr [(w.heap.size, 0, .int .i64 (n : Int)), (w.heap.size, 1, .slice Ai t.init.length ci), (w.heap.size, 2, .slice Ag t.goal.length cg), (w.heap.size, 3, .slice Ao t.ops.length co)])
  case atStart =>
    refine ⟨0, Lib.hid (by omega), rfl, ?_, (by repeat (first | with_reducible exact Below.refl _ _ | with_reducible apply bdrew | with_reducible apply bdrewN | with_reducible apply balloc | ((with_reducible refine bset ?_ ?_ _); rotate_left; (first | omega | (simp <;> omega))))), (by simp [Cls, go_sem])⟩
    rw [List.take_zero, init3_nil]
    exact BArr.made _ _ _ (by simp)
  case round =>
    obtain ⟨k, hk, rfl, hA, hBq, hCq⟩ := hrel
    have dqs := hBq.size
    have Fq := hCq
    simp only [Cls, and_true] at Fq
    have yqw0 : w.heap.size < wr.heap.size := hCq.blk (b := w.heap.size) (k := 0) (v := .int .i64 (n : Int)) (by simp)
    have yqwp1 : w.heap.size < wr.heap.size + 1 := (by omega)
    have yqwp2 : w.heap.size < wr.heap.size + 1 + 1 := (by omega)
    by_cases hlt : k < st.length
    · obtain ⟨sd, x, rfl, hx, hc⟩ := (hS.below hBq).at_ hlt
      obtain ⟨x0, x1⟩ := HST.out x (List.mem_of_getElem? hx.out)
      have hlen := init3_len n (st.take k)
      obtain ⟨y, hy, hd, hf⟩ := hA.cell (i := x.toNat) (by omega)
      have hk1 := Lib.hid (show k + 1 + (gk - 1) = st.length ∧ gk - 1 < gk by have := hk.out; omega)
      go_wp2
      go_roundg (gk - 1)
      case measure => exact hk1.out.2
      case rel =>
        refine ⟨k + 1, Lib.hid hk1.out.1, by go_num, ?_, (by repeat (first | with_reducible exact hBq | with_reducible apply bdrew | with_reducible apply bdrewN | with_reducible apply balloc | ((with_reducible refine bset ?_ ?_ _); rotate_left; (first | omega | (simp <;> omega))))), (by simp [Cls, go_sem, Fq, yqw0, yqwp1, yqwp2])⟩
        rw [init3_succ hx.out]
        exact hA.set_ _ _
    · rw [List.take_of_length_le (by omega)] at hA
      obtain ⟨w2, rfl⟩ : ∃ wo : World, wo = wr := ⟨_, rfl⟩
      go_wp2_with fail
      go_loopg [10] (2 * falses (init3 n st) + 1) (fun gk ch wr => ∃ (V : List Bool) (b : Bool), ch = .bool b ∧ Hid (gk = 2 * falses V + b.toNat) ∧ BArr wr (w.heap.size + 1) V ∧ Sound n st t.ops use V ∧ Hid (b = false → ClosedB t.ops use t.ops.length V) ∧ Below w.heap.size w wr ∧ Cls wr [(w.heap.size, 0, .int .i64 (n : Int)), (w.heap.size, 1, .slice Ai t.init.length ci), (w.heap.size, 2, .slice Ag t.goal.length cg), (w.heap.size, 3, .slice Ao t.ops.length co)])
      case atStart => exact ⟨_, true, rfl, Lib.hid rfl, hA, init3_sound HST.out, Lib.hid (fun h => by cases h), (by repeat (first | with_reducible exact hBq | with_reducible apply bdrew | with_reducible apply bdrewN | with_reducible apply balloc | ((with_reducible refine bset ?_ ?_ _); rotate_left; (first | omega | (simp <;> omega))))), (by simp [Cls, go_sem, Fq, yqw0, yqwp1, yqwp2])⟩
      case round =>
        obtain ⟨V0, b, rfl, hgk, hA0, hV0, hcl, hBp, hCp⟩ := hrel
        obtain ⟨g3, rfl⟩ : ∃ g : Nat, g = gk := ⟨_, rfl⟩
        obtain ⟨w3, rfl⟩ : ∃ wo : World, wo = wr := ⟨_, rfl⟩
        cases b with
        | false =>
          have e := hV0.eq (hcl.out rfl)
          rw [e] at hA0
          clear e hV0 hcl
          have dps := hBp.size
          have Fp := hCp
          simp only [Cls, and_true] at Fp
          have ypw0 : w.heap.size < w3.heap.size := hCp.blk (b := w.heap.size) (k := 0) (v := .int .i64 (n : Int)) (by simp)
          have ypwp1 : w.heap.size < w3.heap.size + 1 := (by omega)
          have ypwp2 : w.heap.size < w3.heap.size + 1 + 1 := (by omega)
          go_wp2
          go_ret
          exact ⟨_, rfl, by omega, hA0, hBp⟩
        | true =>
          have dps := hBp.size
          have Fp := hCp
          simp only [Cls, and_true] at Fp
          have ypw0 : w.heap.size < w3.heap.size := hCp.blk (b := w.heap.size) (k := 0) (v := .int .i64 (n : Int)) (by simp)
          have ypwp1 : w.heap.size < w3.heap.size + 1 := (by omega)
          have ypwp2 : w.heap.size < w3.heap.size + 1 + 1 := (by omega)
          go_wp2_with fail
          go_loopg [10, 32] (t.ops.length) (fun gk ch i wr => ∃ (V : List Bool) (b : Bool) (k : Nat), ch = .bool b ∧ i = .int .i64 k ∧ Hid (k + gk = t.ops.length) ∧ BArr wr (w.heap.size + 1) V ∧ Sound n st t.ops use V ∧ Hid (b = true → falses V < falses V0) ∧ Hid (b = false → falses V ≤ falses V0 ∧ ClosedB t.ops use k V) ∧ Below w.heap.size w wr ∧ Cls wr [(w.heap.size, 0, .int .i64 (n : Int)), (w.heap.size, 1, .slice Ai t.init.length ci), (w.heap.size, 2, .slice Ag t.goal.length cg), (w.heap.size, 3, .slice Ao t.ops.length co)])
          case atStart => exact ⟨V0, false, 0, rfl, rfl, Lib.hid (by omega), hA0, hV0, Lib.hid (fun h => by cases h), Lib.hid (fun _ => ⟨Nat.le_refl _, closedB_zero⟩), (by repeat (first | with_reducible exact hBp | with_reducible apply bdrew | with_reducible apply bdrewN | with_reducible apply balloc | ((with_reducible refine bset ?_ ?_ _); rotate_left; (first | omega | (simp <;> omega))))), (by simp [Cls, go_sem, Fp, ypw0, ypwp1, ypwp2])⟩
          case round =>
            obtain ⟨V1, b1, k, rfl, rfl, hk, hA1, hV1, ht1, hf1, hBs, hCs⟩ := hrel
            obtain ⟨g4, rfl⟩ : ∃ g : Nat, g = gk := ⟨_, rfl⟩
            obtain ⟨w4, rfl⟩ : ∃ wo : World, wo = wr := ⟨_, rfl⟩
            have dss := hBs.size
            have Fs := hCs
            simp only [Cls, and_true] at Fs
            have ysw0 : w.heap.size < w4.heap.size := hCs.blk (b := w.heap.size) (k := 0) (v := .int .i64 (n : Int)) (by simp)
            have yswp1 : w.heap.size < w4.heap.size + 1 := (by omega)
            have yswp2 : w.heap.size < w4.heap.size + 1 + 1 := (by omega)
            by_cases hlt : k < t.ops.length
            · obtain ⟨ad, o, A0, c0, A1, c1, A2, c2, rfl, ho, hc0, hc1, hc2, hc3, hm⟩ := hT.ops.at2 hBs hlt
              have hoo := Lib.hid (HOPS.out o (List.mem_of_getElem? ho.out))
              have hVl := Lib.hid hV1.len
              have hk1 := Lib.hid (show k + 1 + (g4 - 1) = t.ops.length ∧ g4 - 1 < g4 by have := hk.out; omega)
              cases hu : use k with
              | false =>
                have HU := Lib.hid hu
                clear hu
                go_wp2_with fail
                refine (hU.2 k _ hlt (by repeat (first | with_reducible exact hBs | with_reducible apply bdrew | with_reducible apply bdrewN | with_reducible apply balloc | ((with_reducible refine bset ?_ ?_ _); rotate_left; (first | omega | (simp <;> omega)))))).mono ?_
                rintro e w6 ⟨he, hB6⟩
                rw [HU.out] at he
                subst he
                have D6 := dstep w hB6 (by repeat (first | with_reducible exact hBs | with_reducible apply bdrew | with_reducible apply bdrewN | with_reducible apply balloc | ((with_reducible refine bset ?_ ?_ _); rotate_left; (first | omega | (simp <;> omega)))))
                have d6s := D6.size
                have C6 := Cls.below (l := [(w.heap.size, 0, .int .i64 (n : Int)), (w.heap.size, 1, .slice Ai t.init.length ci), (w.heap.size, 2, .slice Ag t.goal.length cg), (w.heap.size, 3, .slice (some ad) t.ops.length co), (w4.heap.size, 0, .slice A0 o.pre.length c0), (w4.heap.size, 1, .slice A1 o.add.length c1), (w4.heap.size, 2, .slice A2 o.del.length c2), (w4.heap.size, 3, .int .i64 o.cost)]) hB6 (by simp [Cls, go_sem, Fs, ysw0, yswp1, yswp2])
                have F6 := C6
                simp only [Cls, and_true] at F6
                have y6w0 : w.heap.size < w6.heap.size := C6.blk (b := w.heap.size) (k := 0) (v := .int .i64 (n : Int)) (by simp)
                have y6wp1 : w.heap.size < w6.heap.size + 1 := (by omega)
                have y6wp2 : w.heap.size < w6.heap.size + 1 + 1 := (by omega)
                have y6w40 : w4.heap.size < w6.heap.size := C6.blk (b := w4.heap.size) (k := 0) (v := .slice A0 o.pre.length c0) (by simp)
                have y6w4p1 : w4.heap.size < w6.heap.size + 1 := (by omega)
                have y6w4p2 : w4.heap.size < w6.heap.size + 1 + 1 := (by omega)
                have E6 := dstep w4 hB6 (by repeat (first | with_reducible exact Below.refl _ _ | with_reducible apply bdrew | with_reducible apply bdrewN | with_reducible apply balloc | ((with_reducible refine bset ?_ ?_ _); rotate_left; (first | omega | (simp <;> omega)))))
                go_wp2
                go_roundg (g4 - 1)
                case measure => exact hk1.out.2
                case rel =>
                  refine ⟨V1, b1, k + 1, rfl, by go_num, Lib.hid hk1.out.1, BArr.below hA1 E6, hV1, ht1, Lib.hid (fun h => ⟨(hf1.out h).1, closedB_succ (hf1.out h).2 ho.out (fun hh hp => absurd hh (by rw [HU.out]; simp))⟩), (by repeat (first | with_reducible exact D6 | with_reducible apply bdrew | with_reducible apply bdrewN | with_reducible apply balloc | ((with_reducible refine bset ?_ ?_ _); rotate_left; (first | omega | (simp <;> omega))))), (by simp [Cls, go_sem, F6, y6w0, y6wp1, y6wp2, y6w40, y6w4p1, y6w4p2])⟩
              | true =>
                have HU := Lib.hid hu
                clear hu
                by_cases hall : AllIn V1 o.pre
                · skip
                  have HAll := Lib.hid hall
                  clear hall
                  go_wp2_with fail
                  refine (hU.2 k _ hlt (by repeat (first | with_reducible exact hBs | with_reducible apply bdrew | with_reducible apply bdrewN | with_reducible apply balloc | ((with_reducible refine bset ?_ ?_ _); rotate_left; (first | omega | (simp <;> omega)))))).mono ?_
                  rintro e w6 ⟨he, hB6⟩
                  rw [HU.out] at he
                  subst he
                  have D6 := dstep w hB6 (by repeat (first | with_reducible exact hBs | with_reducible apply bdrew | with_reducible apply bdrewN | with_reducible apply balloc | ((with_reducible refine bset ?_ ?_ _); rotate_left; (first | omega | (simp <;> omega)))))
                  have d6s := D6.size
                  have C6 := Cls.below (l := [(w.heap.size, 0, .int .i64 (n : Int)), (w.heap.size, 1, .slice Ai t.init.length ci), (w.heap.size, 2, .slice Ag t.goal.length cg), (w.heap.size, 3, .slice (some ad) t.ops.length co), (w4.heap.size, 0, .slice A0 o.pre.length c0), (w4.heap.size, 1, .slice A1 o.add.length c1), (w4.heap.size, 2, .slice A2 o.del.length c2), (w4.heap.size, 3, .int .i64 o.cost)]) hB6 (by simp [Cls, go_sem, Fs, ysw0, yswp1, yswp2])
                  have F6 := C6
                  simp only [Cls, and_true] at F6
                  have y6w0 : w.heap.size < w6.heap.size := C6.blk (b := w.heap.size) (k := 0) (v := .int .i64 (n : Int)) (by simp)
                  have y6wp1 : w.heap.size < w6.heap.size + 1 := (by omega)
                  have y6wp2 : w.heap.size < w6.heap.size + 1 + 1 := (by omega)
                  have y6w40 : w4.heap.size < w6.heap.size := C6.blk (b := w4.heap.size) (k := 0) (v := .slice A0 o.pre.length c0) (by simp)
                  have y6w4p1 : w4.heap.size < w6.heap.size + 1 := (by omega)
                  have y6w4p2 : w4.heap.size < w6.heap.size + 1 + 1 := (by omega)
                  have E6 := dstep w4 hB6 (by repeat (first | with_reducible exact Below.refl _ _ | with_reducible apply bdrew | with_reducible apply bdrewN | with_reducible apply balloc | ((with_reducible refine bset ?_ ?_ _); rotate_left; (first | omega | (simp <;> omega)))))
                  go_wp2_with fail
                  refine (all_at _ _ _ _ _ _ _ _ (BArr.below hA1 (by repeat (first | with_reducible exact E6 | with_reducible apply bdrew | with_reducible apply bdrewN | with_reducible apply balloc | ((with_reducible refine bset ?_ ?_ _); rotate_left; (first | omega | (simp <;> omega)))))).bools (hm.pre.below (by repeat (first | with_reducible exact D6 | with_reducible apply bdrew | with_reducible apply bdrewN | with_reducible apply balloc | ((with_reducible refine bset ?_ ?_ _); rotate_left; (first | omega | (simp <;> omega)))))) hVl.out hm.lpre hn24 hoo.out.1 true (by simp [HAll.out])).mono ?_
                  rintro e w7 ⟨rfl, hB7⟩
                  have D7 := dstep w hB7 (by repeat (first | with_reducible exact D6 | with_reducible apply bdrew | with_reducible apply bdrewN | with_reducible apply balloc | ((with_reducible refine bset ?_ ?_ _); rotate_left; (first | omega | (simp <;> omega)))))
                  have d7s := D7.size
                  have C7 := Cls.below (l := [(w.heap.size, 0, .int .i64 (n : Int)), (w.heap.size, 1, .slice Ai t.init.length ci), (w.heap.size, 2, .slice Ag t.goal.length cg), (w.heap.size, 3, .slice (some ad) t.ops.length co), (w4.heap.size, 0, .slice A0 o.pre.length c0), (w4.heap.size, 1, .slice A1 o.add.length c1), (w4.heap.size, 2, .slice A2 o.del.length c2), (w4.heap.size, 3, .int .i64 o.cost)]) hB7 (by simp [Cls, go_sem, F6, y6w0, y6wp1, y6wp2, y6w40, y6w4p1, y6w4p2])
                  have F7 := C7
                  simp only [Cls, and_true] at F7
                  have y7w0 : w.heap.size < w7.heap.size := C7.blk (b := w.heap.size) (k := 0) (v := .int .i64 (n : Int)) (by simp)
                  have y7wp1 : w.heap.size < w7.heap.size + 1 := (by omega)
                  have y7wp2 : w.heap.size < w7.heap.size + 1 + 1 := (by omega)
                  have y7w40 : w4.heap.size < w7.heap.size := C7.blk (b := w4.heap.size) (k := 0) (v := .slice A0 o.pre.length c0) (by simp)
                  have y7w4p1 : w4.heap.size < w7.heap.size + 1 := (by omega)
                  have y7w4p2 : w4.heap.size < w7.heap.size + 1 + 1 := (by omega)
                  have E7 := dstep w4 hB7 (by repeat (first | with_reducible exact E6 | with_reducible apply bdrew | with_reducible apply bdrewN | with_reducible apply balloc | ((with_reducible refine bset ?_ ?_ _); rotate_left; (first | omega | (simp <;> omega)))))
                  have hlc' := hm.ladd.le
                  have hA7 := BArr.below hA1 E7
                  have hpreR := Lib.hid (hV1.pre HAll.out (fun q hq => (hoo.out.1 q hq).1))
                  go_wp2_with fail
                  go_loopg [10, 51] (o.add.length) (fun gk ch i wr => ∃ (V : List Bool) (b : Bool) (j : Nat), ch = .bool b ∧ i = .int .i64 j ∧ Hid (j + gk = o.add.length) ∧ BArr wr (w.heap.size + 1) V ∧ Sound n st t.ops use V ∧ Hid (b = true → falses V < falses V0) ∧ Hid (b = false → falses V ≤ falses V0 ∧ ClosedB t.ops use k V ∧ ∀ p ∈ o.add.take j, V[p.toNat]? = some true) ∧ Below w.heap.size w wr ∧ Cls wr [(w.heap.size, 0, .int .i64 (n : Int)), (w.heap.size, 1, .slice Ai t.init.length ci), (w.heap.size, 2, .slice Ag t.goal.length cg), (w.heap.size, 3, .slice (some ad) t.ops.length co)])
                  case atStart => exact ⟨V1, b1, 0, rfl, rfl, Lib.hid (by omega), hA7, hV1, ht1, Lib.hid (fun h => ⟨(hf1.out h).1, (hf1.out h).2, by simp⟩), (by repeat (first | with_reducible exact D7 | with_reducible apply bdrew | with_reducible apply bdrewN | with_reducible apply balloc | ((with_reducible refine bset ?_ ?_ _); rotate_left; (first | omega | (simp <;> omega))))), (by simp [Cls, go_sem, F7, y7w0, y7wp1, y7wp2, y7w40, y7w4p1, y7w4p2])⟩
                  case round =>
                    obtain ⟨V2, b2, j, rfl, rfl, hj, hA2, hV2, ht2, hf2, hBu, hCu⟩ := hrel
                    obtain ⟨w8, rfl⟩ : ∃ wo : World, wo = wr := ⟨_, rfl⟩
                    have dus := hBu.size
                    have Fu := hCu
                    simp only [Cls, and_true] at Fu
                    have yuw0 : w.heap.size < w8.heap.size := hCu.blk (b := w.heap.size) (k := 0) (v := .int .i64 (n : Int)) (by simp)
                    have yuwp1 : w.heap.size < w8.heap.size + 1 := (by omega)
                    have yuwp2 : w.heap.size < w8.heap.size + 1 + 1 := (by omega)
                    by_cases hlj : j < o.add.length
                    · obtain ⟨pd, p, rfl, hp, hpc⟩ := (hm.add.below hBu).at_ hlj
                      obtain ⟨p0, p1⟩ := hoo.out.2 p (List.mem_of_getElem? hp.out)
                      have hl2 := hV2.len
                      obtain ⟨y, hy, hyc, hyf⟩ := hA2.cell (i := p.toNat) (by omega)
                      have hj1 := Lib.hid (show j + 1 + (gk - 1) = o.add.length ∧ gk - 1 < gk by have := hj.out; omega)
                      have hset := Lib.hid (hV2.set_ ho.out HU.out hpreR.out (List.mem_of_getElem? hp.out) p0)
                      have hfal := Lib.hid (fun e : y = false => falses_set (bs := V2) (i := p.toNat) (by rw [hy.out, e]))
                      have hsame : y = true → V2.set p.toNat true = V2 := fun e => by
                        apply List.ext_getElem?
                        intro q
                        rw [List.getElem?_set]
                        split
                        · rename_i e2; subst e2; rw [if_pos (by omega), hy.out, e]
                        · rfl
                      have hsame' := Lib.hid hsame
                      clear hsame hV2
                      cases b2 with
                      | true =>
                        go_wp2
                        go_roundg (gk - 1)
                        case measure => exact hj1.out.2
                        case rel =>
                          refine ⟨V2.set p.toNat true, true, j + 1, rfl, by go_num, Lib.hid hj1.out.1, hA2.set_ _ _, hset.out, Lib.hid (fun _ => ?_), Lib.hid (fun h => by cases h), (by repeat (first | with_reducible exact hBu | with_reducible apply bdrew | with_reducible apply bdrewN | with_reducible apply balloc | ((with_reducible refine bset ?_ ?_ _); rotate_left; (first | omega | (simp <;> omega))))), (by simp [Cls, go_sem, Fu, yuw0, yuwp1, yuwp2])⟩
                          have h2 := ht2.out (by simp)
                          cases y with
                          | true => rw [hsame'.out (by simp)]; exact h2
                          | false => have := hfal.out (by simp); omega
                      | false =>
                        cases y with
                        | true =>
                          go_wp2
                          go_roundg (gk - 1)
                          case measure => exact hj1.out.2
                          case rel =>
                            refine ⟨V2.set p.toNat true, false, j + 1, rfl, by go_num, Lib.hid hj1.out.1, hA2.set_ _ _, hset.out, Lib.hid (fun h => by cases h), Lib.hid (fun _ => ?_), (by repeat (first | with_reducible exact hBu | with_reducible apply bdrew | with_reducible apply bdrewN | with_reducible apply balloc | ((with_reducible refine bset ?_ ?_ _); rotate_left; (first | omega | (simp <;> omega))))), (by simp [Cls, go_sem, Fu, yuw0, yuwp1, yuwp2])⟩
                            rw [hsame'.out (by simp)]
                            exact ⟨(hf2.out (by simp)).1, (hf2.out (by simp)).2.1, forall_take_succ (P := fun p : Int => V2[p.toNat]? = some true) hp.out (hf2.out (by simp)).2.2 hy.out⟩
                        | false =>
                          go_wp2
                          go_roundg (gk - 1)
                          case measure => exact hj1.out.2
                          case rel =>
                            refine ⟨V2.set p.toNat true, true, j + 1, rfl, by go_num, Lib.hid hj1.out.1, hA2.set_ _ _, hset.out, Lib.hid (fun _ => ?_), Lib.hid (fun h => by cases h), (by repeat (first | with_reducible exact hBu | with_reducible apply bdrew | with_reducible apply bdrewN | with_reducible apply balloc | ((with_reducible refine bset ?_ ?_ _); rotate_left; (first | omega | (simp <;> omega))))), (by simp [Cls, go_sem, Fu, yuw0, yuwp1, yuwp2])⟩
                            have := hfal.out (by simp)
                            have := (hf2.out (by simp)).1
                            omega
                    · go_wp2
                      go_roundg (g4 - 1)
                      case measure => exact hk1.out.2
                      case rel =>
                        refine ⟨V2, b2, k + 1, rfl, by go_num, Lib.hid hk1.out.1, hA2, hV2, ht2, Lib.hid (fun h => ⟨(hf2.out h).1, closedB_succ (hf2.out h).2.1 ho.out (fun _ _ => forall_take_all hlj (hf2.out h).2.2)⟩), (by repeat (first | with_reducible exact hBu | with_reducible apply bdrew | with_reducible apply bdrewN | with_reducible apply balloc | ((with_reducible refine bset ?_ ?_ _); rotate_left; (first | omega | (simp <;> omega))))), (by simp [Cls, go_sem, Fu, yuw0, yuwp1, yuwp2])⟩
                · skip
                  have HAll := Lib.hid hall
                  clear hall
                  go_wp2_with fail
                  refine (hU.2 k _ hlt (by repeat (first | with_reducible exact hBs | with_reducible apply bdrew | with_reducible apply bdrewN | with_reducible apply balloc | ((with_reducible refine bset ?_ ?_ _); rotate_left; (first | omega | (simp <;> omega)))))).mono ?_
                  rintro e w6 ⟨he, hB6⟩
                  rw [HU.out] at he
                  subst he
                  have D6 := dstep w hB6 (by repeat (first | with_reducible exact hBs | with_reducible apply bdrew | with_reducible apply bdrewN | with_reducible apply balloc | ((with_reducible refine bset ?_ ?_ _); rotate_left; (first | omega | (simp <;> omega)))))
                  have d6s := D6.size
                  have C6 := Cls.below (l := [(w.heap.size, 0, .int .i64 (n : Int)), (w.heap.size, 1, .slice Ai t.init.length ci), (w.heap.size, 2, .slice Ag t.goal.length cg), (w.heap.size, 3, .slice (some ad) t.ops.length co), (w4.heap.size, 0, .slice A0 o.pre.length c0), (w4.heap.size, 1, .slice A1 o.add.length c1), (w4.heap.size, 2, .slice A2 o.del.length c2), (w4.heap.size, 3, .int .i64 o.cost)]) hB6 (by simp [Cls, go_sem, Fs, ysw0, yswp1, yswp2])
                  have F6 := C6
                  simp only [Cls, and_true] at F6
                  have y6w0 : w.heap.size < w6.heap.size := C6.blk (b := w.heap.size) (k := 0) (v := .int .i64 (n : Int)) (by simp)
                  have y6wp1 : w.heap.size < w6.heap.size + 1 := (by omega)
                  have y6wp2 : w.heap.size < w6.heap.size + 1 + 1 := (by omega)
                  have y6w40 : w4.heap.size < w6.heap.size := C6.blk (b := w4.heap.size) (k := 0) (v := .slice A0 o.pre.length c0) (by simp)
                  have y6w4p1 : w4.heap.size < w6.heap.size + 1 := (by omega)
                  have y6w4p2 : w4.heap.size < w6.heap.size + 1 + 1 := (by omega)
                  have E6 := dstep w4 hB6 (by repeat (first | with_reducible exact Below.refl _ _ | with_reducible apply bdrew | with_reducible apply bdrewN | with_reducible apply balloc | ((with_reducible refine bset ?_ ?_ _); rotate_left; (first | omega | (simp <;> omega)))))
                  go_wp2_with fail
                  refine (all_at _ _ _ _ _ _ _ _ (BArr.below hA1 (by repeat (first | with_reducible exact E6 | with_reducible apply bdrew | with_reducible apply bdrewN | with_reducible apply balloc | ((with_reducible refine bset ?_ ?_ _); rotate_left; (first | omega | (simp <;> omega)))))).bools (hm.pre.below (by repeat (first | with_reducible exact D6 | with_reducible apply bdrew | with_reducible apply bdrewN | with_reducible apply balloc | ((with_reducible refine bset ?_ ?_ _); rotate_left; (first | omega | (simp <;> omega)))))) hVl.out hm.lpre hn24 hoo.out.1 false (by simp [HAll.out])).mono ?_
                  rintro e w7 ⟨rfl, hB7⟩
                  have D7 := dstep w hB7 (by repeat (first | with_reducible exact D6 | with_reducible apply bdrew | with_reducible apply bdrewN | with_reducible apply balloc | ((with_reducible refine bset ?_ ?_ _); rotate_left; (first | omega | (simp <;> omega)))))
                  have d7s := D7.size
                  have C7 := Cls.below (l := [(w.heap.size, 0, .int .i64 (n : Int)), (w.heap.size, 1, .slice Ai t.init.length ci), (w.heap.size, 2, .slice Ag t.goal.length cg), (w.heap.size, 3, .slice (some ad) t.ops.length co), (w4.heap.size, 0, .slice A0 o.pre.length c0), (w4.heap.size, 1, .slice A1 o.add.length c1), (w4.heap.size, 2, .slice A2 o.del.length c2), (w4.heap.size, 3, .int .i64 o.cost)]) hB7 (by simp [Cls, go_sem, F6, y6w0, y6wp1, y6wp2, y6w40, y6w4p1, y6w4p2])
                  have F7 := C7
                  simp only [Cls, and_true] at F7
                  have y7w0 : w.heap.size < w7.heap.size := C7.blk (b := w.heap.size) (k := 0) (v := .int .i64 (n : Int)) (by simp)
                  have y7wp1 : w.heap.size < w7.heap.size + 1 := (by omega)
                  have y7wp2 : w.heap.size < w7.heap.size + 1 + 1 := (by omega)
                  have y7w40 : w4.heap.size < w7.heap.size := C7.blk (b := w4.heap.size) (k := 0) (v := .slice A0 o.pre.length c0) (by simp)
                  have y7w4p1 : w4.heap.size < w7.heap.size + 1 := (by omega)
                  have y7w4p2 : w4.heap.size < w7.heap.size + 1 + 1 := (by omega)
                  have E7 := dstep w4 hB7 (by repeat (first | with_reducible exact E6 | with_reducible apply bdrew | with_reducible apply bdrewN | with_reducible apply balloc | ((with_reducible refine bset ?_ ?_ _); rotate_left; (first | omega | (simp <;> omega)))))
                  go_wp2
                  go_roundg (g4 - 1)
                  case measure => exact hk1.out.2
                  case rel =>
                    refine ⟨V1, b1, k + 1, rfl, by go_num, Lib.hid hk1.out.1, BArr.below hA1 E7, hV1, ht1, Lib.hid (fun h => ⟨(hf1.out h).1, closedB_succ (hf1.out h).2 ho.out (fun hh hp => absurd (show AllIn V1 o.pre from hp) HAll.out)⟩), (by repeat (first | with_reducible exact D7 | with_reducible apply bdrew | with_reducible apply bdrewN | with_reducible apply balloc | ((with_reducible refine bset ?_ ?_ _); rotate_left; (first | omega | (simp <;> omega))))), (by simp [Cls, go_sem, F7, y7w0, y7wp1, y7wp2, y7w40, y7w4p1, y7w4p2])⟩
            · have hkk := Lib.hid (show k = t.ops.length by have := hk.out; omega)
              go_wp2
              go_roundg (2 * falses V1 + b1.toNat)
              case measure =>
                rw [hgk.out]
                cases b1 with
                | true => have := ht1.out rfl; simp; omega
                | false => have := (hf1.out rfl).1; simp; omega
              case rel => exact ⟨V1, b1, rfl, Lib.hid rfl, hA1, hV1, Lib.hid (fun h => by rw [← hkk.out]; exact (hf1.out h).2), (by repeat (first | with_reducible exact hBs | with_reducible apply bdrew | with_reducible apply bdrewN | with_reducible apply balloc | ((with_reducible refine bset ?_ ?_ _); rotate_left; (first | omega | (simp <;> omega))))), (by simp [Cls, go_sem, Fs, ysw0, yswp1, yswp2])⟩


end Go.Proofs.Ytiaokmofoaeifaa
