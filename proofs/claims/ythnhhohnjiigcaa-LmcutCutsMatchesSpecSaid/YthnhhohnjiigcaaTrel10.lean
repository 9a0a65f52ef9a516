/-
  S.Within: what it returns.
-/
import Derived.Test.YthnhhohnjiigcaaTrel9
import Derived.Test.YthnhhohnjiigcaaTrel7
import Derived.Test.YthnhhohnjiigcaaTmeet
namespace Go.Proofs.Ythnhhohnjiigcaa
open Go.RowKit
set_option linter.unusedVariables false
set_option linter.unusedSimpArgs false

set_option maxRecDepth 100000 in
set_option maxHeartbeats 1000000 in
theorem within_any (w : World) (t : TaskV) (Ai Ag Ao : Option Addr) (ci cg co : Nat) (hT : TaskMem w Ai Ag Ao t) (n : Nat) (hn : t.facts = n) (hn24 : n ≤ 1000000000) (S : Option Addr) (cs : Nat) (st : List Int) (hS : Ints w S st) (hst : SetP st (n : Int)) (hnil : S = none → st = [] ∧ cs = 0) (hops : ∀ o ∈ t.ops, (∀ p ∈ o.pre, 0 ≤ p ∧ p < (n : Int)) ∧ ∀ p ∈ o.add, 0 ≤ p ∧ p < (n : Int)) (D : Option Addr) (cd m : Nat) (ds : List Bool) (hD : Bools w D ds) (hdm : ds.length = m ∧ m = t.ops.length) (use : Nat → Bool) (huse : ∀ k d, ds[k]? = some d → use k = !d) :
    Calls Try.prog 37 #[.agg #[.int .i64 t.facts, .slice Ai t.init.length ci, .slice Ag t.goal.length cg, .slice Ao t.ops.length co], .slice S st.length cs, .slice D m cd] w fun e w' => ∃ v, e = .returned v ∧ OwnI w.heap.size w' v (withinV n st t.ops use) ∧ Below w.heap.size w w' := by
  rw [hn]
  have HOPS := Lib.hid hops
  have HUSE := Lib.hid huse
  have hno := hT.lops.le
  have HDM := Lib.hid hdm
  have HN := Lib.hid hn
  have HS := Lib.hid hst
  have HNIL := Lib.hid hnil
  have HSL := Lib.hid (show st.length ≤ n by have := hst.length (by omega); omega)
  clear hops huse hdm hn hst hnil
  go_enter Try.func37, Try.ntmps37
  go_wp2_with fail
  refine (copy_any _ _ _ _ st (hS.below (by repeat (first | with_reducible exact Below.refl _ _ | with_reducible apply bdrew | with_reducible apply bdrewN | with_reducible apply balloc | ((with_reducible refine bset ?_ ?_ _); rotate_left; (first | omega | (simp <;> omega)))))) rfl HNIL.out (by have := HSL.out; omega)).mono ?_
  rintro e w1 ⟨A1, c1, rfl, o1, hnil1, hB1⟩
  have D1 := dstep w hB1 (by repeat (first | with_reducible exact Below.refl _ _ | with_reducible apply bdrew | with_reducible apply bdrewN | with_reducible apply balloc | ((with_reducible refine bset ?_ ?_ _); rotate_left; (first | omega | (simp <;> omega)))))
  have d1s := D1.size
  have C1 := Cls.below (l := [(w.heap.size, 0, .int .i64 (n : Int)), (w.heap.size, 1, .slice Ai t.init.length ci), (w.heap.size, 2, .slice Ag t.goal.length cg), (w.heap.size, 3, .slice Ao t.ops.length co)]) hB1 (by simp [Cls, go_sem])
  have F1 := C1
  simp only [Cls, and_true] at F1
  have y1w0 : w.heap.size < w1.heap.size := C1.blk (b := w.heap.size) (k := 0) (v := .int .i64 (n : Int)) (by simp)
  have y1wp1 : w.heap.size < w1.heap.size + 1 := (by omega)
  have y1wp2 : w.heap.size < w1.heap.size + 1 + 1 := (by omega)
  have hB1s := hB1.size
  clear hnil1
  go_wp2_with fail
  go_loopg [7, 8] (n + 1) (fun gk v i wr => ∃ (l : List Int) (r : Nat), i = .int .i64 r ∧ Hid (r + gk = n + 1) ∧ OwnI w.heap.size wr v l ∧ Hid (SoundL n st t.ops use l) ∧ Hid (Rounds n st t.ops use r l) ∧ Below w.heap.size w wr ∧ Cls wr [(w.heap.size, 0, .int .i64 (n : Int)), (w.heap.size, 1, .slice Ai t.init.length ci), (w.heap.size, 2, .slice Ag t.goal.length cg), (w.heap.size, 3, .slice Ao t.ops.length co)])
  case atStart => exact ⟨st, 0, rfl, Lib.hid (by omega), OwnI.mono o1 (by simp), Lib.hid (SoundL.start HS.out), Lib.hid (.inr (Nat.zero_le _)), (by repeat (first | with_reducible exact D1 | with_reducible apply bdrew | with_reducible apply bdrewN | with_reducible apply balloc | ((with_reducible refine bset ?_ ?_ _); rotate_left; (first | omega | (simp <;> omega))))), (by simp [Cls, go_sem, F1, y1w0, y1wp1, y1wp2])⟩
  case round =>
    obtain ⟨l0, r, rfl, hr, ho0, hs0, hd0, hBr, hCr⟩ := hrel
    obtain ⟨g2, rfl⟩ : ∃ g : Nat, g = gk := ⟨_, rfl⟩
    obtain ⟨w2, rfl⟩ : ∃ wo : World, wo = wr := ⟨_, rfl⟩
    have drs := hBr.size
    have Fr := hCr
    simp only [Cls, and_true] at Fr
    have yrw0 : w.heap.size < w2.heap.size := hCr.blk (b := w.heap.size) (k := 0) (v := .int .i64 (n : Int)) (by simp)
    have yrwp1 : w.heap.size < w2.heap.size + 1 := (by omega)
    have yrwp2 : w.heap.size < w2.heap.size + 1 + 1 := (by omega)
    by_cases hlt : r ≤ n
    · have hr1 := Lib.hid (show r + 1 + (g2 - 1) = n + 1 ∧ g2 - 1 < g2 by have := hr.out; omega)
      go_wp2_with fail
      go_loopg [7, 9] (t.ops.length) (fun gk v i wr => ∃ (l : List Int) (k : Nat), i = .int .i64 k ∧ Hid (k + gk = t.ops.length) ∧ OwnI w.heap.size wr v l ∧ Hid (SoundL n st t.ops use l) ∧ Hid (Pass t.ops use k l0 l) ∧ Below w.heap.size w wr ∧ Cls wr [(w.heap.size, 0, .int .i64 (n : Int)), (w.heap.size, 1, .slice Ai t.init.length ci), (w.heap.size, 2, .slice Ag t.goal.length cg), (w.heap.size, 3, .slice Ao t.ops.length co)])
      case atStart => exact ⟨l0, 0, rfl, Lib.hid (by omega), ho0, hs0, Lib.hid (Pass.start _), (by repeat (first | with_reducible exact hBr | with_reducible apply bdrew | with_reducible apply bdrewN | with_reducible apply balloc | ((with_reducible refine bset ?_ ?_ _); rotate_left; (first | omega | (simp <;> omega))))), (by simp [Cls, go_sem, Fr, yrw0, yrwp1, yrwp2])⟩
      case round =>
        obtain ⟨l1, k, rfl, hk, ho1, hs1, hp1, hBs, hCs⟩ := hrel
        obtain ⟨g3, rfl⟩ : ∃ g : Nat, g = gk := ⟨_, rfl⟩
        obtain ⟨w3, rfl⟩ : ∃ wo : World, wo = wr := ⟨_, rfl⟩
        have dss := hBs.size
        have Fs := hCs
        simp only [Cls, and_true] at Fs
        have ysw0 : w.heap.size < w3.heap.size := hCs.blk (b := w.heap.size) (k := 0) (v := .int .i64 (n : Int)) (by simp)
        have yswp1 : w.heap.size < w3.heap.size + 1 := (by omega)
        have yswp2 : w.heap.size < w3.heap.size + 1 + 1 := (by omega)
        by_cases hlt2 : k < t.ops.length
        · have hk1 := Lib.hid (show k + 1 + (g3 - 1) = t.ops.length ∧ g3 - 1 < g3 by have := hk.out; omega)
          have hkm : k < m := by have := HDM.out; omega
          have hm9 : m ≤ 9223372036854775807 := by have := HDM.out; omega
          obtain ⟨ad, o, A0, c0, A2, c2, A4, c4, rfl, ho, hc0, hc1, hc2, hc3, hm⟩ := hT.ops.at_ hlt2
          have hs0 := (hBs.cell (World.block_lt_of_cell? w _ hc0)).trans hc0
          have hs1' := (hBs.cell (World.block_lt_of_cell? w _ hc1)).trans hc1
          have hoo := Lib.hid (HOPS.out o (List.mem_of_getElem? ho.out))
          obtain ⟨dd, x, rfl, hx, hcx⟩ := (hD.below hBs).at_ (k := k) (by have := HDM.out; omega)
          have hux := Lib.hid (HUSE.out k x hx.out)
          have hlp := hm.lpre.le
          have hla := hm.ladd.le
          have hl1 := Lib.hid hs1.out.len
          cases x with
          | true =>
            go_wp2
            go_roundg (g3 - 1)
            case measure => exact hk1.out.2
            case rel => exact ⟨l1, k + 1, by go_num, Lib.hid hk1.out.1, ho1, hs1, Lib.hid (hp1.out.succ ho.out fun _ h => absurd h (by rw [hux.out]; simp)), (by repeat (first | with_reducible exact hBs | with_reducible apply bdrew | with_reducible apply bdrewN | with_reducible apply balloc | ((with_reducible refine bset ?_ ?_ _); rotate_left; (first | omega | (simp <;> omega))))), (by simp [Cls, go_sem, Fs, ysw0, yswp1, yswp2])⟩
          | false =>
            obtain ⟨A5, c5, rfl, hnil5, hI5⟩ := ho1.form
            have hnil5' := Lib.hid hnil5
            clear hnil5
            by_cases hq : ∀ x ∈ o.pre, x ∈ l1
            · have hqd := Lib.hid (decide_eq_true hq)
              have hqR := Lib.hid (fun q h => hs1.out.sound q (hq q h))
              clear hq
              go_wp2_with fail
              refine (subset_any _ _ _ _ _ _ _ (hm.pre.below (by repeat (first | with_reducible exact hBs | with_reducible apply bdrew | with_reducible apply bdrewN | with_reducible apply balloc | ((with_reducible refine bset ?_ ?_ _); rotate_left; (first | omega | (simp <;> omega)))))) (hI5.below (by exact Below.refl _ _)) hlp (by have := hl1.out; omega)).mono ?_
              rintro e w' ⟨he, rfl⟩
              rw [hqd.out] at he
              subst he
              go_wp2_with fail
              go_loopg [7, 10] (o.add.length) (fun gk v i wr => ∃ (l : List Int) (j : Nat), i = .int .i64 j ∧ Hid (j + gk = o.add.length) ∧ OwnI w.heap.size wr v l ∧ Hid (SoundL n st t.ops use l) ∧ Hid (Pass t.ops use k l0 l) ∧ Hid (∀ p ∈ o.add.take j, p ∈ l) ∧ Below w.heap.size w wr ∧ Cls wr [(w.heap.size, 0, .int .i64 (n : Int)), (w.heap.size, 1, .slice Ai t.init.length ci), (w.heap.size, 2, .slice Ag t.goal.length cg), (w.heap.size, 3, .slice (some ad) t.ops.length co)])
              case atStart => exact ⟨l1, 0, rfl, Lib.hid (by omega), ho1, hs1, hp1, Lib.hid (by simp), (by repeat (first | with_reducible exact hBs | with_reducible apply bdrew | with_reducible apply bdrewN | with_reducible apply balloc | ((with_reducible refine bset ?_ ?_ _); rotate_left; (first | omega | (simp <;> omega))))), (by simp [Cls, go_sem, Fs, ysw0, yswp1, yswp2])⟩
              case round =>
                obtain ⟨l2, j, rfl, hj, ho2, hs2, hp2, hi2, hBu, hCu⟩ := hrel
                obtain ⟨w4, rfl⟩ : ∃ wo : World, wo = wr := ⟨_, rfl⟩
                have dus := hBu.size
                have Fu := hCu
                simp only [Cls, and_true] at Fu
                have yuw0 : w.heap.size < w4.heap.size := hCu.blk (b := w.heap.size) (k := 0) (v := .int .i64 (n : Int)) (by simp)
                have yuwp1 : w.heap.size < w4.heap.size + 1 := (by omega)
                have yuwp2 : w.heap.size < w4.heap.size + 1 + 1 := (by omega)
                have hu1 := (hBu.cell (World.block_lt_of_cell? w _ hc1)).trans hc1
                by_cases hlj : j < o.add.length
                · obtain ⟨pd, p, rfl, hp, hpc⟩ := (hm.add.below hBu).at_ hlj
                  have hpm := Lib.hid (List.mem_of_getElem? hp.out)
                  have hpb := Lib.hid (hoo.out.2 p hpm.out)
                  have hj1 := Lib.hid (show j + 1 + (gk - 1) = o.add.length ∧ gk - 1 < gk by have := hj.out; omega)
                  obtain ⟨A6, c6, rfl, hnil6, hI6⟩ := ho2.form
                  have hnil6' := Lib.hid hnil6
                  have hcap := ho2.cap_le
                  have hcm := ho2.cap_max
                  have hl2 := hs2.out.len
                  have hl3 : l2.length ≤ 9223372036854775807 := by omega
                  clear hnil6
                  by_cases hin : p ∈ l2
                  · have hin' := Lib.hid hin
                    clear hin
                    go_wp2_with fail
                    refine (has_yes _ _ _ _ _ hI6 hl3 hin'.out).mono ?_
                    rintro e w' ⟨rfl, rfl⟩
                    go_wp2
                    go_roundg (gk - 1)
                    case measure => exact hj1.out.2
                    case rel => exact ⟨l2, j + 1, by go_num, Lib.hid hj1.out.1, ho2, hs2, hp2, Lib.hid (forall_take_succ hp.out hi2.out hin'.out), (by repeat (first | with_reducible exact hBu | with_reducible apply bdrew | with_reducible apply bdrewN | with_reducible apply balloc | ((with_reducible refine bset ?_ ?_ _); rotate_left; (first | omega | (simp <;> omega))))), (by simp [Cls, go_sem, Fu, yuw0, yuwp1, yuwp2])⟩
                  · have hin' := Lib.hid hin
                    clear hin
                    go_wp2_with fail
                    refine (has_no _ _ _ _ _ hI6 hl3 hin'.out).mono ?_
                    rintro e w' ⟨rfl, rfl⟩
                    go_wp2_with fail
                    refine (with_any _ _ _ _ _ _ hI6 rfl hcap hcm (fun e => (hnil6'.out e).2) (by omega) hs2.out.set.pairwise).mono ?_
                    rintro e w5 ⟨v5, rfl, o5, hB5⟩
                    have D5 := dstep w hB5 (by repeat (first | with_reducible exact hBu | with_reducible apply bdrew | with_reducible apply bdrewN | with_reducible apply balloc | ((with_reducible refine bset ?_ ?_ _); rotate_left; (first | omega | (simp <;> omega)))))
                    have d5s := D5.size
                    have C5 := Cls.below (l := [(w.heap.size, 0, .int .i64 (n : Int)), (w.heap.size, 1, .slice Ai t.init.length ci), (w.heap.size, 2, .slice Ag t.goal.length cg), (w.heap.size, 3, .slice (some ad) t.ops.length co)]) hB5 (by simp [Cls, go_sem, Fu, yuw0, yuwp1, yuwp2])
                    have F5 := C5
                    simp only [Cls, and_true] at F5
                    have y5w0 : w.heap.size < w5.heap.size := C5.blk (b := w.heap.size) (k := 0) (v := .int .i64 (n : Int)) (by simp)
                    have y5wp1 : w.heap.size < w5.heap.size + 1 := (by omega)
                    have y5wp2 : w.heap.size < w5.heap.size + 1 + 1 := (by omega)
                    go_wp2
                    go_roundg (gk - 1)
                    case measure => exact hj1.out.2
                    case rel => exact ⟨withV l2 p, j + 1, by go_num, Lib.hid hj1.out.1, OwnI.mono o5 (by omega), Lib.hid (hs2.out.with_ ho.out hux.out hqR.out hpm.out hpb.out.1 hpb.out.2), Lib.hid (hp2.out.with_ hs2.out.set.pairwise hin'.out), Lib.hid (forall_take_succ hp.out (fun q hq => withV_mem.2 (.inr (hi2.out q hq))) (withV_mem.2 (.inl rfl))), (by repeat (first | with_reducible exact D5 | with_reducible apply bdrew | with_reducible apply bdrewN | with_reducible apply balloc | ((with_reducible refine bset ?_ ?_ _); rotate_left; (first | omega | (simp <;> omega))))), (by simp [Cls, go_sem, F5, y5w0, y5wp1, y5wp2])⟩
                · go_wp2
                  go_roundg (g3 - 1)
                  case measure => exact hk1.out.2
                  case rel => exact ⟨l2, k + 1, by go_num, Lib.hid hk1.out.1, ho2, hs2, Lib.hid (hp2.out.succ ho.out fun _ _ _ => forall_take_all hlj hi2.out), (by repeat (first | with_reducible exact hBu | with_reducible apply bdrew | with_reducible apply bdrewN | with_reducible apply balloc | ((with_reducible refine bset ?_ ?_ _); rotate_left; (first | omega | (simp <;> omega))))), (by simp [Cls, go_sem, Fu, yuw0, yuwp1, yuwp2])⟩
            · have hqd := Lib.hid (decide_eq_false hq)
              have hq' := Lib.hid hq
              clear hq
              go_wp2_with fail
              refine (subset_any _ _ _ _ _ _ _ (hm.pre.below (by repeat (first | with_reducible exact hBs | with_reducible apply bdrew | with_reducible apply bdrewN | with_reducible apply balloc | ((with_reducible refine bset ?_ ?_ _); rotate_left; (first | omega | (simp <;> omega)))))) (hI5.below (by exact Below.refl _ _)) hlp (by have := hl1.out; omega)).mono ?_
              rintro e w' ⟨he, rfl⟩
              rw [hqd.out] at he
              subst he
              go_wp2
              go_roundg (g3 - 1)
              case measure => exact hk1.out.2
              case rel => exact ⟨l1, k + 1, by go_num, Lib.hid hk1.out.1, ho1, hs1, Lib.hid (hp1.out.succ ho.out fun _ _ h => absurd h hq'.out), (by repeat (first | with_reducible exact hBs | with_reducible apply bdrew | with_reducible apply bdrewN | with_reducible apply balloc | ((with_reducible refine bset ?_ ?_ _); rotate_left; (first | omega | (simp <;> omega))))), (by simp [Cls, go_sem, Fs, ysw0, yswp1, yswp2])⟩
        · have hkk := Lib.hid (show k = t.ops.length by have := hk.out; omega)
          go_wp2
          go_roundg (g2 - 1)
          case measure => exact hr1.out.2
          case rel => exact ⟨l1, r + 1, by go_num, Lib.hid hr1.out.1, ho1, hs1, Lib.hid (hd0.out.succ hs1.out (by rw [← hkk.out]; exact hp1.out)), (by repeat (first | with_reducible exact hBs | with_reducible apply bdrew | with_reducible apply bdrewN | with_reducible apply balloc | ((with_reducible refine bset ?_ ?_ _); rotate_left; (first | omega | (simp <;> omega))))), (by simp [Cls, go_sem, Fs, ysw0, yswp1, yswp2])⟩
    · have hfin := Lib.hid (hd0.out.end_ hs0.out (by omega))
      go_wp2
      go_ret
      exact ⟨_, rfl, by rw [← hfin.out]; exact ho0, hBr⟩


end Go.Proofs.Ythnhhohnjiigcaa
