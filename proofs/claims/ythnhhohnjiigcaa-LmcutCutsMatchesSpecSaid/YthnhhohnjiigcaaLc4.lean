/-
  lmcut: cut: what it returns.
-/
import Derived.Test.YthnhhohnjiigcaaLc3
namespace Go.Proofs.Ythnhhohnjiigcaa
open Go.RowKit
set_option linter.unusedVariables false
set_option linter.unusedSimpArgs false

theorem grV_len' {n : Nat} {start : Int → Prop} {E : Nat → Int → Int → Prop} {Z : List Bool} (h : grV (n + 1) start E = Z) : Z.length = n + 1 := by rw [← h, grV_len]
theorem OwnI.drew' {base : Nat} {w : World} {v : Value} {xs : List Int} (h : OwnI base w v xs) : OwnI base w.drew v xs := h.below (bdrew (Below.refl _ _))
theorem minTo_zero {n : Nat} {W left : List Int} {ops : List OpV} {Z B : List Bool} : minTo left (cutTo n W ops Z B 0) = 1000000000 := rfl
theorem cut_skip {n k : Nat} {W : List Int} {ops : List OpV} {Z B : List Bool} {o : OpV} {f : Int} (ho : ops[k]? = some o) (hf : hardV W n o.pre = f) (h : B[f.toNat]? = some false ∨ ∀ p ∈ o.add, Z[p.toNat]? = some false) : cutTo n W ops Z B (k + 1) = cutTo n W ops Z B k := by
  refine cutTo_no ?_
  rintro ⟨o', ho', hb, p, hp, hz⟩
  rw [ho] at ho'; injection ho' with ho'; subst ho'
  rw [hf] at hb
  rcases h with h | h
  · rw [h] at hb; cases hb
  · rw [h p hp] at hz; cases hz
theorem cut_take {n k : Nat} {W : List Int} {ops : List OpV} {Z B : List Bool} {o : OpV} {f p : Int} (ho : ops[k]? = some o) (hf : hardV W n o.pre = f) (hb : B[f.toNat]? = some true) (hp : p ∈ o.add) (hz : Z[p.toNat]? = some true) : cutTo n W ops Z B k ++ [(k : Int)] = cutTo n W ops Z B (k + 1) := by
  refine (cutTo_yes ⟨o, ho, ?_, p, hp, hz⟩).symm
  rw [hf]; exact hb
set_option maxRecDepth 100000 in
set_option maxHeartbeats 1000000 in
theorem cut_any (w : World) (b : Nat) (n : Nat) (t : TaskV) (Ai Ag Ao S C Q : Option Addr) (ci cg co cs cc cq : Nat) (st left W : List Int) (hX : SBox w b n t Ai Ag Ao S C Q ci cg co cs cc cq st left W) (h40 : t.ops.length ≤ 100000000) :
    Calls Try.prog 81 #[.pointer (some ⟨b, 0, none⟩)] w fun e w' => ∃ v, e = .returned (.agg #[v, .int .i64 (minTo left (cutV n W t.ops (zoneV n W t.ops left t.goal) (befV n W t.ops st (zoneV n W t.ops left t.goal))))]) ∧ OwnI w.heap.size w' v (cutV n W t.ops (zoneV n W t.ops left t.goal) (befV n W t.ops st (zoneV n W t.ops left t.goal))) ∧ Below w.heap.size w w' := by
  have hn9 := hX.n9
  have hlo := hX.mem.lops.le
  have HX := Lib.hid hX
  obtain ⟨Z, hZe⟩ : ∃ Z, Hid (zoneV n W t.ops left t.goal = Z) := ⟨_, Lib.hid rfl⟩
  obtain ⟨Bf, hBe⟩ : ∃ Bf, Hid (befV n W t.ops st Z = Bf) := ⟨_, Lib.hid rfl⟩
  have HZL := Lib.hid (grV_len' hZe.out)
  have HBL := Lib.hid (grV_len' hBe.out)
  obtain ⟨k0, k1, k2, k3, k4, k5, k6⟩ := SBox.cells (HX.out)
  have kb := World.block_lt_of_cell? _ _ k0
  clear hX
  go_enter Try.func81, Try.ntmps81
  go_wp2_with fail
  refine (zone_any _ b n t Ai Ag Ao S C Q ci cg co cs cc cq st left W (HX.out.below (by repeat (first | with_reducible exact Below.refl _ _ | with_reducible apply bdrew | with_reducible apply bdrewN | with_reducible apply balloc | ((with_reducible refine bset ?_ ?_ _); rotate_left; (first | omega | (simp <;> omega))))))).mono ?_
  rintro e w1 ⟨g1, rfl, hg1, hA1, hB1⟩
  have D1 := dstep w hB1 (by repeat (first | with_reducible exact Below.refl _ _ | with_reducible apply bdrew | with_reducible apply bdrewN | with_reducible apply balloc | ((with_reducible refine bset ?_ ?_ _); rotate_left; (first | omega | (simp <;> omega)))))
  have d1s := D1.size
  have C1 := Cls.below (l := [(w.heap.size, 0, .slice none 0 0), (w.heap.size, 1, .int .i64 0)]) hB1 (by simp [Cls, go_sem])
  have F1 := C1
  simp only [Cls, and_true] at F1
  have y1w0 : w.heap.size < w1.heap.size := C1.blk (b := w.heap.size) (k := 0) (v := .slice none 0 0) (by simp)
  have y1wp1 : w.heap.size < w1.heap.size + 1 := (by omega)
  have y1wp2 : w.heap.size < w1.heap.size + 1 + 1 := (by omega)
  rw [hZe.out] at hA1
  clear k0 k1 k2 k3 k4 k5 k6 kb
  obtain ⟨k0, k1, k2, k3, k4, k5, k6⟩ := SBox.cells (HX.out.below (by repeat (first | with_reducible exact D1 | with_reducible apply bdrew | with_reducible apply bdrewN | with_reducible apply balloc | ((with_reducible refine bset ?_ ?_ _); rotate_left; (first | omega | (simp <;> omega))))))
  have kb := World.block_lt_of_cell? _ _ k0
  go_wp2_with fail
  refine (before_any _ b n t Ai Ag Ao S C Q ci cg co cs cc cq st left W (HX.out.below (by repeat (first | with_reducible exact D1 | with_reducible apply bdrew | with_reducible apply bdrewN | with_reducible apply balloc | ((with_reducible refine bset ?_ ?_ _); rotate_left; (first | omega | (simp <;> omega)))))) _ _ Z hA1.bools HZL.out).mono ?_
  rintro e w2 ⟨g2, rfl, hg2, hA2, hB2⟩
  have D2 := dstep w hB2 (by repeat (first | with_reducible exact D1 | with_reducible apply bdrew | with_reducible apply bdrewN | with_reducible apply balloc | ((with_reducible refine bset ?_ ?_ _); rotate_left; (first | omega | (simp <;> omega)))))
  have d2s := D2.size
  have C2 := Cls.below (l := [(w.heap.size, 0, .slice none 0 0), (w.heap.size, 1, .int .i64 0)]) hB2 (by simp [Cls, go_sem, F1, y1w0, y1wp1, y1wp2])
  have F2 := C2
  simp only [Cls, and_true] at F2
  have y2w0 : w.heap.size < w2.heap.size := C2.blk (b := w.heap.size) (k := 0) (v := .slice none 0 0) (by simp)
  have y2wp1 : w.heap.size < w2.heap.size + 1 := (by omega)
  have y2wp2 : w.heap.size < w2.heap.size + 1 + 1 := (by omega)
  rw [hBe.out] at hA2
  have hA1' := hA1.below (by repeat (first | with_reducible exact hB2 | with_reducible apply bdrew | with_reducible apply bdrewN | with_reducible apply balloc | ((with_reducible refine bset ?_ ?_ _); rotate_left; (first | omega | (simp <;> omega)))))
  clear k0 k1 k2 k3 k4 k5 k6 kb
  obtain ⟨k0, k1, k2, k3, k4, k5, k6⟩ := SBox.cells (HX.out.below (by repeat (first | with_reducible exact D2 | with_reducible apply bdrew | with_reducible apply bdrewN | with_reducible apply balloc | ((with_reducible refine bset ?_ ?_ _); rotate_left; (first | omega | (simp <;> omega))))))
  have kb := World.block_lt_of_cell? _ _ k0
  go_wp2_with fail
  go_loopg [22] (t.ops.length) (fun gk i wr => ∃ (k : Nat) (v : Value), i = .int .i64 k ∧ Hid (k + gk = t.ops.length) ∧ OwnI (w2.heap.size + 1) wr v (cutTo n W t.ops Z Bf k) ∧ Below w2.heap.size w2 wr ∧ Cls wr [(w.heap.size, 0, .slice none 0 0), (w.heap.size, 1, .int .i64 0), (w2.heap.size, 0, v), (w2.heap.size, 1, .int .i64 (minTo left (cutTo n W t.ops Z Bf k)))])
  case atStart =>
    refine ⟨0, .slice none 0 0, rfl, Lib.hid (by omega), OwnI.nil _ _, ?_⟩
    rw [minTo_zero]
    exact ⟨(by repeat (first | with_reducible exact Below.refl _ _ | with_reducible apply bdrew | with_reducible apply bdrewN | with_reducible apply balloc | ((with_reducible refine bset ?_ ?_ _); rotate_left; (first | omega | (simp <;> omega))))), (by simp [Cls, go_sem, F2, y2w0, y2wp1, y2wp2])⟩
  case round =>
    obtain ⟨k, v, rfl, hk, hown, hBs, hCs⟩ := hrel
    obtain ⟨g4, rfl⟩ : ∃ g : Nat, g = gk := ⟨_, rfl⟩
    obtain ⟨w4, rfl⟩ : ∃ wo : World, wo = wr := ⟨_, rfl⟩
    obtain ⟨mk, hmk⟩ : ∃ mk, Hid (minTo left (cutTo n W t.ops Z Bf k) = mk) := ⟨_, Lib.hid rfl⟩
    rw [hmk.out] at hCs
    have DW := D2.trans (hBs.mono D2.size)
    clear k0 k1 k2 k3 k4 k5 k6 kb
    obtain ⟨k0, k1, k2, k3, k4, k5, k6⟩ := SBox.cells (HX.out.below DW)
    have kb := World.block_lt_of_cell? _ _ k0
    have dss := hBs.size
    have Fs := hCs
    simp only [Cls, and_true] at Fs
    have ysw0 : w.heap.size < w4.heap.size := hCs.blk (b := w.heap.size) (k := 0) (v := .slice none 0 0) (by simp)
    have yswp1 : w.heap.size < w4.heap.size + 1 := (by omega)
    have yswp2 : w.heap.size < w4.heap.size + 1 + 1 := (by omega)
    have ysw20 : w2.heap.size < w4.heap.size := hCs.blk (b := w2.heap.size) (k := 0) (v := v) (by simp)
    have ysw2p1 : w2.heap.size < w4.heap.size + 1 := (by omega)
    have ysw2p2 : w2.heap.size < w4.heap.size + 1 + 1 := (by omega)
    by_cases hlt : k < t.ops.length
    · obtain ⟨ad, o, A0, c0, A1, c1', A2, c2, rfl, ho, hc0, hc1, hc2, hc3, hm⟩ := HX.out.mem.ops.at2 DW hlt
      have hoo := Lib.hid (HX.out.ops_ o (List.mem_of_getElem? ho.out))
      have hk1 := Lib.hid (show k + 1 + (g4 - 1) = t.ops.length ∧ g4 - 1 < g4 by have := hk.out; omega)
      obtain ⟨f, hf⟩ : ∃ f, Hid (hardV W n o.pre = f) := ⟨_, Lib.hid rfl⟩
      obtain ⟨f0, f1⟩ := hardV_in (vs := W) (n := (n : Int)) (by omega) hoo.out.1
      rw [hf.out] at f0 f1
      have hlk : k < left.length := by have := HX.out.lc; omega
      obtain ⟨cd, cv, rfl, hcv, hcc0⟩ := HX.out.ic.at_ hlk
      have hcbl := World.block_lt_of_cell? w _ hcc0
      go_wp2_with fail
      refine (hard_at (HX.out.below (by repeat (first | with_reducible exact DW | with_reducible apply bdrew | with_reducible apply bdrewN | with_reducible apply balloc | ((with_reducible refine bset ?_ ?_ _); rotate_left; (first | omega | (simp <;> omega)))))) _ _ _ (hm.pre.below (by repeat (first | with_reducible exact DW | with_reducible apply bdrew | with_reducible apply bdrewN | with_reducible apply balloc | ((with_reducible refine bset ?_ ?_ _); rotate_left; (first | omega | (simp <;> omega)))))) hm.lpre hoo.out.1 f hf.out).mono ?_
      rintro e w6 ⟨rfl, hB6⟩
      have D6 := dstep w2 hB6 (by repeat (first | with_reducible exact hBs | with_reducible apply bdrew | with_reducible apply bdrewN | with_reducible apply balloc | ((with_reducible refine bset ?_ ?_ _); rotate_left; (first | omega | (simp <;> omega)))))
      have d6s := D6.size
      have C6 := Cls.below (l := [(w.heap.size, 0, .slice none 0 0), (w.heap.size, 1, .int .i64 0), (w2.heap.size, 0, v), (w2.heap.size, 1, .int .i64 mk), (w4.heap.size, 0, .slice A0 o.pre.length c0), (w4.heap.size, 1, .slice A1 o.add.length c1'), (w4.heap.size, 2, .slice A2 o.del.length c2), (w4.heap.size, 3, .int .i64 o.cost)]) hB6 (by simp [Cls, go_sem, Fs, ysw0, yswp1, yswp2, ysw20, ysw2p1, ysw2p2])
      have F6 := C6
      simp only [Cls, and_true] at F6
      have y6w0 : w.heap.size < w6.heap.size := C6.blk (b := w.heap.size) (k := 0) (v := .slice none 0 0) (by simp)
      have y6wp1 : w.heap.size < w6.heap.size + 1 := (by omega)
      have y6wp2 : w.heap.size < w6.heap.size + 1 + 1 := (by omega)
      have y6w20 : w2.heap.size < w6.heap.size := C6.blk (b := w2.heap.size) (k := 0) (v := v) (by simp)
      have y6w2p1 : w2.heap.size < w6.heap.size + 1 := (by omega)
      have y6w2p2 : w2.heap.size < w6.heap.size + 1 + 1 := (by omega)
      have y6w40 : w4.heap.size < w6.heap.size := C6.blk (b := w4.heap.size) (k := 0) (v := .slice A0 o.pre.length c0) (by simp)
      have y6w4p1 : w4.heap.size < w6.heap.size + 1 := (by omega)
      have y6w4p2 : w4.heap.size < w6.heap.size + 1 + 1 := (by omega)
      have E6 := dstep w4 hB6 (by repeat (first | with_reducible exact Below.refl _ _ | with_reducible apply bdrew | with_reducible apply bdrewN | with_reducible apply balloc | ((with_reducible refine bset ?_ ?_ _); rotate_left; (first | omega | (simp <;> omega)))))
      clear k0 k1 k2 k3 k4 k5 k6 kb
      obtain ⟨k0, k1, k2, k3, k4, k5, k6⟩ := SBox.cells (HX.out.below (DW.trans (E6.mono DW.size)))
      have kb := World.block_lt_of_cell? _ _ k0
      have hown6 := hown.below E6
      have hA16 := hA1'.below D6
      have hA26 := hA2.below D6
      obtain ⟨yf, hyf, hyc, hyw⟩ := hA26.cell (i := f.toNat) (by have := HBL.out; omega)
      cases yf with
      | false =>
        have HS := Lib.hid (cut_skip (Z := Z) ho.out hf.out (.inl hyf.out))
        go_wp2
        go_roundg (g4 - 1)
        case measure => exact hk1.out.2
        case rel =>
          refine ⟨k + 1, v, by go_num, Lib.hid hk1.out.1, ?_, ?_⟩
          · rw [HS.out]; exact hown6
          · rw [HS.out, hmk.out]; exact ⟨(by repeat (first | with_reducible exact D6 | with_reducible apply bdrew | with_reducible apply bdrewN | with_reducible apply balloc | ((with_reducible refine bset ?_ ?_ _); rotate_left; (first | omega | (simp <;> omega))))), (by simp [Cls, go_sem, F6, y6w0, y6wp1, y6wp2, y6w20, y6w2p1, y6w2p2, y6w40, y6w4p1, y6w4p2])⟩
      | true =>
        have hlc' := hm.ladd.le
        have hadd6 := hm.add.below (DW.trans (E6.mono DW.size))
        go_wp2_with fail
        go_loop [38] (fun i => ∃ j : Nat, j ≤ o.add.length ∧ i = .int .i64 j ∧ Hid (∀ p ∈ o.add.take j, Z[p.toNat]? = some false)) (fun i => o.add.length - (intOf i).toNat)
        case atStart => exact ⟨0, Nat.zero_le _, rfl, Lib.hid (by simp)⟩
        case round =>
          obtain ⟨j, hj, rfl, hno⟩ := hrel
          by_cases hlj : j < o.add.length
          · obtain ⟨pd, p, rfl, hp, hpc⟩ := hadd6.at_ hlj
            obtain ⟨p0, p1⟩ := hoo.out.2 p (List.mem_of_getElem? hp.out)
            obtain ⟨z2, hz2, hzc2, hzw2⟩ := hA16.cell (i := p.toNat) (by have := HZL.out; omega)
            cases z2 with
            | false =>
              go_wp2
              go_round
              case rel => exact ⟨j + 1, by omega, by go_num, Lib.hid (forall_take_succ (P := fun p : Int => Z[p.toNat]? = some false) hp.out hno.out hz2.out)⟩
              case measure => simp [intOf]; omega
            | true =>
              have HT := Lib.hid (cut_take ho.out hf.out hyf.out (List.mem_of_getElem? hp.out) hz2.out)
              have HM := Lib.hid (show min mk cv = minTo left (cutTo n W t.ops Z Bf (k + 1)) by rw [← HT.out, minTo_snoc (by simpa using hcv.out), hmk.out])
              have hlen : (cutTo n W t.ops Z Bf k).length < 1000000000000 := by have := cutTo_len (n := n) (W := W) (ops := t.ops) (Z := Z) (B := Bf) k; omega
              obtain ⟨mn, hmn⟩ : ∃ mn, Hid (min mk cv = mn) := ⟨_, Lib.hid rfl⟩
              go_wp2_with (at_builtin; go_must (refine wpList_push rfl (.tmp 47) (.tmp 49) rfl w2 [(w.heap.size, 0, .slice none 0 0), (w.heap.size, 1, .int .i64 0), (w2.heap.size, 0, v), (w2.heap.size, 1, .int .i64 mk)] (w2.heap.size + 1) v _ ((k : Int)) rfl (OwnI.below hown6 ?p1) ⟨w6.heap.size, 0, none⟩ 1 rfl ?p2 hlen ?p3 ?p4 ?p5 ?p6 ?p7 ?_; (case p1 => repeat (first | with_reducible exact Below.refl _ _ | with_reducible apply bdrew | with_reducible apply bdrewN | with_reducible apply balloc | ((with_reducible refine bset ?_ ?_ _); rotate_left; (first | omega | (simp <;> omega))))); (case p2 => simp [Cls, go_sem, F6, y6w0, y6wp1, y6wp2, y6w20, y6w2p1, y6w2p2, y6w40, y6w4p1, y6w4p2]); (case p3 => (first | omega | (simp <;> omega))); (case p4 => (first | omega | (simp <;> omega))); (case p5 => repeat (first | with_reducible exact D6 | with_reducible apply bdrew | with_reducible apply bdrewN | with_reducible apply balloc | ((with_reducible refine bset ?_ ?_ _); rotate_left; (first | omega | (simp <;> omega))))); (case p6 => simp [Cls, go_sem, F6, y6w0, y6wp1, y6wp2, y6w20, y6w2p1, y6w2p2, y6w40, y6w4p1, y6w4p2]); (case p7 => (simp <;> omega)); intro v7 w7 o7 D7 C7 sz7; have d7s := D7.size; have F7 := C7; simp only [Cls, and_true] at F7; have y7w0 : w.heap.size < w7.heap.size := C7.blk (b := w.heap.size) (k := 0) (v := .slice none 0 0) (by simp); have y7wp1 : w.heap.size < w7.heap.size + 1 := (by omega); have y7wp2 : w.heap.size < w7.heap.size + 1 + 1 := (by omega); have y7w20 : w2.heap.size < w7.heap.size := C7.blk (b := w2.heap.size) (k := 0) (v := v) (by simp); have y7w2p1 : w2.heap.size < w7.heap.size + 1 := (by omega); have y7w2p2 : w2.heap.size < w7.heap.size + 1 + 1 := (by omega); obtain ⟨n7, hn7⟩ : ∃ n7 : Nat, Hid ((cutTo n W t.ops Z Bf k ++ [(k : Int)]).length = n7) := ⟨_, Lib.hid rfl⟩; obtain ⟨A7, c7, e7, -⟩ := o7.form_at hn7.out; subst e7; have DZ : Below w.heap.size w (w7.setCell ⟨w2.heap.size, 0, none⟩ (.slice A7 n7 c7)) := (by repeat (first | with_reducible exact (D2.trans (D7.mono D2.size)) | with_reducible apply bdrew | with_reducible apply bdrewN | with_reducible apply balloc | ((with_reducible refine bset ?_ ?_ _); rotate_left; (first | omega | (simp <;> omega))))); clear k0 k1 k2 k3 k4 k5 k6 kb; obtain ⟨k0, k1, k2, k3, k4, k5, k6⟩ := SBox.cells (HX.out.below DZ); have hccZ := (DZ.cell hcbl).trans hcc0))
              refine region_still_tail 11 (by kernel_rfl) (by kernel_rfl) ?_
              simp only [List.take_succ_cons, List.take_zero, List.drop_succ_cons, List.drop_zero]
              repeat still_step
              refine wpStill_nil ?_
              go_wp2
              all_goals
                go_roundg (g4 - 1)
                case measure => exact hk1.out.2
                case rel =>
                  refine ⟨k + 1, .slice A7 n7 c7, by go_num, Lib.hid hk1.out.1, ?_, ?_⟩
                  · rw [← HT.out]
                    repeat (first | with_reducible exact o7 | (with_reducible refine OwnI.far ?_ ?_ _; rotate_left; (first | omega | (simp <;> omega))) | with_reducible refine OwnI.drew' ?_)
                  · first | rw [show minTo left (cutTo n W t.ops Z Bf (k + 1)) = mk by rw [← HM.out]; omega] | rw [show minTo left (cutTo n W t.ops Z Bf (k + 1)) = cv by rw [← HM.out]; omega]
                    exact ⟨(by repeat (first | with_reducible exact D7 | with_reducible apply bdrew | with_reducible apply bdrewN | with_reducible apply balloc | ((with_reducible refine bset ?_ ?_ _); rotate_left; (first | omega | (simp <;> omega))))), (by simp [Cls, go_sem, F7, y7w0, y7wp1, y7wp2, y7w20, y7w2p1, y7w2p2])⟩
          · have HF := Lib.hid (forall_take_all hlj hno.out)
            have HS := Lib.hid (cut_skip (B := Bf) ho.out hf.out (.inr HF.out))
            go_wp2
            go_roundg (g4 - 1)
            case measure => exact hk1.out.2
            case rel =>
              refine ⟨k + 1, v, by go_num, Lib.hid hk1.out.1, ?_, ?_⟩
              · rw [HS.out]; exact hown6
              · rw [HS.out, hmk.out]; exact ⟨(by repeat (first | with_reducible exact D6 | with_reducible apply bdrew | with_reducible apply bdrewN | with_reducible apply balloc | ((with_reducible refine bset ?_ ?_ _); rotate_left; (first | omega | (simp <;> omega))))), (by simp [Cls, go_sem, F6, y6w0, y6wp1, y6wp2, y6w20, y6w2p1, y6w2p2, y6w40, y6w4p1, y6w4p2])⟩
    · have hkk := Lib.hid (show cutTo n W t.ops Z Bf k = cutV n W t.ops Z Bf by unfold cutV; rw [show k = t.ops.length by have := hk.out; omega])
      rw [hkk.out] at hown
      have hmk2 := Lib.hid (show minTo left (cutV n W t.ops Z Bf) = mk by rw [← hmk.out, hkk.out])
      obtain ⟨A5, c5, rfl, -⟩ := hown.form_at rfl
      go_wp2
      refine bodyPost_ret (v := .agg #[.slice A5 (cutV n W t.ops Z Bf).length c5, .int .i64 mk]) ?_ rfl ⟨_, by rw [hZe.out, hBe.out, hmk2.out], ?_, by repeat (first | with_reducible exact DW | with_reducible apply bdrew | with_reducible apply bdrewN | with_reducible apply balloc | ((with_reducible refine bset ?_ ?_ _); rotate_left; (first | omega | (simp <;> omega))))⟩
      · simp [results, Try.results81, go_sem, Fs, ysw0, yswp1, yswp2, ysw20, ysw2p1, ysw2p2]
      · rw [hZe.out, hBe.out]
        refine OwnI.mono (base := w2.heap.size + 1) ?_ (by omega)
        repeat (first | with_reducible exact hown | (with_reducible refine OwnI.far ?_ ?_ _; rotate_left; (first | omega | (simp <;> omega))) | with_reducible refine OwnI.drew' ?_)


end Go.Proofs.Ythnhhohnjiigcaa
