/-
  lmcut: before: what it returns.
-/
import Derived.Test.YthnhhohnjiigcaaLc2
namespace Go.Proofs.Ythnhhohnjiigcaa
open Go.RowKit
set_option linter.unusedVariables false
set_option linter.unusedSimpArgs false

theorem BArr.made_set (w : World) (n i : Nat) (b : Bool) : BArr (w.alloc (.cells ((Array.replicate n (Value.bool false)).setIfInBounds i (.bool b)) 4)) w.heap.size ((List.replicate n false).set i b) := by
  have h := Arr.new w 4 (((List.replicate n false).set i b).map Value.bool)
  unfold BArr
  rw [List.map_set, List.map_replicate] at h ⊢
  rw [← List.toArray_replicate, List.setIfInBounds_toArray]
  exact h

set_option maxRecDepth 100000 in
set_option maxHeartbeats 1000000 in
theorem before_any (w : World) (b : Nat) (n : Nat) (t : TaskV) (Ai Ag Ao S C Q : Option Addr) (ci cg co cs cc cq : Nat) (st left W : List Int) (hX : SBox w b n t Ai Ag Ao S C Q ci cg co cs cc cq st left W) (Zp : Option Addr) (cz : Nat) (Z : List Bool) (hZ : Bools w Zp Z) (hzl : Z.length = n + 1) :
    Calls Try.prog 87 #[.pointer (some ⟨b, 0, none⟩), .slice Zp (n + 1) cz] w fun e w' => ∃ g, e = .returned (.slice (some ⟨g, 0, none⟩) (n + 1) (n + 1)) ∧ w.heap.size ≤ g ∧ BArr w' g (befV n W t.ops st Z) ∧ Below w.heap.size w w' := by
  have hmk := make_b1 n hX.n9
  have hn9 := hX.n9
  have hlo := hX.mem.lops.le
  have hls := hX.ls.le
  have HST := Lib.hid hX.st_
  have hS := hX.is
  have HZL := Lib.hid hzl
  clear hzl
  have HX := Lib.hid hX
  obtain ⟨k0, k1, k2, k3, k4, k5, k6⟩ := SBox.cells (HX.out)
  have kb := World.block_lt_of_cell? _ _ k0
  clear hX
  have hA0 := BArr.made w (n + 1) _ rfl
  obtain ⟨y, hy, hd, hf⟩ := hA0.cell (i := n) (by simp)
  go_enter Try.func87, Try.ntmps87
  go_wp2_with fail
  go_loopg [32] (st.length) (fun gk i wr => ∃ k : Nat, Hid (k + gk = st.length) ∧ i = .int .i64 k ∧ BArr wr w.heap.size (init3 (n + 1) ((n : Int) :: st.take k)) ∧ Below w.heap.size w wr)
  case atStart =>
    refine ⟨0, Lib.hid (by omega), rfl, ?_, (by repeat (first | with_reducible exact Below.refl _ _ | with_reducible apply bdrew | with_reducible apply bdrewN | with_reducible apply balloc | ((with_reducible refine bset ?_ ?_ _); rotate_left; (first | omega | (simp <;> omega)))))⟩
    rw [List.take_zero, init3_first]
    exact BArr.made_set w (n + 1) n true
  case round =>
    obtain ⟨k, hk, rfl, hA, hBq⟩ := hrel
    have dqs := hBq.size
    by_cases hlt : k < st.length
    · obtain ⟨sd, x, rfl, hx, hc⟩ := (hS.below hBq).at_ hlt
      obtain ⟨x0, x1⟩ := HST.out x (List.mem_of_getElem? hx.out)
      have hlen := init3_len (n + 1) ((n : Int) :: st.take k)
      obtain ⟨y1, hy1, hd1, hf1⟩ := hA.cell (i := x.toNat) (by omega)
      have hk1 := Lib.hid (show k + 1 + (gk - 1) = st.length ∧ gk - 1 < gk by have := hk.out; omega)
      go_wp2
      go_roundg (gk - 1)
      case measure => exact hk1.out.2
      case rel =>
        refine ⟨k + 1, Lib.hid hk1.out.1, by go_num, ?_, (by repeat (first | with_reducible exact hBq | with_reducible apply bdrew | with_reducible apply bdrewN | with_reducible apply balloc | ((with_reducible refine bset ?_ ?_ _); rotate_left; (first | omega | (simp <;> omega)))))⟩
        rw [init3_next hx.out]
        exact hA.set_ _ _
    · rw [List.take_of_length_le (by omega)] at hA
      obtain ⟨w2, rfl⟩ : ∃ wo : World, wo = wr := ⟨_, rfl⟩
      clear k0 k1 k2 k3 k4 k5 k6 kb
      obtain ⟨k0, k1, k2, k3, k4, k5, k6⟩ := SBox.cells (HX.out.below hBq)
      have kb := World.block_lt_of_cell? _ _ k0
      go_wp2_with fail
      go_loopg [8] (2 * falses (init3 (n + 1) ((n : Int) :: st)) + 1) (fun gk ch wr => ∃ (V : List Bool) (c : Bool), ch = .bool c ∧ Hid (gk = 2 * falses V + c.toNat) ∧ BArr wr w.heap.size V ∧ SoundG (n + 1) (BS n st) (BE n W t.ops Z) V ∧ Hid (c = false → ClosedG (BE n W t.ops Z) t.ops.length V) ∧ Below w.heap.size w wr)
      case atStart => exact ⟨_, true, rfl, Lib.hid rfl, hA, bef_start HST.out, Lib.hid (fun h => by cases h), (by repeat (first | with_reducible exact hBq | with_reducible apply bdrew | with_reducible apply bdrewN | with_reducible apply balloc | ((with_reducible refine bset ?_ ?_ _); rotate_left; (first | omega | (simp <;> omega)))))⟩
      case round =>
        obtain ⟨V0, c, rfl, hgk, hA0, hV0, hcl, hBp⟩ := hrel
        obtain ⟨g3, rfl⟩ : ∃ g : Nat, g = gk := ⟨_, rfl⟩
        obtain ⟨w3, rfl⟩ : ∃ wo : World, wo = wr := ⟨_, rfl⟩
        cases c with
        | false =>
          have e := hV0.eq (hcl.out rfl) (fun i p q h => by obtain ⟨o, ho, _⟩ := h; exact (List.getElem?_eq_some_iff.1 ho).1)
          rw [e] at hA0
          clear e hV0 hcl
          go_wp2
          go_ret
          exact ⟨_, rfl, by omega, hA0, hBp⟩
        | true =>
          clear k0 k1 k2 k3 k4 k5 k6 kb
          obtain ⟨k0, k1, k2, k3, k4, k5, k6⟩ := SBox.cells (HX.out.below hBp)
          have kb := World.block_lt_of_cell? _ _ k0
          have dps := hBp.size
          go_wp2_with fail
          go_loopg [8, 47] (t.ops.length) (fun gk ch i wr => ∃ (V : List Bool) (c : Bool) (k : Nat), ch = .bool c ∧ i = .int .i64 k ∧ Hid (k + gk = t.ops.length) ∧ BArr wr w.heap.size V ∧ SoundG (n + 1) (BS n st) (BE n W t.ops Z) V ∧ Hid (c = true → falses V < falses V0) ∧ Hid (c = false → falses V ≤ falses V0 ∧ ClosedG (BE n W t.ops Z) k V) ∧ Below w.heap.size w wr)
          case atStart => exact ⟨V0, false, 0, rfl, rfl, Lib.hid (by omega), hA0, hV0, Lib.hid (fun h => by cases h), Lib.hid (fun _ => ⟨Nat.le_refl _, closedG_zero⟩), (by repeat (first | with_reducible exact hBp | with_reducible apply bdrew | with_reducible apply bdrewN | with_reducible apply balloc | ((with_reducible refine bset ?_ ?_ _); rotate_left; (first | omega | (simp <;> omega)))))⟩
          case round =>
            obtain ⟨V1, c1, k, rfl, rfl, hk, hA1, hV1, ht1, hf1, hBs⟩ := hrel
            obtain ⟨g4, rfl⟩ : ∃ g : Nat, g = gk := ⟨_, rfl⟩
            obtain ⟨w4, rfl⟩ : ∃ wo : World, wo = wr := ⟨_, rfl⟩
            clear k0 k1 k2 k3 k4 k5 k6 kb
            obtain ⟨k0, k1, k2, k3, k4, k5, k6⟩ := SBox.cells (HX.out.below hBs)
            have kb := World.block_lt_of_cell? _ _ k0
            have dss := hBs.size
            by_cases hlt : k < t.ops.length
            · obtain ⟨ad, o, A0, c0, A1, c1', A2, c2, rfl, ho, hc0, hc1, hc2, hc3, hm⟩ := HX.out.mem.ops.at2 hBs hlt
              have hoo := Lib.hid (HX.out.ops_ o (List.mem_of_getElem? ho.out))
              have hk1 := Lib.hid (show k + 1 + (g4 - 1) = t.ops.length ∧ g4 - 1 < g4 by have := hk.out; omega)
              obtain ⟨f, hf⟩ : ∃ f, Hid (hardV W n o.pre = f) := ⟨_, Lib.hid rfl⟩
              obtain ⟨f0, f1⟩ := hardV_in (vs := W) (n := (n : Int)) (by omega) hoo.out.1
              rw [hf.out] at f0 f1
              have HL1 := Lib.hid hV1.len
              go_wp2_with fail
              refine (hard_at (HX.out.below (by repeat (first | with_reducible exact hBs | with_reducible apply bdrew | with_reducible apply bdrewN | with_reducible apply balloc | ((with_reducible refine bset ?_ ?_ _); rotate_left; (first | omega | (simp <;> omega)))))) _ _ _ (hm.pre.below (by repeat (first | with_reducible exact hBs | with_reducible apply bdrew | with_reducible apply bdrewN | with_reducible apply balloc | ((with_reducible refine bset ?_ ?_ _); rotate_left; (first | omega | (simp <;> omega)))))) hm.lpre hoo.out.1 f hf.out).mono ?_
              rintro e w6 ⟨rfl, hB6⟩
              have D6 := dstep w hB6 (by repeat (first | with_reducible exact hBs | with_reducible apply bdrew | with_reducible apply bdrewN | with_reducible apply balloc | ((with_reducible refine bset ?_ ?_ _); rotate_left; (first | omega | (simp <;> omega)))))
              have d6s := D6.size
              have C6 := Cls.below (l := [(w4.heap.size, 0, .slice A0 o.pre.length c0), (w4.heap.size, 1, .slice A1 o.add.length c1'), (w4.heap.size, 2, .slice A2 o.del.length c2), (w4.heap.size, 3, .int .i64 o.cost)]) hB6 (by simp [Cls, go_sem])
              have F6 := C6
              simp only [Cls, and_true] at F6
              have y6w40 : w4.heap.size < w6.heap.size := C6.blk (b := w4.heap.size) (k := 0) (v := .slice A0 o.pre.length c0) (by simp)
              have y6w4p1 : w4.heap.size < w6.heap.size + 1 := (by omega)
              have y6w4p2 : w4.heap.size < w6.heap.size + 1 + 1 := (by omega)
              have E6 := dstep w4 hB6 (by repeat (first | with_reducible exact Below.refl _ _ | with_reducible apply bdrew | with_reducible apply bdrewN | with_reducible apply balloc | ((with_reducible refine bset ?_ ?_ _); rotate_left; (first | omega | (simp <;> omega)))))
              clear k0 k1 k2 k3 k4 k5 k6 kb
              obtain ⟨k0, k1, k2, k3, k4, k5, k6⟩ := SBox.cells (HX.out.below D6)
              have kb := World.block_lt_of_cell? _ _ k0
              have hA6 := hA1.below E6
              obtain ⟨yf, hyf, hyc, hyw⟩ := hA6.cell (i := f.toNat) (by have := HL1.out; omega)
              cases yf with
              | false =>
                go_wp2
                go_roundg (g4 - 1)
                case measure => exact hk1.out.2
                case rel =>
                  refine ⟨V1, c1, k + 1, rfl, by go_num, Lib.hid hk1.out.1, hA6, hV1, ht1, Lib.hid (fun h => ⟨(hf1.out h).1, closedG_succ (hf1.out h).2 (fun p q hE hp => by obtain ⟨o', ho', e, _⟩ := hE; rw [ho.out] at ho'; injection ho' with ho'; subst ho'; rw [e, hf.out, hyf.out] at hp; cases hp)⟩), (by repeat (first | with_reducible exact D6 | with_reducible apply bdrew | with_reducible apply bdrewN | with_reducible apply balloc | ((with_reducible refine bset ?_ ?_ _); rotate_left; (first | omega | (simp <;> omega)))))⟩
              | true =>
                have hlc' := hm.ladd.le
                have hfr := Lib.hid (show GR (BS n st) (BE n W t.ops Z) f from by
                  have h3 := hV1.sound _ hyf.out
                  rwa [Int.toNat_of_nonneg f0] at h3)
                go_wp2_with fail
                go_loopg [8, 62] (o.add.length) (fun gk ch i wr => ∃ (V : List Bool) (c : Bool) (j : Nat), ch = .bool c ∧ i = .int .i64 j ∧ Hid (j + gk = o.add.length) ∧ BArr wr w.heap.size V ∧ SoundG (n + 1) (BS n st) (BE n W t.ops Z) V ∧ Hid (c = true → falses V < falses V0) ∧ Hid (c = false → falses V ≤ falses V0 ∧ ClosedG (BE n W t.ops Z) k V ∧ ∀ p ∈ o.add.take j, V[p.toNat]? = some true ∨ Z[p.toNat]? = some true) ∧ Below w.heap.size w wr)
                case atStart => exact ⟨V1, c1, 0, rfl, rfl, Lib.hid (by omega), hA6, hV1, ht1, Lib.hid (fun h => ⟨(hf1.out h).1, (hf1.out h).2, by simp⟩), (by repeat (first | with_reducible exact D6 | with_reducible apply bdrew | with_reducible apply bdrewN | with_reducible apply balloc | ((with_reducible refine bset ?_ ?_ _); rotate_left; (first | omega | (simp <;> omega)))))⟩
                case round =>
                  obtain ⟨V2, c2', j, rfl, rfl, hj, hA2, hV2, ht2, hf2, hBu⟩ := hrel
                  obtain ⟨w8, rfl⟩ : ∃ wo : World, wo = wr := ⟨_, rfl⟩
                  have dus := hBu.size
                  by_cases hlj : j < o.add.length
                  · obtain ⟨pd, p, rfl, hp, hpc⟩ := (hm.add.below hBu).at_ hlj
                    obtain ⟨p0, p1⟩ := hoo.out.2 p (List.mem_of_getElem? hp.out)
                    have hl2 := hV2.len
                    obtain ⟨y2, hy2, hyc2, hyw2⟩ := hA2.cell (i := p.toNat) (by omega)
                    obtain ⟨zd, z2, rfl, hz2, hzc2⟩ := (hZ.below hBu).at_ (k := p.toNat) (by have := HZL.out; omega)
                    have hj1 := Lib.hid (show j + 1 + (gk - 1) = o.add.length ∧ gk - 1 < gk by have := hj.out; omega)
                    have HV2 := Lib.hid hV2
                    have HL2 := Lib.hid hl2
                    clear hV2 hl2
                    cases y2 with
                    | true =>
                      go_wp2
                      go_roundg (gk - 1)
                      case measure => exact hj1.out.2
                      case rel =>
                        exact ⟨V2, c2', j + 1, rfl, by go_num, Lib.hid hj1.out.1, hA2, HV2.out, ht2, Lib.hid (fun h => ⟨(hf2.out h).1, (hf2.out h).2.1, forall_take_succ (P := fun p : Int => V2[p.toNat]? = some true ∨ Z[p.toNat]? = some true) hp.out (hf2.out h).2.2 (.inl hy2.out)⟩), (by repeat (first | with_reducible exact hBu | with_reducible apply bdrew | with_reducible apply bdrewN | with_reducible apply balloc | ((with_reducible refine bset ?_ ?_ _); rotate_left; (first | omega | (simp <;> omega)))))⟩
                    | false =>
                      cases z2 with
                      | true =>
                        go_wp2
                        go_roundg (gk - 1)
                        case measure => exact hj1.out.2
                        case rel =>
                          exact ⟨V2, c2', j + 1, rfl, by go_num, Lib.hid hj1.out.1, hA2, HV2.out, ht2, Lib.hid (fun h => ⟨(hf2.out h).1, (hf2.out h).2.1, forall_take_succ (P := fun p : Int => V2[p.toNat]? = some true ∨ Z[p.toNat]? = some true) hp.out (hf2.out h).2.2 (.inr hz2.out)⟩), (by repeat (first | with_reducible exact hBu | with_reducible apply bdrew | with_reducible apply bdrewN | with_reducible apply balloc | ((with_reducible refine bset ?_ ?_ _); rotate_left; (first | omega | (simp <;> omega)))))⟩
                      | false =>
                        have hz := Lib.hid (show GR (BS n st) (BE n W t.ops Z) p from .step hfr.out ⟨o, ho.out, hf.out.symm, List.mem_of_getElem? hp.out, hz2.out⟩)
                        go_wp2
                        go_roundg (gk - 1)
                        case measure => exact hj1.out.2
                        case rel =>
                          refine ⟨V2.set p.toNat true, true, j + 1, rfl, by go_num, Lib.hid hj1.out.1, hA2.set_ _ _, HV2.out.set_ hz.out p0 (by omega), Lib.hid (fun _ => ?_), Lib.hid (fun h => by cases h), (by repeat (first | with_reducible exact hBu | with_reducible apply bdrew | with_reducible apply bdrewN | with_reducible apply balloc | ((with_reducible refine bset ?_ ?_ _); rotate_left; (first | omega | (simp <;> omega)))))⟩
                          have h3 := falses_set hy2.out
                          cases c2' with
                          | true => have h2 := ht2.out (by simp); omega
                          | false => have h2 := hf2.out (by simp); omega
                  · go_wp2
                    go_roundg (g4 - 1)
                    case measure => exact hk1.out.2
                    case rel =>
                      refine ⟨V2, c2', k + 1, rfl, by go_num, Lib.hid hk1.out.1, hA2, hV2, ht2, Lib.hid (fun h => ⟨(hf2.out h).1, closedG_succ (hf2.out h).2.1 (fun p q hE hp => ?_)⟩), (by repeat (first | with_reducible exact hBu | with_reducible apply bdrew | with_reducible apply bdrewN | with_reducible apply balloc | ((with_reducible refine bset ?_ ?_ _); rotate_left; (first | omega | (simp <;> omega)))))⟩
                      obtain ⟨o', ho', _, hpm, hzf⟩ := hE
                      rw [ho.out] at ho'; injection ho' with ho'; subst ho'
                      rcases forall_take_all hlj (hf2.out h).2.2 q hpm with h3 | h3
                      · exact h3
                      · rw [h3] at hzf; cases hzf
            · have hkk := Lib.hid (show k = t.ops.length by have := hk.out; omega)
              go_wp2
              go_roundg (2 * falses V1 + c1.toNat)
              case measure =>
                rw [hgk.out]
                cases c1 with
                | true => have := ht1.out rfl; simp; omega
                | false => have := (hf1.out rfl).1; simp; omega
              case rel => exact ⟨V1, c1, rfl, Lib.hid rfl, hA1, hV1, Lib.hid (fun h => by rw [← hkk.out]; exact (hf1.out h).2), (by repeat (first | with_reducible exact hBs | with_reducible apply bdrew | with_reducible apply bdrewN | with_reducible apply balloc | ((with_reducible refine bset ?_ ?_ _); rotate_left; (first | omega | (simp <;> omega)))))⟩


end Go.Proofs.Ythnhhohnjiigcaa
