/-
  lmcut: zone and before: what they return.
-/
import Derived.Test.YthnhhohnjiigcaaLccut
namespace Go.Proofs.Ythnhhohnjiigcaa
open Go.RowKit
set_option linter.unusedVariables false
set_option linter.unusedSimpArgs false

/-- The cells of a search for cuts. -/
structure SBox (w : World) (b n : Nat) (t : TaskV) (Ai Ag Ao S C Q : Option Addr) (ci cg co cs cc cq : Nat) (st left W : List Int) : Prop where
  k0 : w.cell? ⟨b, 0, none⟩ = some (.int .i64 (n : Int))
  k1 : w.cell? ⟨b, 1, none⟩ = some (.slice Ai t.init.length ci)
  k2 : w.cell? ⟨b, 2, none⟩ = some (.slice Ag t.goal.length cg)
  k3 : w.cell? ⟨b, 3, none⟩ = some (.slice Ao t.ops.length co)
  k4 : w.cell? ⟨b, 4, none⟩ = some (.slice S st.length cs)
  k5 : w.cell? ⟨b, 5, none⟩ = some (.slice C left.length cc)
  k6 : w.cell? ⟨b, 6, none⟩ = some (.slice Q (n + 1) cq)
  mem : TaskMem w Ai Ag Ao t
  is : Ints w S st
  ic : Ints w C left
  iw : Ints w Q W
  lw : W.length = n + 1
  n9 : n ≤ 1000000
  lc : left.length = t.ops.length
  ls : lenOk st.length
  st_ : ∀ p ∈ st, 0 ≤ p ∧ p < (n : Int)
  goal_ : ∀ p ∈ t.goal, 0 ≤ p ∧ p < (n : Int)
  ops_ : ∀ o ∈ t.ops, (∀ p ∈ o.pre, 0 ≤ p ∧ p < (n : Int)) ∧ ∀ p ∈ o.add, 0 ≤ p ∧ p < (n : Int)
section
variable {w w' : World} {b n : Nat} {t : TaskV} {Ai Ag Ao S C Q : Option Addr} {ci cg co cs cc cq : Nat} {st left W : List Int}
theorem SBox.below (h : SBox w b n t Ai Ag Ao S C Q ci cg co cs cc cq st left W) (hb : Below w.heap.size w w') : SBox w' b n t Ai Ag Ao S C Q ci cg co cs cc cq st left W := by
  have k : ∀ {o : Nat} {v : Value}, w.cell? ⟨b, o, none⟩ = some v → w'.cell? ⟨b, o, none⟩ = some v := fun h => (hb.cell (World.block_lt_of_cell? w _ h)).trans h
  exact ⟨k h.k0, k h.k1, k h.k2, k h.k3, k h.k4, k h.k5, k h.k6, h.mem.below hb, h.is.below hb, h.ic.below hb, h.iw.below hb, h.lw, h.n9, h.lc, h.ls, h.st_, h.goal_, h.ops_⟩
theorem SBox.cells (h : SBox w b n t Ai Ag Ao S C Q ci cg co cs cc cq st left W) : w.cell? ⟨b, 0, none⟩ = some (.int .i64 (n : Int)) ∧ w.cell? ⟨b, 1, none⟩ = some (.slice Ai t.init.length ci) ∧ w.cell? ⟨b, 2, none⟩ = some (.slice Ag t.goal.length cg) ∧ w.cell? ⟨b, 3, none⟩ = some (.slice Ao t.ops.length co) ∧
    w.cell? ⟨b, 4, none⟩ = some (.slice S st.length cs) ∧ w.cell? ⟨b, 5, none⟩ = some (.slice C left.length cc) ∧ w.cell? ⟨b, 6, none⟩ = some (.slice Q (n + 1) cq) := ⟨h.k0, h.k1, h.k2, h.k3, h.k4, h.k5, h.k6⟩
theorem hard_at (h : SBox w b n t Ai Ag Ao S C Q ci cg co cs cc cq st left W) (X : Option Addr) (d : Nat) (xs : List Int) (hJ : Ints w X xs) (hl : lenOk xs.length) (hxs : ∀ x ∈ xs, 0 ≤ x ∧ x < (n : Int)) (v : Int) (hv : hardV W n xs = v) :
    Calls Try.prog 88 #[.pointer (some ⟨b, 0, none⟩), .slice X xs.length d] w fun e w' => e = .returned (.int .i64 v) ∧ Below w.heap.size w w' := by
  subst hv
  exact hardest_any w b n cq d Q X W xs h.k0 h.k6 h.iw h.lw (by have := h.n9; omega) hJ hl.le hxs
end
theorem falses_set_le {bs : List Bool} {i : Nat} : falses (bs.set i true) ≤ falses bs := by
  induction bs generalizing i with
  | nil => simp
  | cons b bs ih =>
    cases i with
    | zero => simp [falses]
    | succ i => have := ih (i := i); simp only [falses, List.set_cons_succ, List.map_cons, List.sum_cons] at *; omega
theorem set_same {bs : List Bool} {i : Nat} (h : bs[i]? = some true) : bs.set i true = bs := by
  apply List.ext_getElem?
  intro q
  rw [List.getElem?_set]
  split
  · rename_i e; subst e; rw [if_pos (List.getElem?_eq_some_iff.1 h).1, h]
  · rfl
theorem replicate_no {N i : Nat} {b : Bool} (h : (List.replicate N false)[i]? = some b) : b = false := by
  rw [List.getElem?_replicate] at h
  split at h <;> simp_all
theorem make_b1 (n : Nat) (hn : n ≤ 1000000) (w : World) :
    (Instr.makeSlice 53 (.int .i64 ((n : Int) + 1)) (.int .i64 ((n : Int) + 1))).run Try.prog w = .ok (.slice (some ⟨w.heap.size, 0, none⟩) (n + 1) (n + 1)) (w.alloc (.cells (List.replicate (n + 1) (Value.bool false)).toArray 4)) := make_bools (n + 1) (by omega) w
/-- The start of a zone. -/
theorem zone_start {n : Nat} {W goal : List Int} {E : Nat → Int → Int → Prop} {h : Int} (hh : hardV W n goal = h) (h0 : 0 ≤ h) (h1 : h ≤ (n : Int)) : SoundG (n + 1) (ZS n W goal) E ((List.replicate (n + 1) false).set h.toNat true) := by
  refine ⟨by simp, fun p hp => ?_, fun p hp => ?_⟩
  · have : p = h := by rw [← hh]; exact hp
    subst this
    rw [List.getElem?_set_self (by simp; omega)]
  · rw [List.getElem?_set] at hp
    split at hp
    · rename_i e
      subst e
      rw [Int.toNat_of_nonneg h0]
      exact .start hh.symm
    · have := replicate_no hp; cases this
theorem bef_start {n : Nat} {st : List Int} {E : Nat → Int → Int → Prop} (h : ∀ p ∈ st, 0 ≤ p ∧ p < (n : Int)) : SoundG (n + 1) (BS n st) E (init3 (n + 1) ((n : Int) :: st)) := by
  have hx : ∀ x ∈ (n : Int) :: st, 0 ≤ x ∧ x < ((n + 1 : Nat) : Int) := fun x hx => by
    rcases List.mem_cons.1 hx with e | e
    · omega
    · have := h x e; omega
  have hs := init3_sound (n := n + 1) (ops := []) (use := fun _ => true) hx
  refine ⟨hs.len, fun p hp => hs.init p ?_, fun p hp => ?_⟩
  · rcases hp with e | e
    · rw [e]; exact List.mem_cons_self ..
    · exact List.mem_cons_of_mem _ e
  · have hr := hs.sound p hp
    cases hr with
    | init hm =>
      rcases List.mem_cons.1 hm with e | e
      · exact .start (.inl e)
      · exact .start (.inr e)
    | step ho => simp at ho
theorem init3_first (n : Nat) : init3 (n + 1) [(n : Int)] = (List.replicate (n + 1) false).set n true := by
  unfold init3; simp
theorem init3_next {n k : Nat} {l : List Int} {x : Int} (h : l[k]? = some x) : init3 (n + 1) ((n : Int) :: l.take (k + 1)) = (init3 (n + 1) ((n : Int) :: l.take k)).set x.toNat true := by
  have h2 : ((n : Int) :: l)[k + 1]? = some x := by simpa using h
  have := init3_succ (n := n + 1) h2
  simpa [List.take_succ_cons] using this

set_option maxRecDepth 100000 in
set_option maxHeartbeats 1000000 in
theorem zone_any (w : World) (b : Nat) (n : Nat) (t : TaskV) (Ai Ag Ao S C Q : Option Addr) (ci cg co cs cc cq : Nat) (st left W : List Int) (hX : SBox w b n t Ai Ag Ao S C Q ci cg co cs cc cq st left W) :
    Calls Try.prog 86 #[.pointer (some ⟨b, 0, none⟩)] w fun e w' => ∃ g, e = .returned (.slice (some ⟨g, 0, none⟩) (n + 1) (n + 1)) ∧ w.heap.size ≤ g ∧ BArr w' g (zoneV n W t.ops left t.goal) ∧ Below w.heap.size w w' := by
  have hmk := make_b1 n hX.n9
  have hn9 := hX.n9
  obtain ⟨h, hh⟩ : ∃ h, Hid (hardV W n t.goal = h) := ⟨_, Lib.hid rfl⟩
  obtain ⟨h0, h1⟩ := hardV_in (vs := W) (n := (n : Int)) (by omega) hX.goal_
  rw [hh.out] at h0 h1
  have hlo := hX.mem.lops.le
  have hlg := hX.mem.lgoal.le
  have HX := Lib.hid hX
  obtain ⟨k0, k1, k2, k3, k4, k5, k6⟩ := SBox.cells (HX.out)
  have kb := World.block_lt_of_cell? _ _ k0
  clear hX
  go_enter Try.func86, Try.ntmps86
  go_wp2_with fail
  refine (hard_at (HX.out.below (by repeat (first | with_reducible exact Below.refl _ _ | with_reducible apply bdrew | with_reducible apply bdrewN | with_reducible apply balloc | ((with_reducible refine bset ?_ ?_ _); rotate_left; (first | omega | (simp <;> omega)))))) _ _ _ (HX.out.mem.goal.below (by repeat (first | with_reducible exact Below.refl _ _ | with_reducible apply bdrew | with_reducible apply bdrewN | with_reducible apply balloc | ((with_reducible refine bset ?_ ?_ _); rotate_left; (first | omega | (simp <;> omega)))))) HX.out.mem.lgoal HX.out.goal_ h hh.out).mono ?_
  rintro e w1 ⟨rfl, hB1⟩
  have D1 := dstep w hB1 (by repeat (first | with_reducible exact Below.refl _ _ | with_reducible apply bdrew | with_reducible apply bdrewN | with_reducible apply balloc | ((with_reducible refine bset ?_ ?_ _); rotate_left; (first | omega | (simp <;> omega)))))
  have d1s := D1.size
  have hA1 : BArr w1 w.heap.size (List.replicate (n + 1) false) := (BArr.made w (n + 1) _ rfl).below hB1
  obtain ⟨y, hy, hd, hf⟩ := hA1.cell (i := h.toNat) (by simp; omega)
  go_wp2_with fail
  go_loopg [4] (2 * falses ((List.replicate (n + 1) false).set h.toNat true) + 1) (fun gk ch wr => ∃ (V : List Bool) (c : Bool), ch = .bool c ∧ Hid (gk = 2 * falses V + c.toNat) ∧ BArr wr w.heap.size V ∧ SoundG (n + 1) (ZS n W t.goal) (ZE n W t.ops left) V ∧ Hid (c = false → ClosedG (ZE n W t.ops left) t.ops.length V) ∧ Below w.heap.size w wr)
  case atStart => exact ⟨_, true, rfl, Lib.hid rfl, hA1.set_ _ _, zone_start hh.out h0 h1, Lib.hid (fun h => by cases h), (by repeat (first | with_reducible exact D1 | with_reducible apply bdrew | with_reducible apply bdrewN | with_reducible apply balloc | ((with_reducible refine bset ?_ ?_ _); rotate_left; (first | omega | (simp <;> omega)))))⟩
  case round =>
    obtain ⟨V0, c, rfl, hgk, hA0, hV0, hcl, hBp⟩ := hrel
    obtain ⟨g3, rfl⟩ : ∃ g : Nat, g = gk := ⟨_, rfl⟩
    obtain ⟨w3, rfl⟩ : ∃ wo : World, wo = wr := ⟨_, rfl⟩
    cases c with
    | false =>
      have e := hV0.eq (hcl.out rfl) (fun i p q h => by obtain ⟨o, c, ho, _⟩ := h; exact (List.getElem?_eq_some_iff.1 ho).1)
      rw [e] at hA0
      clear e hV0 hcl
      go_wp2
      go_ret
      exact ⟨_, rfl, by omega, hA0, hBp⟩
    | true =>
      clear k0 k1 k2 k3 k4 k5 k6 kb
      obtain ⟨k0, k1, k2, k3, k4, k5, k6⟩ := SBox.cells (HX.out.below hBp)
      have kb := World.block_lt_of_cell? _ _ k0
      have dps := hBp.size
      go_wp2_with fail
      go_loopg [4, 33] (t.ops.length) (fun gk ch i wr => ∃ (V : List Bool) (c : Bool) (k : Nat), ch = .bool c ∧ i = .int .i64 k ∧ Hid (k + gk = t.ops.length) ∧ BArr wr w.heap.size V ∧ SoundG (n + 1) (ZS n W t.goal) (ZE n W t.ops left) V ∧ Hid (c = true → falses V < falses V0) ∧ Hid (c = false → falses V ≤ falses V0 ∧ ClosedG (ZE n W t.ops left) k V) ∧ Below w.heap.size w wr)
      case atStart => exact ⟨V0, false, 0, rfl, rfl, Lib.hid (by omega), hA0, hV0, Lib.hid (fun h => by cases h), Lib.hid (fun _ => ⟨Nat.le_refl _, closedG_zero⟩), (by repeat (first | with_reducible exact hBp | with_reducible apply bdrew | with_reducible apply bdrewN | with_reducible apply balloc | ((with_reducible refine bset ?_ ?_ _); rotate_left; (first | omega | (simp <;> omega)))))⟩
      case round =>
        obtain ⟨V1, c1, k, rfl, rfl, hk, hA1, hV1, ht1, hf1, hBs⟩ := hrel
        obtain ⟨g4, rfl⟩ : ∃ g : Nat, g = gk := ⟨_, rfl⟩
        obtain ⟨w4, rfl⟩ : ∃ wo : World, wo = wr := ⟨_, rfl⟩
        clear k0 k1 k2 k3 k4 k5 k6 kb
        obtain ⟨k0, k1, k2, k3, k4, k5, k6⟩ := SBox.cells (HX.out.below hBs)
        have kb := World.block_lt_of_cell? _ _ k0
        have dss := hBs.size
        by_cases hlt : k < t.ops.length
        · obtain ⟨ad, o, A0, c0, A1, c1', A2, c2, rfl, ho, hc0, hc1, hc2, hc3, hm⟩ := HX.out.mem.ops.at2 hBs hlt
          have hoo := Lib.hid (HX.out.ops_ o (List.mem_of_getElem? ho.out))
          have hk1 := Lib.hid (show k + 1 + (g4 - 1) = t.ops.length ∧ g4 - 1 < g4 by have := hk.out; omega)
          have hlk : k < left.length := by have := HX.out.lc; omega
          obtain ⟨cd, cv, rfl, hcv, hcc⟩ := (HX.out.ic.below hBs).at_ hlk
          obtain ⟨f, hf⟩ : ∃ f, Hid (hardV W n o.pre = f) := ⟨_, Lib.hid rfl⟩
          obtain ⟨f0, f1⟩ := hardV_in (vs := W) (n := (n : Int)) (by omega) hoo.out.1
          rw [hf.out] at f0 f1
          go_wp2_with fail
          refine (hard_at (HX.out.below (by repeat (first | with_reducible exact hBs | with_reducible apply bdrew | with_reducible apply bdrewN | with_reducible apply balloc | ((with_reducible refine bset ?_ ?_ _); rotate_left; (first | omega | (simp <;> omega)))))) _ _ _ (hm.pre.below (by repeat (first | with_reducible exact hBs | with_reducible apply bdrew | with_reducible apply bdrewN | with_reducible apply balloc | ((with_reducible refine bset ?_ ?_ _); rotate_left; (first | omega | (simp <;> omega)))))) hm.lpre hoo.out.1 f hf.out).mono ?_
          rintro e w6 ⟨rfl, hB6⟩
          have D6 := dstep w hB6 (by repeat (first | with_reducible exact hBs | with_reducible apply bdrew | with_reducible apply bdrewN | with_reducible apply balloc | ((with_reducible refine bset ?_ ?_ _); rotate_left; (first | omega | (simp <;> omega)))))
          have d6s := D6.size
          have C6 := Cls.below (l := [(w4.heap.size, 0, .slice A0 o.pre.length c0), (w4.heap.size, 1, .slice A1 o.add.length c1'), (w4.heap.size, 2, .slice A2 o.del.length c2), (w4.heap.size, 3, .int .i64 o.cost)]) hB6 (by simp [Cls, go_sem])
          have F6 := C6
          simp only [Cls, and_true] at F6
          have y6w40 : w4.heap.size < w6.heap.size := C6.blk (b := w4.heap.size) (k := 0) (v := .slice A0 o.pre.length c0) (by simp)
          have y6w4p1 : w4.heap.size < w6.heap.size + 1 := (by omega)
          have y6w4p2 : w4.heap.size < w6.heap.size + 1 + 1 := (by omega)
          have E6 := dstep w4 hB6 (by repeat (first | with_reducible exact Below.refl _ _ | with_reducible apply bdrew | with_reducible apply bdrewN | with_reducible apply balloc | ((with_reducible refine bset ?_ ?_ _); rotate_left; (first | omega | (simp <;> omega)))))
          clear k0 k1 k2 k3 k4 k5 k6 kb
          obtain ⟨k0, k1, k2, k3, k4, k5, k6⟩ := SBox.cells (HX.out.below D6)
          have kb := World.block_lt_of_cell? _ _ k0
          have hcc6 := (E6.cell (World.block_lt_of_cell? w4 _ hcc)).trans hcc
          clear hcc
          have hcb := Lib.hid hcv.out
          have hA6 := hA1.below E6
          by_cases hpos : 0 < cv
          · have hpd : decide (0 < cv) = true := by simpa using hpos
            have HP := Lib.hid hpos
            clear hpos
            go_wp2
            go_roundg (g4 - 1)
            case measure => exact hk1.out.2
            case rel =>
              refine ⟨V1, c1, k + 1, rfl, by go_num, Lib.hid hk1.out.1, hA6, hV1, ht1, Lib.hid (fun h => ⟨(hf1.out h).1, closedG_succ (hf1.out h).2 (fun p q hE hp => by obtain ⟨o', c', _, hc', hn', _⟩ := hE; rw [hcv.out] at hc'; injection hc' with hc'; subst hc'; exact absurd HP.out hn')⟩), (by repeat (first | with_reducible exact D6 | with_reducible apply bdrew | with_reducible apply bdrewN | with_reducible apply balloc | ((with_reducible refine bset ?_ ?_ _); rotate_left; (first | omega | (simp <;> omega)))))⟩
          · have hpd : decide (0 < cv) = false := by simpa using hpos
            have HP := Lib.hid hpos
            clear hpos
            have hl1 := hV1.len
            obtain ⟨yf, hyf, hyc, hyw⟩ := hA6.cell (i := f.toNat) (by omega)
            have HL1 := Lib.hid hl1
            clear hl1
            cases yf with
            | true =>
              go_wp2
              go_roundg (g4 - 1)
              case measure => exact hk1.out.2
              case rel =>
                refine ⟨V1, c1, k + 1, rfl, by go_num, Lib.hid hk1.out.1, hA6, hV1, ht1, Lib.hid (fun h => ⟨(hf1.out h).1, closedG_succ (hf1.out h).2 (fun p q hE hp => by obtain ⟨o', c', ho', _, _, _, e⟩ := hE; rw [ho.out] at ho'; injection ho' with ho'; subst ho'; rw [e, hf.out]; exact hyf.out)⟩), (by repeat (first | with_reducible exact D6 | with_reducible apply bdrew | with_reducible apply bdrewN | with_reducible apply balloc | ((with_reducible refine bset ?_ ?_ _); rotate_left; (first | omega | (simp <;> omega)))))⟩
            | false =>
              have hlc' := hm.ladd.le
              go_wp2_with fail
              go_loopg [4, 59] (o.add.length) (fun gk ch i wr => ∃ (V : List Bool) (c : Bool) (j : Nat), ch = .bool c ∧ i = .int .i64 j ∧ Hid (j + gk = o.add.length) ∧ BArr wr w.heap.size V ∧ SoundG (n + 1) (ZS n W t.goal) (ZE n W t.ops left) V ∧ Hid (c = true → falses V < falses V0) ∧ Hid (c = false → falses V ≤ falses V0 ∧ ClosedG (ZE n W t.ops left) k V ∧ V[f.toNat]? = some false ∧ ∀ p ∈ o.add.take j, V[p.toNat]? = some false) ∧ Below w.heap.size w wr)
              case atStart => exact ⟨V1, c1, 0, rfl, rfl, Lib.hid (by omega), hA6, hV1, ht1, Lib.hid (fun h => ⟨(hf1.out h).1, (hf1.out h).2, hyf.out, by simp⟩), (by repeat (first | with_reducible exact D6 | with_reducible apply bdrew | with_reducible apply bdrewN | with_reducible apply balloc | ((with_reducible refine bset ?_ ?_ _); rotate_left; (first | omega | (simp <;> omega)))))⟩
              case round =>
                obtain ⟨V2, c2', j, rfl, rfl, hj, hA2, hV2, ht2, hf2, hBu⟩ := hrel
                obtain ⟨w8, rfl⟩ : ∃ wo : World, wo = wr := ⟨_, rfl⟩
                have dus := hBu.size
                by_cases hlj : j < o.add.length
                · obtain ⟨pd, p, rfl, hp, hpc⟩ := (hm.add.below hBu).at_ hlj
                  obtain ⟨p0, p1⟩ := hoo.out.2 p (List.mem_of_getElem? hp.out)
                  have hl2 := hV2.len
                  obtain ⟨y2, hy2, hyc2, hyw2⟩ := hA2.cell (i := p.toNat) (by omega)
                  obtain ⟨yf, hyf2, hyfc, hyfw⟩ := hA2.cell (i := f.toNat) (by omega)
                  have hj1 := Lib.hid (show j + 1 + (gk - 1) = o.add.length ∧ gk - 1 < gk by have := hj.out; omega)
                  have HV2 := Lib.hid hV2
                  have HL2 := Lib.hid hl2
                  clear hV2 hl2
                  cases y2 with
                  | true =>
                    have hz := Lib.hid (show GR (ZS n W t.goal) (ZE n W t.ops left) f from by
                      have h3 := HV2.out.sound _ hy2.out
                      rw [Int.toNat_of_nonneg p0] at h3
                      exact .step h3 ⟨o, cv, ho.out, hcv.out, (by have := HP.out; omega), List.mem_of_getElem? hp.out, hf.out.symm⟩)
                    go_wp2
                    go_roundg (gk - 1)
                    case measure => exact hj1.out.2
                    case rel =>
                      refine ⟨V2.set f.toNat true, true, j + 1, rfl, by go_num, Lib.hid hj1.out.1, hA2.set_ _ _, HV2.out.set_ hz.out f0 (by omega), Lib.hid (fun _ => ?_), Lib.hid (fun h => by cases h), (by repeat (first | with_reducible exact hBu | with_reducible apply bdrew | with_reducible apply bdrewN | with_reducible apply balloc | ((with_reducible refine bset ?_ ?_ _); rotate_left; (first | omega | (simp <;> omega)))))⟩
                      cases c2' with
                      | true => have h2 := ht2.out (by simp); have h3 := falses_set_le (bs := V2) (i := f.toNat); omega
                      | false => have h2 := hf2.out (by simp); have h3 := falses_set h2.2.2.1; omega
                  | false =>
                    go_wp2
                    go_roundg (gk - 1)
                    case measure => exact hj1.out.2
                    case rel =>
                      exact ⟨V2, c2', j + 1, rfl, by go_num, Lib.hid hj1.out.1, hA2, HV2.out, ht2, Lib.hid (fun h => ⟨(hf2.out h).1, (hf2.out h).2.1, (hf2.out h).2.2.1, forall_take_succ (P := fun p : Int => V2[p.toNat]? = some false) hp.out (hf2.out h).2.2.2 hy2.out⟩), (by repeat (first | with_reducible exact hBu | with_reducible apply bdrew | with_reducible apply bdrewN | with_reducible apply balloc | ((with_reducible refine bset ?_ ?_ _); rotate_left; (first | omega | (simp <;> omega)))))⟩
                · go_wp2
                  go_roundg (g4 - 1)
                  case measure => exact hk1.out.2
                  case rel =>
                    refine ⟨V2, c2', k + 1, rfl, by go_num, Lib.hid hk1.out.1, hA2, hV2, ht2, Lib.hid (fun h => ⟨(hf2.out h).1, closedG_succ (hf2.out h).2.1 (fun p q hE hp => ?_)⟩), (by repeat (first | with_reducible exact hBu | with_reducible apply bdrew | with_reducible apply bdrewN | with_reducible apply balloc | ((with_reducible refine bset ?_ ?_ _); rotate_left; (first | omega | (simp <;> omega)))))⟩
                    obtain ⟨o', c', ho', _, _, hpm, _⟩ := hE
                    rw [ho.out] at ho'; injection ho' with ho'; subst ho'
                    have h3 := forall_take_all hlj (hf2.out h).2.2.2 p hpm
                    rw [h3] at hp; cases hp
        · have hkk := Lib.hid (show k = t.ops.length by have := hk.out; omega)
          go_wp2
          go_roundg (2 * falses V1 + c1.toNat)
          case measure =>
            rw [hgk.out]
            cases c1 with
            | true => have := ht1.out rfl; simp; omega
            | false => have := (hf1.out rfl).1; simp; omega
          case rel => exact ⟨V1, c1, rfl, Lib.hid rfl, hA1, hV1, Lib.hid (fun h => by rw [← hkk.out]; exact (hf1.out h).2), (by repeat (first | with_reducible exact hBs | with_reducible apply bdrew | with_reducible apply bdrewN | with_reducible apply balloc | ((with_reducible refine bset ?_ ?_ _); rotate_left; (first | omega | (simp <;> omega)))))⟩


end Go.Proofs.Ythnhhohnjiigcaa
