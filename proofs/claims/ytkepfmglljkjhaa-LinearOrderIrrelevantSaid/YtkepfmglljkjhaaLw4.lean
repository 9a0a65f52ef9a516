/-
  linear.Certified.
-/
import Derived.Test.YtkepfmglljkjhaaLw3
namespace Go.Proofs.Ytkepfmglljkjhaa
open Go.RowKit
set_option linter.unusedVariables false
set_option linter.unusedSimpArgs false

/-- A point and a dual solution of the same value. -/
def CertP (p : LpV) (x : List Int) (d : Int) (y : List Int) (e : Int) : Prop := LA.IsPt p.lp (atL x) d ∧ LA.IsDu p.lp (atL y) e ∧ LA.valP p.lp (atL x) * e = LA.valD p.lp (atL y) * d
theorem obj_at {p : LpV} {j : Nat} {c : Int} (h : p.obj[j]? = some c) : p.lp.c j = c := by
  show (p.obj[j]?).getD 0 = c
  rw [h]; rfl
set_option maxRecDepth 100000 in
set_option maxHeartbeats 4000000 in
theorem certified_any (w : World) (AR AB AO : Option Addr) (cr cb co : Nat) (p : LpV) (hM : LpMem w AR AB AO p) (m mb n : Nat) (hrl : Hid (p.rows.length = m)) (hbl : Hid (p.bounds.length = mb)) (hol : Hid (p.obj.length = n)) (X : Option Addr) (cX lx : Nat) (x : List Int) (d : Int) (hlx : Hid (x.length = lx)) (hIx : Ints w X x) (hx63 : lx ≤ 9223372036854775807) (Y : Option Addr) (cY ly : Nat) (y : List Int) (e : Int) (hly : Hid (y.length = ly)) (hIy : Ints w Y y) (hy63 : ly ≤ 9223372036854775807) (a a2 : Int) (hf : Hid (fltPD p x d y e = (a, a2))) :
    Calls Try.prog 29 #[.agg #[.slice AR m cr, .slice AB mb cb, .slice AO n co], .agg #[.slice X lx cX, .int .i64 d], .agg #[.slice Y ly cY, .int .i64 e]] w fun r w' => Told (CertP p x d y e) a a2 w w' r := by
  have HIX := Lib.hid hIx
  have HIY := Lib.hid hIy
  have HM := Lib.hid hM
  clear hM hIx hIy
  go_enter Try.func29, Try.ntmps29
  go_wp2_with fail
  refine (lcheck_pd _ AR AB AO cr cb co p (HM.out.below (by repeat (first | with_reducible exact Below.refl _ _ | with_reducible apply bdrew | with_reducible apply bdrewN | with_reducible apply balloc | ((with_reducible refine bset ?_ ?_ _); rotate_left; (first | omega | (simp <;> omega)))))) m mb n hrl hbl hol X cX lx x d hlx (HIX.out.below (by repeat (first | with_reducible exact Below.refl _ _ | with_reducible apply bdrew | with_reducible apply bdrewN | with_reducible apply balloc | ((with_reducible refine bset ?_ ?_ _); rotate_left; (first | omega | (simp <;> omega)))))) hx63 Y cY ly y e hly (HIY.out.below (by repeat (first | with_reducible exact Below.refl _ _ | with_reducible apply bdrew | with_reducible apply bdrewN | with_reducible apply balloc | ((with_reducible refine bset ?_ ?_ _); rotate_left; (first | omega | (simp <;> omega)))))) hy63 (w.heap.size + 1 + 1 + 1 + 1) (w.heap.size + 1 + 1 + 1 + 1 + 1) (by simp [go_sem]) (by simp [go_sem]) (by simp [go_sem]) (by simp [go_sem]) a a2 hf).mono ?_
  rintro e w1 ⟨rfl, hB1⟩
  have D1 := dstep w hB1 (by repeat (first | with_reducible exact Below.refl _ _ | with_reducible apply bdrew | with_reducible apply bdrewN | with_reducible apply balloc | ((with_reducible refine bset ?_ ?_ _); rotate_left; (first | omega | (simp <;> omega)))))
  have d1s := D1.size
  have C1 := Cls.below (l := [(w.heap.size, 0, .slice AR m cr), (w.heap.size, 1, .slice AB mb cb), (w.heap.size, 2, .slice AO n co), (w.heap.size + 1, 0, .slice X lx cX), (w.heap.size + 1, 1, .int .i64 d), (w.heap.size + 1 + 1, 0, .slice Y ly cY), (w.heap.size + 1 + 1, 1, .int .i64 e), (w.heap.size + 1 + 1 + 1, 0, .int .i64 0), (w.heap.size + 1 + 1 + 1, 1, .int .i64 0)]) hB1 (by simp [Cls, go_sem])
  have F1 := C1
  simp only [Cls, and_true] at F1
  have y1w3 : w.heap.size + 1 + 1 + 1 < w1.heap.size := C1.blk (b := w.heap.size + 1 + 1 + 1) (k := 0) (v := .int .i64 0) (by simp)
  have y1w2 : w.heap.size + 1 + 1 < w1.heap.size := (by omega)
  have y1w1 : w.heap.size + 1 < w1.heap.size := (by omega)
  have y1w0 : w.heap.size < w1.heap.size := (by omega)
  have y1wp1 : w.heap.size < w1.heap.size + 1 := (by omega)
  have y1wp2 : w.heap.size < w1.heap.size + 1 + 1 := (by omega)
  by_cases ha : a = 0
  · have HZ := Lib.hid (fltPD_zero (by rw [hf.out]; exact ha))
    have ha2 : a2 = 0 := by
      have h := fltPD_snd (p := p) (x := x) (d := d) (y := y) (e := e) (by rw [hf.out]; exact ha)
      rw [hf.out] at h
      exact h
    subst ha
    subst ha2
    have HOK := Lib.hid HZ.out.1
    have HVX := Lib.hid HZ.out.2.1
    have HVY := Lib.hid HZ.out.2.2
    have hmb : mb = m := by rw [← hbl.out, ← hrl.out]; exact HOK.out.b
    subst hmb
    have hlnx : lx = n := by rw [← hlx.out, HVX.out.len]; exact hol.out
    subst hlnx
    have hlny : ly = mb := by rw [← hly.out, HVY.out.len]; exact hrl.out
    subst hlny
    have hm6 : ly ≤ 6 := by have := HOK.out.m; rw [hrl.out] at this; exact this
    have hn6 : lx ≤ 6 := by have := HOK.out.n; rw [hol.out] at this; exact this
    have HLM : Hid (p.lp.m = ly) := Lib.hid hrl.out
    have HLN : Hid (p.lp.n = lx) := Lib.hid hol.out
    have he0 := HVY.out.pos
    have he1 := HVY.out.dle
    have hd0 := HVX.out.pos
    have hd1 := HVX.out.dle
    go_wp2_with fail
    refine (lfits_any _ AR AB AO cr cb co p (HM.out.below (by repeat (first | with_reducible exact D1 | with_reducible apply bdrew | with_reducible apply bdrewN | with_reducible apply balloc | ((with_reducible refine bset ?_ ?_ _); rotate_left; (first | omega | (simp <;> omega)))))) HOK.out ly lx hrl hbl hol hm6 hn6 d (by omega) (by omega) X cX x hlx (HIX.out.below (by repeat (first | with_reducible exact D1 | with_reducible apply bdrew | with_reducible apply bdrewN | with_reducible apply balloc | ((with_reducible refine bset ?_ ?_ _); rotate_left; (first | omega | (simp <;> omega)))))) HVX.out.le).mono ?_
    rintro e w2 ⟨ok, rfl, HR, hB2⟩
    have D2 := dstep w hB2 (by repeat (first | with_reducible exact D1 | with_reducible apply bdrew | with_reducible apply bdrewN | with_reducible apply balloc | ((with_reducible refine bset ?_ ?_ _); rotate_left; (first | omega | (simp <;> omega)))))
    have C2 := Cls.below (l := [(w.heap.size, 0, .slice AR ly cr), (w.heap.size, 1, .slice AB ly cb), (w.heap.size, 2, .slice AO lx co), (w.heap.size + 1, 0, .slice X lx cX), (w.heap.size + 1, 1, .int .i64 d), (w.heap.size + 1 + 1, 0, .slice Y ly cY), (w.heap.size + 1 + 1, 1, .int .i64 e), (w.heap.size + 1 + 1 + 1, 0, .int .i64 0), (w.heap.size + 1 + 1 + 1, 1, .int .i64 0), (w1.heap.size, 0, .int .i64 0), (w1.heap.size, 1, .int .i64 0)]) hB2 (by simp [Cls, go_sem, F1, y1w3, y1w2, y1w1, y1w0, y1wp1, y1wp2])
    have F2 := C2
    simp only [Cls, and_true] at F2
    have y2w3 : w.heap.size + 1 + 1 + 1 < w2.heap.size := C2.blk (b := w.heap.size + 1 + 1 + 1) (k := 0) (v := .int .i64 0) (by simp)
    have y2w2 : w.heap.size + 1 + 1 < w2.heap.size := (by omega)
    have y2w1 : w.heap.size + 1 < w2.heap.size := (by omega)
    have y2w0 : w.heap.size < w2.heap.size := (by omega)
    have y2wp1 : w.heap.size < w2.heap.size + 1 := (by omega)
    have y2wp2 : w.heap.size < w2.heap.size + 1 + 1 := (by omega)
    have y2w10 : w1.heap.size < w2.heap.size := C2.blk (b := w1.heap.size) (k := 0) (v := .int .i64 0) (by simp)
    have y2w1p1 : w1.heap.size < w2.heap.size + 1 := (by omega)
    have y2w1p2 : w1.heap.size < w2.heap.size + 1 + 1 := (by omega)
    cases ok with
    | false =>
      have HT := Lib.hid (fun h => Bool.false_ne_true (HR.out.2 h))
      clear HR
      go_wp2
      refine bodyPost_ret (v := .tuple #[.bool false, .agg #[.int .i64 0, .int .i64 0]]) ?_ rfl (Told.ok (iff_of_false (by simp) fun h => HT.out h.1) (by repeat (first | with_reducible exact D2 | with_reducible apply bdrew | with_reducible apply bdrewN | with_reducible apply balloc | ((with_reducible refine bset ?_ ?_ _); rotate_left; (first | omega | (simp <;> omega))))))
      simp [results, Try.results29, go_sem, F2, y2w3, y2w2, y2w1, y2w0, y2wp1, y2wp2, y2w10, y2w1p1, y2w1p2]
    | true =>
      have HT := Lib.hid (HR.out.1 rfl)
      clear HR
      go_wp2_with fail
      refine (lneg_any _ Y cY y ly hly (by omega) (HIY.out.below (by repeat (first | with_reducible exact D2 | with_reducible apply bdrew | with_reducible apply bdrewN | with_reducible apply balloc | ((with_reducible refine bset ?_ ?_ _); rotate_left; (first | omega | (simp <;> omega))))))).mono ?_
      rintro e w3 ⟨neg, rfl, HR, hB3⟩
      have D3 := dstep w hB3 (by repeat (first | with_reducible exact D2 | with_reducible apply bdrew | with_reducible apply bdrewN | with_reducible apply balloc | ((with_reducible refine bset ?_ ?_ _); rotate_left; (first | omega | (simp <;> omega)))))
      have C3 := Cls.below (l := [(w.heap.size, 0, .slice AR ly cr), (w.heap.size, 1, .slice AB ly cb), (w.heap.size, 2, .slice AO lx co), (w.heap.size + 1, 0, .slice X lx cX), (w.heap.size + 1, 1, .int .i64 d), (w.heap.size + 1 + 1, 0, .slice Y ly cY), (w.heap.size + 1 + 1, 1, .int .i64 e), (w.heap.size + 1 + 1 + 1, 0, .int .i64 0), (w.heap.size + 1 + 1 + 1, 1, .int .i64 0), (w1.heap.size, 0, .int .i64 0), (w1.heap.size, 1, .int .i64 0)]) hB3 (by simp [Cls, go_sem, F2, y2w3, y2w2, y2w1, y2w0, y2wp1, y2wp2, y2w10, y2w1p1, y2w1p2])
      have F3 := C3
      simp only [Cls, and_true] at F3
      have y3w3 : w.heap.size + 1 + 1 + 1 < w3.heap.size := C3.blk (b := w.heap.size + 1 + 1 + 1) (k := 0) (v := .int .i64 0) (by simp)
      have y3w2 : w.heap.size + 1 + 1 < w3.heap.size := (by omega)
      have y3w1 : w.heap.size + 1 < w3.heap.size := (by omega)
      have y3w0 : w.heap.size < w3.heap.size := (by omega)
      have y3wp1 : w.heap.size < w3.heap.size + 1 := (by omega)
      have y3wp2 : w.heap.size < w3.heap.size + 1 + 1 := (by omega)
      have y3w10 : w1.heap.size < w3.heap.size := C3.blk (b := w1.heap.size) (k := 0) (v := .int .i64 0) (by simp)
      have y3w1p1 : w1.heap.size < w3.heap.size + 1 := (by omega)
      have y3w1p2 : w1.heap.size < w3.heap.size + 1 + 1 := (by omega)
      cases neg with
      | true =>
        have HT2 := Lib.hid (HR.out.1 rfl)
        clear HR
        go_wp2
        refine bodyPost_ret (v := .tuple #[.bool false, .agg #[.int .i64 0, .int .i64 0]]) ?_ rfl (Told.ok (iff_of_false (by simp) fun h => (nn_iff hly.out).2 (fun j hj => h.2.1.2 j (by rw [HLM.out]; exact hj)) HT2.out) (by repeat (first | with_reducible exact D3 | with_reducible apply bdrew | with_reducible apply bdrewN | with_reducible apply balloc | ((with_reducible refine bset ?_ ?_ _); rotate_left; (first | omega | (simp <;> omega))))))
        simp [results, Try.results29, go_sem, F3, y3w3, y3w2, y3w1, y3w0, y3wp1, y3wp2, y3w10, y3w1p1, y3w1p2]
      | false =>
        have HT2 : Hid (∀ j, j < ly → 0 ≤ atL y j) := Lib.hid ((nn_iff hly.out).1 fun h => Bool.false_ne_true (HR.out.2 h))
        clear HR
        go_wp2_with fail
        refine (lcols_any _ AR AB AO cr cb co p (HM.out.below (by repeat (first | with_reducible exact D3 | with_reducible apply bdrew | with_reducible apply bdrewN | with_reducible apply balloc | ((with_reducible refine bset ?_ ?_ _); rotate_left; (first | omega | (simp <;> omega)))))) HOK.out ly lx hrl hbl hol hm6 hn6 Y cY y hly (HIY.out.below (by repeat (first | with_reducible exact D3 | with_reducible apply bdrew | with_reducible apply bdrewN | with_reducible apply balloc | ((with_reducible refine bset ?_ ?_ _); rotate_left; (first | omega | (simp <;> omega)))))) HVY.out.le).mono ?_
        rintro e w4 ⟨g, rfl, hg, hAg, hB4⟩
        have HAG := Lib.hid hAg
        have D4 := dstep w hB4 (by repeat (first | with_reducible exact D3 | with_reducible apply bdrew | with_reducible apply bdrewN | with_reducible apply balloc | ((with_reducible refine bset ?_ ?_ _); rotate_left; (first | omega | (simp <;> omega)))))
        have C4 := Cls.below (l := [(w.heap.size, 0, .slice AR ly cr), (w.heap.size, 1, .slice AB ly cb), (w.heap.size, 2, .slice AO lx co), (w.heap.size + 1, 0, .slice X lx cX), (w.heap.size + 1, 1, .int .i64 d), (w.heap.size + 1 + 1, 0, .slice Y ly cY), (w.heap.size + 1 + 1, 1, .int .i64 e), (w.heap.size + 1 + 1 + 1, 0, .int .i64 0), (w.heap.size + 1 + 1 + 1, 1, .int .i64 0), (w1.heap.size, 0, .int .i64 0), (w1.heap.size, 1, .int .i64 0)]) hB4 (by simp [Cls, go_sem, F3, y3w3, y3w2, y3w1, y3w0, y3wp1, y3wp2, y3w10, y3w1p1, y3w1p2])
        have F4 := C4
        simp only [Cls, and_true] at F4
        have y4w3 : w.heap.size + 1 + 1 + 1 < w4.heap.size := C4.blk (b := w.heap.size + 1 + 1 + 1) (k := 0) (v := .int .i64 0) (by simp)
        have y4w2 : w.heap.size + 1 + 1 < w4.heap.size := (by omega)
        have y4w1 : w.heap.size + 1 < w4.heap.size := (by omega)
        have y4w0 : w.heap.size < w4.heap.size := (by omega)
        have y4wp1 : w.heap.size < w4.heap.size + 1 := (by omega)
        have y4wp2 : w.heap.size < w4.heap.size + 1 + 1 := (by omega)
        have y4w10 : w1.heap.size < w4.heap.size := C4.blk (b := w1.heap.size) (k := 0) (v := .int .i64 0) (by simp)
        have y4w1p1 : w1.heap.size < w4.heap.size + 1 := (by omega)
        have y4w1p2 : w1.heap.size < w4.heap.size + 1 + 1 := (by omega)
        have d4s := D4.size
        go_wp2_with fail
        go_loopw [39] (fun v wr => ∃ j : Nat, j ≤ lx ∧ v = .int .i64 j ∧ Hid (∀ i, i < j → p.lp.c i * e ≤ colL p y ly i) ∧ Below w4.heap.size w4 wr) (fun v _ => lx - (intOf v).toNat)
        case atStart => exact ⟨0, Nat.zero_le _, rfl, Lib.hid (fun i hi => by omega), by repeat (first | with_reducible exact Below.refl _ _ | with_reducible apply bdrew | with_reducible apply bdrewN | with_reducible apply balloc | ((with_reducible refine bset ?_ ?_ _); rotate_left; (first | omega | (simp <;> omega))))⟩
        case round =>
          obtain ⟨j, hj, rfl, HA, hBr⟩ := hrel
          obtain ⟨w5, rfl⟩ : ∃ wo : World, wo = wr := ⟨_, rfl⟩
          have D5 := D4.trans (hBr.mono d4s)
          have d5s := D5.size
          have C5 := Cls.below (w := w4) hBr C4
          have F5 := C5
          simp only [Cls, and_true] at F5
          have y5w3 : w.heap.size + 1 + 1 + 1 < w5.heap.size := C5.blk (b := w.heap.size + 1 + 1 + 1) (k := 0) (v := .int .i64 0) (by simp)
          have y5w2 : w.heap.size + 1 + 1 < w5.heap.size := (by omega)
          have y5w1 : w.heap.size + 1 < w5.heap.size := (by omega)
          have y5w0 : w.heap.size < w5.heap.size := (by omega)
          have y5wp1 : w.heap.size < w5.heap.size + 1 := (by omega)
          have y5wp2 : w.heap.size < w5.heap.size + 1 + 1 := (by omega)
          have y5w10 : w1.heap.size < w5.heap.size := C5.blk (b := w1.heap.size) (k := 0) (v := .int .i64 0) (by simp)
          have y5w1p1 : w1.heap.size < w5.heap.size + 1 := (by omega)
          have y5w1p2 : w1.heap.size < w5.heap.size + 1 + 1 := (by omega)
          by_cases hlt : j < lx
          · obtain ⟨ad, c, hAO, hc, hcc⟩ := (HM.out.obj.below D5).at_ (k := j) (by rw [hol.out]; exact hlt)
            subst hAO
            obtain ⟨z, hz, hzc, hzf⟩ := (HAG.out.below hBr).cell (i := j) (by rw [tbRow_len]; exact hlt)
            have hze : Hid (colL p y ly j = z) := Lib.hid (by have h := hz.out; rw [tbRow_at _ hlt] at h; injection h with h)
            have hcb := HOK.out.c c (List.mem_of_getElem? hc.out)
            have hmul := mul_le (X := 20) (Y := 100000000) hcb (show -100000000 ≤ e ∧ e ≤ 100000000 by omega)
            obtain ⟨hmul1, hmul2⟩ := hmul
            obtain ⟨u, hu⟩ : ∃ u, Hid (c * e = u) := ⟨_, Lib.hid rfl⟩
            have hwu : IntKind.i64.wrap (c * e) = u := by rw [hu.out] at hmul1 hmul2 ⊢; exact Go.IntWalk.i64_in _ (by omega)
            clear hz hcb
            by_cases hlt2 : z < u
            · have hd : decide (z < u) = true := decide_eq_true hlt2
              have HG := Lib.hid hlt2
              go_wp2_with fail
              go_quiet (fail)
              go_wp2
              refine bodyPost_ret (v := .tuple #[.bool false, .agg #[.int .i64 0, .int .i64 0]]) ?_ rfl (Told.ok (iff_of_false (by simp) fun h => by
                have h1 := h.2.1.1 j (by rw [HLN.out]; exact hlt)
                rw [obj_at hc.out, hu.out, HLM.out] at h1
                have h2 : LA.sumN ly (fun k => p.lp.A k j * atL y k) = z := hze.out
                rw [h2] at h1
                have := HG.out
                omega) (by repeat (first | with_reducible exact D5 | with_reducible apply bdrew | with_reducible apply bdrewN | with_reducible apply balloc | ((with_reducible refine bset ?_ ?_ _); rotate_left; (first | omega | (simp <;> omega))))))
              simp [results, Try.results29, go_sem, F5, y5w3, y5w2, y5w1, y5w0, y5wp1, y5wp2, y5w10, y5w1p1, y5w1p2]
            · have hd : decide (z < u) = false := decide_eq_false hlt2
              have HG := Lib.hid (show u ≤ z by omega)
              go_wp2_with fail
              go_quiet (fail)
              go_wp2
              go_roundw
              case rel => exact ⟨j + 1, by omega, by go_num, Lib.hid (fun i hi => by
                by_cases e1 : i = j
                · subst e1; rw [obj_at hc.out, hu.out, hze.out]; exact HG.out
                · exact HA.out i (by omega)), by repeat (first | with_reducible exact hBr | with_reducible apply bdrew | with_reducible apply bdrewN | with_reducible apply balloc | ((with_reducible refine bset ?_ ?_ _); rotate_left; (first | omega | (simp <;> omega))))⟩
              case measure => simp [intOf]; omega
          · obtain rfl : lx = j := by omega
            have HDU : Hid (LA.IsDu p.lp (atL y) e) := Lib.hid ⟨fun i hi => by rw [HLM.out]; exact HA.out i (by rw [← HLN.out]; exact hi), fun k hk => HT2.out k (by rw [← HLM.out]; exact hk)⟩
            obtain ⟨s1, hs1⟩ : ∃ s, Hid (dotL lx p.obj x = s) := ⟨_, Lib.hid rfl⟩
            obtain ⟨s2, hs2⟩ : ∃ s, Hid (dotL ly p.bounds y = s) := ⟨_, Lib.hid rfl⟩
            have HP1 : Hid (∀ W : World, Below w.heap.size w W → Calls Try.prog 50 #[.slice AO lx co, .slice X lx cX] W fun e w' => e = .returned (.int .i64 s1) ∧ Below W.heap.size W w') := Lib.hid (fun W hB => by
              have h := lprod_any W AO X co cX p.obj x lx hol hlx hn6 (HM.out.obj.below hB) (HIX.out.below hB) HOK.out.c100 HVX.out.le
              rw [hs1.out] at h; exact h)
            have HP2 : Hid (∀ W : World, Below w.heap.size w W → Calls Try.prog 50 #[.slice AB ly cb, .slice Y ly cY] W fun e w' => e = .returned (.int .i64 s2) ∧ Below W.heap.size W w') := Lib.hid (fun W hB => by
              have h := lprod_any W AB Y cb cY p.bounds y ly hbl hly hm6 (HM.out.bounds.below hB) (HIY.out.below hB) HOK.out.b100 HVY.out.le
              rw [hs2.out] at h; exact h)
            have hl1 := dotL_le HOK.out.c100 HVX.out.le lx
            have hl2 := dotL_le HOK.out.b100 HVY.out.le ly
            rw [hs1.out] at hl1
            rw [hs2.out] at hl2
            have hm1 := mul_le (X := 60000000000) (Y := 100000000) (show -60000000000 ≤ s1 ∧ s1 ≤ 60000000000 by omega) (show -100000000 ≤ e ∧ e ≤ 100000000 by omega)
            have hm2 := mul_le (X := 60000000000) (Y := 100000000) (show -60000000000 ≤ s2 ∧ s2 ≤ 60000000000 by omega) (show -100000000 ≤ d ∧ d ≤ 100000000 by omega)
            obtain ⟨u1, hu1⟩ : ∃ u, Hid (s1 * e = u) := ⟨_, Lib.hid rfl⟩
            obtain ⟨u2, hu2⟩ : ∃ u, Hid (s2 * d = u) := ⟨_, Lib.hid rfl⟩
            have hwu1 : IntKind.i64.wrap (s1 * e) = u1 := by rw [hu1.out] at hm1 ⊢; exact Go.IntWalk.i64_in _ (by omega)
            have hwu2 : IntKind.i64.wrap (s2 * d) = u2 := by rw [hu2.out] at hm2 ⊢; exact Go.IntWalk.i64_in _ (by omega)
            have HC : Hid ((u1 == u2) = true ↔ CertP p x d y e) := Lib.hid (by
              unfold CertP
              rw [obj_dot hol.out, bnd_dot hrl.out, hs1.out, hs2.out, hu1.out, hu2.out]
              constructor
              · intro h; exact ⟨HT.out, HDU.out, by simpa using h⟩
              · rintro ⟨_, _, h⟩; simpa using h)
            clear hl1 hl2 hm1 hm2
            go_wp2_with fail
            refine wp_region_held_drew (S := fun W => W.cell? ⟨w.heap.size, 1, none⟩ = some (.slice AB ly cb) ∧ W.cell? ⟨w.heap.size, 2, none⟩ = some (.slice AO lx co) ∧ W.cell? ⟨w.heap.size + 1, 0, none⟩ = some (.slice X lx cX) ∧ W.cell? ⟨w.heap.size + 1, 1, none⟩ = some (.int .i64 d) ∧ W.cell? ⟨w.heap.size + 1 + 1, 0, none⟩ = some (.slice Y ly cY) ∧ W.cell? ⟨w.heap.size + 1 + 1, 1, none⟩ = some (.int .i64 e)) (by kernel_rfl) (by simp [go_sem, F5, y5w3, y5w2, y5w1, y5w0, y5wp1, y5wp2, y5w10, y5w1p1, y5w1p2]) (fun hHeld => ?_)
            refine wpAnyH_take (i := 0) (v := ?vo10) rfl (by kernel_rfl) (by kernel_rfl) (by kernel_rfl) (fun _ _ _ h => h) (Or.inl ⟨by rfl, ?ho10⟩) (by assumption) ?ro10
            case ho10 => (intro w hSw; (try dsimp only at hSw); go_simp; (try with_reducible rfl))
            try simp only [Act.put, List.getElem_toArray, List.getElem_cons_succ, List.getElem_cons_zero, List.setIfInBounds_toArray, List.set_cons_zero, List.set_cons_succ]
            refine wpAnyH_take (i := 1) (v := ?vo11) rfl (by kernel_rfl) (by kernel_rfl) (by kernel_rfl) (fun _ _ _ h => h) (Or.inl ⟨by rfl, ?ho11⟩) (by assumption) ?ro11
            case ho11 => (intro w hSw; (try dsimp only at hSw); go_simp; (try with_reducible rfl))
            try simp only [Act.put, List.getElem_toArray, List.getElem_cons_succ, List.getElem_cons_zero, List.setIfInBounds_toArray, List.set_cons_zero, List.set_cons_succ]
            refine wpAnyH_take (i := 2) (v := ?vo12) rfl (by kernel_rfl) (by kernel_rfl) (by kernel_rfl) (fun _ _ _ h => h) (Or.inl ⟨by rfl, ?ho12⟩) (by assumption) ?ro12
            case ho12 => (intro w hSw; (try dsimp only at hSw); go_simp; (try with_reducible rfl))
            try simp only [Act.put, List.getElem_toArray, List.getElem_cons_succ, List.getElem_cons_zero, List.setIfInBounds_toArray, List.set_cons_zero, List.set_cons_succ]
            refine wpAnyH_take (i := 3) (v := ?vo13) rfl (by kernel_rfl) (by kernel_rfl) (by kernel_rfl) (fun _ _ _ h => h) (Or.inl ⟨by rfl, ?ho13⟩) (by assumption) ?ro13
            case ho13 => (intro w hSw; (try dsimp only at hSw); go_simp; (try with_reducible rfl))
            try simp only [Act.put, List.getElem_toArray, List.getElem_cons_succ, List.getElem_cons_zero, List.setIfInBounds_toArray, List.set_cons_zero, List.set_cons_succ]
            refine wpAnyH_take (i := 5) (v := ?vo15) rfl (by kernel_rfl) (by kernel_rfl) (by kernel_rfl) (fun _ _ _ h => h) (Or.inl ⟨by rfl, ?ho15⟩) (by assumption) ?ro15
            case ho15 => (intro w hSw; (try dsimp only at hSw); go_simp; (try with_reducible rfl))
            try simp only [Act.put, List.getElem_toArray, List.getElem_cons_succ, List.getElem_cons_zero, List.setIfInBounds_toArray, List.set_cons_zero, List.set_cons_succ]
            refine wpAnyH_take (i := 6) (v := ?vo16) rfl (by kernel_rfl) (by kernel_rfl) (by kernel_rfl) (fun _ _ _ h => h) (Or.inl ⟨by rfl, ?ho16⟩) (by assumption) ?ro16
            case ho16 => (intro w hSw; (try dsimp only at hSw); go_simp; (try with_reducible rfl))
            try simp only [Act.put, List.getElem_toArray, List.getElem_cons_succ, List.getElem_cons_zero, List.setIfInBounds_toArray, List.set_cons_zero, List.set_cons_succ]
            refine wpAnyH_take (i := 8) (v := ?vo18) rfl (by kernel_rfl) (by kernel_rfl) (by kernel_rfl) (fun _ _ _ h => h) (Or.inl ⟨by rfl, ?ho18⟩) (by assumption) ?ro18
            case ho18 => (intro w hSw; (try dsimp only at hSw); go_simp; (try with_reducible rfl))
            try simp only [Act.put, List.getElem_toArray, List.getElem_cons_succ, List.getElem_cons_zero, List.setIfInBounds_toArray, List.set_cons_zero, List.set_cons_succ]
            refine wpAnyH_take (i := 9) (v := ?vo19) rfl (by kernel_rfl) (by kernel_rfl) (by kernel_rfl) (fun _ _ _ h => h) (Or.inl ⟨by rfl, ?ho19⟩) (by assumption) ?ro19
            case ho19 => (intro w hSw; (try dsimp only at hSw); go_simp; (try with_reducible rfl))
            try simp only [Act.put, List.getElem_toArray, List.getElem_cons_succ, List.getElem_cons_zero, List.setIfInBounds_toArray, List.set_cons_zero, List.set_cons_succ]
            refine wpAnyH_take (i := 10) (v := ?vo110) rfl (by kernel_rfl) (by kernel_rfl) (by kernel_rfl) (fun _ _ _ h => h) (Or.inl ⟨by rfl, ?ho110⟩) (by assumption) ?ro110
            case ho110 => (intro w hSw; (try dsimp only at hSw); go_simp; (try with_reducible rfl))
            try simp only [Act.put, List.getElem_toArray, List.getElem_cons_succ, List.getElem_cons_zero, List.setIfInBounds_toArray, List.set_cons_zero, List.set_cons_succ]
            refine wpAnyH_take (i := 11) (v := ?vo111) rfl (by kernel_rfl) (by kernel_rfl) (by kernel_rfl) (fun _ _ _ h => h) (Or.inl ⟨by rfl, ?ho111⟩) (by assumption) ?ro111
            case ho111 => (intro w hSw; (try dsimp only at hSw); go_simp; (try with_reducible rfl))
            try simp only [Act.put, List.getElem_toArray, List.getElem_cons_succ, List.getElem_cons_zero, List.setIfInBounds_toArray, List.set_cons_zero, List.set_cons_succ]
            refine wpAnyH_take (i := 13) (v := ?vo113) rfl (by kernel_rfl) (by kernel_rfl) (by kernel_rfl) (fun _ _ _ h => h) (Or.inl ⟨by rfl, ?ho113⟩) (by assumption) ?ro113
            case ho113 => (intro w hSw; (try dsimp only at hSw); go_simp; (try with_reducible rfl))
            try simp only [Act.put, List.getElem_toArray, List.getElem_cons_succ, List.getElem_cons_zero, List.setIfInBounds_toArray, List.set_cons_zero, List.set_cons_succ]
            refine wpAnyH_take (i := 14) (v := ?vo114) rfl (by kernel_rfl) (by kernel_rfl) (by kernel_rfl) (fun _ _ _ h => h) (Or.inl ⟨by rfl, ?ho114⟩) (by assumption) ?ro114
            case ho114 => (intro w hSw; (try dsimp only at hSw); go_simp; (try with_reducible rfl))
            try simp only [Act.put, List.getElem_toArray, List.getElem_cons_succ, List.getElem_cons_zero, List.setIfInBounds_toArray, List.set_cons_zero, List.set_cons_succ]
            refine wpAnyH_take (i := 17) (v := ?vo117) rfl (by kernel_rfl) (by kernel_rfl) (by kernel_rfl) (fun _ _ _ h => h) (Or.inl ⟨by rfl, ?ho117⟩) (by assumption) ?ro117
            case ho117 => (intro w hSw; (try dsimp only at hSw); go_simp; (try with_reducible rfl))
            try simp only [Act.put, List.getElem_toArray, List.getElem_cons_succ, List.getElem_cons_zero, List.setIfInBounds_toArray, List.set_cons_zero, List.set_cons_succ]
            refine wpAnyH_ready (rs := [4]) (by kernel_rfl) (by simp) ?_
            refine (AllReadyH.cons rfl (fun K hK => ?bo11x4) AllReadyH.nil)
            case bo11x4 =>
              go_simp
              go_at_call 50
              refine (HP1.out _ (by repeat (first | with_reducible exact D5 | with_reducible apply bdrew | with_reducible apply bdrewN | with_reducible apply balloc | ((with_reducible refine bset ?_ ?_ _); rotate_left; (first | omega | (simp <;> omega)))))).mono ?_
              rintro e w6 ⟨rfl, hB6⟩
              have D6 := dstep w hB6 (by repeat (first | with_reducible exact D5 | with_reducible apply bdrew | with_reducible apply bdrewN | with_reducible apply balloc | ((with_reducible refine bset ?_ ?_ _); rotate_left; (first | omega | (simp <;> omega)))))
              have C6 := Cls.below (l := [(w.heap.size, 0, .slice AR ly cr), (w.heap.size, 1, .slice AB ly cb), (w.heap.size, 2, .slice AO lx co), (w.heap.size + 1, 0, .slice X lx cX), (w.heap.size + 1, 1, .int .i64 d), (w.heap.size + 1 + 1, 0, .slice Y ly cY), (w.heap.size + 1 + 1, 1, .int .i64 e), (w.heap.size + 1 + 1 + 1, 0, .int .i64 0), (w.heap.size + 1 + 1 + 1, 1, .int .i64 0), (w1.heap.size, 0, .int .i64 0), (w1.heap.size, 1, .int .i64 0)]) hB6 (by simp [Cls, go_sem, F5, y5w3, y5w2, y5w1, y5w0, y5wp1, y5wp2, y5w10, y5w1p1, y5w1p2])
              have F6 := C6
              simp only [Cls, and_true] at F6
              have y6w3 : w.heap.size + 1 + 1 + 1 < w6.heap.size := C6.blk (b := w.heap.size + 1 + 1 + 1) (k := 0) (v := .int .i64 0) (by simp)
              have y6w2 : w.heap.size + 1 + 1 < w6.heap.size := (by omega)
              have y6w1 : w.heap.size + 1 < w6.heap.size := (by omega)
              have y6w0 : w.heap.size < w6.heap.size := (by omega)
              have y6wp1 : w.heap.size < w6.heap.size + 1 := (by omega)
              have y6wp2 : w.heap.size < w6.heap.size + 1 + 1 := (by omega)
              have y6w10 : w1.heap.size < w6.heap.size := C6.blk (b := w1.heap.size) (k := 0) (v := .int .i64 0) (by simp)
              have y6w1p1 : w1.heap.size < w6.heap.size + 1 := (by omega)
              have y6w1p2 : w1.heap.size < w6.heap.size + 1 + 1 := (by omega)
              have hSS : w6.cell? ⟨w.heap.size, 1, none⟩ = some (.slice AB ly cb) ∧ w6.cell? ⟨w.heap.size, 2, none⟩ = some (.slice AO lx co) ∧ w6.cell? ⟨w.heap.size + 1, 0, none⟩ = some (.slice X lx cX) ∧ w6.cell? ⟨w.heap.size + 1, 1, none⟩ = some (.int .i64 d) ∧ w6.cell? ⟨w.heap.size + 1 + 1, 0, none⟩ = some (.slice Y ly cY) ∧ w6.cell? ⟨w.heap.size + 1 + 1, 1, none⟩ = some (.int .i64 e) := (by simp [F6])
              go_wp2_with fail
              refine hK.out _ _ hSS (fun hHeld => ?_)
              clear hK K
              try simp only [Act.put, List.getElem_toArray, List.getElem_cons_succ, List.getElem_cons_zero, List.setIfInBounds_toArray, List.set_cons_zero, List.set_cons_succ]
              refine wpAnyH_take (i := 7) (v := ?vo1e27) rfl (by kernel_rfl) (by kernel_rfl) (by kernel_rfl) (fun _ _ _ h => h) (Or.inl ⟨by rfl, ?ho1e27⟩) (by assumption) ?ro1e27
              case ho1e27 => (intro w hSw; (try dsimp only at hSw); go_simp; (try with_reducible rfl))
              try simp only [Act.put, List.getElem_toArray, List.getElem_cons_succ, List.getElem_cons_zero, List.setIfInBounds_toArray, List.set_cons_zero, List.set_cons_succ]
              refine wpAnyH_ready (rs := [12]) (by kernel_rfl) (by simp) ?_
              refine (AllReadyH.cons rfl (fun K hK => ?bo13x12) AllReadyH.nil)
              case bo13x12 =>
                go_simp
                go_at_call 50
                refine (HP2.out _ (by repeat (first | with_reducible exact D6 | with_reducible apply bdrew | with_reducible apply bdrewN | with_reducible apply balloc | ((with_reducible refine bset ?_ ?_ _); rotate_left; (first | omega | (simp <;> omega)))))).mono ?_
                rintro e w7 ⟨rfl, hB7⟩
                have D7 := dstep w hB7 (by repeat (first | with_reducible exact D6 | with_reducible apply bdrew | with_reducible apply bdrewN | with_reducible apply balloc | ((with_reducible refine bset ?_ ?_ _); rotate_left; (first | omega | (simp <;> omega)))))
                have C7 := Cls.below (l := [(w.heap.size, 0, .slice AR ly cr), (w.heap.size, 1, .slice AB ly cb), (w.heap.size, 2, .slice AO lx co), (w.heap.size + 1, 0, .slice X lx cX), (w.heap.size + 1, 1, .int .i64 d), (w.heap.size + 1 + 1, 0, .slice Y ly cY), (w.heap.size + 1 + 1, 1, .int .i64 e), (w.heap.size + 1 + 1 + 1, 0, .int .i64 0), (w.heap.size + 1 + 1 + 1, 1, .int .i64 0), (w1.heap.size, 0, .int .i64 0), (w1.heap.size, 1, .int .i64 0)]) hB7 (by simp [Cls, go_sem, F6, y6w3, y6w2, y6w1, y6w0, y6wp1, y6wp2, y6w10, y6w1p1, y6w1p2])
                have F7 := C7
                simp only [Cls, and_true] at F7
                have y7w3 : w.heap.size + 1 + 1 + 1 < w7.heap.size := C7.blk (b := w.heap.size + 1 + 1 + 1) (k := 0) (v := .int .i64 0) (by simp)
                have y7w2 : w.heap.size + 1 + 1 < w7.heap.size := (by omega)
                have y7w1 : w.heap.size + 1 < w7.heap.size := (by omega)
                have y7w0 : w.heap.size < w7.heap.size := (by omega)
                have y7wp1 : w.heap.size < w7.heap.size + 1 := (by omega)
                have y7wp2 : w.heap.size < w7.heap.size + 1 + 1 := (by omega)
                have y7w10 : w1.heap.size < w7.heap.size := C7.blk (b := w1.heap.size) (k := 0) (v := .int .i64 0) (by simp)
                have y7w1p1 : w1.heap.size < w7.heap.size + 1 := (by omega)
                have y7w1p2 : w1.heap.size < w7.heap.size + 1 + 1 := (by omega)
                have hSS : w7.cell? ⟨w.heap.size, 1, none⟩ = some (.slice AB ly cb) ∧ w7.cell? ⟨w.heap.size, 2, none⟩ = some (.slice AO lx co) ∧ w7.cell? ⟨w.heap.size + 1, 0, none⟩ = some (.slice X lx cX) ∧ w7.cell? ⟨w.heap.size + 1, 1, none⟩ = some (.int .i64 d) ∧ w7.cell? ⟨w.heap.size + 1 + 1, 0, none⟩ = some (.slice Y ly cY) ∧ w7.cell? ⟨w.heap.size + 1 + 1, 1, none⟩ = some (.int .i64 e) := (by simp [F7])
                go_wp2_with fail
                refine hK.out _ _ hSS (fun hHeld => ?_)
                clear hK K
                try simp only [Act.put, List.getElem_toArray, List.getElem_cons_succ, List.getElem_cons_zero, List.setIfInBounds_toArray, List.set_cons_zero, List.set_cons_succ]
                refine wpAnyH_take (i := 15) (v := ?vo1e415) rfl (by kernel_rfl) (by kernel_rfl) (by kernel_rfl) (fun _ _ _ h => h) (Or.inl ⟨by rfl, ?ho1e415⟩) (by assumption) ?ro1e415
                case ho1e415 => (intro w hSw; (try dsimp only at hSw); go_simp; (try with_reducible rfl))
                try simp only [Act.put, List.getElem_toArray, List.getElem_cons_succ, List.getElem_cons_zero, List.setIfInBounds_toArray, List.set_cons_zero, List.set_cons_succ]
                refine wpAnyH_take (i := 16) (v := ?vo1l516) rfl (by kernel_rfl) (by kernel_rfl) (by kernel_rfl) (fun _ _ _ h => h) (Or.inl ⟨by rfl, ?ho1l516⟩) (by assumption) ?ro1l516
                case ho1l516 => (intro w hSw; (try dsimp only at hSw); go_simp; (try with_reducible rfl))
                try simp only [Act.put, List.getElem_toArray, List.getElem_cons_succ, List.getElem_cons_zero, List.setIfInBounds_toArray, List.set_cons_zero, List.set_cons_succ]
                refine wpAnyH_take (i := 18) (v := ?vo1l618) rfl (by kernel_rfl) (by kernel_rfl) (by kernel_rfl) (fun _ _ _ h => h) (Or.inl ⟨by rfl, ?ho1l618⟩) (by assumption) ?ro1l618
                case ho1l618 => (intro w hSw; (try dsimp only at hSw); go_simp; (try with_reducible rfl))
                try simp only [Act.put, List.getElem_toArray, List.getElem_cons_succ, List.getElem_cons_zero, List.setIfInBounds_toArray, List.set_cons_zero, List.set_cons_succ]
                refine wpAnyH_ready (rs := [19]) (by kernel_rfl) (by simp) ?_
                refine AllReadyH.cons rfl (fun K hK => ?_) AllReadyH.nil
                go_simp
                go_wp2_with fail
                refine hK.out _ _ (by simp [go_sem, F7, y7w3, y7w2, y7w1, y7w0, y7wp1, y7wp2, y7w10, y7w1p1, y7w1p2]) (fun hHeld => ?_)
                clear hK K
                try simp only [Act.put, List.getElem_toArray, List.getElem_cons_succ, List.getElem_cons_zero, List.setIfInBounds_toArray, List.set_cons_zero, List.set_cons_succ]
                refine wpAnyH_done (by kernel_rfl) ?_ _
                go_wp2
                refine bodyPost_ret (v := .tuple #[.bool (u1 == u2), .agg #[.int .i64 0, .int .i64 0]]) ?_ rfl (Told.ok (HC.out) (by repeat (first | with_reducible exact D7 | with_reducible apply bdrew | with_reducible apply bdrewN | with_reducible apply balloc | ((with_reducible refine bset ?_ ?_ _); rotate_left; (first | omega | (simp <;> omega))))))
                simp [results, Try.results29, go_sem, F7, y7w3, y7w2, y7w1, y7w0, y7wp1, y7wp2, y7w10, y7w1p1, y7w1p2]
  · have hb1 : (a == 0) = false := by simpa using ha
    have hb2 : (a != 0) = true := by simpa using ha
    have HA := Lib.hid ha
    go_wp2_with fail
    go_region
    all_goals
      go_wp2
      refine bodyPost_ret (v := .tuple #[.bool false, .agg #[.int .i64 a, .int .i64 a2]]) ?_ rfl (Told.bad HA.out (by repeat (first | with_reducible exact D1 | with_reducible apply bdrew | with_reducible apply bdrewN | with_reducible apply balloc | ((with_reducible refine bset ?_ ?_ _); rotate_left; (first | omega | (simp <;> omega))))))
      simp [results, Try.results29, go_sem, F1, y1w3, y1w2, y1w1, y1w0, y1wp1, y1wp2]


end Go.Proofs.Ytkepfmglljkjhaa
