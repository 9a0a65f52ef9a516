/-
  linear.Certified.
  (*tableau).pivot: a pivot step in memory.
  (*tableau).leaving: the row that leaves.
  (*tableau).maximize: the steps of the simplex method.
  (*tableau).start: the first phase.
-/
import Derived.Test.YtkepfmglljkjhaaS6
import Derived.Test.YtkepfmglljkjhaaS4
namespace Go.Proofs.Ytkepfmglljkjhaa
open Go.RowKit
set_option linter.unusedVariables false
set_option linter.unusedSimpArgs false

/-- A point and a dual solution of the same value. -/
def CertP (p : LpV) (x : List Int) (d : Int) (y : List Int) (e : Int) : Prop := LA.IsPt p.lp (atL x) d ∧ LA.IsDu p.lp (atL y) e ∧ LA.valP p.lp (atL x) * e = LA.valD p.lp (atL y) * d
theorem obj_at {p : LpV} {j : Nat} {c : Int} (h : p.obj[j]? = some c) : p.lp.c j = c := by
  show (p.obj[j]?).getD 0 = c
  rw [h]; rfl
set_option maxRecDepth 100000 in
set_option maxHeartbeats 4000000 in
theorem certified_any (w : World) (AR AB AO : Option Addr) (cr cb co : Nat) (p : LpV) (hM : LpMem w AR AB AO p) (m mb n : Nat) (hrl : Hid (p.rows.length = m)) (hbl : Hid (p.bounds.length = mb)) (hol : Hid (p.obj.length = n)) (X : Option Addr) (cX lx : Nat) (x : List Int) (d : Int) (hlx : Hid (x.length = lx)) (hIx : Ints w X x) (hx63 : lx ≤ 9223372036854775807) (Y : Option Addr) (cY ly : Nat) (y : List Int) (e : Int) (hly : Hid (y.length = ly)) (hIy : Ints w Y y) (hy63 : ly ≤ 9223372036854775807) (a a2 : Int) (hf : Hid (fltPD p x d y e = (a, a2))) :
    Calls Try.prog 29 #[.agg #[.slice AR m cr, .slice AB mb cb, .slice AO n co], .agg #[.slice X lx cX, .int .i64 d], .agg #[.slice Y ly cY, .int .i64 e]] w fun r w' => Told (CertP p x d y e) a a2 w w' r := by
  have HIX := Lib.hid hIx
  have HIY := Lib.hid hIy
  have HM := Lib.hid hM
  clear hM hIx hIy
  go_enter Try.func29, Try.ntmps29
  go_wp2_with fail
  refine (lcheck_pd _ AR AB AO cr cb co p (HM.out.below (by repeat (first | with_reducible exact Below.refl _ _ | with_reducible apply bdrew | with_reducible apply bdrewN | with_reducible apply balloc | ((with_reducible refine bset ?_ ?_ _); rotate_left; (first | omega | (simp <;> omega)))))) m mb n hrl hbl hol X cX lx x d hlx (HIX.out.below (by repeat (first | with_reducible exact Below.refl _ _ | with_reducible apply bdrew | with_reducible apply bdrewN | with_reducible apply balloc | ((with_reducible refine bset ?_ ?_ _); rotate_left; (first | omega | (simp <;> omega)))))) hx63 Y cY ly y e hly (HIY.out.below (by repeat (first | with_reducible exact Below.refl _ _ | with_reducible apply bdrew | with_reducible apply bdrewN | with_reducible apply balloc | ((with_reducible refine bset ?_ ?_ _); rotate_left; (first | omega | (simp <;> omega)))))) hy63 (w.heap.size + 1 + 1 + 1 + 1) (w.heap.size + 1 + 1 + 1 + 1 + 1) (by simp [go_sem]) (by simp [go_sem]) (by simp [go_sem]) (by simp [go_sem]) a a2 hf).mono ?_
  rintro e w1 ⟨rfl, hB1⟩
  have D1 := dstep w hB1 (by repeat (first | with_reducible exact Below.refl _ _ | with_reducible apply bdrew | with_reducible apply bdrewN | with_reducible apply balloc | ((with_reducible refine bset ?_ ?_ _); rotate_left; (first | omega | (simp <;> omega)))))
  have d1s := D1.size
  have C1 := Cls.below (l := [(w.heap.size, 0, .slice AR m cr), (w.heap.size, 1, .slice AB mb cb), (w.heap.size, 2, .slice AO n co), (w.heap.size + 1, 0, .slice X lx cX), (w.heap.size + 1, 1, .int .i64 d), (w.heap.size + 1 + 1, 0, .slice Y ly cY), (w.heap.size + 1 + 1, 1, .int .i64 e), (w.heap.size + 1 + 1 + 1, 0, .int .i64 0), (w.heap.size + 1 + 1 + 1, 1, .int .i64 0)]) hB1 (by simp [Cls, go_sem])
  have F1 := C1
  simp only [Cls, and_true] at F1
  have y1w3 : w.heap.size + 1 + 1 + 1 < w1.heap.size := C1.blk (b := w.heap.size + 1 + 1 + 1) (k := 0) (v := .int .i64 0) (by simp)
  have y1w2 : w.heap.size + 1 + 1 < w1.heap.size := (by omega)
  have y1w1 : w.heap.size + 1 < w1.heap.size := (by omega)
  have y1w0 : w.heap.size < w1.heap.size := (by omega)
  have y1wp1 : w.heap.size < w1.heap.size + 1 := (by omega)
  have y1wp2 : w.heap.size < w1.heap.size + 1 + 1 := (by omega)
  by_cases ha : a = 0
  · have HZ := Lib.hid (fltPD_zero (by rw [hf.out]; exact ha))
    have ha2 : a2 = 0 := by
      have h := fltPD_snd (p := p) (x := x) (d := d) (y := y) (e := e) (by rw [hf.out]; exact ha)
      rw [hf.out] at h
      exact h
    subst ha
    subst ha2
    have HOK := Lib.hid HZ.out.1
    have HVX := Lib.hid HZ.out.2.1
    have HVY := Lib.hid HZ.out.2.2
    have hmb : mb = m := by rw [← hbl.out, ← hrl.out]; exact HOK.out.b
    subst hmb
    have hlnx : lx = n := by rw [← hlx.out, HVX.out.len]; exact hol.out
    subst hlnx
    have hlny : ly = mb := by rw [← hly.out, HVY.out.len]; exact hrl.out
    subst hlny
    have hm6 : ly ≤ 6 := by have := HOK.out.m; rw [hrl.out] at this; exact this
    have hn6 : lx ≤ 6 := by have := HOK.out.n; rw [hol.out] at this; exact this
    have HLM : Hid (p.lp.m = ly) := Lib.hid hrl.out
    have HLN : Hid (p.lp.n = lx) := Lib.hid hol.out
    have he0 := HVY.out.pos
    have he1 := HVY.out.dle
    have hd0 := HVX.out.pos
    have hd1 := HVX.out.dle
    go_wp2_with fail
    refine (lfits_any _ AR AB AO cr cb co p (HM.out.below (by repeat (first | with_reducible exact D1 | with_reducible apply bdrew | with_reducible apply bdrewN | with_reducible apply balloc | ((with_reducible refine bset ?_ ?_ _); rotate_left; (first | omega | (simp <;> omega)))))) HOK.out ly lx hrl hbl hol hm6 hn6 d (by omega) (by omega) X cX x hlx (HIX.out.below (by repeat (first | with_reducible exact D1 | with_reducible apply bdrew | with_reducible apply bdrewN | with_reducible apply balloc | ((with_reducible refine bset ?_ ?_ _); rotate_left; (first | omega | (simp <;> omega)))))) HVX.out.le).mono ?_
    rintro e w2 ⟨ok, rfl, HR, hB2⟩
    have D2 := dstep w hB2 (by repeat (first | with_reducible exact D1 | with_reducible apply bdrew | with_reducible apply bdrewN | with_reducible apply balloc | ((with_reducible refine bset ?_ ?_ _); rotate_left; (first | omega | (simp <;> omega)))))
    have C2 := Cls.below (l := [(w.heap.size, 0, .slice AR ly cr), (w.heap.size, 1, .slice AB ly cb), (w.heap.size, 2, .slice AO lx co), (w.heap.size + 1, 0, .slice X lx cX), (w.heap.size + 1, 1, .int .i64 d), (w.heap.size + 1 + 1, 0, .slice Y ly cY), (w.heap.size + 1 + 1, 1, .int .i64 e), (w.heap.size + 1 + 1 + 1, 0, .int .i64 0), (w.heap.size + 1 + 1 + 1, 1, .int .i64 0), (w1.heap.size, 0, .int .i64 0), (w1.heap.size, 1, .int .i64 0)]) hB2 (by simp [Cls, go_sem, F1, y1w3, y1w2, y1w1, y1w0, y1wp1, y1wp2])
    have F2 := C2
    simp only [Cls, and_true] at F2
    have y2w3 : w.heap.size + 1 + 1 + 1 < w2.heap.size := C2.blk (b := w.heap.size + 1 + 1 + 1) (k := 0) (v := .int .i64 0) (by simp)
    have y2w2 : w.heap.size + 1 + 1 < w2.heap.size := (by omega)
    have y2w1 : w.heap.size + 1 < w2.heap.size := (by omega)
    have y2w0 : w.heap.size < w2.heap.size := (by omega)
    have y2wp1 : w.heap.size < w2.heap.size + 1 := (by omega)
    have y2wp2 : w.heap.size < w2.heap.size + 1 + 1 := (by omega)
    have y2w10 : w1.heap.size < w2.heap.size := C2.blk (b := w1.heap.size) (k := 0) (v := .int .i64 0) (by simp)
    have y2w1p1 : w1.heap.size < w2.heap.size + 1 := (by omega)
    have y2w1p2 : w1.heap.size < w2.heap.size + 1 + 1 := (by omega)
    cases ok with
    | false =>
      have HT := Lib.hid (fun h => Bool.false_ne_true (HR.out.2 h))
      clear HR
      go_wp2
      refine bodyPost_ret (v := .tuple #[.bool false, .agg #[.int .i64 0, .int .i64 0]]) ?_ rfl (Told.ok (iff_of_false (by simp) fun h => HT.out h.1) (by repeat (first | with_reducible exact D2 | with_reducible apply bdrew | with_reducible apply bdrewN | with_reducible apply balloc | ((with_reducible refine bset ?_ ?_ _); rotate_left; (first | omega | (simp <;> omega))))))
      simp [results, Try.results29, go_sem, F2, y2w3, y2w2, y2w1, y2w0, y2wp1, y2wp2, y2w10, y2w1p1, y2w1p2]
    | true =>
      have HT := Lib.hid (HR.out.1 rfl)
      clear HR
      go_wp2_with fail
      refine (lneg_any _ Y cY y ly hly (by omega) (HIY.out.below (by repeat (first | with_reducible exact D2 | with_reducible apply bdrew | with_reducible apply bdrewN | with_reducible apply balloc | ((with_reducible refine bset ?_ ?_ _); rotate_left; (first | omega | (simp <;> omega))))))).mono ?_
      rintro e w3 ⟨neg, rfl, HR, hB3⟩
      have D3 := dstep w hB3 (by repeat (first | with_reducible exact D2 | with_reducible apply bdrew | with_reducible apply bdrewN | with_reducible apply balloc | ((with_reducible refine bset ?_ ?_ _); rotate_left; (first | omega | (simp <;> omega)))))
      have C3 := Cls.below (l := [(w.heap.size, 0, .slice AR ly cr), (w.heap.size, 1, .slice AB ly cb), (w.heap.size, 2, .slice AO lx co), (w.heap.size + 1, 0, .slice X lx cX), (w.heap.size + 1, 1, .int .i64 d), (w.heap.size + 1 + 1, 0, .slice Y ly cY), (w.heap.size + 1 + 1, 1, .int .i64 e), (w.heap.size + 1 + 1 + 1, 0, .int .i64 0), (w.heap.size + 1 + 1 + 1, 1, .int .i64 0), (w1.heap.size, 0, .int .i64 0), (w1.heap.size, 1, .int .i64 0)]) hB3 (by simp [Cls, go_sem, F2, y2w3, y2w2, y2w1, y2w0, y2wp1, y2wp2, y2w10, y2w1p1, y2w1p2])
      have F3 := C3
      simp only [Cls, and_true] at F3
      have y3w3 : w.heap.size + 1 + 1 + 1 < w3.heap.size := C3.blk (b := w.heap.size + 1 + 1 + 1) (k := 0) (v := .int .i64 0) (by simp)
      have y3w2 : w.heap.size + 1 + 1 < w3.heap.size := (by omega)
      have y3w1 : w.heap.size + 1 < w3.heap.size := (by omega)
      have y3w0 : w.heap.size < w3.heap.size := (by omega)
      have y3wp1 : w.heap.size < w3.heap.size + 1 := (by omega)
      have y3wp2 : w.heap.size < w3.heap.size + 1 + 1 := (by omega)
      have y3w10 : w1.heap.size < w3.heap.size := C3.blk (b := w1.heap.size) (k := 0) (v := .int .i64 0) (by simp)
      have y3w1p1 : w1.heap.size < w3.heap.size + 1 := (by omega)
      have y3w1p2 : w1.heap.size < w3.heap.size + 1 + 1 := (by omega)
      cases neg with
      | true =>
        have HT2 := Lib.hid (HR.out.1 rfl)
        clear HR
        go_wp2
        refine bodyPost_ret (v := .tuple #[.bool false, .agg #[.int .i64 0, .int .i64 0]]) ?_ rfl (Told.ok (iff_of_false (by simp) fun h => (nn_iff hly.out).2 (fun j hj => h.2.1.2 j (by rw [HLM.out]; exact hj)) HT2.out) (by repeat (first | with_reducible exact D3 | with_reducible apply bdrew | with_reducible apply bdrewN | with_reducible apply balloc | ((with_reducible refine bset ?_ ?_ _); rotate_left; (first | omega | (simp <;> omega))))))
        simp [results, Try.results29, go_sem, F3, y3w3, y3w2, y3w1, y3w0, y3wp1, y3wp2, y3w10, y3w1p1, y3w1p2]
      | false =>
        have HT2 : Hid (∀ j, j < ly → 0 ≤ atL y j) := Lib.hid ((nn_iff hly.out).1 fun h => Bool.false_ne_true (HR.out.2 h))
        clear HR
        go_wp2_with fail
        refine (lcols_any _ AR AB AO cr cb co p (HM.out.below (by repeat (first | with_reducible exact D3 | with_reducible apply bdrew | with_reducible apply bdrewN | with_reducible apply balloc | ((with_reducible refine bset ?_ ?_ _); rotate_left; (first | omega | (simp <;> omega)))))) HOK.out ly lx hrl hbl hol hm6 hn6 Y cY y hly (HIY.out.below (by repeat (first | with_reducible exact D3 | with_reducible apply bdrew | with_reducible apply bdrewN | with_reducible apply balloc | ((with_reducible refine bset ?_ ?_ _); rotate_left; (first | omega | (simp <;> omega)))))) HVY.out.le).mono ?_
        rintro e w4 ⟨g, rfl, hg, hAg, hB4⟩
        have HAG := Lib.hid hAg
        have D4 := dstep w hB4 (by repeat (first | with_reducible exact D3 | with_reducible apply bdrew | with_reducible apply bdrewN | with_reducible apply balloc | ((with_reducible refine bset ?_ ?_ _); rotate_left; (first | omega | (simp <;> omega)))))
        have C4 := Cls.below (l := [(w.heap.size, 0, .slice AR ly cr), (w.heap.size, 1, .slice AB ly cb), (w.heap.size, 2, .slice AO lx co), (w.heap.size + 1, 0, .slice X lx cX), (w.heap.size + 1, 1, .int .i64 d), (w.heap.size + 1 + 1, 0, .slice Y ly cY), (w.heap.size + 1 + 1, 1, .int .i64 e), (w.heap.size + 1 + 1 + 1, 0, .int .i64 0), (w.heap.size + 1 + 1 + 1, 1, .int .i64 0), (w1.heap.size, 0, .int .i64 0), (w1.heap.size, 1, .int .i64 0)]) hB4 (by simp [Cls, go_sem, F3, y3w3, y3w2, y3w1, y3w0, y3wp1, y3wp2, y3w10, y3w1p1, y3w1p2])
        have F4 := C4
        simp only [Cls, and_true] at F4
        have y4w3 : w.heap.size + 1 + 1 + 1 < w4.heap.size := C4.blk (b := w.heap.size + 1 + 1 + 1) (k := 0) (v := .int .i64 0) (by simp)
        have y4w2 : w.heap.size + 1 + 1 < w4.heap.size := (by omega)
        have y4w1 : w.heap.size + 1 < w4.heap.size := (by omega)
        have y4w0 : w.heap.size < w4.heap.size := (by omega)
        have y4wp1 : w.heap.size < w4.heap.size + 1 := (by omega)
        have y4wp2 : w.heap.size < w4.heap.size + 1 + 1 := (by omega)
        have y4w10 : w1.heap.size < w4.heap.size := C4.blk (b := w1.heap.size) (k := 0) (v := .int .i64 0) (by simp)
        have y4w1p1 : w1.heap.size < w4.heap.size + 1 := (by omega)
        have y4w1p2 : w1.heap.size < w4.heap.size + 1 + 1 := (by omega)
        have d4s := D4.size
        go_wp2_with fail
        go_loopw [39] (fun v wr => ∃ j : Nat, j ≤ lx ∧ v = .int .i64 j ∧ Hid (∀ i, i < j → p.lp.c i * e ≤ colL p y ly i) ∧ Below w4.heap.size w4 wr) (fun v _ => lx - (intOf v).toNat)
        case atStart => exact ⟨0, Nat.zero_le _, rfl, Lib.hid (fun i hi => by omega), by repeat (first | with_reducible exact Below.refl _ _ | with_reducible apply bdrew | with_reducible apply bdrewN | with_reducible apply balloc | ((with_reducible refine bset ?_ ?_ _); rotate_left; (first | omega | (simp <;> omega))))⟩
        case round =>
          obtain ⟨j, hj, rfl, HA, hBr⟩ := hrel
          obtain ⟨w5, rfl⟩ : ∃ wo : World, wo = wr := ⟨_, rfl⟩
          have D5 := D4.trans (hBr.mono d4s)
          have d5s := D5.size
          have C5 := Cls.below (w := w4) hBr C4
          have F5 := C5
          simp only [Cls, and_true] at F5
          have y5w3 : w.heap.size + 1 + 1 + 1 < w5.heap.size := C5.blk (b := w.heap.size + 1 + 1 + 1) (k := 0) (v := .int .i64 0) (by simp)
          have y5w2 : w.heap.size + 1 + 1 < w5.heap.size := (by omega)
          have y5w1 : w.heap.size + 1 < w5.heap.size := (by omega)
          have y5w0 : w.heap.size < w5.heap.size := (by omega)
          have y5wp1 : w.heap.size < w5.heap.size + 1 := (by omega)
          have y5wp2 : w.heap.size < w5.heap.size + 1 + 1 := (by omega)
          have y5w10 : w1.heap.size < w5.heap.size := C5.blk (b := w1.heap.size) (k := 0) (v := .int .i64 0) (by simp)
          have y5w1p1 : w1.heap.size < w5.heap.size + 1 := (by omega)
          have y5w1p2 : w1.heap.size < w5.heap.size + 1 + 1 := (by omega)
          by_cases hlt : j < lx
          · obtain ⟨ad, c, hAO, hc, hcc⟩ := (HM.out.obj.below D5).at_ (k := j) (by rw [hol.out]; exact hlt)
            subst hAO
            obtain ⟨z, hz, hzc, hzf⟩ := (HAG.out.below hBr).cell (i := j) (by rw [tbRow_len]; exact hlt)
            have hze : Hid (colL p y ly j = z) := Lib.hid (by have h := hz.out; rw [tbRow_at _ hlt] at h; injection h with h)
            have hcb := HOK.out.c c (List.mem_of_getElem? hc.out)
            have hmul := mul_le (X := 20) (Y := 100000000) hcb (show -100000000 ≤ e ∧ e ≤ 100000000 by omega)
            obtain ⟨hmul1, hmul2⟩ := hmul
            obtain ⟨u, hu⟩ : ∃ u, Hid (c * e = u) := ⟨_, Lib.hid rfl⟩
            have hwu : IntKind.i64.wrap (c * e) = u := by rw [hu.out] at hmul1 hmul2 ⊢; exact Go.IntWalk.i64_in _ (by omega)
            clear hz hcb
            by_cases hlt2 : z < u
            · have hd : decide (z < u) = true := decide_eq_true hlt2
              have HG := Lib.hid hlt2
              go_wp2_with fail
              go_quiet (fail)
              go_wp2
              refine bodyPost_ret (v := .tuple #[.bool false, .agg #[.int .i64 0, .int .i64 0]]) ?_ rfl (Told.ok (iff_of_false (by simp) fun h => by
                have h1 := h.2.1.1 j (by rw [HLN.out]; exact hlt)
                rw [obj_at hc.out, hu.out, HLM.out] at h1
                have h2 : LA.sumN ly (fun k => p.lp.A k j * atL y k) = z := hze.out
                rw [h2] at h1
                have := HG.out
                omega) (by repeat (first | with_reducible exact D5 | with_reducible apply bdrew | with_reducible apply bdrewN | with_reducible apply balloc | ((with_reducible refine bset ?_ ?_ _); rotate_left; (first | omega | (simp <;> omega))))))
              simp [results, Try.results29, go_sem, F5, y5w3, y5w2, y5w1, y5w0, y5wp1, y5wp2, y5w10, y5w1p1, y5w1p2]
            · have hd : decide (z < u) = false := decide_eq_false hlt2
              have HG := Lib.hid (show u ≤ z by omega)
              go_wp2_with fail
              go_quiet (fail)
              go_wp2
              go_roundw
              case rel => exact ⟨j + 1, by omega, by go_num, Lib.hid (fun i hi => by
                by_cases e1 : i = j
                · subst e1; rw [obj_at hc.out, hu.out, hze.out]; exact HG.out
                · exact HA.out i (by omega)), by repeat (first | with_reducible exact hBr | with_reducible apply bdrew | with_reducible apply bdrewN | with_reducible apply balloc | ((with_reducible refine bset ?_ ?_ _); rotate_left; (first | omega | (simp <;> omega))))⟩
              case measure => simp [intOf]; omega
          · obtain rfl : lx = j := by omega
            have HDU : Hid (LA.IsDu p.lp (atL y) e) := Lib.hid ⟨fun i hi => by rw [HLM.out]; exact HA.out i (by rw [← HLN.out]; exact hi), fun k hk => HT2.out k (by rw [← HLM.out]; exact hk)⟩
            obtain ⟨s1, hs1⟩ : ∃ s, Hid (dotL lx p.obj x = s) := ⟨_, Lib.hid rfl⟩
            obtain ⟨s2, hs2⟩ : ∃ s, Hid (dotL ly p.bounds y = s) := ⟨_, Lib.hid rfl⟩
            have HP1 : Hid (∀ W : World, Below w.heap.size w W → Calls Try.prog 50 #[.slice AO lx co, .slice X lx cX] W fun e w' => e = .returned (.int .i64 s1) ∧ Below W.heap.size W w') := Lib.hid (fun W hB => by
              have h := lprod_any W AO X co cX p.obj x lx hol hlx hn6 (HM.out.obj.below hB) (HIX.out.below hB) HOK.out.c100 HVX.out.le
              rw [hs1.out] at h; exact h)
            have HP2 : Hid (∀ W : World, Below w.heap.size w W → Calls Try.prog 50 #[.slice AB ly cb, .slice Y ly cY] W fun e w' => e = .returned (.int .i64 s2) ∧ Below W.heap.size W w') := Lib.hid (fun W hB => by
              have h := lprod_any W AB Y cb cY p.bounds y ly hbl hly hm6 (HM.out.bounds.below hB) (HIY.out.below hB) HOK.out.b100 HVY.out.le
              rw [hs2.out] at h; exact h)
            have hl1 := dotL_le HOK.out.c100 HVX.out.le lx
            have hl2 := dotL_le HOK.out.b100 HVY.out.le ly
            rw [hs1.out] at hl1
            rw [hs2.out] at hl2
            have hm1 := mul_le (X := 60000000000) (Y := 100000000) (show -60000000000 ≤ s1 ∧ s1 ≤ 60000000000 by omega) (show -100000000 ≤ e ∧ e ≤ 100000000 by omega)
            have hm2 := mul_le (X := 60000000000) (Y := 100000000) (show -60000000000 ≤ s2 ∧ s2 ≤ 60000000000 by omega) (show -100000000 ≤ d ∧ d ≤ 100000000 by omega)
            obtain ⟨u1, hu1⟩ : ∃ u, Hid (s1 * e = u) := ⟨_, Lib.hid rfl⟩
            obtain ⟨u2, hu2⟩ : ∃ u, Hid (s2 * d = u) := ⟨_, Lib.hid rfl⟩
            have hwu1 : IntKind.i64.wrap (s1 * e) = u1 := by rw [hu1.out] at hm1 ⊢; exact Go.IntWalk.i64_in _ (by omega)
            have hwu2 : IntKind.i64.wrap (s2 * d) = u2 := by rw [hu2.out] at hm2 ⊢; exact Go.IntWalk.i64_in _ (by omega)
            have HC : Hid ((u1 == u2) = true ↔ CertP p x d y e) := Lib.hid (by
              unfold CertP
              rw [obj_dot hol.out, bnd_dot hrl.out, hs1.out, hs2.out, hu1.out, hu2.out]
              constructor
              · intro h; exact ⟨HT.out, HDU.out, by simpa using h⟩
              · rintro ⟨_, _, h⟩; simpa using h)
            clear hl1 hl2 hm1 hm2
            go_wp2_with fail
            refine wp_region_held_drew (S := fun W => W.cell? ⟨w.heap.size, 1, none⟩ = some (.slice AB ly cb) ∧ W.cell? ⟨w.heap.size, 2, none⟩ = some (.slice AO lx co) ∧ W.cell? ⟨w.heap.size + 1, 0, none⟩ = some (.slice X lx cX) ∧ W.cell? ⟨w.heap.size + 1, 1, none⟩ = some (.int .i64 d) ∧ W.cell? ⟨w.heap.size + 1 + 1, 0, none⟩ = some (.slice Y ly cY) ∧ W.cell? ⟨w.heap.size + 1 + 1, 1, none⟩ = some (.int .i64 e)) (by kernel_rfl) (by simp [go_sem, F5, y5w3, y5w2, y5w1, y5w0, y5wp1, y5wp2, y5w10, y5w1p1, y5w1p2]) (fun hHeld => ?_)
            refine wpAnyH_take (i := 0) (v := ?vo10) rfl (by kernel_rfl) (by kernel_rfl) (by kernel_rfl) (fun _ _ _ h => h) (Or.inl ⟨by rfl, ?ho10⟩) (by assumption) ?ro10
            case ho10 => (intro w hSw; (try dsimp only at hSw); go_simp; (try with_reducible rfl))
            try simp only [Act.put, List.getElem_toArray, List.getElem_cons_succ, List.getElem_cons_zero, List.setIfInBounds_toArray, List.set_cons_zero, List.set_cons_succ]
            refine wpAnyH_take (i := 1) (v := ?vo11) rfl (by kernel_rfl) (by kernel_rfl) (by kernel_rfl) (fun _ _ _ h => h) (Or.inl ⟨by rfl, ?ho11⟩) (by assumption) ?ro11
            case ho11 => (intro w hSw; (try dsimp only at hSw); go_simp; (try with_reducible rfl))
            try simp only [Act.put, List.getElem_toArray, List.getElem_cons_succ, List.getElem_cons_zero, List.setIfInBounds_toArray, List.set_cons_zero, List.set_cons_succ]
            refine wpAnyH_take (i := 2) (v := ?vo12) rfl (by kernel_rfl) (by kernel_rfl) (by kernel_rfl) (fun _ _ _ h => h) (Or.inl ⟨by rfl, ?ho12⟩) (by assumption) ?ro12
            case ho12 => (intro w hSw; (try dsimp only at hSw); go_simp; (try with_reducible rfl))
            try simp only [Act.put, List.getElem_toArray, List.getElem_cons_succ, List.getElem_cons_zero, List.setIfInBounds_toArray, List.set_cons_zero, List.set_cons_succ]
            refine wpAnyH_take (i := 3) (v := ?vo13) rfl (by kernel_rfl) (by kernel_rfl) (by kernel_rfl) (fun _ _ _ h => h) (Or.inl ⟨by rfl, ?ho13⟩) (by assumption) ?ro13
            case ho13 => (intro w hSw; (try dsimp only at hSw); go_simp; (try with_reducible rfl))
            try simp only [Act.put, List.getElem_toArray, List.getElem_cons_succ, List.getElem_cons_zero, List.setIfInBounds_toArray, List.set_cons_zero, List.set_cons_succ]
            refine wpAnyH_take (i := 5) (v := ?vo15) rfl (by kernel_rfl) (by kernel_rfl) (by kernel_rfl) (fun _ _ _ h => h) (Or.inl ⟨by rfl, ?ho15⟩) (by assumption) ?ro15
            case ho15 => (intro w hSw; (try dsimp only at hSw); go_simp; (try with_reducible rfl))
            try simp only [Act.put, List.getElem_toArray, List.getElem_cons_succ, List.getElem_cons_zero, List.setIfInBounds_toArray, List.set_cons_zero, List.set_cons_succ]
            refine wpAnyH_take (i := 6) (v := ?vo16) rfl (by kernel_rfl) (by kernel_rfl) (by kernel_rfl) (fun _ _ _ h => h) (Or.inl ⟨by rfl, ?ho16⟩) (by assumption) ?ro16
            case ho16 => (intro w hSw; (try dsimp only at hSw); go_simp; (try with_reducible rfl))
            try simp only [Act.put, List.getElem_toArray, List.getElem_cons_succ, List.getElem_cons_zero, List.setIfInBounds_toArray, List.set_cons_zero, List.set_cons_succ]
            refine wpAnyH_take (i := 8) (v := ?vo18) rfl (by kernel_rfl) (by kernel_rfl) (by kernel_rfl) (fun _ _ _ h => h) (Or.inl ⟨by rfl, ?ho18⟩) (by assumption) ?ro18
            case ho18 => (intro w hSw; (try dsimp only at hSw); go_simp; (try with_reducible rfl))
            try simp only [Act.put, List.getElem_toArray, List.getElem_cons_succ, List.getElem_cons_zero, List.setIfInBounds_toArray, List.set_cons_zero, List.set_cons_succ]
            refine wpAnyH_take (i := 9) (v := ?vo19) rfl (by kernel_rfl) (by kernel_rfl) (by kernel_rfl) (fun _ _ _ h => h) (Or.inl ⟨by rfl, ?ho19⟩) (by assumption) ?ro19
            case ho19 => (intro w hSw; (try dsimp only at hSw); go_simp; (try with_reducible rfl))
            try simp only [Act.put, List.getElem_toArray, List.getElem_cons_succ, List.getElem_cons_zero, List.setIfInBounds_toArray, List.set_cons_zero, List.set_cons_succ]
            refine wpAnyH_take (i := 10) (v := ?vo110) rfl (by kernel_rfl) (by kernel_rfl) (by kernel_rfl) (fun _ _ _ h => h) (Or.inl ⟨by rfl, ?ho110⟩) (by assumption) ?ro110
            case ho110 => (intro w hSw; (try dsimp only at hSw); go_simp; (try with_reducible rfl))
            try simp only [Act.put, List.getElem_toArray, List.getElem_cons_succ, List.getElem_cons_zero, List.setIfInBounds_toArray, List.set_cons_zero, List.set_cons_succ]
            refine wpAnyH_take (i := 11) (v := ?vo111) rfl (by kernel_rfl) (by kernel_rfl) (by kernel_rfl) (fun _ _ _ h => h) (Or.inl ⟨by rfl, ?ho111⟩) (by assumption) ?ro111
            case ho111 => (intro w hSw; (try dsimp only at hSw); go_simp; (try with_reducible rfl))
            try simp only [Act.put, List.getElem_toArray, List.getElem_cons_succ, List.getElem_cons_zero, List.setIfInBounds_toArray, List.set_cons_zero, List.set_cons_succ]
            refine wpAnyH_take (i := 13) (v := ?vo113) rfl (by kernel_rfl) (by kernel_rfl) (by kernel_rfl) (fun _ _ _ h => h) (Or.inl ⟨by rfl, ?ho113⟩) (by assumption) ?ro113
            case ho113 => (intro w hSw; (try dsimp only at hSw); go_simp; (try with_reducible rfl))
            try simp only [Act.put, List.getElem_toArray, List.getElem_cons_succ, List.getElem_cons_zero, List.setIfInBounds_toArray, List.set_cons_zero, List.set_cons_succ]
            refine wpAnyH_take (i := 14) (v := ?vo114) rfl (by kernel_rfl) (by kernel_rfl) (by kernel_rfl) (fun _ _ _ h => h) (Or.inl ⟨by rfl, ?ho114⟩) (by assumption) ?ro114
            case ho114 => (intro w hSw; (try dsimp only at hSw); go_simp; (try with_reducible rfl))
            try simp only [Act.put, List.getElem_toArray, List.getElem_cons_succ, List.getElem_cons_zero, List.setIfInBounds_toArray, List.set_cons_zero, List.set_cons_succ]
            refine wpAnyH_take (i := 17) (v := ?vo117) rfl (by kernel_rfl) (by kernel_rfl) (by kernel_rfl) (fun _ _ _ h => h) (Or.inl ⟨by rfl, ?ho117⟩) (by assumption) ?ro117
            case ho117 => (intro w hSw; (try dsimp only at hSw); go_simp; (try with_reducible rfl))
            try simp only [Act.put, List.getElem_toArray, List.getElem_cons_succ, List.getElem_cons_zero, List.setIfInBounds_toArray, List.set_cons_zero, List.set_cons_succ]
            refine wpAnyH_ready (rs := [4]) (by kernel_rfl) (by simp) ?_
            refine (AllReadyH.cons rfl (fun K hK => ?bo11x4) AllReadyH.nil)
            case bo11x4 =>
              go_simp
              go_at_call 50
              refine (HP1.out _ (by repeat (first | with_reducible exact D5 | with_reducible apply bdrew | with_reducible apply bdrewN | with_reducible apply balloc | ((with_reducible refine bset ?_ ?_ _); rotate_left; (first | omega | (simp <;> omega)))))).mono ?_
              rintro e w6 ⟨rfl, hB6⟩
              have D6 := dstep w hB6 (by repeat (first | with_reducible exact D5 | with_reducible apply bdrew | with_reducible apply bdrewN | with_reducible apply balloc | ((with_reducible refine bset ?_ ?_ _); rotate_left; (first | omega | (simp <;> omega)))))
              have C6 := Cls.below (l := [(w.heap.size, 0, .slice AR ly cr), (w.heap.size, 1, .slice AB ly cb), (w.heap.size, 2, .slice AO lx co), (w.heap.size + 1, 0, .slice X lx cX), (w.heap.size + 1, 1, .int .i64 d), (w.heap.size + 1 + 1, 0, .slice Y ly cY), (w.heap.size + 1 + 1, 1, .int .i64 e), (w.heap.size + 1 + 1 + 1, 0, .int .i64 0), (w.heap.size + 1 + 1 + 1, 1, .int .i64 0), (w1.heap.size, 0, .int .i64 0), (w1.heap.size, 1, .int .i64 0)]) hB6 (by simp [Cls, go_sem, F5, y5w3, y5w2, y5w1, y5w0, y5wp1, y5wp2, y5w10, y5w1p1, y5w1p2])
              have F6 := C6
              simp only [Cls, and_true] at F6
              have y6w3 : w.heap.size + 1 + 1 + 1 < w6.heap.size := C6.blk (b := w.heap.size + 1 + 1 + 1) (k := 0) (v := .int .i64 0) (by simp)
              have y6w2 : w.heap.size + 1 + 1 < w6.heap.size := (by omega)
              have y6w1 : w.heap.size + 1 < w6.heap.size := (by omega)
              have y6w0 : w.heap.size < w6.heap.size := (by omega)
              have y6wp1 : w.heap.size < w6.heap.size + 1 := (by omega)
              have y6wp2 : w.heap.size < w6.heap.size + 1 + 1 := (by omega)
              have y6w10 : w1.heap.size < w6.heap.size := C6.blk (b := w1.heap.size) (k := 0) (v := .int .i64 0) (by simp)
              have y6w1p1 : w1.heap.size < w6.heap.size + 1 := (by omega)
              have y6w1p2 : w1.heap.size < w6.heap.size + 1 + 1 := (by omega)
              have hSS : w6.cell? ⟨w.heap.size, 1, none⟩ = some (.slice AB ly cb) ∧ w6.cell? ⟨w.heap.size, 2, none⟩ = some (.slice AO lx co) ∧ w6.cell? ⟨w.heap.size + 1, 0, none⟩ = some (.slice X lx cX) ∧ w6.cell? ⟨w.heap.size + 1, 1, none⟩ = some (.int .i64 d) ∧ w6.cell? ⟨w.heap.size + 1 + 1, 0, none⟩ = some (.slice Y ly cY) ∧ w6.cell? ⟨w.heap.size + 1 + 1, 1, none⟩ = some (.int .i64 e) := (by simp [F6])
              go_wp2_with fail
              refine hK.out _ _ hSS (fun hHeld => ?_)
              clear hK K
              try simp only [Act.put, List.getElem_toArray, List.getElem_cons_succ, List.getElem_cons_zero, List.setIfInBounds_toArray, List.set_cons_zero, List.set_cons_succ]
              refine wpAnyH_take (i := 7) (v := ?vo1e27) rfl (by kernel_rfl) (by kernel_rfl) (by kernel_rfl) (fun _ _ _ h => h) (Or.inl ⟨by rfl, ?ho1e27⟩) (by assumption) ?ro1e27
              case ho1e27 => (intro w hSw; (try dsimp only at hSw); go_simp; (try with_reducible rfl))
              try simp only [Act.put, List.getElem_toArray, List.getElem_cons_succ, List.getElem_cons_zero, List.setIfInBounds_toArray, List.set_cons_zero, List.set_cons_succ]
              refine wpAnyH_ready (rs := [12]) (by kernel_rfl) (by simp) ?_
              refine (AllReadyH.cons rfl (fun K hK => ?bo13x12) AllReadyH.nil)
              case bo13x12 =>
                go_simp
                go_at_call 50
                refine (HP2.out _ (by repeat (first | with_reducible exact D6 | with_reducible apply bdrew | with_reducible apply bdrewN | with_reducible apply balloc | ((with_reducible refine bset ?_ ?_ _); rotate_left; (first | omega | (simp <;> omega)))))).mono ?_
                rintro e w7 ⟨rfl, hB7⟩
                have D7 := dstep w hB7 (by repeat (first | with_reducible exact D6 | with_reducible apply bdrew | with_reducible apply bdrewN | with_reducible apply balloc | ((with_reducible refine bset ?_ ?_ _); rotate_left; (first | omega | (simp <;> omega)))))
                have C7 := Cls.below (l := [(w.heap.size, 0, .slice AR ly cr), (w.heap.size, 1, .slice AB ly cb), (w.heap.size, 2, .slice AO lx co), (w.heap.size + 1, 0, .slice X lx cX), (w.heap.size + 1, 1, .int .i64 d), (w.heap.size + 1 + 1, 0, .slice Y ly cY), (w.heap.size + 1 + 1, 1, .int .i64 e), (w.heap.size + 1 + 1 + 1, 0, .int .i64 0), (w.heap.size + 1 + 1 + 1, 1, .int .i64 0), (w1.heap.size, 0, .int .i64 0), (w1.heap.size, 1, .int .i64 0)]) hB7 (by simp [Cls, go_sem, F6, y6w3, y6w2, y6w1, y6w0, y6wp1, y6wp2, y6w10, y6w1p1, y6w1p2])
                have F7 := C7
                simp only [Cls, and_true] at F7
                have y7w3 : w.heap.size + 1 + 1 + 1 < w7.heap.size := C7.blk (b := w.heap.size + 1 + 1 + 1) (k := 0) (v := .int .i64 0) (by simp)
                have y7w2 : w.heap.size + 1 + 1 < w7.heap.size := (by omega)
                have y7w1 : w.heap.size + 1 < w7.heap.size := (by omega)
                have y7w0 : w.heap.size < w7.heap.size := (by omega)
                have y7wp1 : w.heap.size < w7.heap.size + 1 := (by omega)
                have y7wp2 : w.heap.size < w7.heap.size + 1 + 1 := (by omega)
                have y7w10 : w1.heap.size < w7.heap.size := C7.blk (b := w1.heap.size) (k := 0) (v := .int .i64 0) (by simp)
                have y7w1p1 : w1.heap.size < w7.heap.size + 1 := (by omega)
                have y7w1p2 : w1.heap.size < w7.heap.size + 1 + 1 := (by omega)
                have hSS : w7.cell? ⟨w.heap.size, 1, none⟩ = some (.slice AB ly cb) ∧ w7.cell? ⟨w.heap.size, 2, none⟩ = some (.slice AO lx co) ∧ w7.cell? ⟨w.heap.size + 1, 0, none⟩ = some (.slice X lx cX) ∧ w7.cell? ⟨w.heap.size + 1, 1, none⟩ = some (.int .i64 d) ∧ w7.cell? ⟨w.heap.size + 1 + 1, 0, none⟩ = some (.slice Y ly cY) ∧ w7.cell? ⟨w.heap.size + 1 + 1, 1, none⟩ = some (.int .i64 e) := (by simp [F7])
                go_wp2_with fail
                refine hK.out _ _ hSS (fun hHeld => ?_)
                clear hK K
                try simp only [Act.put, List.getElem_toArray, List.getElem_cons_succ, List.getElem_cons_zero, List.setIfInBounds_toArray, List.set_cons_zero, List.set_cons_succ]
                refine wpAnyH_take (i := 15) (v := ?vo1e415) rfl (by kernel_rfl) (by kernel_rfl) (by kernel_rfl) (fun _ _ _ h => h) (Or.inl ⟨by rfl, ?ho1e415⟩) (by assumption) ?ro1e415
                case ho1e415 => (intro w hSw; (try dsimp only at hSw); go_simp; (try with_reducible rfl))
                try simp only [Act.put, List.getElem_toArray, List.getElem_cons_succ, List.getElem_cons_zero, List.setIfInBounds_toArray, List.set_cons_zero, List.set_cons_succ]
                refine wpAnyH_take (i := 16) (v := ?vo1l516) rfl (by kernel_rfl) (by kernel_rfl) (by kernel_rfl) (fun _ _ _ h => h) (Or.inl ⟨by rfl, ?ho1l516⟩) (by assumption) ?ro1l516
                case ho1l516 => (intro w hSw; (try dsimp only at hSw); go_simp; (try with_reducible rfl))
                try simp only [Act.put, List.getElem_toArray, List.getElem_cons_succ, List.getElem_cons_zero, List.setIfInBounds_toArray, List.set_cons_zero, List.set_cons_succ]
                refine wpAnyH_take (i := 18) (v := ?vo1l618) rfl (by kernel_rfl) (by kernel_rfl) (by kernel_rfl) (fun _ _ _ h => h) (Or.inl ⟨by rfl, ?ho1l618⟩) (by assumption) ?ro1l618
                case ho1l618 => (intro w hSw; (try dsimp only at hSw); go_simp; (try with_reducible rfl))
                try simp only [Act.put, List.getElem_toArray, List.getElem_cons_succ, List.getElem_cons_zero, List.setIfInBounds_toArray, List.set_cons_zero, List.set_cons_succ]
                refine wpAnyH_ready (rs := [19]) (by kernel_rfl) (by simp) ?_
                refine AllReadyH.cons rfl (fun K hK => ?_) AllReadyH.nil
                go_simp
                go_wp2_with fail
                refine hK.out _ _ (by simp [go_sem, F7, y7w3, y7w2, y7w1, y7w0, y7wp1, y7wp2, y7w10, y7w1p1, y7w1p2]) (fun hHeld => ?_)
                clear hK K
                try simp only [Act.put, List.getElem_toArray, List.getElem_cons_succ, List.getElem_cons_zero, List.setIfInBounds_toArray, List.set_cons_zero, List.set_cons_succ]
                refine wpAnyH_done (by kernel_rfl) ?_ _
                go_wp2
                refine bodyPost_ret (v := .tuple #[.bool (u1 == u2), .agg #[.int .i64 0, .int .i64 0]]) ?_ rfl (Told.ok (HC.out) (by repeat (first | with_reducible exact D7 | with_reducible apply bdrew | with_reducible apply bdrewN | with_reducible apply balloc | ((with_reducible refine bset ?_ ?_ _); rotate_left; (first | omega | (simp <;> omega))))))
                simp [results, Try.results29, go_sem, F7, y7w3, y7w2, y7w1, y7w0, y7wp1, y7wp2, y7w10, y7w1p1, y7w1p2]
  · have hb1 : (a == 0) = false := by simpa using ha
    have hb2 : (a != 0) = true := by simpa using ha
    have HA := Lib.hid ha
    go_wp2_with fail
    go_region
    all_goals
      go_wp2
      refine bodyPost_ret (v := .tuple #[.bool false, .agg #[.int .i64 a, .int .i64 a2]]) ?_ rfl (Told.bad HA.out (by repeat (first | with_reducible exact D1 | with_reducible apply bdrew | with_reducible apply bdrewN | with_reducible apply balloc | ((with_reducible refine bset ?_ ?_ _); rotate_left; (first | omega | (simp <;> omega))))))
      simp [results, Try.results29, go_sem, F1, y1w3, y1w2, y1w1, y1w0, y1wp1, y1wp2]


end Go.Proofs.Ytkepfmglljkjhaa

namespace Go.Proofs.Ytkepfmglljkjhaa
open Go.RowKit
set_option linter.unusedVariables false
set_option linter.unusedSimpArgs false

/-- The entries while row i is at column j. -/
def pivP (T X : Nat → Nat → Int) (r i j : Nat) : Nat → Nat → Int := fun a b => if a ≠ r ∧ (a < i ∨ (a = i ∧ b < j)) then X a b else T a b
theorem pivP_start (T X : Nat → Nat → Int) (r a b : Nat) : pivP T X r 0 0 a b = T a b := by unfold pivP; rw [if_neg (by omega)]
theorem pivP_skip (T X : Nat → Nat → Int) (r a b : Nat) : pivP T X r (r + 1) 0 a b = pivP T X r r 0 a b := by
  unfold pivP
  by_cases e : a ≠ r ∧ (a < r ∨ a = r ∧ b < 0)
  · rw [if_pos e, if_pos (by omega)]
  · rw [if_neg e, if_neg (by omega)]
theorem pivP_step (T X : Nat → Nat → Int) {r i j a b : Nat} (h : i ≠ r) : pivP T X r i (j + 1) a b = if a = i ∧ b = j then X i j else pivP T X r i j a b := by
  unfold pivP
  by_cases e : a = i ∧ b = j
  · obtain ⟨rfl, rfl⟩ := e
    rw [if_pos (by omega), if_pos ⟨rfl, rfl⟩]
  · rw [if_neg e]
    by_cases e2 : a ≠ r ∧ (a < i ∨ a = i ∧ b < j)
    · rw [if_pos e2, if_pos (by omega)]
    · rw [if_neg e2, if_neg (by omega)]
theorem pivP_row (T X : Nat → Nat → Int) {r i N a b : Nat} (h : b < N) : pivP T X r (i + 1) 0 a b = pivP T X r i N a b := by
  unfold pivP
  by_cases e : a ≠ r ∧ (a < i ∨ a = i ∧ b < N)
  · rw [if_pos e, if_pos (by omega)]
  · rw [if_neg e, if_neg (by omega)]
theorem pivP_end {T X : Nat → Nat → Int} {r M a b : Nat} (h : a < M) (hr : ∀ j, X r j = T r j) : pivP T X r M 0 a b = X a b := by
  unfold pivP
  by_cases e : a = r
  · subst e; rw [if_neg (by omega)]; exact (hr b).symm
  · rw [if_pos (by omega)]
theorem pivP_at (T X : Nat → Nat → Int) (r i j : Nat) : pivP T X r i j i j = T i j := by unfold pivP; rw [if_neg (by omega)]
theorem pivP_r (T X : Nat → Nat → Int) (r i j b : Nat) : pivP T X r i j r b = T r b := by unfold pivP; rw [if_neg (by omega)]
theorem pivP_same (T X : Nat → Nat → Int) (r i b : Nat) : pivP T X r i 0 i b = T i b := by unfold pivP; rw [if_neg (by omega)]
def negP (X : Nat → Nat → Int) (i j : Nat) : Nat → Nat → Int := fun a b => if a < i ∨ (a = i ∧ b < j) then - X a b else X a b
theorem negP_start (X : Nat → Nat → Int) (a b : Nat) : negP X 0 0 a b = X a b := by unfold negP; rw [if_neg (by omega)]
theorem negP_at (X : Nat → Nat → Int) (i j : Nat) : negP X i j i j = X i j := by unfold negP; rw [if_neg (by omega)]
theorem negP_step (X : Nat → Nat → Int) {i j a b : Nat} : negP X i (j + 1) a b = if a = i ∧ b = j then - X i j else negP X i j a b := by
  unfold negP
  by_cases e : a = i ∧ b = j
  · obtain ⟨rfl, rfl⟩ := e
    rw [if_pos (by omega), if_pos ⟨rfl, rfl⟩]
  · rw [if_neg e]
    by_cases e2 : a < i ∨ a = i ∧ b < j
    · rw [if_pos e2, if_pos (by omega)]
    · rw [if_neg e2, if_neg (by omega)]
theorem negP_row (X : Nat → Nat → Int) {i N a b : Nat} (h : b < N) : negP X (i + 1) 0 a b = negP X i N a b := by
  unfold negP
  by_cases e : a < i ∨ a = i ∧ b < N
  · rw [if_pos e, if_pos (by omega)]
  · rw [if_neg e, if_neg (by omega)]
theorem negP_end (X : Nat → Nat → Int) {M a b : Nat} (h : a < M) : negP X M 0 a b = - X a b := by unfold negP; rw [if_pos (by omega)]
set_option maxRecDepth 100000 in
set_option maxHeartbeats 4000000 in
theorem piv_walk (w : World) (base : Nat) (L : TbLay) (m N : Nat) (bs : Nat → Nat) (T X : Nat → Nat → Int) (den p : Int) (r c : Nat) (hM : TbMem base w L m N bs T den) (hb : base ≤ w.heap.size) (hr : r < m) (hc : c < N) (hp : T r c = p) (hX : ∀ i j, i < m + 2 → j < N → i ≠ r → (T i j * p - T i c * T r j).tdiv den = X i j) (hXr : ∀ j, X r j = T r j) (hd0 : 0 < den) (hd1 : den ≤ 1000000000) (hTB : ∀ i j, i < m + 2 → j < N → -1000000000 ≤ T i j ∧ T i j ≤ 1000000000) (hXB : ∀ i j, i < m + 2 → j < N → -1000000000 ≤ X i j ∧ X i j ≤ 1000000000) (hm6 : m ≤ 6) (hN : N ≤ 100) :
    Calls Try.prog 51 #[.pointer (some ⟨L.b, 0, none⟩), .int .i64 r, .int .i64 c] w fun e w' => e = .returned (.tuple #[]) ∧ TbMem base w' L m N (LA.pivB bs r c) (fun i j => if p < 0 then - X i j else X i j) (if p < 0 then -p else p) ∧ Below base w w' := by
  have HX := Lib.hid hX
  have HXR := Lib.hid hXr
  have HTB := Lib.hid hTB
  have HXB := Lib.hid hXB
  have hcr := (hM.cell (i := r) (j := c) (by omega) hc).1
  rw [hp] at hcr
  have HP := Lib.hid hp
  have hpb : -1000000000 ≤ p ∧ p ≤ 1000000000 := by rw [← hp]; exact hTB r c (by omega) hc
  obtain ⟨hpb1, hpb2⟩ := hpb
  have hr2 : r < m + 2 := by omega
  have hr3 : (r : Int) < (m : Int) + 2 := by omega
  have hx0 := hM.box0
  have hxr := hM.out r (by omega)
  have hsb := hM.sepB
  obtain ⟨hsb1, hsb2, hsb3, hsb4⟩ := hsb
  clear hX hXr hTB hXB hp
  go_enter Try.func51, Try.ntmps51
  go_wp2_with fail
  go_loopw [29] (fun x wr => ∃ i : Nat, i ≤ m + 2 ∧ x = .int .i64 i ∧ TbMem base wr L m N bs (pivP T X r i 0) den ∧ Below base w wr) (fun x _ => m + 2 - (intOf x).toNat)
  case atStart => exact ⟨0, Nat.zero_le _, rfl, (hM.below (by repeat (first | with_reducible exact Below.refl _ _ | with_reducible apply bdrew | with_reducible apply bdrewN | with_reducible apply balloc | ((with_reducible refine bset ?_ ?_ _); rotate_left; (first | omega | (simp <;> omega)))))).congr (fun _ _ => rfl) (fun a _ c _ => pivP_start T X r a c), by repeat (first | with_reducible exact Below.refl _ _ | with_reducible apply bdrew | with_reducible apply bdrewN | with_reducible apply balloc | ((with_reducible refine bset ?_ ?_ _); rotate_left; (first | omega | (simp <;> omega))))⟩
  case round =>
    obtain ⟨i, hi, rfl, hM1, hB1⟩ := hrel
    obtain ⟨w1, rfl⟩ : ∃ wo : World, wo = wr := ⟨_, rfl⟩
    by_cases hlt : i < m + 2
    · have ho := hM1.out i hlt
      by_cases hir : i = r
      · subst hir
        go_wp2
        go_roundw
        case rel => exact ⟨i + 1, by omega, by go_num, (hM1.below (by repeat (first | with_reducible exact Below.refl _ _ | with_reducible apply bdrew | with_reducible apply bdrewN | with_reducible apply balloc | ((with_reducible refine bset ?_ ?_ _); rotate_left; (first | omega | (simp <;> omega)))))).congr (fun _ _ => rfl) (fun a _ c _ => pivP_skip T X i a c), hB1⟩
        case measure => simp [intOf]; omega
      · have hir' : ¬ ((i : Int) = (r : Int)) := by omega
        have hrc := (hM1.cell (i := i) (j := c) hlt hc).1
        have e1 : pivP T X r i 0 i c = T i c := pivP_same T X r i c
        rw [e1] at hrc
        obtain ⟨q, hq⟩ : ∃ q, Hid (T i c = q) := ⟨_, Lib.hid rfl⟩
        have hqb := HTB.out i c hlt hc
        rw [hq.out] at hrc hqb
        obtain ⟨hqb1, hqb2⟩ := hqb
        clear e1
        go_wp2_with fail
        (try simp only [show decide ((i : Int) < (m : Int) + 2) = true from decide_eq_true (by omega), show ((i : Int) == (r : Int)) = false from beq_eq_false_iff_ne.2 (by omega)])
        go_loopw [43] (fun x wr => ∃ j : Nat, j ≤ N ∧ x = .int .i64 j ∧ TbMem base wr L m N bs (pivP T X r i j) den ∧ Below base w wr) (fun x _ => N - (intOf x).toNat)
        case atStart => exact ⟨0, Nat.zero_le _, rfl, hM1.below (by repeat (first | with_reducible exact Below.refl _ _ | with_reducible apply bdrew | with_reducible apply bdrewN | with_reducible apply balloc | ((with_reducible refine bset ?_ ?_ _); rotate_left; (first | omega | (simp <;> omega))))), hB1⟩
        case round =>
          obtain ⟨j, hj, rfl, hM2, hB2⟩ := hrel
          obtain ⟨w2, rfl⟩ : ∃ wo : World, wo = wr := ⟨_, rfl⟩
          by_cases hlt2 : j < N
          · have hcc := hM2.cell (i := i) (j := j) hlt hlt2
            have hcd := (hM2.cell (i := r) (j := j) (by omega) hlt2).1
            have e1 : pivP T X r i j i j = T i j := pivP_at T X r i j
            have e2 : pivP T X r i j r j = T r j := pivP_r T X r i j j
            rw [e1] at hcc
            rw [e2] at hcd
            obtain ⟨hcc1, hcc2⟩ := hcc
            have hy0 := hM2.box0
            have hy2 := hM2.box2
            have hyr := hM2.out r (by omega)
            have hAB := HTB.out i j hlt hlt2
            have hDB := HTB.out r j (by omega) hlt2
            have hXE := HX.out i j hlt hlt2 hir
            rw [hq.out] at hXE
            obtain ⟨a, ha⟩ : ∃ a, Hid (T i j = a) := ⟨_, Lib.hid rfl⟩
            obtain ⟨d, hd⟩ : ∃ d, Hid (T r j = d) := ⟨_, Lib.hid rfl⟩
            obtain ⟨x, hx⟩ : ∃ x, Hid (X i j = x) := ⟨_, Lib.hid rfl⟩
            rw [ha.out] at hcc1 hAB hXE
            rw [hd.out] at hcd hDB hXE
            rw [hx.out] at hXE
            have hm1 := LA.abs_mul hAB ⟨hpb1, hpb2⟩
            have hm2 := LA.abs_mul ⟨hqb1, hqb2⟩ hDB
            obtain ⟨hm3, hm4⟩ := hm1
            obtain ⟨hm5, hm6'⟩ := hm2
            clear e1 e2 hAB hDB
            have hblk := (hM2.sep i hlt).1
            have hdne : ¬ den = 0 := by omega
            go_wp2_with fail
            refine region_still_tail 27 (by kernel_rfl) (by kernel_rfl) ?_
            simp only [List.take_succ_cons, List.take_zero, List.drop_succ_cons, List.drop_zero]
            repeat still_step
            refine wpStill_nil ?_
            go_wp2
            go_roundw
            case rel => exact ⟨j + 1, by omega, by go_num, ((hM2.set hlt x (j := j) (T' := pivP T X r i (j + 1)) (fun a' _ c' _ => by rw [pivP_step T X hir, hx.out])).below (by repeat (first | with_reducible exact Below.refl _ _ | with_reducible apply bdrew | with_reducible apply bdrewN | with_reducible apply balloc | ((with_reducible refine bset ?_ ?_ _); rotate_left; (first | omega | (simp <;> omega)))))), by repeat (first | with_reducible exact hB2 | with_reducible apply bdrew | with_reducible apply bdrewN | with_reducible apply balloc | ((with_reducible refine bset ?_ ?_ _); rotate_left; (first | omega | (simp <;> omega))))⟩
            case measure => simp [intOf]; omega
          · obtain rfl : j = N := by omega
            go_wp2
            go_roundw
            case rel => exact ⟨i + 1, by omega, by go_num, (hM2.below (by repeat (first | with_reducible exact Below.refl _ _ | with_reducible apply bdrew | with_reducible apply bdrewN | with_reducible apply balloc | ((with_reducible refine bset ?_ ?_ _); rotate_left; (first | omega | (simp <;> omega)))))).congr (fun _ _ => rfl) (fun a' _ c' hc' => pivP_row T X hc'), by repeat (first | with_reducible exact hB2 | with_reducible apply bdrew | with_reducible apply bdrewN | with_reducible apply balloc | ((with_reducible refine bset ?_ ?_ _); rotate_left; (first | omega | (simp <;> omega))))⟩
            case measure => simp [intOf]; omega
    · obtain rfl : i = m + 2 := by omega
      have hM3 : TbMem base w1 L m N bs X den := hM1.congr (fun _ _ => rfl) (fun a' ha' c' hc' => (pivP_end ha' HXR.out).symm)
      obtain ⟨g, hA, hg1, hg2, hg3, hg4⟩ := hM3.bas hr
      have hz1 := hM3.box1
      rw [hA] at hz1
      have hz2 := hM3.box2
      have hz3 := hM3.free2
      have hz0 := hM3.box0
      have hgb := hsb4 _ hA
      obtain ⟨hgb1, hgb2⟩ := hgb
      have hgb1 : ¬ g = L.b := hgb1
      have hgb1' : ¬ L.b = g := fun e => hgb1 e.symm
      have hM4 := ((hM3.setBas hA c (r := r)).setDen p)
      have hne0 : ¬ L.gR = L.b := fun e => hsb3 e.symm
      by_cases hpn : p < 0
      · have hM5 := hM4.setDen (-p)
        have HPN := Lib.hid hpn
        have HM5 := Lib.hid hM5
        have hf3 : ((w1.setCell ⟨g, r, none⟩ (.int .i64 c)).setCell ⟨L.b, 2, none⟩ (.int .i64 p)).cell? ⟨L.b, 0, none⟩ = some (.slice (some ⟨L.gR, 0, none⟩) (m + 2) L.cR) := hM4.box0
        have hf4 := hM5.box0
        have hf5 := hM4.free2
        clear hM4 hM5
        go_wp2_with fail
        go_loopw [98] (fun x wr => ∃ i : Nat, i ≤ m + 2 ∧ x = .int .i64 i ∧ TbMem base wr L m N (LA.pivB bs r c) (negP X i 0) (-p) ∧ Below base w wr) (fun x _ => m + 2 - (intOf x).toNat)
        case atStart => exact ⟨0, Nat.zero_le _, rfl, (HM5.out.below (by repeat (first | with_reducible exact Below.refl _ _ | with_reducible apply bdrew | with_reducible apply bdrewN | with_reducible apply balloc | ((with_reducible refine bset ?_ ?_ _); rotate_left; (first | omega | (simp <;> omega)))))).congr (fun _ _ => rfl) (fun a _ c _ => negP_start X a c), by repeat (first | with_reducible exact hB1 | with_reducible apply bdrew | with_reducible apply bdrewN | with_reducible apply balloc | ((with_reducible refine bset ?_ ?_ _); rotate_left; (first | omega | (simp <;> omega))))⟩
        case round =>
          obtain ⟨i, hi, rfl, hN1, hB3⟩ := hrel
          obtain ⟨w3, rfl⟩ : ∃ wo : World, wo = wr := ⟨_, rfl⟩
          by_cases hlt : i < m + 2
          · have ho := hN1.out i hlt
            go_wp2_with fail
            (try simp only [show decide ((i : Int) < (m : Int) + 2) = true from decide_eq_true (by omega)])
            go_loopw [104] (fun x wr => ∃ j : Nat, j ≤ N ∧ x = .int .i64 j ∧ TbMem base wr L m N (LA.pivB bs r c) (negP X i j) (-p) ∧ Below base w wr) (fun x _ => N - (intOf x).toNat)
            case atStart => exact ⟨0, Nat.zero_le _, rfl, hN1.below (by repeat (first | with_reducible exact Below.refl _ _ | with_reducible apply bdrew | with_reducible apply bdrewN | with_reducible apply balloc | ((with_reducible refine bset ?_ ?_ _); rotate_left; (first | omega | (simp <;> omega))))), hB3⟩
            case round =>
              obtain ⟨j, hj, rfl, hN2, hB4⟩ := hrel
              obtain ⟨w4, rfl⟩ : ∃ wo : World, wo = wr := ⟨_, rfl⟩
              by_cases hlt2 : j < N
              · have hcc := hN2.cell (i := i) (j := j) hlt hlt2
                have hAB := HXB.out i j hlt hlt2
                rw [negP_at] at hcc
                obtain ⟨a, ha⟩ : ∃ a, Hid (X i j = a) := ⟨_, Lib.hid rfl⟩
                rw [ha.out] at hcc hAB
                obtain ⟨hcc1, hcc2⟩ := hcc
                obtain ⟨hAB1, hAB2⟩ := hAB
                have hblk := (hN2.sep i hlt).1
                go_wp2
                go_roundw
                case rel => exact ⟨j + 1, by omega, by go_num, ((hN2.set hlt (-a) (j := j) (T' := negP X i (j + 1)) (fun a' _ c' _ => by rw [negP_step, ha.out])).below (by repeat (first | with_reducible exact Below.refl _ _ | with_reducible apply bdrew | with_reducible apply bdrewN | with_reducible apply balloc | ((with_reducible refine bset ?_ ?_ _); rotate_left; (first | omega | (simp <;> omega)))))), by repeat (first | with_reducible exact hB4 | with_reducible apply bdrew | with_reducible apply bdrewN | with_reducible apply balloc | ((with_reducible refine bset ?_ ?_ _); rotate_left; (first | omega | (simp <;> omega))))⟩
                case measure => simp [intOf]; omega
              · obtain rfl : j = N := by omega
                go_wp2
                go_roundw
                case rel => exact ⟨i + 1, by omega, by go_num, (hN2.below (by repeat (first | with_reducible exact Below.refl _ _ | with_reducible apply bdrew | with_reducible apply bdrewN | with_reducible apply balloc | ((with_reducible refine bset ?_ ?_ _); rotate_left; (first | omega | (simp <;> omega)))))).congr (fun _ _ => rfl) (fun a' _ c' hc' => negP_row X hc'), by repeat (first | with_reducible exact hB4 | with_reducible apply bdrew | with_reducible apply bdrewN | with_reducible apply balloc | ((with_reducible refine bset ?_ ?_ _); rotate_left; (first | omega | (simp <;> omega))))⟩
                case measure => simp [intOf]; omega
          · obtain rfl : i = m + 2 := by omega
            go_wp2
            go_end0
            refine ⟨rfl, (hN1.below (by repeat (first | with_reducible exact Below.refl _ _ | with_reducible apply bdrew | with_reducible apply bdrewN | with_reducible apply balloc | ((with_reducible refine bset ?_ ?_ _); rotate_left; (first | omega | (simp <;> omega)))))).congr (fun _ _ => rfl) (fun a' ha' c' _ => ?_), by repeat (first | with_reducible exact hB3 | with_reducible apply bdrew | with_reducible apply bdrewN | with_reducible apply balloc | ((with_reducible refine bset ?_ ?_ _); rotate_left; (first | omega | (simp <;> omega))))⟩
            rw [negP_end X ha']
      · have hpn' : decide (p < 0) = false := decide_eq_false hpn
        go_wp2
        go_end0
        exact ⟨rfl, hM4, by repeat (first | with_reducible exact hB1 | with_reducible apply bdrew | with_reducible apply bdrewN | with_reducible apply balloc | ((with_reducible refine bset ?_ ?_ _); rotate_left; (first | omega | (simp <;> omega))))⟩

theorem pivot_any (w : World) (base : Nat) (L : TbLay) (P : LA.LP) (s : LA.St) (hP : LA.LPIn P) (ht : LA.Tabl P s.bs s.T s.den) (hM : TbMem base w L P.m P.N s.bs s.T s.den) (hb : base ≤ w.heap.size) (r c : Nat) (hr : r < P.m) (hc : c ≤ P.n + P.m) (hne : s.T r c ≠ 0) :
    Calls Try.prog 51 #[.pointer (some ⟨L.b, 0, none⟩), .int .i64 r, .int .i64 c] w fun e w' => e = .returned (.tuple #[]) ∧ TbMem base w' L P.m P.N (s.piv r c).bs (s.piv r c).T (s.piv r c).den ∧ Below base w w' := by
  have hcN : c < P.N := by unfold LA.LP.N; omega
  have ht2 := ht.pivot hr hc hne
  have hle := ht.le_den hP
  have hN14 : P.N ≤ 100 := by unfold LA.LP.N; have := hP.m; have := hP.n; omega
  refine (piv_walk w base L P.m P.N s.bs s.T (LA.pivQ s.T s.den r c) s.den (s.T r c) r c hM hb hr hcN rfl (fun i j _ _ hir => ?_) (fun j => ?_) ht.pos (by omega) (fun i j hi hj => ?_) (fun i j hi hj => ?_) hP.m hN14).mono fun e w' h => ⟨h.1, h.2.1.congr (fun _ _ => rfl) (fun _ _ _ _ => rfl), h.2.2⟩
  · unfold LA.pivQ; rw [if_neg hir]
  · unfold LA.pivQ; rw [if_pos rfl]
  · have := ht.le hP hi hj; omega
  · have := ht2.le hP hi hj
    unfold LA.pivT at this
    split at this <;> omega

end Go.Proofs.Ytkepfmglljkjhaa

namespace Go.Proofs.Ytkepfmglljkjhaa
open Go.RowKit
set_option linter.unusedVariables false
set_option linter.unusedSimpArgs false

/-- What is found among the first rows. -/
def LvTo (m l : Nat) (bs : Nat → Nat) (T : Nat → Nat → Int) (c i : Nat) (b : Int) : Prop :=
  (b = -1 ∧ ∀ k, k < i → T k c ≤ 0) ∨ ∃ r : Nat, b = r ∧ r < m ∧ r < i ∧ 0 < T r c ∧ ∀ k, k < i → 0 < T k c → T r l * T k c < T k l * T r c ∨ (T r l * T k c = T k l * T r c ∧ bs r ≤ bs k)
section
variable {m l : Nat} {bs : Nat → Nat} {T : Nat → Nat → Int} {c i : Nat} {b : Int}
theorem LvTo.skip (h : LvTo m l bs T c i b) (hi : T i c ≤ 0) : LvTo m l bs T c (i + 1) b := by
  rcases h with ⟨h1, h2⟩ | ⟨r, h1, h2, h3, h4, h5⟩
  · refine .inl ⟨h1, fun k hk => ?_⟩
    by_cases e : k = i
    · rw [e]; exact hi
    · exact h2 k (by omega)
  · refine .inr ⟨r, h1, h2, by omega, h4, fun k hk hp => ?_⟩
    by_cases e : k = i
    · rw [e] at hp; omega
    · exact h5 k (by omega) hp
theorem LvTo.first (h : LvTo m l bs T c i (-1)) (him : i < m) (hi : 0 < T i c) : LvTo m l bs T c (i + 1) (i : Int) := by
  rcases h with ⟨_, h2⟩ | ⟨r, h1, _⟩
  · refine .inr ⟨i, rfl, him, by omega, hi, fun k hk hp => ?_⟩
    by_cases e : k = i
    · rw [e]; exact .inr ⟨rfl, Nat.le_refl _⟩
    · have := h2 k (by omega); omega
  · omega
theorem LvTo.keep {r : Nat} (h : LvTo m l bs T c i (r : Int)) (hi : 0 < T i c) (hn : ¬ (T i l * T r c < T r l * T i c ∨ (T i l * T r c = T r l * T i c ∧ bs i < bs r))) : LvTo m l bs T c (i + 1) (r : Int) := by
  rcases h with ⟨h1, _⟩ | ⟨q, h1, h2, h3, h4, h5⟩
  · omega
  · obtain rfl : r = q := by omega
    refine .inr ⟨r, rfl, h2, by omega, h4, fun k hk hp => ?_⟩
    by_cases e : k = i
    · rw [e]
      by_cases e2 : T i l * T r c = T r l * T i c
      · exact .inr ⟨e2.symm, by omega⟩
      · exact .inl (by omega)
    · exact h5 k (by omega) hp
theorem LvTo.next {r : Nat} (h : LvTo m l bs T c i (r : Int)) (him : i < m) (hi : 0 < T i c) (hn : T i l * T r c < T r l * T i c ∨ (T i l * T r c = T r l * T i c ∧ bs i < bs r)) : LvTo m l bs T c (i + 1) (i : Int) := by
  rcases h with ⟨h1, _⟩ | ⟨q, h1, h2, h3, h4, h5⟩
  · omega
  · obtain rfl : r = q := by omega
    refine .inr ⟨i, rfl, him, by omega, hi, fun k hk hp => ?_⟩
    by_cases e : k = i
    · rw [e]; exact .inr ⟨rfl, Nat.le_refl _⟩
    · have h6 := h5 k (by omega) hp
      -- the products with the middle row
      have m1 : T i l * T k c * T r c = T i l * T r c * T k c := by grind
      have m2 : T k l * T i c * T r c = T k l * T r c * T i c := by grind
      have m3 : T r l * T i c * T k c = T r l * T k c * T i c := by grind
      rcases hn with hn | ⟨hn, hb⟩
      · left
        have a1 := Int.mul_lt_mul_of_pos_right hn hp
        have a2 : T r l * T k c * T i c ≤ T k l * T r c * T i c := Int.mul_le_mul_of_nonneg_right (by omega) (Int.le_of_lt hi)
        exact Int.lt_of_mul_lt_mul_right (a := T r c) (by omega) (Int.le_of_lt h4)
      · rcases h6 with h6 | ⟨h6, h7⟩
        · left
          have a2 := Int.mul_lt_mul_of_pos_right h6 hi
          exact Int.lt_of_mul_lt_mul_right (a := T r c) (by rw [m1, m2, hn, m3]; exact a2) (Int.le_of_lt h4)
        · right
          refine ⟨Int.eq_of_mul_eq_mul_right (a := T r c) (by omega) (by rw [m1, m2, hn, m3, h6]), by omega⟩
end
set_option maxRecDepth 100000 in
set_option maxHeartbeats 4000000 in
theorem leaving_walk (w : World) (base : Nat) (L : TbLay) (m n : Nat) (bs : Nat → Nat) (T : Nat → Nat → Int) (den : Int) (c : Nat) (hM : TbMem base w L m (n + 1) bs T den) (hc : c < n + 1) (hTB : ∀ i j, i < m + 2 → j < n + 1 → -1000000000 ≤ T i j ∧ T i j ≤ 1000000000) (hm6 : m ≤ 6) (hN : n ≤ 100) :
    Calls Try.prog 53 #[.pointer (some ⟨L.b, 0, none⟩), .int .i64 c] w fun e w' => ∃ b : Int, e = .returned (.int .i64 b) ∧ LvTo m n bs T c m b ∧ Below w.heap.size w w' := by
  obtain ⟨Lb, LgR, LcR, Lblk, LAB, LcB⟩ := L
  have HTB := Lib.hid hTB
  have hx0 := hM.box0
  have hx1 := hM.box1
  dsimp only at hx0 hx1
  clear hTB
  go_enter Try.func53, Try.ntmps53
  go_wp2_with fail
  go_loopw [5, 16] (fun s x wr => ∃ (i : Nat) (b : Int), i ≤ m ∧ x = .int .i64 i ∧ s = .int .i64 b ∧ Hid (LvTo m n bs T c i b) ∧ Below w.heap.size w wr) (fun _ x _ => m - (intOf x).toNat)
  case atStart => exact ⟨0, -1, Nat.zero_le _, rfl, rfl, Lib.hid (.inl ⟨rfl, fun k hk => by omega⟩), by repeat (first | with_reducible exact Below.refl _ _ | with_reducible apply bdrew | with_reducible apply bdrewN | with_reducible apply balloc | ((with_reducible refine bset ?_ ?_ _); rotate_left; (first | omega | (simp <;> omega))))⟩
  case round =>
    obtain ⟨i, b, hi, rfl, rfl, HL, hB1⟩ := hrel
    obtain ⟨w1, rfl⟩ : ∃ wo : World, wo = wr := ⟨_, rfl⟩
    have hM1 := hM.below hB1
    by_cases hlt : i < m
    · have hi2 : i < m + 2 := by omega
      have hi3 : (i : Int) < (m : Int) + 2 := by omega
      have hy0 := hM1.box0
      have hyo := hM1.out i hi2
      have hyc := (hM1.cell (i := i) (j := c) hi2 hc).1
      dsimp only at hy0 hyo hyc
      obtain ⟨x, hx⟩ : ∃ x, Hid (T i c = x) := ⟨_, Lib.hid rfl⟩
      rw [hx.out] at hyc
      by_cases hx0' : x ≤ 0
      · have HX0 := Lib.hid hx0'
        have hd : decide (x ≤ 0) = true := decide_eq_true hx0'
        go_wp2
        go_roundw
        case rel => exact ⟨i + 1, b, by omega, by go_num, rfl, Lib.hid (HL.out.skip (by rw [hx.out]; exact HX0.out)), by repeat (first | with_reducible exact hB1 | with_reducible apply bdrew | with_reducible apply bdrewN | with_reducible apply balloc | ((with_reducible refine bset ?_ ?_ _); rotate_left; (first | omega | (simp <;> omega))))⟩
        case measure => simp [intOf]; omega
      · have HX0 := Lib.hid (show 0 < T i c by rw [hx.out]; omega)
        have hd : decide (x ≤ 0) = false := decide_eq_false hx0'
        rcases HL.out with ⟨hb, _⟩ | ⟨r, hb, hrm, hri, hrp, _⟩
        · subst hb
          go_wp2
          go_roundw
          case rel => exact ⟨i + 1, i, by omega, by go_num, rfl, Lib.hid (HL.out.first hlt HX0.out), by repeat (first | with_reducible exact hB1 | with_reducible apply bdrew | with_reducible apply bdrewN | with_reducible apply balloc | ((with_reducible refine bset ?_ ?_ _); rotate_left; (first | omega | (simp <;> omega))))⟩
          case measure => simp [intOf]; omega
        · subst hb
          have hr2 : r < m + 2 := by omega
          have hr3 : (r : Int) < (m : Int) + 2 := by omega
          have hr4 : ¬ ((r : Int) < 0) := by omega
          have hyor := hM1.out r hr2
          have hyrc := (hM1.cell (i := r) (j := c) hr2 hc).1
          have hyrl := (hM1.cell (i := r) (j := n) hr2 (by omega)).1
          have hyil := (hM1.cell (i := i) (j := n) hi2 (by omega)).1
          have hy1 := hM1.box1
          obtain ⟨g, hA, hg1, hg2, hg3, hg4⟩ := hM1.bas hlt
          obtain ⟨g', hA', _, _, hg3', _⟩ := hM1.bas hrm
          obtain rfl : g = g' := by rw [hA] at hA'; injection hA' with h; injection h
          dsimp only at hyor hyrc hyrl hyil hy1 hA
          subst hA
          have b1 := LA.abs_mul (HTB.out i n hi2 (by omega)) (HTB.out r c hr2 hc)
          have b2 := LA.abs_mul (HTB.out r n hr2 (by omega)) (HTB.out i c hi2 hc)
          have HK := Lib.hid (HL.out.keep HX0.out)
          have HN := Lib.hid (HL.out.next hlt HX0.out)
          obtain ⟨z, hz⟩ : ∃ z, Hid (T r c = z) := ⟨_, Lib.hid rfl⟩
          obtain ⟨u, hu⟩ : ∃ z, Hid (T r n = z) := ⟨_, Lib.hid rfl⟩
          obtain ⟨v, hv⟩ : ∃ z, Hid (T i n = z) := ⟨_, Lib.hid rfl⟩
          rw [hz.out] at hyrc b1 HK HN
          rw [hu.out] at hyrl b2 HK HN
          rw [hv.out] at hyil b1 HK HN
          rw [hx.out] at b2 HK HN
          obtain ⟨p, hp⟩ : ∃ p, v * z = p := ⟨_, rfl⟩
          obtain ⟨q, hq⟩ : ∃ q, u * x = q := ⟨_, rfl⟩
          rw [hp] at b1 HK HN
          rw [hq] at b2 HK HN
          obtain ⟨b11, b12⟩ := b1
          obtain ⟨b21, b22⟩ := b2
          have hwp : IntKind.i64.wrap (v * z) = p := by rw [hp]; exact Go.IntWalk.i64_in _ (by omega)
          have hwq : IntKind.i64.wrap (u * x) = q := by rw [hq]; exact Go.IntWalk.i64_in _ (by omega)
          clear hp hq hrp HX0
          go_wp2_with fail
          go_quiet (fail)
          go_wp2_with fail
          by_cases h1 : p < q
          · have HC := Lib.hid (show (p < q ∨ (p = q ∧ bs i < bs r)) from .inl h1)
            have e1 : decide (p < q) = true := decide_eq_true h1
            go_quiet (fail)
            go_wp2
            go_roundw
            case rel => exact ⟨i + 1, (i : Int), by omega, by go_num, rfl, Lib.hid (HN.out HC.out), by repeat (first | with_reducible exact hB1 | with_reducible apply bdrew | with_reducible apply bdrewN | with_reducible apply balloc | ((with_reducible refine bset ?_ ?_ _); rotate_left; (first | omega | (simp <;> omega))))⟩
            case measure => simp [intOf]; omega
          · have e1 : decide (p < q) = false := decide_eq_false h1
            by_cases h2 : p = q
            · subst h2
              have e2 : decide (p = p) = true := decide_eq_true rfl
              by_cases h3 : bs i < bs r
              · have HC := Lib.hid (show (p < p ∨ (p = p ∧ bs i < bs r)) from .inr ⟨rfl, h3⟩)
                have e3 : decide ((bs i : Int) < (bs r : Int)) = true := decide_eq_true (by omega)
                go_quiet (fail)
                go_wp2
                go_roundw
                case rel => exact ⟨i + 1, (i : Int), by omega, by go_num, rfl, Lib.hid (HN.out HC.out), by repeat (first | with_reducible exact hB1 | with_reducible apply bdrew | with_reducible apply bdrewN | with_reducible apply balloc | ((with_reducible refine bset ?_ ?_ _); rotate_left; (first | omega | (simp <;> omega))))⟩
                case measure => simp [intOf]; omega
              · have HC := Lib.hid (show ¬ (p < p ∨ (p = p ∧ bs i < bs r)) by omega)
                have e3 : decide ((bs i : Int) < (bs r : Int)) = false := decide_eq_false (by omega)
                go_quiet (fail)
                go_wp2
                go_roundw
                case rel => exact ⟨i + 1, (r : Int), by omega, by go_num, rfl, Lib.hid (HK.out HC.out), by repeat (first | with_reducible exact hB1 | with_reducible apply bdrew | with_reducible apply bdrewN | with_reducible apply balloc | ((with_reducible refine bset ?_ ?_ _); rotate_left; (first | omega | (simp <;> omega))))⟩
                case measure => simp [intOf]; omega
            · have HC := Lib.hid (show ¬ (p < q ∨ (p = q ∧ bs i < bs r)) by omega)
              have e2 : (p == q) = false := beq_eq_false_iff_ne.2 h2
              go_quiet (fail)
              go_wp2
              go_roundw
              case rel => exact ⟨i + 1, (r : Int), by omega, by go_num, rfl, Lib.hid (HK.out HC.out), by repeat (first | with_reducible exact hB1 | with_reducible apply bdrew | with_reducible apply bdrewN | with_reducible apply balloc | ((with_reducible refine bset ?_ ?_ _); rotate_left; (first | omega | (simp <;> omega))))⟩
              case measure => simp [intOf]; omega
    · obtain rfl : i = m := by omega
      go_wp2
      go_ret
      exact ⟨b, rfl, HL.out, by repeat (first | with_reducible exact hB1 | with_reducible apply bdrew | with_reducible apply bdrewN | with_reducible apply balloc | ((with_reducible refine bset ?_ ?_ _); rotate_left; (first | omega | (simp <;> omega))))⟩

theorem leaving_any (w : World) (base : Nat) (L : TbLay) (P : LA.LP) (s : LA.St) (hP : LA.LPIn P) (ht : LA.Tabl P s.bs s.T s.den) (hM : TbMem base w L P.m P.N s.bs s.T s.den) (c : Nat) (hc : c ≤ P.n + P.m) :
    Calls Try.prog 53 #[.pointer (some ⟨L.b, 0, none⟩), .int .i64 c] w fun e w' => ∃ b : Int, e = .returned (.int .i64 b) ∧ ((b = -1 ∧ ∀ i, i < P.m → s.T i c ≤ 0) ∨ ∃ r : Nat, b = r ∧ LA.Leaves P s c r) ∧ Below w.heap.size w w' := by
  have hN : P.N = P.last + 1 := rfl
  rw [hN] at hM
  refine (leaving_walk w base L P.m P.last s.bs s.T s.den c hM (by unfold LA.LP.last; omega) (fun i j hi hj => ?_) hP.m (by have := hP.m; have := hP.n; unfold LA.LP.last; omega)).mono ?_
  · have := ht.le hP hi (show j < P.N by rw [hN]; exact hj); omega
  · rintro e w' ⟨b, rfl, h, hB⟩
    refine ⟨b, rfl, ?_, hB⟩
    rcases h with ⟨h1, h2⟩ | ⟨r, h1, h2, _, h4, h5⟩
    · exact .inl ⟨h1, h2⟩
    · exact .inr ⟨r, h1, h2, h4, h5⟩

end Go.Proofs.Ytkepfmglljkjhaa

namespace Go.Proofs.Ytkepfmglljkjhaa
open Go.RowKit
set_option linter.unusedVariables false
set_option linter.unusedSimpArgs false

set_option maxRecDepth 100000 in
set_option maxHeartbeats 4000000 in
theorem maximize_any (w : World) (base : Nat) (L : TbLay) (P : LA.LP) (s : LA.St) (o lim : Nat) (g : Nat → Int) (hP : LA.LPIn P) (ho : LA.Obj P o lim g) (h : LA.Ok P s) (hM : TbMem base w L P.m P.N s.bs s.T s.den) (hb : base ≤ w.heap.size) :
    Calls Try.prog 36 #[.pointer (some ⟨L.b, 0, none⟩), .int .i64 o, .int .i64 lim] w fun e w' => ∃ (s' : LA.St) (b : Int), e = .returned (.int .i64 b) ∧ LA.Ok P s' ∧ (lim ≤ P.n + P.m → LA.NoArt P s → LA.NoArt P s') ∧ ((b = -1 ∧ ∀ k, k < lim → 0 ≤ s'.T o k) ∨ ∃ c : Nat, b = c ∧ LA.Enters o lim s' c ∧ ∀ i, i < P.m → s'.T i c ≤ 0) ∧ TbMem base w' L P.m P.N s'.bs s'.T s'.den ∧ Below base w w' := by
  obtain ⟨K, f, hf0, hfok, hfst, hfn⟩ := LA.steps ho h
  have HFOK := Lib.hid hfok
  have HFN := Lib.hid hfn
  have HNA : Hid (lim ≤ P.n + P.m → LA.NoArt P s → ∀ i, i ≤ K → LA.NoArt P (f i)) := Lib.hid fun hl hn i => by
    induction i with
    | zero => intro _; rw [hf0]; exact hn
    | succ i ih => intro hi; exact (ih (by omega)).step hl (hfst i (by omega))
  have HO := Lib.hid ho
  have hom := ho.lt
  have hol := ho.lim
  have hlN : lim ≤ P.N := by have := ho.lim; unfold LA.LP.N; omega
  have hm6 := hP.m
  have hl100 : lim ≤ 100 := by have := ho.lim; have := hP.n; omega
  have HP := Lib.hid hP
  have HM := Lib.hid (show TbMem base w L P.m P.N (f 0).bs (f 0).T (f 0).den by rw [hf0]; exact hM)
  have hx0 := hM.box0
  clear hfok hfst hfn h ho hP hM hf0
  obtain ⟨m, hm⟩ : ∃ m, Hid (P.m = m) := ⟨_, Lib.hid rfl⟩
  obtain ⟨N, hN⟩ : ∃ N, Hid (P.N = N) := ⟨_, Lib.hid rfl⟩
  rw [hm.out, hN.out] at HM
  rw [hm.out] at hm6 hom hx0
  rw [hN.out] at hlN
  go_enter Try.func36, Try.ntmps36
  go_wp2_with fail
  go_loopg [7] K (fun gk x wr => ∃ i : Nat, i ≤ K ∧ Hid (i + gk = K) ∧ TbMem base wr L m N (f i).bs (f i).T (f i).den ∧ Below base w wr)
  case atStart => exact ⟨0, Nat.zero_le _, Lib.hid (by omega), HM.out.below (by repeat (first | with_reducible exact Below.refl _ _ | with_reducible apply bdrew | with_reducible apply bdrewN | with_reducible apply balloc | ((with_reducible refine bset ?_ ?_ _); rotate_left; (first | omega | (simp <;> omega))))), by repeat (first | with_reducible exact Below.refl _ _ | with_reducible apply bdrew | with_reducible apply bdrewN | with_reducible apply balloc | ((with_reducible refine bset ?_ ?_ _); rotate_left; (first | omega | (simp <;> omega))))⟩
  case round =>
    obtain ⟨i, hi, HG, hM1, hB1⟩ := hrel
    obtain ⟨w1, rfl⟩ : ∃ wo : World, wo = wr := ⟨_, rfl⟩
    have hOK := HFOK.out i hi
    have HOK := Lib.hid hOK
    have hTt : ∀ a j, a < m + 2 → j < N → -707788800 ≤ (f i).T a j ∧ (f i).T a j ≤ 707788800 := fun a j ha hj => hOK.toTabl.le HP.out (by rw [hm.out]; exact ha) (by rw [hN.out]; exact hj)
    clear hOK hTt
    have hy0 := hM1.box0
    have hyo := hM1.out o hom
    have hom3 : (o : Int) < (m : Int) + 2 := by omega
    go_wp2_with fail
    go_loopw [7] (fun x wr => ∃ c : Nat, c ≤ lim ∧ x = .int .i64 c ∧ Hid (∀ k, k < c → 0 ≤ (f i).T o k) ∧ Below w1.heap.size w1 wr) (fun x _ => lim - (intOf x).toNat)
    case atStart => exact ⟨0, Nat.zero_le _, rfl, Lib.hid (fun k hk => by omega), by repeat (first | with_reducible exact Below.refl _ _ | with_reducible apply bdrew | with_reducible apply bdrewN | with_reducible apply balloc | ((with_reducible refine bset ?_ ?_ _); rotate_left; (first | omega | (simp <;> omega))))⟩
    case round =>
      obtain ⟨c, hc, rfl, HC, hB2⟩ := hrel
      obtain ⟨w2, rfl⟩ : ∃ wo : World, wo = wr := ⟨_, rfl⟩
      have hM2 := hM1.below hB2
      have hB12 := hB1.trans (hB2.mono (Nat.le_trans hb hB1.size))
      by_cases hlt : c < lim
      · have hz0 := hM2.box0
        have hzo := hM2.out o hom
        have hcN : c < N := by omega
        have hzc := (hM2.cell (i := o) (j := c) hom hcN).1
        obtain ⟨x, hx⟩ : ∃ x, Hid ((f i).T o c = x) := ⟨_, Lib.hid rfl⟩
        rw [hx.out] at hzc
        by_cases hx0' : x ≥ 0
        · have HX := Lib.hid hx0'
          have hd : decide (x ≥ 0) = true := decide_eq_true hx0'
          go_wp2
          go_roundw
          case rel => exact ⟨c + 1, by omega, by go_num, Lib.hid (fun k hk => by
            by_cases e : k = c
            · rw [e, hx.out]; exact HX.out
            · exact HC.out k (by omega)), by repeat (first | with_reducible exact hB2 | with_reducible apply bdrew | with_reducible apply bdrewN | with_reducible apply balloc | ((with_reducible refine bset ?_ ?_ _); rotate_left; (first | omega | (simp <;> omega))))⟩
          case measure => simp [intOf]; omega
        · have hd : decide (x ≥ 0) = false := decide_eq_false hx0'
          have HE := Lib.hid (show LA.Enters o lim (f i) c from ⟨hlt, by rw [hx.out]; omega, HC.out⟩)
          have hcl : ¬ ((c : Int) = (lim : Int)) := by omega
          have hce : ((c : Int) == (lim : Int)) = false := beq_eq_false_iff_ne.2 hcl
          go_wp2_with fail
          refine (leaving_any _ base L P (f i) HP.out HOK.out.toTabl (by rw [hm.out, hN.out]; exact hM2.below (by repeat (first | with_reducible exact Below.refl _ _ | with_reducible apply bdrew | with_reducible apply bdrewN | with_reducible apply balloc | ((with_reducible refine bset ?_ ?_ _); rotate_left; (first | omega | (simp <;> omega)))))) c (by omega)).mono ?_
          rintro e w3 ⟨b, rfl, hlv, hB3⟩
          have hM3 := hM2.below (show Below w2.heap.size w2 w3 from dstep w2 hB3 (by repeat (first | with_reducible exact Below.refl _ _ | with_reducible apply bdrew | with_reducible apply bdrewN | with_reducible apply balloc | ((with_reducible refine bset ?_ ?_ _); rotate_left; (first | omega | (simp <;> omega))))))
          have hB13 : Below base w w3 := hB12.trans ((dstep w2 hB3 (by repeat (first | with_reducible exact Below.refl _ _ | with_reducible apply bdrew | with_reducible apply bdrewN | with_reducible apply balloc | ((with_reducible refine bset ?_ ?_ _); rotate_left; (first | omega | (simp <;> omega)))))).mono (Nat.le_trans hb hB12.size))
          rcases hlv with ⟨rfl, hno⟩ | ⟨r, rfl, hlv⟩
          · have HNO := Lib.hid hno
            clear hno
            go_wp2
            go_ret
            exact ⟨f i, c, rfl, HOK.out, fun hl hn => HNA.out hl hn i hi, .inr ⟨c, rfl, HE.out, HNO.out⟩, by rw [hm.out, hN.out]; exact hM3.below (by repeat (first | with_reducible exact Below.refl _ _ | with_reducible apply bdrew | with_reducible apply bdrewN | with_reducible apply balloc | ((with_reducible refine bset ?_ ?_ _); rotate_left; (first | omega | (simp <;> omega))))), by repeat (first | with_reducible exact hB13 | with_reducible apply bdrew | with_reducible apply bdrewN | with_reducible apply balloc | ((with_reducible refine bset ?_ ?_ _); rotate_left; (first | omega | (simp <;> omega))))⟩
          · have HLV := Lib.hid hlv
            have hrm := hlv.1
            have hrp := hlv.2.1
            obtain ⟨hik, hnx⟩ := HFN.out i hi _ ⟨c, r, HE.out, hlv, rfl⟩
            have HNX := Lib.hid hnx
            have hrn : ¬ ((r : Int) < 0) := by omega
            have hgk := Lib.hid (show i + 1 + (gk - 1) = K ∧ gk - 1 < gk by have := HG.out; omega)
            clear hlv hnx
            go_wp2_with fail
            refine (pivot_any _ base L P (f i) HP.out HOK.out.toTabl (by rw [hm.out, hN.out]; exact hM3.below (by repeat (first | with_reducible exact Below.refl _ _ | with_reducible apply bdrew | with_reducible apply bdrewN | with_reducible apply balloc | ((with_reducible refine bset ?_ ?_ _); rotate_left; (first | omega | (simp <;> omega)))))) (Nat.le_trans hb hB13.size) r c hrm (by omega) (by omega)).mono ?_
            rintro e w4 ⟨rfl, hM4, hB4⟩
            rw [← HNX.out, hm.out, hN.out] at hM4
            go_wp2
            go_roundg (gk - 1)
            case measure => exact hgk.out.2
            case rel => exact ⟨i + 1, by omega, Lib.hid hgk.out.1, hM4.below (by repeat (first | with_reducible exact Below.refl _ _ | with_reducible apply bdrew | with_reducible apply bdrewN | with_reducible apply balloc | ((with_reducible refine bset ?_ ?_ _); rotate_left; (first | omega | (simp <;> omega))))), hB13.trans hB4⟩
      · obtain rfl : c = lim := by omega
        go_wp2
        go_ret
        exact ⟨f i, -1, rfl, HOK.out, fun hl hn => HNA.out hl hn i hi, .inl ⟨rfl, HC.out⟩, by rw [hm.out, hN.out]; exact hM2.below (by repeat (first | with_reducible exact Below.refl _ _ | with_reducible apply bdrew | with_reducible apply bdrewN | with_reducible apply balloc | ((with_reducible refine bset ?_ ?_ _); rotate_left; (first | omega | (simp <;> omega))))), by repeat (first | with_reducible exact hB12 | with_reducible apply bdrew | with_reducible apply bdrewN | with_reducible apply balloc | ((with_reducible refine bset ?_ ?_ _); rotate_left; (first | omega | (simp <;> omega))))⟩


end Go.Proofs.Ytkepfmglljkjhaa

namespace Go.Proofs.Ytkepfmglljkjhaa
open Go.RowKit
set_option linter.unusedVariables false
set_option linter.unusedSimpArgs false

/-- The first least negative bound among the first rows. -/
def LowTo (m : Nat) (B : Nat → Int) (i : Nat) (b : Int) : Prop :=
  (b = -1 ∧ ∀ k, k < i → 0 ≤ B k) ∨ ∃ r : Nat, b = r ∧ r < m ∧ r < i ∧ B r < 0 ∧ ∀ k, k < i → B r ≤ B k
theorem LowTo.skip {m i : Nat} {B : Nat → Int} {b : Int} (h : LowTo m B i b) (hi : 0 ≤ B i) : LowTo m B (i + 1) b := by
  rcases h with ⟨h1, h2⟩ | ⟨r, h1, h2, h3, h4, h5⟩
  · refine .inl ⟨h1, fun k hk => ?_⟩
    by_cases e : k = i
    · rw [e]; exact hi
    · exact h2 k (by omega)
  · refine .inr ⟨r, h1, h2, by omega, h4, fun k hk => ?_⟩
    by_cases e : k = i
    · rw [e]; omega
    · exact h5 k (by omega)
theorem LowTo.first {m i : Nat} {B : Nat → Int} (h : LowTo m B i (-1)) (him : i < m) (hi : B i < 0) : LowTo m B (i + 1) (i : Int) := by
  rcases h with ⟨_, h2⟩ | ⟨r, h1, _⟩
  · refine .inr ⟨i, rfl, him, by omega, hi, fun k hk => ?_⟩
    by_cases e : k = i
    · rw [e]; exact Int.le_refl _
    · have := h2 k (by omega); omega
  · omega
theorem LowTo.keep {m i r : Nat} {B : Nat → Int} (h : LowTo m B i (r : Int)) (hi : ¬ B i < B r) : LowTo m B (i + 1) (r : Int) := by
  rcases h with ⟨h1, _⟩ | ⟨q, h1, h2, h3, h4, h5⟩
  · omega
  · obtain rfl : r = q := by omega
    refine .inr ⟨r, rfl, h2, by omega, h4, fun k hk => ?_⟩
    by_cases e : k = i
    · rw [e]; omega
    · exact h5 k (by omega)
theorem LowTo.next {m i r : Nat} {B : Nat → Int} (h : LowTo m B i (r : Int)) (him : i < m) (hi : B i < B r) : LowTo m B (i + 1) (i : Int) := by
  rcases h with ⟨h1, _⟩ | ⟨q, h1, h2, h3, h4, h5⟩
  · omega
  · obtain rfl : r = q := by omega
    refine .inr ⟨i, rfl, him, by omega, by omega, fun k hk => ?_⟩
    by_cases e : k = i
    · rw [e]; exact Int.le_refl _
    · have := h5 k (by omega); omega
theorem maximize_at (w : World) (base : Nat) (L : TbLay) (P : LA.LP) (s : LA.St) (o lim : Nat) (g : Nat → Int) (oi li : Int) (hoi : oi = o) (hli : li = lim) (hP : LA.LPIn P) (ho : LA.Obj P o lim g) (h : LA.Ok P s) (hM : TbMem base w L P.m P.N s.bs s.T s.den) (hb : base ≤ w.heap.size) :
    Calls Try.prog 36 #[.pointer (some ⟨L.b, 0, none⟩), .int .i64 oi, .int .i64 li] w fun e w' => ∃ (s' : LA.St) (b : Int), e = .returned (.int .i64 b) ∧ LA.Ok P s' ∧ (lim ≤ P.n + P.m → LA.NoArt P s → LA.NoArt P s') ∧ ((b = -1 ∧ ∀ k, k < lim → 0 ≤ s'.T o k) ∨ ∃ c : Nat, b = c ∧ LA.Enters o lim s' c ∧ ∀ i, i < P.m → s'.T i c ≤ 0) ∧ TbMem base w' L P.m P.N s'.bs s'.T s'.den ∧ Below base w w' := by
  subst hoi
  subst hli
  exact maximize_any w base L P s o lim g hP ho h hM hb
theorem pivot_at (w : World) (base : Nat) (L : TbLay) (P : LA.LP) (s : LA.St) (ci : Int) (r c : Nat) (hci : ci = c) (hP : LA.LPIn P) (ht : LA.Tabl P s.bs s.T s.den) (hM : TbMem base w L P.m P.N s.bs s.T s.den) (hb : base ≤ w.heap.size) (hr : r < P.m) (hc : c ≤ P.n + P.m) (hne : s.T r c ≠ 0) :
    Calls Try.prog 51 #[.pointer (some ⟨L.b, 0, none⟩), .int .i64 r, .int .i64 ci] w fun e w' => e = .returned (.tuple #[]) ∧ TbMem base w' L P.m P.N (s.piv r c).bs (s.piv r c).T (s.piv r c).den ∧ Below base w w' := by
  subst hci
  exact pivot_any w base L P s hP ht hM hb r c hr hc hne
/-- While the artificial variable is looked for. -/
structure Drv (P : LA.LP) (s : LA.St) (i : Nat) : Prop where
  ok : LA.Ok P s
  out : ∀ k, k < i → s.bs k < P.n + P.m
  zero : ∀ k, k < P.m → s.bs k = P.n + P.m → s.T k P.last = 0
theorem Drv.skip {P : LA.LP} {s : LA.St} {i : Nat} (h : Drv P s i) (him : i < P.m) (hi : s.bs i ≠ P.n + P.m) : Drv P s (i + 1) :=
  ⟨h.ok, fun k hk => by
    by_cases e : k = i
    · rw [e]; have := h.ok.bas i him; omega
    · exact h.out k (by omega), h.zero⟩
theorem Drv.drive {P : LA.LP} {s : LA.St} {i c : Nat} (h : Drv P s i) (him : i < P.m) (hi : s.bs i = P.n + P.m) (hc : c < P.n + P.m) (hne : s.T i c ≠ 0) : Drv P (s.piv i c) (i + 1) :=
  ⟨h.ok.drive him (h.zero i him hi) hc hne, fun k hk => by
    show LA.pivB s.bs i c k < _
    unfold LA.pivB
    by_cases e : k = i
    · rw [if_pos e]; exact hc
    · rw [if_neg e]; exact h.out k (by omega), fun k hk e => by
    have e2 : LA.pivB s.bs i c k = P.n + P.m := e
    unfold LA.pivB at e2
    by_cases e3 : k = i
    · rw [if_pos e3] at e2; omega
    · rw [if_neg e3] at e2
      exact absurd (h.ok.inj hk him (by rw [e2, hi])) e3⟩
set_option maxRecDepth 100000 in
set_option maxHeartbeats 8000000 in
theorem start_any (w : World) (base : Nat) (L : TbLay) (P : LA.LP) (hP : LA.LPIn P) (hM : TbMem base w L P.m P.N (fun i => P.n + i) P.T0 1) (hb : base ≤ w.heap.size) :
    Calls Try.prog 34 #[.pointer (some ⟨L.b, 0, none⟩)] w fun e w' => ∃ (s' : LA.St) (ok : Bool), e = .returned (.bool ok) ∧ LA.Ok P s' ∧ (ok = true → LA.NoArt P s') ∧ (ok = false → (∀ j, j < P.n + P.m + 1 → 0 ≤ s'.T (P.m + 1) j) ∧ s'.T (P.m + 1) P.last < 0) ∧ TbMem base w' L P.m P.N s'.bs s'.T s'.den ∧ Below base w w' := by
  obtain ⟨Lb, LgR, LcR, Lblk, LAB, LcB⟩ := L
  have hm6 := hP.m
  have hn6 := hP.n
  have HP := Lib.hid hP
  have HM0 := Lib.hid hM
  have hBT : ∀ i, i < P.m → P.T0 i P.last = P.b i := fun i hi => by unfold LA.LP.T0; rw [if_pos hi, LA.t0_last]
  have HBT := Lib.hid hBT
  obtain ⟨a, ha⟩ : ∃ a, Hid (P.n + P.m = a) := ⟨_, Lib.hid rfl⟩
  have ha14 : a ≤ 12 := by have := ha.out; omega
  have hN : Hid (P.N = a + 2) := Lib.hid (by have := ha.out; unfold LA.LP.N; omega)
  have hl : Hid (P.last = a + 1) := Lib.hid (by have := ha.out; unfold LA.LP.last; omega)
  rw [hN.out] at hM
  obtain ⟨m, hm⟩ : ∃ m, Hid (P.m = m) := ⟨_, Lib.hid rfl⟩
  rw [hm.out] at hM hm6
  have HM := Lib.hid hM
  have hx0 := hM.box0
  have hx1 := hM.box1
  have hxm := hM.out m (by omega)
  have hm3 : (m : Int) < (m : Int) + 2 := by omega
  dsimp only at hx0 hx1 hxm
  clear hBT hP hM hn6
  go_enter Try.func34, Try.ntmps34
  go_wp2_with fail
  go_loopw [5, 29] (fun s x wr => ∃ (i : Nat) (b : Int), i ≤ m ∧ x = .int .i64 i ∧ s = .int .i64 b ∧ Hid (LowTo m (fun k => P.T0 k (a + 1)) i b) ∧ Below w.heap.size w wr) (fun _ x _ => m - (intOf x).toNat)
  case atStart => exact ⟨0, -1, Nat.zero_le _, rfl, rfl, Lib.hid (.inl ⟨rfl, fun k hk => by omega⟩), by repeat (first | with_reducible exact Below.refl _ _ | with_reducible apply bdrew | with_reducible apply bdrewN | with_reducible apply balloc | ((with_reducible refine bset ?_ ?_ _); rotate_left; (first | omega | (simp <;> omega))))⟩
  case round =>
    obtain ⟨i, b, hi, rfl, rfl, HL, hB1⟩ := hrel
    obtain ⟨w1, rfl⟩ : ∃ wo : World, wo = wr := ⟨_, rfl⟩
    have hM1 := HM.out.below hB1
    by_cases hlt : i < m
    · have hi2 : i < m + 2 := by omega
      have hi3 : (i : Int) < (m : Int) + 2 := by omega
      have hy0 := hM1.box0
      have hyo := hM1.out i hi2
      have hyc := (hM1.cell (i := i) (j := a + 1) hi2 (by omega)).1
      dsimp only at hy0 hyo hyc
      have HSK := Lib.hid (HL.out.skip (i := i))
      obtain ⟨x, hx⟩ : ∃ x, Hid (P.T0 i (a + 1) = x) := ⟨_, Lib.hid rfl⟩
      rw [hx.out] at hyc
      (try dsimp only at HSK)
      rw [hx.out] at HSK
      by_cases hneg : x < 0
      · have hd : decide (x < 0) = true := decide_eq_true hneg
        have HNG := Lib.hid hneg
        rcases HL.out with ⟨hb', _⟩ | ⟨r, hb', hrm, hri, hrp, _⟩
        · subst hb'
          have HFI := Lib.hid (HL.out.first hlt (by (try dsimp only); rw [hx.out]; exact hneg))
          clear hneg
          go_wp2_with fail
          go_quiet (fail)
          go_wp2
          go_roundw
          case rel => exact ⟨i + 1, (i : Int), by omega, by go_num, rfl, Lib.hid (HFI.out), by repeat (first | with_reducible exact hB1 | with_reducible apply bdrew | with_reducible apply bdrewN | with_reducible apply balloc | ((with_reducible refine bset ?_ ?_ _); rotate_left; (first | omega | (simp <;> omega))))⟩
          case measure => simp [intOf]; omega
        · subst hb'
          have hr2 : r < m + 2 := by omega
          have hr3 : (r : Int) < (m : Int) + 2 := by omega
          have hr4 : decide ((r : Int) < 0) = false := decide_eq_false (by omega)
          have hyor := hM1.out r hr2
          have hyrl := (hM1.cell (i := r) (j := a + 1) hr2 (by omega)).1
          dsimp only at hyor hyrl
          have HK := Lib.hid (HL.out.keep (i := i))
          have HX := Lib.hid (HL.out.next hlt)
          (try dsimp only at HK HX)
          rw [hx.out] at HK HX
          obtain ⟨z, hz⟩ : ∃ z, Hid (P.T0 r (a + 1) = z) := ⟨_, Lib.hid rfl⟩
          rw [hz.out] at hyrl HK HX
          clear hrp
          by_cases hcmp : x < z
          · have HC := Lib.hid hcmp
            have hd2 : decide (x < z) = true := decide_eq_true hcmp
            clear hcmp
            go_wp2_with fail
            go_quiet (fail)
            go_wp2
            go_roundw
            case rel => exact ⟨i + 1, (i : Int), by omega, by go_num, rfl, Lib.hid (HX.out HC.out), by repeat (first | with_reducible exact hB1 | with_reducible apply bdrew | with_reducible apply bdrewN | with_reducible apply balloc | ((with_reducible refine bset ?_ ?_ _); rotate_left; (first | omega | (simp <;> omega))))⟩
            case measure => simp [intOf]; omega
          · have HC := Lib.hid hcmp
            have hd2 : decide (x < z) = false := decide_eq_false hcmp
            clear hcmp
            go_wp2_with fail
            go_quiet (fail)
            go_wp2
            go_roundw
            case rel => exact ⟨i + 1, (r : Int), by omega, by go_num, rfl, Lib.hid (HK.out HC.out), by repeat (first | with_reducible exact hB1 | with_reducible apply bdrew | with_reducible apply bdrewN | with_reducible apply balloc | ((with_reducible refine bset ?_ ?_ _); rotate_left; (first | omega | (simp <;> omega))))⟩
            case measure => simp [intOf]; omega
      · have hd : decide (x < 0) = false := decide_eq_false hneg
        have HNG := Lib.hid (show 0 ≤ x by omega)
        clear hneg
        go_wp2_with fail
        go_quiet (fail)
        go_wp2
        go_roundw
        case rel => exact ⟨i + 1, b, by omega, by go_num, rfl, Lib.hid (HSK.out HNG.out), by repeat (first | with_reducible exact hB1 | with_reducible apply bdrew | with_reducible apply bdrewN | with_reducible apply balloc | ((with_reducible refine bset ?_ ?_ _); rotate_left; (first | omega | (simp <;> omega))))⟩
        case measure => simp [intOf]; omega
    · obtain rfl : m = i := by omega
      have hB1b : Below base w w1 := hB1.mono hb
      rcases HL.out with ⟨hb', hall⟩ | ⟨r, hb', hrm, hri, hrp, hmin⟩
      · subst hb'
        have HOK : Hid (LA.Ok P ⟨fun i => P.n + i, P.T0, 1⟩) := Lib.hid (LA.Ok.plain fun k hk => by
          rw [← HBT.out k hk, hl.out]; exact hall k (by rw [← hm.out]; exact hk))
        clear hall
        go_wp2
        go_ret
        exact ⟨⟨fun i => P.n + i, P.T0, 1⟩, true, rfl, HOK.out, fun _ k hk => Nat.add_lt_add_left hk _, (fun h => by cases h), HM0.out.below (by repeat (first | with_reducible exact hB1 | with_reducible apply bdrew | with_reducible apply bdrewN | with_reducible apply balloc | ((with_reducible refine bset ?_ ?_ _); rotate_left; (first | omega | (simp <;> omega))))), by repeat (first | with_reducible exact hB1b | with_reducible apply bdrew | with_reducible apply bdrewN | with_reducible apply balloc | ((with_reducible refine bset ?_ ?_ _); rotate_left; (first | omega | (simp <;> omega))))⟩
      · subst hb'
        have hneg2 : P.b r < 0 := by rw [← HBT.out r (by rw [hm.out]; exact hrm), hl.out]; exact hrp
        have HFST : Hid (LA.Ok P (LA.St.piv ⟨fun i => P.n + i, P.T0, 1⟩ r (P.n + P.m))) := Lib.hid (LA.Ok.first (by rw [hm.out]; exact hrm) hneg2 fun k hk => by
          rw [← HBT.out k hk, ← HBT.out r (by rw [hm.out]; exact hrm), hl.out]; exact hmin k (by rw [← hm.out]; exact hk))
        have hr4 : ¬ ((r : Int) < 0) := by omega
        clear hmin hrp hneg2
        go_wp2_with fail
        refine (pivot_at _ base ⟨Lb, LgR, LcR, Lblk, LAB, LcB⟩ P ⟨fun i => P.n + i, P.T0, 1⟩ _ r (P.n + P.m) (by rw [ha.out]; omega) HP.out (LA.Tabl.start P) (HM0.out.below (by repeat (first | with_reducible exact hB1 | with_reducible apply bdrew | with_reducible apply bdrewN | with_reducible apply balloc | ((with_reducible refine bset ?_ ?_ _); rotate_left; (first | omega | (simp <;> omega)))))) (Nat.le_trans hb hB1.size) (by rw [hm.out]; exact hrm) (Nat.le_refl _) (by show P.T0 r (P.n + P.m) ≠ 0; unfold LA.LP.T0; rw [if_pos (by rw [hm.out]; exact hrm), LA.t0_art]; omega)).mono ?_
        rintro e w2 ⟨rfl, hM2, hB2⟩
        have hB12 : Below base w w2 := hB1b.trans hB2
        go_wp2_with fail
        refine (maximize_at _ base ⟨Lb, LgR, LcR, Lblk, LAB, LcB⟩ P _ (P.m + 1) (P.n + P.m + 1) P.g1 _ _ (by rw [hm.out]; omega) (by rw [ha.out]; omega) HP.out (LA.obj_art P) HFST.out (hM2.below (by repeat (first | with_reducible exact Below.refl _ _ | with_reducible apply bdrew | with_reducible apply bdrewN | with_reducible apply balloc | ((with_reducible refine bset ?_ ?_ _); rotate_left; (first | omega | (simp <;> omega)))))) (Nat.le_trans hb hB12.size)).mono ?_
        rintro e w3 ⟨s3, b3, rfl, hok3, -, hfin, hM3, hB3⟩
        have hB13 : Below base w w3 := hB12.trans hB3
        have HOK3 := Lib.hid hok3
        have HALL : Hid (∀ j, j < P.n + P.m + 1 → 0 ≤ s3.T (P.m + 1) j) := Lib.hid (by
          rcases hfin with ⟨_, h⟩ | ⟨c, _, hE, hle⟩
          · exact h
          · exfalso
            have h1 := LA.art_bounded hok3 (c := c) (by have := hE.1; unfold LA.LP.N; omega) hle
            have := hE.2.1
            omega)
        clear hfin hok3 HFST hM2
        have HM3' := Lib.hid hM3
        rw [hm.out, hN.out] at hM3
        have HM3 := Lib.hid hM3
        have hz0 := hM3.box0
        have hz1 := hM3.box1
        have hzo := hM3.out (m + 1) (by omega)
        have hzc := (hM3.cell (i := m + 1) (j := a + 1) (by omega) (by omega)).1
        dsimp only at hz0 hz1 hzo hzc
        obtain ⟨x, hx⟩ : ∃ x, Hid (s3.T (m + 1) (a + 1) = x) := ⟨_, Lib.hid rfl⟩
        rw [hx.out] at hzc
        have hm4 : (m : Int) + 1 < (m : Int) + 2 := by omega
        by_cases hneg : x < 0
        · have HNG := Lib.hid (show s3.T (P.m + 1) P.last < 0 by rw [hm.out, hl.out, hx.out]; exact hneg)
          go_wp2
          go_ret
          exact ⟨s3, false, rfl, HOK3.out, (fun h => by cases h), fun _ => ⟨HALL.out, HNG.out⟩, HM3'.out.below (by repeat (first | with_reducible exact Below.refl _ _ | with_reducible apply bdrew | with_reducible apply bdrewN | with_reducible apply balloc | ((with_reducible refine bset ?_ ?_ _); rotate_left; (first | omega | (simp <;> omega))))), by repeat (first | with_reducible exact hB13 | with_reducible apply bdrew | with_reducible apply bdrewN | with_reducible apply balloc | ((with_reducible refine bset ?_ ?_ _); rotate_left; (first | omega | (simp <;> omega))))⟩
        · have HDR : Hid (Drv P s3 0) := Lib.hid ⟨HOK3.out, (fun k hk => by omega), fun k hk he => LA.art_zero HOK3.out (by rw [hm.out, hl.out, hx.out]; omega) hk he⟩
          clear hM3
          go_wp2_with fail
          (try simp only [show a + 2 - 1 = a + 1 from rfl])
          go_loopw [101] (fun x wr => ∃ (i : Nat) (s : LA.St), i ≤ m ∧ x = .int .i64 i ∧ Hid (Drv P s i) ∧ TbMem base wr ⟨Lb, LgR, LcR, Lblk, LAB, LcB⟩ m (a + 2) s.bs s.T s.den ∧ Below base w wr) (fun x _ => m - (intOf x).toNat)
          case atStart => exact ⟨0, s3, Nat.zero_le _, rfl, HDR, HM3.out.below (by repeat (first | with_reducible exact Below.refl _ _ | with_reducible apply bdrew | with_reducible apply bdrewN | with_reducible apply balloc | ((with_reducible refine bset ?_ ?_ _); rotate_left; (first | omega | (simp <;> omega))))), by repeat (first | with_reducible exact hB13 | with_reducible apply bdrew | with_reducible apply bdrewN | with_reducible apply balloc | ((with_reducible refine bset ?_ ?_ _); rotate_left; (first | omega | (simp <;> omega))))⟩
          case round =>
            obtain ⟨i, s4, hi, rfl, HD, hM4, hB4⟩ := hrel
            obtain ⟨w4, rfl⟩ : ∃ wo : World, wo = wr := ⟨_, rfl⟩
            have HD4 := Lib.hid hM4
            by_cases hlt : i < m
            · have hi2 : i < m + 2 := by omega
              have hi3 : (i : Int) < (m : Int) + 2 := by omega
              obtain ⟨g, hA, hg1, hg2, hg3, hg4⟩ := hM4.bas hlt
              have hy0 := hM4.box0
              have hyo := hM4.out i hi2
              dsimp only at hA hy0 hyo
              subst hA
              by_cases hba : s4.bs i = a
              · have hne : ((s4.bs i : Int) != (a : Int)) = false := by simp [hba]
                have hne2 : ¬ ¬ ((s4.bs i : Int) = (a : Int)) := by omega
                obtain ⟨c0, hc0, hc1⟩ := LA.art_row HD.out.ok (r := i) (by rw [hm.out]; exact hlt) (by rw [ha.out]; exact hba)
                have HC1 := Lib.hid hc1
                rw [ha.out] at hc0
                have HBA := Lib.hid hba
                rw [hba] at hg3
                clear hba hc1 hne2 hne
                go_wp2_with fail
                go_loopw [9] (fun x wr => ∃ c : Nat, c ≤ c0 ∧ x = .int .i64 c ∧ Below w4.heap.size w4 wr) (fun x _ => c0 - (intOf x).toNat)
                case atStart => exact ⟨0, Nat.zero_le _, rfl, by repeat (first | with_reducible exact Below.refl _ _ | with_reducible apply bdrew | with_reducible apply bdrewN | with_reducible apply balloc | ((with_reducible refine bset ?_ ?_ _); rotate_left; (first | omega | (simp <;> omega))))⟩
                case round =>
                  obtain ⟨c, hc, rfl, hB5⟩ := hrel
                  obtain ⟨w5, rfl⟩ : ∃ wo : World, wo = wr := ⟨_, rfl⟩
                  have hM5 := HD4.out.below hB5
                  have hB45 := hB4.trans (hB5.mono (Nat.le_trans hb hB4.size))
                  have hu0 := hM5.box0
                  have huo := hM5.out i hi2
                  have huc := (hM5.cell (i := i) (j := c) hi2 (by omega)).1
                  dsimp only at hu0 huo huc
                  obtain ⟨x, hx⟩ : ∃ x, Hid (s4.T i c = x) := ⟨_, Lib.hid rfl⟩
                  rw [hx.out] at huc
                  by_cases hxz : x = 0
                  · subst hxz
                    have hcc : Hid (c + 1 ≤ c0) := Lib.hid (by
                      rcases Nat.lt_or_ge c c0 with h | h
                      · exact h
                      · exfalso
                        have : c = c0 := by omega
                        rw [← this, hx.out] at HC1
                        exact HC1.out rfl)
                    go_wp2
                    go_roundw
                    case rel => exact ⟨c + 1, hcc.out, by go_num, by repeat (first | with_reducible exact hB5 | with_reducible apply bdrew | with_reducible apply bdrewN | with_reducible apply balloc | ((with_reducible refine bset ?_ ?_ _); rotate_left; (first | omega | (simp <;> omega))))⟩
                    case measure => have := hcc.out; simp [intOf]; omega
                  · have HXZ := Lib.hid (show s4.T i c ≠ 0 by rw [hx.out]; exact hxz)
                    have hxe : (x == 0) = false := beq_eq_false_iff_ne.2 hxz
                    go_wp2_with fail
                    refine (pivot_at _ base ⟨Lb, LgR, LcR, Lblk, some ⟨g, 0, none⟩, LcB⟩ P s4 _ i c rfl HP.out HD.out.ok.toTabl (by rw [hm.out, hN.out]; exact hM5.below (by repeat (first | with_reducible exact Below.refl _ _ | with_reducible apply bdrew | with_reducible apply bdrewN | with_reducible apply balloc | ((with_reducible refine bset ?_ ?_ _); rotate_left; (first | omega | (simp <;> omega)))))) (Nat.le_trans hb hB45.size) (by rw [hm.out]; exact hlt) (by rw [ha.out]; omega) HXZ.out).mono ?_
                    rintro e w6 ⟨rfl, hM6, hB6⟩
                    rw [hm.out, hN.out] at hM6
                    go_wp2
                    go_roundw
                    case rel => exact ⟨i + 1, s4.piv i c, by omega, by go_num, Lib.hid (HD.out.drive (by rw [hm.out]; exact hlt) (by rw [ha.out]; exact HBA.out) (by rw [ha.out]; omega) HXZ.out), hM6.below (by repeat (first | with_reducible exact Below.refl _ _ | with_reducible apply bdrew | with_reducible apply bdrewN | with_reducible apply balloc | ((with_reducible refine bset ?_ ?_ _); rotate_left; (first | omega | (simp <;> omega))))), hB45.trans hB6⟩
                    case measure => simp [intOf]; omega
              · have HBA := Lib.hid (show s4.bs i ≠ P.n + P.m by rw [ha.out]; exact hba)
                have hne2 : ¬ ((s4.bs i : Int) = (a : Int)) := by omega
                obtain ⟨v, hv⟩ : ∃ v, Hid (s4.bs i = v) := ⟨_, Lib.hid rfl⟩
                rw [hv.out] at hg3 hne2 hba
                go_wp2
                go_roundw
                case rel => exact ⟨i + 1, s4, by omega, by go_num, Lib.hid (HD.out.skip (by rw [hm.out]; exact hlt) HBA.out), HD4.out.below (by repeat (first | with_reducible exact Below.refl _ _ | with_reducible apply bdrew | with_reducible apply bdrewN | with_reducible apply balloc | ((with_reducible refine bset ?_ ?_ _); rotate_left; (first | omega | (simp <;> omega))))), by repeat (first | with_reducible exact hB4 | with_reducible apply bdrew | with_reducible apply bdrewN | with_reducible apply balloc | ((with_reducible refine bset ?_ ?_ _); rotate_left; (first | omega | (simp <;> omega))))⟩
                case measure => simp [intOf]; omega
            · obtain rfl : m = i := by omega
              go_wp2
              go_ret
              exact ⟨s4, true, rfl, HD.out.ok, fun _ k hk => HD.out.out k (by rw [← hm.out]; exact hk), (fun h => by cases h), by rw [hm.out, hN.out]; exact HD4.out.below (by repeat (first | with_reducible exact Below.refl _ _ | with_reducible apply bdrew | with_reducible apply bdrewN | with_reducible apply balloc | ((with_reducible refine bset ?_ ?_ _); rotate_left; (first | omega | (simp <;> omega))))), by repeat (first | with_reducible exact hB4 | with_reducible apply bdrew | with_reducible apply bdrewN | with_reducible apply balloc | ((with_reducible refine bset ?_ ?_ _); rotate_left; (first | omega | (simp <;> omega))))⟩


end Go.Proofs.Ytkepfmglljkjhaa
