/-
  The product of the bounds and a dual solution is at least the value of every point.
-/
import Derived.Test.YtkepfmglljkjhaaLs1
import Derived.Test.YtkepfmglljkjhaaLx1
import Derived.Test.YtkepfmglljkjhaaOlp
import Derived.Test.YtkepfmglljkjhaaBlaw
import Derived.Test.YtkepfmglljkjhaaMA
import Derived.Test.YtkepfmglljkjhaaPfacts
namespace Go.Proofs.Ytkepfmglljkjhaa
open Go.RowKit
set_option linter.unusedVariables false
set_option linter.unusedSimpArgs false

theorem fltPD_fst {p : LpV} {x y : List Int} {d e : Int} (h : ¬ (fltP p x d).1 = 0) : ¬ (fltPD p x d y e).1 = 0 := by
  unfold fltPD; rw [if_pos h]; exact h
set_option maxRecDepth 100000 in
set_option maxHeartbeats 2000000 in
theorem walk_lwd (w : World) (AR AB AO : Option Addr) (cr cb co : Nat) (p : LpV) (hM : LpMem w AR AB AO p) (m mb n : Nat) (hrl : Hid (p.rows.length = m)) (hbl : Hid (p.bounds.length = mb)) (hol : Hid (p.obj.length = n)) (X : Option Addr) (cX lx : Nat) (x : List Int) (d : Int) (hlx : Hid (x.length = lx)) (hIx : Ints w X x) (hx63 : lx ≤ 9223372036854775807) (Y : Option Addr) (cY ly : Nat) (y : List Int) (e : Int) (hly : Hid (y.length = ly)) (hIy : Ints w Y y) (hy63 : ly ≤ 9223372036854775807) :
    Calls Try.prog 8 #[.agg #[.slice AR m cr, .slice AB mb cb, .slice AO n co], .agg #[.slice X lx cX, .int .i64 d], .agg #[.slice Y ly cY, .int .i64 e]] w fun e w' => e = .returned (.bool true) ∧ Below w.heap.size w w' := by
  obtain ⟨⟨a, a2⟩, hf⟩ : ∃ f, Hid (fltP p x d = f) := ⟨_, Lib.hid rfl⟩
  obtain ⟨⟨b, b2⟩, hg⟩ : ∃ f, Hid (fltPD p x d y e = f) := ⟨_, Lib.hid rfl⟩
  have HAB : Hid (¬ a = 0 → ¬ b = 0) := Lib.hid (fun h => by
    have h1 := fltPD_fst (p := p) (x := x) (d := d) (y := y) (e := e) (by rw [hf.out]; exact h)
    rw [hg.out] at h1; exact h1)
  have HIX := Lib.hid hIx
  have HIY := Lib.hid hIy
  have HM := Lib.hid hM
  clear hM hIx hIy
  go_enter Try.func8, Try.ntmps8
  go_wp2_with fail
  refine (lnexample_any _).mono ?_
  rintro e w1 ⟨rfl, hB1⟩
  have D1 := dstep w hB1 (by repeat (first | with_reducible exact Below.refl _ _ | with_reducible apply bdrew | with_reducible apply bdrewN | with_reducible apply balloc | ((with_reducible refine bset ?_ ?_ _); rotate_left; (first | omega | (simp <;> omega)))))
  have d1s := D1.size
  have C1 := Cls.below (l := [(w.heap.size, 0, .slice AR m cr), (w.heap.size, 1, .slice AB mb cb), (w.heap.size, 2, .slice AO n co), (w.heap.size + 1, 0, .slice X lx cX), (w.heap.size + 1, 1, .int .i64 d), (w.heap.size + 1 + 1, 0, .slice Y ly cY), (w.heap.size + 1 + 1, 1, .int .i64 e)]) hB1 (by simp [Cls, go_sem])
  have F1 := C1
  simp only [Cls, and_true] at F1
  have y1w2 : w.heap.size + 1 + 1 < w1.heap.size := C1.blk (b := w.heap.size + 1 + 1) (k := 0) (v := .slice Y ly cY) (by simp)
  have y1w1 : w.heap.size + 1 < w1.heap.size := (by omega)
  have y1w0 : w.heap.size < w1.heap.size := (by omega)
  have y1wp1 : w.heap.size < w1.heap.size + 1 := (by omega)
  have y1wp2 : w.heap.size < w1.heap.size + 1 + 1 := (by omega)
  go_wp2_with fail
  refine (feasible_any _ AR AB AO cr cb co p (HM.out.below (by repeat (first | with_reducible exact D1 | with_reducible apply bdrew | with_reducible apply bdrewN | with_reducible apply balloc | ((with_reducible refine bset ?_ ?_ _); rotate_left; (first | omega | (simp <;> omega)))))) m mb n hrl hbl hol X cX lx x d hlx (HIX.out.below (by repeat (first | with_reducible exact D1 | with_reducible apply bdrew | with_reducible apply bdrewN | with_reducible apply balloc | ((with_reducible refine bset ?_ ?_ _); rotate_left; (first | omega | (simp <;> omega)))))) hx63 a a2 hf).mono ?_
  rintro e w2 ⟨ok, rfl, HO, hB2⟩
  have D2 := dstep w hB2 (by repeat (first | with_reducible exact D1 | with_reducible apply bdrew | with_reducible apply bdrewN | with_reducible apply balloc | ((with_reducible refine bset ?_ ?_ _); rotate_left; (first | omega | (simp <;> omega)))))
  have d2s := D2.size
  have C2 := Cls.below (l := [(w.heap.size, 0, .slice AR m cr), (w.heap.size, 1, .slice AB mb cb), (w.heap.size, 2, .slice AO n co), (w.heap.size + 1, 0, .slice X lx cX), (w.heap.size + 1, 1, .int .i64 d), (w.heap.size + 1 + 1, 0, .slice Y ly cY), (w.heap.size + 1 + 1, 1, .int .i64 e)]) hB2 (by simp [Cls, go_sem, F1, y1w2, y1w1, y1w0, y1wp1, y1wp2])
  have F2 := C2
  simp only [Cls, and_true] at F2
  have y2w2 : w.heap.size + 1 + 1 < w2.heap.size := C2.blk (b := w.heap.size + 1 + 1) (k := 0) (v := .slice Y ly cY) (by simp)
  have y2w1 : w.heap.size + 1 < w2.heap.size := (by omega)
  have y2w0 : w.heap.size < w2.heap.size := (by omega)
  have y2wp1 : w.heap.size < w2.heap.size + 1 := (by omega)
  have y2wp2 : w.heap.size < w2.heap.size + 1 + 1 := (by omega)
  go_wp2_with fail
  refine (certified_any _ AR AB AO cr cb co p (HM.out.below (by repeat (first | with_reducible exact D2 | with_reducible apply bdrew | with_reducible apply bdrewN | with_reducible apply balloc | ((with_reducible refine bset ?_ ?_ _); rotate_left; (first | omega | (simp <;> omega)))))) m mb n hrl hbl hol X cX lx x d hlx (HIX.out.below (by repeat (first | with_reducible exact D2 | with_reducible apply bdrew | with_reducible apply bdrewN | with_reducible apply balloc | ((with_reducible refine bset ?_ ?_ _); rotate_left; (first | omega | (simp <;> omega)))))) hx63 Y cY ly y e hly (HIY.out.below (by repeat (first | with_reducible exact D2 | with_reducible apply bdrew | with_reducible apply bdrewN | with_reducible apply balloc | ((with_reducible refine bset ?_ ?_ _); rotate_left; (first | omega | (simp <;> omega)))))) hy63 b b2 hg).mono ?_
  rintro e w3 ⟨same, rfl, HS, hB3⟩
  have D3 := dstep w hB3 (by repeat (first | with_reducible exact D2 | with_reducible apply bdrew | with_reducible apply bdrewN | with_reducible apply balloc | ((with_reducible refine bset ?_ ?_ _); rotate_left; (first | omega | (simp <;> omega)))))
  have d3s := D3.size
  have C3 := Cls.below (l := [(w.heap.size, 0, .slice AR m cr), (w.heap.size, 1, .slice AB mb cb), (w.heap.size, 2, .slice AO n co), (w.heap.size + 1, 0, .slice X lx cX), (w.heap.size + 1, 1, .int .i64 d), (w.heap.size + 1 + 1, 0, .slice Y ly cY), (w.heap.size + 1 + 1, 1, .int .i64 e), (w2.heap.size, 0, .int .i64 a), (w2.heap.size, 1, .int .i64 a2)]) hB3 (by simp [Cls, go_sem, F2, y2w2, y2w1, y2w0, y2wp1, y2wp2])
  have F3 := C3
  simp only [Cls, and_true] at F3
  have y3w2 : w.heap.size + 1 + 1 < w3.heap.size := C3.blk (b := w.heap.size + 1 + 1) (k := 0) (v := .slice Y ly cY) (by simp)
  have y3w1 : w.heap.size + 1 < w3.heap.size := (by omega)
  have y3w0 : w.heap.size < w3.heap.size := (by omega)
  have y3wp1 : w.heap.size < w3.heap.size + 1 := (by omega)
  have y3wp2 : w.heap.size < w3.heap.size + 1 + 1 := (by omega)
  have y3w20 : w2.heap.size < w3.heap.size := C3.blk (b := w2.heap.size) (k := 0) (v := .int .i64 a) (by simp)
  have y3w2p1 : w2.heap.size < w3.heap.size + 1 := (by omega)
  have y3w2p2 : w2.heap.size < w3.heap.size + 1 + 1 := (by omega)
  by_cases ha : a = 0
  · subst ha
    by_cases hb : b = 0
    · subst hb
      have HO2 := Lib.hid (HO.out.2 rfl)
      have HS2 := Lib.hid (HS.out.2 rfl)
      clear HO HS HAB
      cases ok with
      | false =>
        obtain rfl : same = false := by
          cases same with
          | false => rfl
          | true => exact absurd (HO2.out.2 (HS2.out.1 rfl).1) (by simp)
        clear HO2 HS2
        go_wp2
        refine bodyPost_ret (v := .bool true) ?_ rfl ⟨rfl, by repeat (first | with_reducible exact D3 | with_reducible apply bdrew | with_reducible apply bdrewN | with_reducible apply balloc | ((with_reducible refine bset ?_ ?_ _); rotate_left; (first | omega | (simp <;> omega))))⟩
        simp [results, Try.results8, go_sem, F3, y3w2, y3w1, y3w0, y3wp1, y3wp2, y3w20, y3w2p1, y3w2p2]
      | true =>
        have HPT := Lib.hid (HO2.out.1 rfl)
        clear HO2
        have HZ := Lib.hid (fltPD_zero (by rw [hg.out]))
        have HOK := Lib.hid HZ.out.1
        have HVX := Lib.hid HZ.out.2.1
        have HVY := Lib.hid HZ.out.2.2
        have hmb : mb = m := by rw [← hbl.out, ← hrl.out]; exact HOK.out.b
        subst hmb
        have hlnx : lx = n := by rw [← hlx.out, HVX.out.len]; exact hol.out
        subst hlnx
        have hlny : ly = mb := by rw [← hly.out, HVY.out.len]; exact hrl.out
        subst hlny
        have hm6 : ly ≤ 6 := by have := HOK.out.m; rw [hrl.out] at this; exact this
        have hn6 : lx ≤ 6 := by have := HOK.out.n; rw [hol.out] at this; exact this
        have HVX2 : Hid (VOk lx x d) := Lib.hid (by rw [← hol.out]; exact HVX.out)
        have HVY2 : Hid (VOk ly y e) := Lib.hid (by rw [← hrl.out]; exact HVY.out)
        have he0 := HVY.out.pos
        have he1 := HVY.out.dle
        have hd0 := HVX.out.pos
        have hd1 := HVX.out.dle
        go_wp2_with fail
        refine (sdual_any _ AR AB AO cr cb co p (HM.out.below (by repeat (first | with_reducible exact D3 | with_reducible apply bdrew | with_reducible apply bdrewN | with_reducible apply balloc | ((with_reducible refine bset ?_ ?_ _); rotate_left; (first | omega | (simp <;> omega)))))) HOK.out ly lx hrl hbl hol hm6 hn6 Y cY y e HVY2.out (HIY.out.below (by repeat (first | with_reducible exact D3 | with_reducible apply bdrew | with_reducible apply bdrewN | with_reducible apply balloc | ((with_reducible refine bset ?_ ?_ _); rotate_left; (first | omega | (simp <;> omega))))))).mono ?_
        rintro e w4 ⟨du, rfl, HD, hB4⟩
        have D4 := dstep w hB4 (by repeat (first | with_reducible exact D3 | with_reducible apply bdrew | with_reducible apply bdrewN | with_reducible apply balloc | ((with_reducible refine bset ?_ ?_ _); rotate_left; (first | omega | (simp <;> omega)))))
        have d4s := D4.size
        have C4 := Cls.below (l := [(w.heap.size, 0, .slice AR ly cr), (w.heap.size, 1, .slice AB ly cb), (w.heap.size, 2, .slice AO lx co), (w.heap.size + 1, 0, .slice X lx cX), (w.heap.size + 1, 1, .int .i64 d), (w.heap.size + 1 + 1, 0, .slice Y ly cY), (w.heap.size + 1 + 1, 1, .int .i64 e), (w2.heap.size, 0, .int .i64 0), (w2.heap.size, 1, .int .i64 a2), (w3.heap.size, 0, .int .i64 0), (w3.heap.size, 1, .int .i64 b2)]) hB4 (by simp [Cls, go_sem, F3, y3w2, y3w1, y3w0, y3wp1, y3wp2, y3w20, y3w2p1, y3w2p2])
        have F4 := C4
        simp only [Cls, and_true] at F4
        have y4w2 : w.heap.size + 1 + 1 < w4.heap.size := C4.blk (b := w.heap.size + 1 + 1) (k := 0) (v := .slice Y ly cY) (by simp)
        have y4w1 : w.heap.size + 1 < w4.heap.size := (by omega)
        have y4w0 : w.heap.size < w4.heap.size := (by omega)
        have y4wp1 : w.heap.size < w4.heap.size + 1 := (by omega)
        have y4wp2 : w.heap.size < w4.heap.size + 1 + 1 := (by omega)
        have y4w20 : w2.heap.size < w4.heap.size := C4.blk (b := w2.heap.size) (k := 0) (v := .int .i64 0) (by simp)
        have y4w2p1 : w2.heap.size < w4.heap.size + 1 := (by omega)
        have y4w2p2 : w2.heap.size < w4.heap.size + 1 + 1 := (by omega)
        have y4w30 : w3.heap.size < w4.heap.size := C4.blk (b := w3.heap.size) (k := 0) (v := .int .i64 0) (by simp)
        have y4w3p1 : w3.heap.size < w4.heap.size + 1 := (by omega)
        have y4w3p2 : w3.heap.size < w4.heap.size + 1 + 1 := (by omega)
        cases du with
        | false =>
          obtain rfl : same = false := by
            cases same with
            | false => rfl
            | true => exact absurd (HD.out.2 (HS2.out.1 rfl).2.1) (by simp)
          clear HD HS2
          go_wp2
          refine bodyPost_ret (v := .bool true) ?_ rfl ⟨rfl, by repeat (first | with_reducible exact D4 | with_reducible apply bdrew | with_reducible apply bdrewN | with_reducible apply balloc | ((with_reducible refine bset ?_ ?_ _); rotate_left; (first | omega | (simp <;> omega))))⟩
          simp [results, Try.results8, go_sem, F4, y4w2, y4w1, y4w0, y4wp1, y4wp2, y4w20, y4w2p1, y4w2p2, y4w30, y4w3p1, y4w3p2]
        | true =>
          have HDU := Lib.hid (HD.out.1 rfl)
          clear HD
          obtain ⟨s1, hs1⟩ : ∃ s, Hid (dotL lx p.obj x = s) := ⟨_, Lib.hid rfl⟩
          obtain ⟨s2, hs2⟩ : ∃ s, Hid (dotL ly p.bounds y = s) := ⟨_, Lib.hid rfl⟩
          have HP1 : Hid (∀ W : World, Below w.heap.size w W → Calls Try.prog 28 #[.slice AO lx co, .slice X lx cX] W fun e w' => e = .returned (.int .i64 s1) ∧ Below W.heap.size W w') := Lib.hid (fun W hB => by
            have h := sprod_any W AO X co cX p.obj x lx hol hlx hn6 (HM.out.obj.below hB) (HIX.out.below hB) HOK.out.c100 HVX.out.le
            rw [hs1.out] at h; exact h)
          have HP2 : Hid (∀ W : World, Below w.heap.size w W → Calls Try.prog 28 #[.slice AB ly cb, .slice Y ly cY] W fun e w' => e = .returned (.int .i64 s2) ∧ Below W.heap.size W w') := Lib.hid (fun W hB => by
            have h := sprod_any W AB Y cb cY p.bounds y ly hbl hly hm6 (HM.out.bounds.below hB) (HIY.out.below hB) HOK.out.b100 HVY.out.le
            rw [hs2.out] at h; exact h)
          have hl1 := dotL_le HOK.out.c100 HVX.out.le lx
          have hl2 := dotL_le HOK.out.b100 HVY.out.le ly
          rw [hs1.out] at hl1
          rw [hs2.out] at hl2
          have hm1 := mul_le (X := 60000000000) (Y := 100000000) (show -60000000000 ≤ s1 ∧ s1 ≤ 60000000000 by omega) (show -100000000 ≤ e ∧ e ≤ 100000000 by omega)
          have hm2 := mul_le (X := 60000000000) (Y := 100000000) (show -60000000000 ≤ s2 ∧ s2 ≤ 60000000000 by omega) (show -100000000 ≤ d ∧ d ≤ 100000000 by omega)
          have hwk := LA.weak HPT.out HDU.out
          rw [obj_dot hol.out, bnd_dot hrl.out, hs1.out, hs2.out] at hwk
          obtain ⟨u1, hu1⟩ : ∃ u, Hid (s1 * e = u) := ⟨_, Lib.hid rfl⟩
          obtain ⟨u2, hu2⟩ : ∃ u, Hid (s2 * d = u) := ⟨_, Lib.hid rfl⟩
          have hwu1 : IntKind.i64.wrap (s1 * e) = u1 := by rw [hu1.out] at hm1 ⊢; exact Go.IntWalk.i64_in _ (by omega)
          have hwu2 : IntKind.i64.wrap (s2 * d) = u2 := by rw [hu2.out] at hm2 ⊢; exact Go.IntWalk.i64_in _ (by omega)
          rw [hu1.out, hu2.out] at hwk
          have hle : decide (u1 ≤ u2) = true := decide_eq_true hwk
          have hsame : same = (u1 == u2) := by
            rw [Bool.eq_iff_iff, HS2.out, beq_iff_eq]
            unfold CertP
            rw [obj_dot hol.out, bnd_dot hrl.out, hs1.out, hs2.out, hu1.out, hu2.out]
            exact ⟨fun h => h.2.2, fun h => ⟨HPT.out, HDU.out, h⟩⟩
          clear hl1 hl2 hm1 hm2 HS2 hwk
          obtain ⟨eqb, heq⟩ : ∃ eqb : Bool, (u1 == u2) = eqb := ⟨_, rfl⟩
          rw [heq] at hsame
          subst hsame
          go_wp2_with fail
          refine wp_region_held_drew (S := fun W => W.cell? ⟨w.heap.size, 1, none⟩ = some (.slice AB ly cb) ∧ W.cell? ⟨w.heap.size, 2, none⟩ = some (.slice AO lx co) ∧ W.cell? ⟨w.heap.size + 1, 0, none⟩ = some (.slice X lx cX) ∧ W.cell? ⟨w.heap.size + 1, 1, none⟩ = some (.int .i64 d) ∧ W.cell? ⟨w.heap.size + 1 + 1, 0, none⟩ = some (.slice Y ly cY) ∧ W.cell? ⟨w.heap.size + 1 + 1, 1, none⟩ = some (.int .i64 e)) (by kernel_rfl) (by simp [go_sem, F4, y4w2, y4w1, y4w0, y4wp1, y4wp2, y4w20, y4w2p1, y4w2p2, y4w30, y4w3p1, y4w3p2]) (fun hHeld => ?_)
          refine wpAnyH_take (i := 0) (v := ?vo10) rfl (by kernel_rfl) (by kernel_rfl) (by kernel_rfl) (fun _ _ _ h => h) (Or.inl ⟨by rfl, ?ho10⟩) (by assumption) ?ro10
          case ho10 => (intro w hSw; (try dsimp only at hSw); go_simp; (try with_reducible rfl))
          try simp only [Act.put, List.getElem_toArray, List.getElem_cons_succ, List.getElem_cons_zero, List.setIfInBounds_toArray, List.set_cons_zero, List.set_cons_succ]
          refine wpAnyH_take (i := 1) (v := ?vo11) rfl (by kernel_rfl) (by kernel_rfl) (by kernel_rfl) (fun _ _ _ h => h) (Or.inl ⟨by rfl, ?ho11⟩) (by assumption) ?ro11
          case ho11 => (intro w hSw; (try dsimp only at hSw); go_simp; (try with_reducible rfl))
          try simp only [Act.put, List.getElem_toArray, List.getElem_cons_succ, List.getElem_cons_zero, List.setIfInBounds_toArray, List.set_cons_zero, List.set_cons_succ]
          refine wpAnyH_take (i := 2) (v := ?vo12) rfl (by kernel_rfl) (by kernel_rfl) (by kernel_rfl) (fun _ _ _ h => h) (Or.inl ⟨by rfl, ?ho12⟩) (by assumption) ?ro12
          case ho12 => (intro w hSw; (try dsimp only at hSw); go_simp; (try with_reducible rfl))
          try simp only [Act.put, List.getElem_toArray, List.getElem_cons_succ, List.getElem_cons_zero, List.setIfInBounds_toArray, List.set_cons_zero, List.set_cons_succ]
          refine wpAnyH_take (i := 3) (v := ?vo13) rfl (by kernel_rfl) (by kernel_rfl) (by kernel_rfl) (fun _ _ _ h => h) (Or.inl ⟨by rfl, ?ho13⟩) (by assumption) ?ro13
          case ho13 => (intro w hSw; (try dsimp only at hSw); go_simp; (try with_reducible rfl))
          try simp only [Act.put, List.getElem_toArray, List.getElem_cons_succ, List.getElem_cons_zero, List.setIfInBounds_toArray, List.set_cons_zero, List.set_cons_succ]
          refine wpAnyH_take (i := 5) (v := ?vo15) rfl (by kernel_rfl) (by kernel_rfl) (by kernel_rfl) (fun _ _ _ h => h) (Or.inl ⟨by rfl, ?ho15⟩) (by assumption) ?ro15
          case ho15 => (intro w hSw; (try dsimp only at hSw); go_simp; (try with_reducible rfl))
          try simp only [Act.put, List.getElem_toArray, List.getElem_cons_succ, List.getElem_cons_zero, List.setIfInBounds_toArray, List.set_cons_zero, List.set_cons_succ]
          refine wpAnyH_take (i := 6) (v := ?vo16) rfl (by kernel_rfl) (by kernel_rfl) (by kernel_rfl) (fun _ _ _ h => h) (Or.inl ⟨by rfl, ?ho16⟩) (by assumption) ?ro16
          case ho16 => (intro w hSw; (try dsimp only at hSw); go_simp; (try with_reducible rfl))
          try simp only [Act.put, List.getElem_toArray, List.getElem_cons_succ, List.getElem_cons_zero, List.setIfInBounds_toArray, List.set_cons_zero, List.set_cons_succ]
          refine wpAnyH_take (i := 8) (v := ?vo18) rfl (by kernel_rfl) (by kernel_rfl) (by kernel_rfl) (fun _ _ _ h => h) (Or.inl ⟨by rfl, ?ho18⟩) (by assumption) ?ro18
          case ho18 => (intro w hSw; (try dsimp only at hSw); go_simp; (try with_reducible rfl))
          try simp only [Act.put, List.getElem_toArray, List.getElem_cons_succ, List.getElem_cons_zero, List.setIfInBounds_toArray, List.set_cons_zero, List.set_cons_succ]
          refine wpAnyH_take (i := 9) (v := ?vo19) rfl (by kernel_rfl) (by kernel_rfl) (by kernel_rfl) (fun _ _ _ h => h) (Or.inl ⟨by rfl, ?ho19⟩) (by assumption) ?ro19
          case ho19 => (intro w hSw; (try dsimp only at hSw); go_simp; (try with_reducible rfl))
          try simp only [Act.put, List.getElem_toArray, List.getElem_cons_succ, List.getElem_cons_zero, List.setIfInBounds_toArray, List.set_cons_zero, List.set_cons_succ]
          refine wpAnyH_take (i := 10) (v := ?vo110) rfl (by kernel_rfl) (by kernel_rfl) (by kernel_rfl) (fun _ _ _ h => h) (Or.inl ⟨by rfl, ?ho110⟩) (by assumption) ?ro110
          case ho110 => (intro w hSw; (try dsimp only at hSw); go_simp; (try with_reducible rfl))
          try simp only [Act.put, List.getElem_toArray, List.getElem_cons_succ, List.getElem_cons_zero, List.setIfInBounds_toArray, List.set_cons_zero, List.set_cons_succ]
          refine wpAnyH_take (i := 11) (v := ?vo111) rfl (by kernel_rfl) (by kernel_rfl) (by kernel_rfl) (fun _ _ _ h => h) (Or.inl ⟨by rfl, ?ho111⟩) (by assumption) ?ro111
          case ho111 => (intro w hSw; (try dsimp only at hSw); go_simp; (try with_reducible rfl))
          try simp only [Act.put, List.getElem_toArray, List.getElem_cons_succ, List.getElem_cons_zero, List.setIfInBounds_toArray, List.set_cons_zero, List.set_cons_succ]
          refine wpAnyH_take (i := 13) (v := ?vo113) rfl (by kernel_rfl) (by kernel_rfl) (by kernel_rfl) (fun _ _ _ h => h) (Or.inl ⟨by rfl, ?ho113⟩) (by assumption) ?ro113
          case ho113 => (intro w hSw; (try dsimp only at hSw); go_simp; (try with_reducible rfl))
          try simp only [Act.put, List.getElem_toArray, List.getElem_cons_succ, List.getElem_cons_zero, List.setIfInBounds_toArray, List.set_cons_zero, List.set_cons_succ]
          refine wpAnyH_take (i := 14) (v := ?vo114) rfl (by kernel_rfl) (by kernel_rfl) (by kernel_rfl) (fun _ _ _ h => h) (Or.inl ⟨by rfl, ?ho114⟩) (by assumption) ?ro114
          case ho114 => (intro w hSw; (try dsimp only at hSw); go_simp; (try with_reducible rfl))
          try simp only [Act.put, List.getElem_toArray, List.getElem_cons_succ, List.getElem_cons_zero, List.setIfInBounds_toArray, List.set_cons_zero, List.set_cons_succ]
          refine wpAnyH_ready (rs := [4]) (by kernel_rfl) (by simp) ?_
          refine (AllReadyH.cons rfl (fun K hK => ?bo11x4) AllReadyH.nil)
          case bo11x4 =>
            go_simp
            go_at_call 28
            refine (HP1.out _ (by repeat (first | with_reducible exact D4 | with_reducible apply bdrew | with_reducible apply bdrewN | with_reducible apply balloc | ((with_reducible refine bset ?_ ?_ _); rotate_left; (first | omega | (simp <;> omega)))))).mono ?_
            rintro e w5 ⟨rfl, hB5⟩
            have D5 := dstep w hB5 (by repeat (first | with_reducible exact D4 | with_reducible apply bdrew | with_reducible apply bdrewN | with_reducible apply balloc | ((with_reducible refine bset ?_ ?_ _); rotate_left; (first | omega | (simp <;> omega)))))
            have C5 := Cls.below (l := [(w.heap.size, 0, .slice AR ly cr), (w.heap.size, 1, .slice AB ly cb), (w.heap.size, 2, .slice AO lx co), (w.heap.size + 1, 0, .slice X lx cX), (w.heap.size + 1, 1, .int .i64 d), (w.heap.size + 1 + 1, 0, .slice Y ly cY), (w.heap.size + 1 + 1, 1, .int .i64 e), (w2.heap.size, 0, .int .i64 0), (w2.heap.size, 1, .int .i64 a2), (w3.heap.size, 0, .int .i64 0), (w3.heap.size, 1, .int .i64 b2)]) hB5 (by simp [Cls, go_sem, F4, y4w2, y4w1, y4w0, y4wp1, y4wp2, y4w20, y4w2p1, y4w2p2, y4w30, y4w3p1, y4w3p2])
            have F5 := C5
            simp only [Cls, and_true] at F5
            have y5w2 : w.heap.size + 1 + 1 < w5.heap.size := C5.blk (b := w.heap.size + 1 + 1) (k := 0) (v := .slice Y ly cY) (by simp)
            have y5w1 : w.heap.size + 1 < w5.heap.size := (by omega)
            have y5w0 : w.heap.size < w5.heap.size := (by omega)
            have y5wp1 : w.heap.size < w5.heap.size + 1 := (by omega)
            have y5wp2 : w.heap.size < w5.heap.size + 1 + 1 := (by omega)
            have y5w20 : w2.heap.size < w5.heap.size := C5.blk (b := w2.heap.size) (k := 0) (v := .int .i64 0) (by simp)
            have y5w2p1 : w2.heap.size < w5.heap.size + 1 := (by omega)
            have y5w2p2 : w2.heap.size < w5.heap.size + 1 + 1 := (by omega)
            have y5w30 : w3.heap.size < w5.heap.size := C5.blk (b := w3.heap.size) (k := 0) (v := .int .i64 0) (by simp)
            have y5w3p1 : w3.heap.size < w5.heap.size + 1 := (by omega)
            have y5w3p2 : w3.heap.size < w5.heap.size + 1 + 1 := (by omega)
            have hSS : w5.cell? ⟨w.heap.size, 1, none⟩ = some (.slice AB ly cb) ∧ w5.cell? ⟨w.heap.size, 2, none⟩ = some (.slice AO lx co) ∧ w5.cell? ⟨w.heap.size + 1, 0, none⟩ = some (.slice X lx cX) ∧ w5.cell? ⟨w.heap.size + 1, 1, none⟩ = some (.int .i64 d) ∧ w5.cell? ⟨w.heap.size + 1 + 1, 0, none⟩ = some (.slice Y ly cY) ∧ w5.cell? ⟨w.heap.size + 1 + 1, 1, none⟩ = some (.int .i64 e) := (by simp [F5])
            go_wp2_with fail
            refine hK.out _ _ hSS (fun hHeld => ?_)
            clear hK K
            try simp only [Act.put, List.getElem_toArray, List.getElem_cons_succ, List.getElem_cons_zero, List.setIfInBounds_toArray, List.set_cons_zero, List.set_cons_succ]
            refine wpAnyH_take (i := 7) (v := ?vo1e27) rfl (by kernel_rfl) (by kernel_rfl) (by kernel_rfl) (fun _ _ _ h => h) (Or.inl ⟨by rfl, ?ho1e27⟩) (by assumption) ?ro1e27
            case ho1e27 => (intro w hSw; (try dsimp only at hSw); go_simp; (try with_reducible rfl))
            try simp only [Act.put, List.getElem_toArray, List.getElem_cons_succ, List.getElem_cons_zero, List.setIfInBounds_toArray, List.set_cons_zero, List.set_cons_succ]
            refine wpAnyH_ready (rs := [12]) (by kernel_rfl) (by simp) ?_
            refine (AllReadyH.cons rfl (fun K hK => ?bo13x12) AllReadyH.nil)
            case bo13x12 =>
              go_simp
              go_at_call 28
              refine (HP2.out _ (by repeat (first | with_reducible exact D5 | with_reducible apply bdrew | with_reducible apply bdrewN | with_reducible apply balloc | ((with_reducible refine bset ?_ ?_ _); rotate_left; (first | omega | (simp <;> omega)))))).mono ?_
              rintro e w6 ⟨rfl, hB6⟩
              have D6 := dstep w hB6 (by repeat (first | with_reducible exact D5 | with_reducible apply bdrew | with_reducible apply bdrewN | with_reducible apply balloc | ((with_reducible refine bset ?_ ?_ _); rotate_left; (first | omega | (simp <;> omega)))))
              have C6 := Cls.below (l := [(w.heap.size, 0, .slice AR ly cr), (w.heap.size, 1, .slice AB ly cb), (w.heap.size, 2, .slice AO lx co), (w.heap.size + 1, 0, .slice X lx cX), (w.heap.size + 1, 1, .int .i64 d), (w.heap.size + 1 + 1, 0, .slice Y ly cY), (w.heap.size + 1 + 1, 1, .int .i64 e), (w2.heap.size, 0, .int .i64 0), (w2.heap.size, 1, .int .i64 a2), (w3.heap.size, 0, .int .i64 0), (w3.heap.size, 1, .int .i64 b2)]) hB6 (by simp [Cls, go_sem, F5, y5w2, y5w1, y5w0, y5wp1, y5wp2, y5w20, y5w2p1, y5w2p2, y5w30, y5w3p1, y5w3p2])
              have F6 := C6
              simp only [Cls, and_true] at F6
              have y6w2 : w.heap.size + 1 + 1 < w6.heap.size := C6.blk (b := w.heap.size + 1 + 1) (k := 0) (v := .slice Y ly cY) (by simp)
              have y6w1 : w.heap.size + 1 < w6.heap.size := (by omega)
              have y6w0 : w.heap.size < w6.heap.size := (by omega)
              have y6wp1 : w.heap.size < w6.heap.size + 1 := (by omega)
              have y6wp2 : w.heap.size < w6.heap.size + 1 + 1 := (by omega)
              have y6w20 : w2.heap.size < w6.heap.size := C6.blk (b := w2.heap.size) (k := 0) (v := .int .i64 0) (by simp)
              have y6w2p1 : w2.heap.size < w6.heap.size + 1 := (by omega)
              have y6w2p2 : w2.heap.size < w6.heap.size + 1 + 1 := (by omega)
              have y6w30 : w3.heap.size < w6.heap.size := C6.blk (b := w3.heap.size) (k := 0) (v := .int .i64 0) (by simp)
              have y6w3p1 : w3.heap.size < w6.heap.size + 1 := (by omega)
              have y6w3p2 : w3.heap.size < w6.heap.size + 1 + 1 := (by omega)
              have hSS : w6.cell? ⟨w.heap.size, 1, none⟩ = some (.slice AB ly cb) ∧ w6.cell? ⟨w.heap.size, 2, none⟩ = some (.slice AO lx co) ∧ w6.cell? ⟨w.heap.size + 1, 0, none⟩ = some (.slice X lx cX) ∧ w6.cell? ⟨w.heap.size + 1, 1, none⟩ = some (.int .i64 d) ∧ w6.cell? ⟨w.heap.size + 1 + 1, 0, none⟩ = some (.slice Y ly cY) ∧ w6.cell? ⟨w.heap.size + 1 + 1, 1, none⟩ = some (.int .i64 e) := (by simp [F6])
              go_wp2_with fail
              refine hK.out _ _ hSS (fun hHeld => ?_)
              clear hK K
              try simp only [Act.put, List.getElem_toArray, List.getElem_cons_succ, List.getElem_cons_zero, List.setIfInBounds_toArray, List.set_cons_zero, List.set_cons_succ]
              refine wpAnyH_take (i := 15) (v := ?vo1e415) rfl (by kernel_rfl) (by kernel_rfl) (by kernel_rfl) (fun _ _ _ h => h) (Or.inl ⟨by rfl, ?ho1e415⟩) (by assumption) ?ro1e415
              case ho1e415 => (intro w hSw; (try dsimp only at hSw); go_simp; (try with_reducible rfl))
              try simp only [Act.put, List.getElem_toArray, List.getElem_cons_succ, List.getElem_cons_zero, List.setIfInBounds_toArray, List.set_cons_zero, List.set_cons_succ]
              refine wpAnyH_take (i := 16) (v := ?vo1l516) rfl (by kernel_rfl) (by kernel_rfl) (by kernel_rfl) (fun _ _ _ h => h) (Or.inl ⟨by rfl, ?ho1l516⟩) (by assumption) ?ro1l516
              case ho1l516 => (intro w hSw; (try dsimp only at hSw); go_simp; (try with_reducible rfl))
              try simp only [Act.put, List.getElem_toArray, List.getElem_cons_succ, List.getElem_cons_zero, List.setIfInBounds_toArray, List.set_cons_zero, List.set_cons_succ]
              refine wpAnyH_take (i := 17) (v := ?vo1l617) rfl (by kernel_rfl) (by kernel_rfl) (by kernel_rfl) (fun _ _ _ h => h) (Or.inl ⟨by rfl, ?ho1l617⟩) (by assumption) ?ro1l617
              case ho1l617 => (intro w hSw; (try dsimp only at hSw); go_simp; (try with_reducible rfl))
              try simp only [Act.put, List.getElem_toArray, List.getElem_cons_succ, List.getElem_cons_zero, List.setIfInBounds_toArray, List.set_cons_zero, List.set_cons_succ]
              refine wpAnyH_done (by kernel_rfl) ?_ _
              go_wp2
              refine bodyPost_ret (v := .bool true) ?_ rfl ⟨rfl, by repeat (first | with_reducible exact D6 | with_reducible apply bdrew | with_reducible apply bdrewN | with_reducible apply balloc | ((with_reducible refine bset ?_ ?_ _); rotate_left; (first | omega | (simp <;> omega))))⟩
              simp [results, Try.results8, go_sem, F6, y6w2, y6w1, y6w0, y6wp1, y6wp2, y6w20, y6w2p1, y6w2p2, y6w30, y6w3p1, y6w3p2]
    · obtain rfl : same = false := HS.out.1 hb
      have hb1 : (b == 0) = false := by simpa using hb
      have hb2 : (b != 0) = true := by simpa using hb
      clear HS HO
      go_wp2
      refine bodyPost_ret (v := .bool true) ?_ rfl ⟨rfl, by repeat (first | with_reducible exact D3 | with_reducible apply bdrew | with_reducible apply bdrewN | with_reducible apply balloc | ((with_reducible refine bset ?_ ?_ _); rotate_left; (first | omega | (simp <;> omega))))⟩
      simp [results, Try.results8, go_sem, F3, y3w2, y3w1, y3w0, y3wp1, y3wp2, y3w20, y3w2p1, y3w2p2]
  · have hb := HAB.out ha
    obtain rfl : same = false := HS.out.1 hb
    have ha1 : (a == 0) = false := by simpa using ha
    have ha2 : (a != 0) = true := by simpa using ha
    have hb1 : (b == 0) = false := by simpa using hb
    have hb2 : (b != 0) = true := by simpa using hb
    clear HS HO
    go_wp2
    refine bodyPost_ret (v := .bool true) ?_ rfl ⟨rfl, by repeat (first | with_reducible exact D3 | with_reducible apply bdrew | with_reducible apply bdrewN | with_reducible apply balloc | ((with_reducible refine bset ?_ ?_ _); rotate_left; (first | omega | (simp <;> omega))))⟩
    simp [results, Try.results8, go_sem, F3, y3w2, y3w1, y3w0, y3wp1, y3wp2, y3w20, y3w2p1, y3w2p2]


namespace linearWeakDuality
open Go.ChangeShapes Go.WideShapes Go.ChangeAt Go.RowKit

set_option maxRecDepth 100000 in
theorem lifted (os : Os) (started : os.Started) (H : Type) (enc : TypeId × Value → H) :
    ReturnsInHanded {} Try.checked os 8 .any (Rows.linearWeakDualitySpec.pre6 enc Try.prog Try.f8 Rows.linearWeakDualityRow.domain false) (Rows.linearWeakDualitySpec.post enc Try.prog Try.f8 false true false false) := by
  refine returnsInHanded_of_change (C := Try.checked) own_knob started (by kernel_rfl) Try.func8
    (ChangeSpec.witness6 (enc := enc) (C := Try.checked) false ⟨#[], #[.agg #[.slice none 0 0, .slice none 0 0, .slice none 0 0], .agg #[.slice none 0 0, .int .i64 0], .agg #[.slice none 0 0, .int .i64 0]], []⟩ 8 (by kernel_rfl) (by kernel_rfl) (by kernel_rfl) (by kernel_rfl)) ?_
  intro W base args ds gs before hval0 hW _ hsz
  have hval : ∀ (j : Nat) t v, Try.f8.params[j]? = some t → args[j]? = some v → Value.okWide Try.prog W .any base t v := hval0
  have hpost := fun (W' : World) (hfn : gs = [] → Rows.linearWeakDualitySpec.fn H (ds ++ gs) = { results := [.lit (.bool true)], args := ds }) (hb : Below W.heap.size W W') => law_post (f := Try.f8) (tb := 4) laid_out_B Try.underlying4 rfl (by kernel_rfl) rfl hfn hW hb
  obtain ⟨p, q, hA0, hV, hpq, hfz, hnd⟩ := hW
  have hA : DataW.TrodAll enc Try.prog W 0 (fun _ => true) true Try.f8.params.toList args.toList ds p := hA0
  rw [Try.params8] at hA hval
  obtain ⟨v0, vs0, d0, ds0, p0, q0, hargs, rfl, hp0, h0, r0⟩ := trodAll_cons hA
  obtain ⟨v1, vs1, d1, ds1, p1, q1, rfl, rfl, hp1, h1, r1⟩ := trodAll_cons r0
  obtain ⟨v2, vs2, d2, ds2, p2, q2, rfl, rfl, hp2, h2, r2⟩ := trodAll_cons r1
  obtain ⟨rfl, rfl, hpn⟩ := trodAll_nil r2
  obtain rfl : args = #[v0, v1, v2] := by cases args; simp_all
  obtain ⟨p, AR, AB, AO, cr, cb, co, rfl, hM, hNR, hNB, hNO⟩ := open_lpW (hval 0 25 v0 rfl rfl) h0
  obtain ⟨X, cX, x, d, rfl, hIx, hx63, hxi⟩ := open_vecW (hval 1 30 v1 rfl rfl) h1
  obtain ⟨Xz, cXz, xz, dz, rfl, hIxz, hx63z, hxiz⟩ := open_vecW (hval 2 30 v2 rfl rfl) h2
  refine (walk_lwd W AR AB AO cr cb co p hM p.rows.length p.bounds.length p.obj.length (Lib.hid rfl) (Lib.hid rfl) (Lib.hid rfl) X cX x.length x d (Lib.hid rfl) hIx hx63 Xz cXz xz.length xz dz (Lib.hid rfl) hIxz hx63z).mono fun e W' ⟨he, hb⟩ => ?_
  subst he
  exact ⟨_, rfl, hpost W' (fun hg => by subst hg; rfl) hb⟩

theorem closed : joinedFacts Try.checked.prog 8 Try.f8 Rows.linearWeakDualitySpec Rows.linearWeakDualityRow = true := by
  unfold joinedFacts
  rw [pf_enter, pf_lifts, pf_make]
  kernel_rfl
theorem proved : Rows.LinearWeakDualitySaid :=
  OpenClaim.holds_of_wide 8 Try.f8 rfl rfl rfl rfl rfl rfl rfl ⟨rfl, rfl, rfl, rfl, rfl⟩ rfl rfl rfl rfl rfl (by kernel_rfl) Try.func8 closed
    (of_decide_eq_true (by kernel_rfl)) (by unfold Func.isWrapper; first | (rw [if_pos (by decide +kernel)]; kernel_rfl) | (rw [if_neg (by decide +kernel)]; exact ⟨rfl, rfl⟩))
    (fun os started H enc _ => lifted os started H enc)
#print axioms proved
end linearWeakDuality

end Go.Proofs.Ytkepfmglljkjhaa
