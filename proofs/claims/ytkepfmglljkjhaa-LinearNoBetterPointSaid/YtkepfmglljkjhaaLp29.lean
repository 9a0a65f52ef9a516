/-
  No point has a greater value than the result, and there is no point if none is found.
-/
import Derived.Test.YtkepfmglljkjhaaLs1
import Derived.Test.YtkepfmglljkjhaaLx1
import Derived.Test.YtkepfmglljkjhaaOlp
import Derived.Test.YtkepfmglljkjhaaTb9
import Derived.Test.YtkepfmglljkjhaaBlaw
import Derived.Test.YtkepfmglljkjhaaMA
import Derived.Test.YtkepfmglljkjhaaPfacts
namespace Go.Proofs.Ytkepfmglljkjhaa
open Go.RowKit
set_option linter.unusedVariables false
set_option linter.unusedSimpArgs false

set_option maxRecDepth 100000 in
set_option maxHeartbeats 2000000 in
theorem walk_lnb (w : World) (AR AB AO : Option Addr) (cr cb co : Nat) (p : LpV) (hM : LpMem w AR AB AO p) (m mb n : Nat) (hrl : Hid (p.rows.length = m)) (hbl : Hid (p.bounds.length = mb)) (hol : Hid (p.obj.length = n)) (X : Option Addr) (cX lx : Nat) (x : List Int) (d : Int) (hlx : Hid (x.length = lx)) (hIx : Ints w X x) (hx63 : lx ≤ 9223372036854775807) :
    Calls Try.prog 7 #[.agg #[.slice AR m cr, .slice AB mb cb, .slice AO n co], .agg #[.slice X lx cX, .int .i64 d]] w fun e w' => e = .returned (.bool true) ∧ Below w.heap.size w w' := by
  obtain ⟨⟨a, a2⟩, hf⟩ : ∃ f, Hid (fltP p x d = f) := ⟨_, Lib.hid rfl⟩
  have HIX := Lib.hid hIx
  have HM := Lib.hid hM
  clear hM hIx
  go_enter Try.func7, Try.ntmps7
  go_wp2_with fail
  refine (lnexample_any _).mono ?_
  rintro e w1 ⟨rfl, hB1⟩
  have D1 := dstep w hB1 (by repeat (first | with_reducible exact Below.refl _ _ | with_reducible apply bdrew | with_reducible apply bdrewN | with_reducible apply balloc | ((with_reducible refine bset ?_ ?_ _); rotate_left; (first | omega | (simp <;> omega)))))
  have d1s := D1.size
  have C1 := Cls.below (l := [(w.heap.size, 0, .slice AR m cr), (w.heap.size, 1, .slice AB mb cb), (w.heap.size, 2, .slice AO n co), (w.heap.size + 1, 0, .slice X lx cX), (w.heap.size + 1, 1, .int .i64 d)]) hB1 (by simp [Cls, go_sem])
  have F1 := C1
  simp only [Cls, and_true] at F1
  have y1w1 : w.heap.size + 1 < w1.heap.size := C1.blk (b := w.heap.size + 1) (k := 0) (v := .slice X lx cX) (by simp)
  have y1w0 : w.heap.size < w1.heap.size := (by omega)
  have y1wp1 : w.heap.size < w1.heap.size + 1 := (by omega)
  have y1wp2 : w.heap.size < w1.heap.size + 1 + 1 := (by omega)
  go_wp2_with fail
  refine (feasible_any _ AR AB AO cr cb co p (HM.out.below (by repeat (first | with_reducible exact D1 | with_reducible apply bdrew | with_reducible apply bdrewN | with_reducible apply balloc | ((with_reducible refine bset ?_ ?_ _); rotate_left; (first | omega | (simp <;> omega)))))) m mb n hrl hbl hol X cX lx x d hlx (HIX.out.below (by repeat (first | with_reducible exact D1 | with_reducible apply bdrew | with_reducible apply bdrewN | with_reducible apply balloc | ((with_reducible refine bset ?_ ?_ _); rotate_left; (first | omega | (simp <;> omega)))))) hx63 a a2 hf).mono ?_
  rintro e w2 ⟨ok, rfl, HO, hB2⟩
  have D2 := dstep w hB2 (by repeat (first | with_reducible exact D1 | with_reducible apply bdrew | with_reducible apply bdrewN | with_reducible apply balloc | ((with_reducible refine bset ?_ ?_ _); rotate_left; (first | omega | (simp <;> omega)))))
  have d2s := D2.size
  have C2 := Cls.below (l := [(w.heap.size, 0, .slice AR m cr), (w.heap.size, 1, .slice AB mb cb), (w.heap.size, 2, .slice AO n co), (w.heap.size + 1, 0, .slice X lx cX), (w.heap.size + 1, 1, .int .i64 d)]) hB2 (by simp [Cls, go_sem, F1, y1w1, y1w0, y1wp1, y1wp2])
  have F2 := C2
  simp only [Cls, and_true] at F2
  have y2w1 : w.heap.size + 1 < w2.heap.size := C2.blk (b := w.heap.size + 1) (k := 0) (v := .slice X lx cX) (by simp)
  have y2w0 : w.heap.size < w2.heap.size := (by omega)
  have y2wp1 : w.heap.size < w2.heap.size + 1 := (by omega)
  have y2wp2 : w.heap.size < w2.heap.size + 1 + 1 := (by omega)
  go_wp2_with fail
  refine (solve_any _ AR AB AO cr cb co p (HM.out.below (by repeat (first | with_reducible exact D2 | with_reducible apply bdrew | with_reducible apply bdrewN | with_reducible apply balloc | ((with_reducible refine bset ?_ ?_ _); rotate_left; (first | omega | (simp <;> omega)))))) m mb n hrl hbl hol).mono ?_
  rintro e w3 ⟨c3, c32, st3, num3, den3, dx3, dy3, dr3, Ax3, Ay3, Ar3, lx3, ly3, lr3, xs3, ys3, rs3, rfl, HF3, HL3, HZ3, HS3, HX3, hB3⟩
  have D3 := dstep w hB3 (by repeat (first | with_reducible exact D2 | with_reducible apply bdrew | with_reducible apply bdrewN | with_reducible apply balloc | ((with_reducible refine bset ?_ ?_ _); rotate_left; (first | omega | (simp <;> omega)))))
  have d3s := D3.size
  have C3 := Cls.below (l := [(w.heap.size, 0, .slice AR m cr), (w.heap.size, 1, .slice AB mb cb), (w.heap.size, 2, .slice AO n co), (w.heap.size + 1, 0, .slice X lx cX), (w.heap.size + 1, 1, .int .i64 d), (w2.heap.size, 0, .int .i64 a), (w2.heap.size, 1, .int .i64 a2)]) hB3 (by simp [Cls, go_sem, F2, y2w1, y2w0, y2wp1, y2wp2])
  have F3 := C3
  simp only [Cls, and_true] at F3
  have y3w1 : w.heap.size + 1 < w3.heap.size := C3.blk (b := w.heap.size + 1) (k := 0) (v := .slice X lx cX) (by simp)
  have y3w0 : w.heap.size < w3.heap.size := (by omega)
  have y3wp1 : w.heap.size < w3.heap.size + 1 := (by omega)
  have y3wp2 : w.heap.size < w3.heap.size + 1 + 1 := (by omega)
  have y3w20 : w2.heap.size < w3.heap.size := C3.blk (b := w2.heap.size) (k := 0) (v := .int .i64 a) (by simp)
  have y3w2p1 : w2.heap.size < w3.heap.size + 1 := (by omega)
  have y3w2p2 : w2.heap.size < w3.heap.size + 1 + 1 := (by omega)
  by_cases ha : a = 0
  · subst ha
    have HO2 := Lib.hid (HO.out.2 rfl)
    have HZ := Lib.hid (fltP_zero (by rw [hf.out]))
    have HOK := Lib.hid HZ.out.1
    have HVX := Lib.hid HZ.out.2
    obtain rfl : c3 = 0 := by have h := HF3.out; rw [lpF_ok HOK.out] at h; injection h with h; exact h.symm
    have HSO := Lib.hid (HS3.out rfl)
    clear HO HS3 HZ3 HF3
    cases ok with
    | false =>
      clear HO2
      go_wp2
      refine bodyPost_ret (v := .bool true) ?_ rfl ⟨rfl, by repeat (first | with_reducible exact D3 | with_reducible apply bdrew | with_reducible apply bdrewN | with_reducible apply balloc | ((with_reducible refine bset ?_ ?_ _); rotate_left; (first | omega | (simp <;> omega))))⟩
      simp [results, Try.results7, go_sem, F3, y3w1, y3w0, y3wp1, y3wp2, y3w20, y3w2p1, y3w2p2]
    | true =>
      have HPT := Lib.hid (HO2.out.1 rfl)
      clear HO2
      have hmb : mb = m := by rw [← hbl.out, ← hrl.out]; exact HOK.out.b
      subst hmb
      have hlnx : lx = n := by rw [← hlx.out, HVX.out.len]; exact hol.out
      subst hlnx
      have hm6 : mb ≤ 6 := by have := HOK.out.m; rw [hrl.out] at this; exact this
      have hn6 : lx ≤ 6 := by have := HOK.out.n; rw [hol.out] at this; exact this
      have hd0 := HVX.out.pos
      have hd1 := HVX.out.dle
      have HNB := Lib.hid (LA.no_better HVX.out.pos HPT.out HSO.out.out)
      by_cases hst : st3 = 1
      · subst hst
        have HOP : Hid (SolOpt p.lp num3 den3 xs3 dx3 ys3 dy3) := Lib.hid (by
          rcases HSO.out with h | ⟨h, _⟩ | ⟨h, _⟩
          · exact h.2.1
          · omega
          · omega)
        have hle0 : LA.valP p.lp (atL x) * den3 ≤ num3 * d := by
          rcases HNB.out with h | h
          · exact h.2.2
          · omega
        obtain ⟨s1, hs1⟩ : ∃ s, Hid (dotL lx p.obj x = s) := ⟨_, Lib.hid rfl⟩
        rw [obj_dot hol.out, hs1.out] at hle0
        have HP1 : Hid (∀ W : World, Below w.heap.size w W → Calls Try.prog 28 #[.slice AO lx co, .slice X lx cX] W fun e w' => e = .returned (.int .i64 s1) ∧ Below W.heap.size W w') := Lib.hid (fun W hB => by
          have h := sprod_any W AO X co cX p.obj x lx hol hlx hn6 (HM.out.obj.below hB) (HIX.out.below hB) HOK.out.c100 HVX.out.le
          rw [hs1.out] at h; exact h)
        have hl1 := dotL_le HOK.out.c100 HVX.out.le lx
        rw [hs1.out] at hl1
        have hn1 := HOP.out.nle
        have hn2 := HOP.out.dle
        have hn3 := HOP.out.dpos
        have hm1 := mul_le (X := 60000000000) (Y := 1179648) (show -60000000000 ≤ s1 ∧ s1 ≤ 60000000000 by omega) (show -1179648 ≤ den3 ∧ den3 ≤ 1179648 by omega)
        have hm2 := mul_le (X := 707788800) (Y := 100000000) hn1 (show -100000000 ≤ d ∧ d ≤ 100000000 by omega)
        obtain ⟨u1, hu1⟩ : ∃ u, Hid (s1 * den3 = u) := ⟨_, Lib.hid rfl⟩
        obtain ⟨u2, hu2⟩ : ∃ u, Hid (num3 * d = u) := ⟨_, Lib.hid rfl⟩
        have hwu1 : IntKind.i64.wrap (s1 * den3) = u1 := by rw [hu1.out] at hm1 ⊢; exact Go.IntWalk.i64_in _ (by omega)
        have hwu2 : IntKind.i64.wrap (num3 * d) = u2 := by rw [hu2.out] at hm2 ⊢; exact Go.IntWalk.i64_in _ (by omega)
        rw [hu1.out, hu2.out] at hle0
        have hle : decide (u1 ≤ u2) = true := decide_eq_true hle0
        clear hl1 hm1 hm2 hle0 hn1 hn2 hn3
        go_wp2_with fail
        refine wp_region_held_drew (S := fun W => W.cell? ⟨w.heap.size, 2, none⟩ = some (.slice AO lx co) ∧ W.cell? ⟨w.heap.size + 1, 0, none⟩ = some (.slice X lx cX) ∧ W.cell? ⟨w.heap.size + 1, 1, none⟩ = some (.int .i64 d) ∧ W.cell? ⟨w3.heap.size, 1, none⟩ = some (.int .i64 num3) ∧ W.cell? ⟨w3.heap.size, 2, none⟩ = some (.int .i64 den3)) (by kernel_rfl) (by simp [go_sem, F3, y3w1, y3w0, y3wp1, y3wp2, y3w20, y3w2p1, y3w2p2]) (fun hHeld => ?_)
        refine wpAnyH_take (i := 0) (v := ?vo10) rfl (by kernel_rfl) (by kernel_rfl) (by kernel_rfl) (fun _ _ _ h => h) (Or.inl ⟨by rfl, ?ho10⟩) (by assumption) ?ro10
        case ho10 => (intro w hSw; (try dsimp only at hSw); go_simp; (try with_reducible rfl))
        try simp only [Act.put, List.getElem_toArray, List.getElem_cons_succ, List.getElem_cons_zero, List.setIfInBounds_toArray, List.set_cons_zero, List.set_cons_succ]
        refine wpAnyH_take (i := 1) (v := ?vo11) rfl (by kernel_rfl) (by kernel_rfl) (by kernel_rfl) (fun _ _ _ h => h) (Or.inl ⟨by rfl, ?ho11⟩) (by assumption) ?ro11
        case ho11 => (intro w hSw; (try dsimp only at hSw); go_simp; (try with_reducible rfl))
        try simp only [Act.put, List.getElem_toArray, List.getElem_cons_succ, List.getElem_cons_zero, List.setIfInBounds_toArray, List.set_cons_zero, List.set_cons_succ]
        refine wpAnyH_take (i := 2) (v := ?vo12) rfl (by kernel_rfl) (by kernel_rfl) (by kernel_rfl) (fun _ _ _ h => h) (Or.inl ⟨by rfl, ?ho12⟩) (by assumption) ?ro12
        case ho12 => (intro w hSw; (try dsimp only at hSw); go_simp; (try with_reducible rfl))
        try simp only [Act.put, List.getElem_toArray, List.getElem_cons_succ, List.getElem_cons_zero, List.setIfInBounds_toArray, List.set_cons_zero, List.set_cons_succ]
        refine wpAnyH_take (i := 3) (v := ?vo13) rfl (by kernel_rfl) (by kernel_rfl) (by kernel_rfl) (fun _ _ _ h => h) (Or.inl ⟨by rfl, ?ho13⟩) (by assumption) ?ro13
        case ho13 => (intro w hSw; (try dsimp only at hSw); go_simp; (try with_reducible rfl))
        try simp only [Act.put, List.getElem_toArray, List.getElem_cons_succ, List.getElem_cons_zero, List.setIfInBounds_toArray, List.set_cons_zero, List.set_cons_succ]
        refine wpAnyH_take (i := 5) (v := ?vo15) rfl (by kernel_rfl) (by kernel_rfl) (by kernel_rfl) (fun _ _ _ h => h) (Or.inl ⟨by rfl, ?ho15⟩) (by assumption) ?ro15
        case ho15 => (intro w hSw; (try dsimp only at hSw); go_simp; (try with_reducible rfl))
        try simp only [Act.put, List.getElem_toArray, List.getElem_cons_succ, List.getElem_cons_zero, List.setIfInBounds_toArray, List.set_cons_zero, List.set_cons_succ]
        refine wpAnyH_take (i := 6) (v := ?vo16) rfl (by kernel_rfl) (by kernel_rfl) (by kernel_rfl) (fun _ _ _ h => h) (Or.inl ⟨by rfl, ?ho16⟩) (by assumption) ?ro16
        case ho16 => (intro w hSw; (try dsimp only at hSw); go_simp; (try with_reducible rfl))
        try simp only [Act.put, List.getElem_toArray, List.getElem_cons_succ, List.getElem_cons_zero, List.setIfInBounds_toArray, List.set_cons_zero, List.set_cons_succ]
        refine wpAnyH_take (i := 7) (v := ?vo17) rfl (by kernel_rfl) (by kernel_rfl) (by kernel_rfl) (fun _ _ _ h => h) (Or.inl ⟨by rfl, ?ho17⟩) (by assumption) ?ro17
        case ho17 => (intro w hSw; (try dsimp only at hSw); go_simp; (try with_reducible rfl))
        try simp only [Act.put, List.getElem_toArray, List.getElem_cons_succ, List.getElem_cons_zero, List.setIfInBounds_toArray, List.set_cons_zero, List.set_cons_succ]
        refine wpAnyH_take (i := 9) (v := ?vo19) rfl (by kernel_rfl) (by kernel_rfl) (by kernel_rfl) (fun _ _ _ h => h) (Or.inl ⟨by rfl, ?ho19⟩) (by assumption) ?ro19
        case ho19 => (intro w hSw; (try dsimp only at hSw); go_simp; (try with_reducible rfl))
        try simp only [Act.put, List.getElem_toArray, List.getElem_cons_succ, List.getElem_cons_zero, List.setIfInBounds_toArray, List.set_cons_zero, List.set_cons_succ]
        refine wpAnyH_take (i := 10) (v := ?vo110) rfl (by kernel_rfl) (by kernel_rfl) (by kernel_rfl) (fun _ _ _ h => h) (Or.inl ⟨by rfl, ?ho110⟩) (by assumption) ?ro110
        case ho110 => (intro w hSw; (try dsimp only at hSw); go_simp; (try with_reducible rfl))
        try simp only [Act.put, List.getElem_toArray, List.getElem_cons_succ, List.getElem_cons_zero, List.setIfInBounds_toArray, List.set_cons_zero, List.set_cons_succ]
        refine wpAnyH_take (i := 11) (v := ?vo111) rfl (by kernel_rfl) (by kernel_rfl) (by kernel_rfl) (fun _ _ _ h => h) (Or.inl ⟨by rfl, ?ho111⟩) (by assumption) ?ro111
        case ho111 => (intro w hSw; (try dsimp only at hSw); go_simp; (try with_reducible rfl))
        try simp only [Act.put, List.getElem_toArray, List.getElem_cons_succ, List.getElem_cons_zero, List.setIfInBounds_toArray, List.set_cons_zero, List.set_cons_succ]
        refine wpAnyH_take (i := 12) (v := ?vo112) rfl (by kernel_rfl) (by kernel_rfl) (by kernel_rfl) (fun _ _ _ h => h) (Or.inl ⟨by rfl, ?ho112⟩) (by assumption) ?ro112
        case ho112 => (intro w hSw; (try dsimp only at hSw); go_simp; (try with_reducible rfl))
        try simp only [Act.put, List.getElem_toArray, List.getElem_cons_succ, List.getElem_cons_zero, List.setIfInBounds_toArray, List.set_cons_zero, List.set_cons_succ]
        refine wpAnyH_take (i := 13) (v := ?vo113) rfl (by kernel_rfl) (by kernel_rfl) (by kernel_rfl) (fun _ _ _ h => h) (Or.inl ⟨by rfl, ?ho113⟩) (by assumption) ?ro113
        case ho113 => (intro w hSw; (try dsimp only at hSw); go_simp; (try with_reducible rfl))
        try simp only [Act.put, List.getElem_toArray, List.getElem_cons_succ, List.getElem_cons_zero, List.setIfInBounds_toArray, List.set_cons_zero, List.set_cons_succ]
        refine wpAnyH_take (i := 14) (v := ?vo114) rfl (by kernel_rfl) (by kernel_rfl) (by kernel_rfl) (fun _ _ _ h => h) (Or.inl ⟨by rfl, ?ho114⟩) (by assumption) ?ro114
        case ho114 => (intro w hSw; (try dsimp only at hSw); go_simp; (try with_reducible rfl))
        try simp only [Act.put, List.getElem_toArray, List.getElem_cons_succ, List.getElem_cons_zero, List.setIfInBounds_toArray, List.set_cons_zero, List.set_cons_succ]
        refine wpAnyH_ready (rs := [4]) (by kernel_rfl) (by simp) ?_
        refine (AllReadyH.cons rfl (fun K hK => ?bo11x4) AllReadyH.nil)
        case bo11x4 =>
          go_simp
          go_at_call 28
          refine (HP1.out _ (by repeat (first | with_reducible exact D3 | with_reducible apply bdrew | with_reducible apply bdrewN | with_reducible apply balloc | ((with_reducible refine bset ?_ ?_ _); rotate_left; (first | omega | (simp <;> omega)))))).mono ?_
          rintro e w4 ⟨rfl, hB4⟩
          have D4 := dstep w hB4 (by repeat (first | with_reducible exact D3 | with_reducible apply bdrew | with_reducible apply bdrewN | with_reducible apply balloc | ((with_reducible refine bset ?_ ?_ _); rotate_left; (first | omega | (simp <;> omega)))))
          have C4 := Cls.below (l := [(w.heap.size, 0, .slice AR mb cr), (w.heap.size, 1, .slice AB mb cb), (w.heap.size, 2, .slice AO lx co), (w.heap.size + 1, 0, .slice X lx cX), (w.heap.size + 1, 1, .int .i64 d), (w2.heap.size, 0, .int .i64 0), (w2.heap.size, 1, .int .i64 a2), (w3.heap.size + 1, 0, .int .i64 0), (w3.heap.size + 1, 1, .int .i64 c32), (w3.heap.size, 0, .int .i64 1), (w3.heap.size, 1, .int .i64 num3), (w3.heap.size, 2, .int .i64 den3), (w3.heap.size, 3, .slice Ax3 lx3 lx3), (w3.heap.size, 4, .int .i64 dx3), (w3.heap.size, 5, .slice Ay3 ly3 ly3), (w3.heap.size, 6, .int .i64 dy3), (w3.heap.size, 7, .slice Ar3 lr3 lr3), (w3.heap.size, 8, .int .i64 dr3)]) hB4 (by simp [Cls, go_sem, F3, y3w1, y3w0, y3wp1, y3wp2, y3w20, y3w2p1, y3w2p2])
          have F4 := C4
          simp only [Cls, and_true] at F4
          have y4w1 : w.heap.size + 1 < w4.heap.size := C4.blk (b := w.heap.size + 1) (k := 0) (v := .slice X lx cX) (by simp)
          have y4w0 : w.heap.size < w4.heap.size := (by omega)
          have y4wp1 : w.heap.size < w4.heap.size + 1 := (by omega)
          have y4wp2 : w.heap.size < w4.heap.size + 1 + 1 := (by omega)
          have y4w20 : w2.heap.size < w4.heap.size := C4.blk (b := w2.heap.size) (k := 0) (v := .int .i64 0) (by simp)
          have y4w2p1 : w2.heap.size < w4.heap.size + 1 := (by omega)
          have y4w2p2 : w2.heap.size < w4.heap.size + 1 + 1 := (by omega)
          have y4w31 : w3.heap.size + 1 < w4.heap.size := C4.blk (b := w3.heap.size + 1) (k := 0) (v := .int .i64 0) (by simp)
          have y4w30 : w3.heap.size < w4.heap.size := (by omega)
          have y4w3p1 : w3.heap.size < w4.heap.size + 1 := (by omega)
          have y4w3p2 : w3.heap.size < w4.heap.size + 1 + 1 := (by omega)
          have hSS : w4.cell? ⟨w.heap.size, 2, none⟩ = some (.slice AO lx co) ∧ w4.cell? ⟨w.heap.size + 1, 0, none⟩ = some (.slice X lx cX) ∧ w4.cell? ⟨w.heap.size + 1, 1, none⟩ = some (.int .i64 d) ∧ w4.cell? ⟨w3.heap.size, 1, none⟩ = some (.int .i64 num3) ∧ w4.cell? ⟨w3.heap.size, 2, none⟩ = some (.int .i64 den3) := (by simp [F4])
          go_wp2_with fail
          refine hK.out _ _ hSS (fun hHeld => ?_)
          clear hK K
          try simp only [Act.put, List.getElem_toArray, List.getElem_cons_succ, List.getElem_cons_zero, List.setIfInBounds_toArray, List.set_cons_zero, List.set_cons_succ]
          refine wpAnyH_take (i := 8) (v := ?vo1l28) rfl (by kernel_rfl) (by kernel_rfl) (by kernel_rfl) (fun _ _ _ h => h) (Or.inl ⟨by rfl, ?ho1l28⟩) (by assumption) ?ro1l28
          case ho1l28 => (intro w hSw; (try dsimp only at hSw); go_simp; (try with_reducible rfl))
          try simp only [Act.put, List.getElem_toArray, List.getElem_cons_succ, List.getElem_cons_zero, List.setIfInBounds_toArray, List.set_cons_zero, List.set_cons_succ]
          refine wpAnyH_take (i := 15) (v := ?vo1l315) rfl (by kernel_rfl) (by kernel_rfl) (by kernel_rfl) (fun _ _ _ h => h) (Or.inl ⟨by rfl, ?ho1l315⟩) (by assumption) ?ro1l315
          case ho1l315 => (intro w hSw; (try dsimp only at hSw); go_simp; (try with_reducible rfl))
          try simp only [Act.put, List.getElem_toArray, List.getElem_cons_succ, List.getElem_cons_zero, List.setIfInBounds_toArray, List.set_cons_zero, List.set_cons_succ]
          refine wpAnyH_take (i := 16) (v := ?vo1l416) rfl (by kernel_rfl) (by kernel_rfl) (by kernel_rfl) (fun _ _ _ h => h) (Or.inl ⟨by rfl, ?ho1l416⟩) (by assumption) ?ro1l416
          case ho1l416 => (intro w hSw; (try dsimp only at hSw); go_simp; (try with_reducible rfl))
          try simp only [Act.put, List.getElem_toArray, List.getElem_cons_succ, List.getElem_cons_zero, List.setIfInBounds_toArray, List.set_cons_zero, List.set_cons_succ]
          refine wpAnyH_done (by kernel_rfl) ?_ _
          go_wp2
          refine bodyPost_ret (v := .bool true) ?_ rfl ⟨rfl, by repeat (first | with_reducible exact D4 | with_reducible apply bdrew | with_reducible apply bdrewN | with_reducible apply balloc | ((with_reducible refine bset ?_ ?_ _); rotate_left; (first | omega | (simp <;> omega))))⟩
          simp [results, Try.results7, go_sem, F4, y4w1, y4w0, y4wp1, y4wp2, y4w20, y4w2p1, y4w2p2, y4w31, y4w30, y4w3p1, y4w3p2]
      · obtain rfl : st3 = 3 := by
          rcases HNB.out with h | h
          · exact absurd h.1 hst
          · exact h
        go_wp2
        refine bodyPost_ret (v := .bool true) ?_ rfl ⟨rfl, by repeat (first | with_reducible exact D3 | with_reducible apply bdrew | with_reducible apply bdrewN | with_reducible apply balloc | ((with_reducible refine bset ?_ ?_ _); rotate_left; (first | omega | (simp <;> omega))))⟩
        simp [results, Try.results7, go_sem, F3, y3w1, y3w0, y3wp1, y3wp2, y3w20, y3w2p1, y3w2p2]
  · obtain rfl : ok = false := HO.out.1 ha
    have ha1 : (a == 0) = false := by simpa using ha
    have ha2 : (a != 0) = true := by simpa using ha
    clear HO
    go_wp2
    refine bodyPost_ret (v := .bool true) ?_ rfl ⟨rfl, by repeat (first | with_reducible exact D3 | with_reducible apply bdrew | with_reducible apply bdrewN | with_reducible apply balloc | ((with_reducible refine bset ?_ ?_ _); rotate_left; (first | omega | (simp <;> omega))))⟩
    simp [results, Try.results7, go_sem, F3, y3w1, y3w0, y3wp1, y3wp2, y3w20, y3w2p1, y3w2p2]


namespace linearNoBetterPoint
open Go.ChangeShapes Go.WideShapes Go.ChangeAt Go.RowKit

set_option maxRecDepth 100000 in
theorem lifted (os : Os) (started : os.Started) (H : Type) (enc : TypeId × Value → H) :
    ReturnsInHanded {} Try.checked os 7 .any (Rows.linearNoBetterPointSpec.pre6 enc Try.prog Try.f7 Rows.linearNoBetterPointRow.domain false) (Rows.linearNoBetterPointSpec.post enc Try.prog Try.f7 false true false false) := by
  refine returnsInHanded_of_change (C := Try.checked) own_knob started (by kernel_rfl) Try.func7
    (ChangeSpec.witness6 (enc := enc) (C := Try.checked) false ⟨#[], #[.agg #[.slice none 0 0, .slice none 0 0, .slice none 0 0], .agg #[.slice none 0 0, .int .i64 0]], []⟩ 8 (by kernel_rfl) (by kernel_rfl) (by kernel_rfl) (by kernel_rfl)) ?_
  intro W base args ds gs before hval0 hW _ hsz
  have hval : ∀ (j : Nat) t v, Try.f7.params[j]? = some t → args[j]? = some v → Value.okWide Try.prog W .any base t v := hval0
  have hpost := fun (W' : World) (hfn : gs = [] → Rows.linearNoBetterPointSpec.fn H (ds ++ gs) = { results := [.lit (.bool true)], args := ds }) (hb : Below W.heap.size W W') => law_post (f := Try.f7) (tb := 4) laid_out_B Try.underlying4 rfl (by kernel_rfl) rfl hfn hW hb
  obtain ⟨p, q, hA0, hV, hpq, hfz, hnd⟩ := hW
  have hA : DataW.TrodAll enc Try.prog W 0 (fun _ => true) true Try.f7.params.toList args.toList ds p := hA0
  rw [Try.params7] at hA hval
  obtain ⟨v0, vs0, d0, ds0, p0, q0, hargs, rfl, hp0, h0, r0⟩ := trodAll_cons hA
  obtain ⟨v1, vs1, d1, ds1, p1, q1, rfl, rfl, hp1, h1, r1⟩ := trodAll_cons r0
  obtain ⟨rfl, rfl, hpn⟩ := trodAll_nil r1
  obtain rfl : args = #[v0, v1] := by cases args; simp_all
  obtain ⟨p, AR, AB, AO, cr, cb, co, rfl, hM, hNR, hNB, hNO⟩ := open_lpW (hval 0 25 v0 rfl rfl) h0
  obtain ⟨X, cX, x, d, rfl, hIx, hx63, hxi⟩ := open_vecW (hval 1 30 v1 rfl rfl) h1
  refine (walk_lnb W AR AB AO cr cb co p hM p.rows.length p.bounds.length p.obj.length (Lib.hid rfl) (Lib.hid rfl) (Lib.hid rfl) X cX x.length x d (Lib.hid rfl) hIx hx63).mono fun e W' ⟨he, hb⟩ => ?_
  subst he
  exact ⟨_, rfl, hpost W' (fun hg => by subst hg; rfl) hb⟩

theorem closed : joinedFacts Try.checked.prog 7 Try.f7 Rows.linearNoBetterPointSpec Rows.linearNoBetterPointRow = true := by
  unfold joinedFacts
  rw [pf_enter, pf_lifts, pf_make]
  kernel_rfl
theorem proved : Rows.LinearNoBetterPointSaid :=
  OpenClaim.holds_of_wide 7 Try.f7 rfl rfl rfl rfl rfl rfl rfl ⟨rfl, rfl, rfl, rfl, rfl⟩ rfl rfl rfl rfl rfl (by kernel_rfl) Try.func7 closed
    (of_decide_eq_true (by kernel_rfl)) (by unfold Func.isWrapper; first | (rw [if_pos (by decide +kernel)]; kernel_rfl) | (rw [if_neg (by decide +kernel)]; exact ⟨rfl, rfl⟩))
    (fun os started H enc _ => lifted os started H enc)
#print axioms proved
end linearNoBetterPoint

end Go.Proofs.Ytkepfmglljkjhaa
