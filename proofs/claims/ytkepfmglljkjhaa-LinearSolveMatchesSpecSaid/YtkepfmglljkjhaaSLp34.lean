/-
  linear.Solve returns the right outcome and greatest value, with vectors that prove it.
-/
import Derived.Test.YtkepfmglljkjhaaS17
import Derived.Test.YtkepfmglljkjhaaS8
import Derived.Test.YtkepfmglljkjhaaS18
import Derived.Test.YtkepfmglljkjhaaS11
import Derived.Test.YtkepfmglljkjhaaS3
import Derived.Test.YtkepfmglljkjhaaS19
import Derived.Test.YtkepfmglljkjhaaS2
import Derived.Test.YtkepfmglljkjhaaS20
namespace Go.Proofs.Ytkepfmglljkjhaa
open Go.RowKit
set_option linter.unusedVariables false
set_option linter.unusedSimpArgs false

set_option maxRecDepth 100000 in
theorem isnone_yes (w : World) (A : Option Addr) (c l : Nat) (d : Int) (hl : l = 0) (hd : d = 0) :
    Calls Try.prog 16 #[.agg #[.slice A l c, .int .i64 d]] w fun e w' => e = .returned (.bool true) ∧ Below w.heap.size w w' := by
  subst hl
  subst hd
  go_enter Try.func16, Try.ntmps16
  go_wp2
  refine bodyPost_ret (v := .bool true) ?_ rfl ⟨rfl, by repeat (first | with_reducible exact Below.refl _ _ | with_reducible apply bdrew | with_reducible apply bdrewN | with_reducible apply balloc | ((with_reducible refine bset ?_ ?_ _); rotate_left; (first | omega | (simp <;> omega))))⟩
  simp [results, Try.results16, go_sem]
theorem meets {P : LA.LP} {num den dx dy : Int} {x y : List Int} (h : SolOpt P num den x dx y dy) : LA.valP P (atL x) * dy = LA.valD P (atL y) * dx := by
  have h1 := h.vx
  have h2 := h.vy
  have hd := h.dpos
  have e1 : LA.valP P (atL x) * dy * den = num * dx * dy := by
    have : LA.valP P (atL x) * dy * den = (LA.valP P (atL x) * den) * dy := by grind
    rw [this, h1]
  have e2 : LA.valD P (atL y) * dx * den = num * dx * dy := by
    have : LA.valD P (atL y) * dx * den = (LA.valD P (atL y) * den) * dx := by grind
    rw [this, h2]; grind
  exact Int.eq_of_mul_eq_mul_right (by omega) (e1.trans e2.symm)
theorem low_eq {num den n2 d2 : Int} (h : n2 * den = num * d2) (hd : 0 < den) (hd2 : 0 < d2) (hg : Int.gcd num den = 1) (hn : -707788800 ≤ num ∧ num ≤ 707788800) (hdl : den ≤ 1179648) : rn n2 d2 = num ∧ rd n2 d2 = den ∧ rb n2 d2 = true := by
  obtain ⟨e1, e2⟩ := q_uniq (n := n2) (d := d2) (p := num) (q := den) (by omega) (by omega) hg h.symm
  have hf : qfit n2 d2 := by unfold qfit; rw [← e1, ← e2]; omega
  have h2 := fit_code (by omega : d2 ≠ 0) hf
  exact ⟨by rw [h2.2.1, ← e1], by rw [h2.2.2.1, ← e2], by unfold rb; exact decide_eq_true hf⟩
set_option maxRecDepth 100000 in
set_option maxHeartbeats 8000000 in
theorem walk_lsm_0 (w : World) (AR AB AO : Option Addr) (cr cb co : Nat) (p : LpV) (hM : LpMem w AR AB AO p) (m mb n : Nat) (hrl : Hid (p.rows.length = m)) (hbl : Hid (p.bounds.length = mb)) (hol : Hid (p.obj.length = n)) (cf cg : Int) (hc : Hid (lpF p = (cf, cg))) (hc0 : ¬ cf = 0) :
    Calls Try.prog 4 #[.agg #[.slice AR m cr, .slice AB mb cb, .slice AO n co]] w fun e w' => e = .returned (.bool true) ∧ Below w.heap.size w w' := by
  have HM := Lib.hid hM
  have hb1 := bb_no hc0
  have hb2 := bn_yes hc0
  have HC0 := Lib.hid hc0
  clear hM
  have HLF : Hid (∀ W : World, Below w.heap.size w W → Calls Try.prog 14 #[.agg #[.slice AR m cr, .slice AB mb cb, .slice AO n co]] W fun e w' => e = .returned (.agg #[.int .i64 cf, .int .i64 cg]) ∧ Below W.heap.size W w') := Lib.hid (fun W hB => by
    have h := slfault_any W AR AB AO cr cb co p (HM.out.below hB)
    rw [hrl.out, hbl.out, hol.out, hc.out] at h
    exact h)
  have HLV : Hid (∀ W : World, Below w.heap.size w W → Calls Try.prog 15 #[.agg #[.slice AR m cr, .slice AB mb cb, .slice AO n co]] W fun e w' => e = .returned (.agg #[.int .i64 cf, .int .i64 cg]) ∧ Below W.heap.size W w') := Lib.hid (fun W hB => by
    have h := lvalidate_any W AR AB AO cr cb co p (HM.out.below hB)
    rw [hrl.out, hbl.out, hol.out, hc.out] at h
    exact h)
  go_enter Try.func4, Try.ntmps4
  go_wp2_with fail
  refine (lnexample_any _).mono ?_
  rintro e w1 ⟨rfl, hB1⟩
  have D1 := dstep w hB1 (by repeat (first | with_reducible exact Below.refl _ _ | with_reducible apply bdrew | with_reducible apply bdrewN | with_reducible apply balloc | ((with_reducible refine bset ?_ ?_ _); rotate_left; (first | omega | (simp <;> omega)))))
  have d1s := D1.size
  have C1 := Cls.below (l := [(w.heap.size, 0, .slice AR m cr), (w.heap.size, 1, .slice AB mb cb), (w.heap.size, 2, .slice AO n co)]) hB1 (by simp [Cls, go_sem])
  have F1 := C1
  simp only [Cls, and_true] at F1
  have y1w0 : w.heap.size < w1.heap.size := C1.blk (b := w.heap.size) (k := 0) (v := .slice AR m cr) (by simp)
  have y1wp1 : w.heap.size < w1.heap.size + 1 := (by omega)
  have y1wp2 : w.heap.size < w1.heap.size + 1 + 1 := (by omega)
  go_wp2_with fail
  refine (solve_any _ AR AB AO cr cb co p (HM.out.below (by repeat (first | with_reducible exact D1 | with_reducible apply bdrew | with_reducible apply bdrewN | with_reducible apply balloc | ((with_reducible refine bset ?_ ?_ _); rotate_left; (first | omega | (simp <;> omega)))))) m mb n hrl hbl hol).mono ?_
  rintro e w2 ⟨c2, c22, st2, num2, den2, dx2, dy2, dr2, Ax2, Ay2, Ar2, lx2, ly2, lr2, xs2, ys2, rs2, rfl, HF2, HL2, HZ2, HS2, HX2, hB2⟩
  have D2 := dstep w hB2 (by repeat (first | with_reducible exact D1 | with_reducible apply bdrew | with_reducible apply bdrewN | with_reducible apply balloc | ((with_reducible refine bset ?_ ?_ _); rotate_left; (first | omega | (simp <;> omega)))))
  have d2s := D2.size
  have C2 := Cls.below (l := [(w.heap.size, 0, .slice AR m cr), (w.heap.size, 1, .slice AB mb cb), (w.heap.size, 2, .slice AO n co)]) hB2 (by simp [Cls, go_sem, F1, y1w0, y1wp1, y1wp2])
  have F2 := C2
  simp only [Cls, and_true] at F2
  have y2w0 : w.heap.size < w2.heap.size := C2.blk (b := w.heap.size) (k := 0) (v := .slice AR m cr) (by simp)
  have y2wp1 : w.heap.size < w2.heap.size + 1 := (by omega)
  have y2wp2 : w.heap.size < w2.heap.size + 1 + 1 := (by omega)
  obtain ⟨hfa, hfb⟩ : c2 = cf ∧ c22 = cg := by have h := HF2.out; rw [hc.out] at h; injection h with h1 h2; exact ⟨h1.symm, h2.symm⟩
  subst hfa hfb
  clear HF2
  have HZZ := Lib.hid (HZ2.out HC0.out)
  obtain ⟨rfl, rfl, rfl, rfl, rfl, rfl, rfl, rfl, rfl⟩ := HZ2.out HC0.out
  clear HS2 HZ2 HZZ HX2 HL2
  go_wp2_with fail
  refine (HLF.out _ (by repeat (first | with_reducible exact D2 | with_reducible apply bdrew | with_reducible apply bdrewN | with_reducible apply balloc | ((with_reducible refine bset ?_ ?_ _); rotate_left; (first | omega | (simp <;> omega)))))).mono ?_
  rintro e w3 ⟨rfl, hB3⟩
  have D3 := dstep w hB3 (by repeat (first | with_reducible exact D2 | with_reducible apply bdrew | with_reducible apply bdrewN | with_reducible apply balloc | ((with_reducible refine bset ?_ ?_ _); rotate_left; (first | omega | (simp <;> omega)))))
  have d3s := D3.size
  have Ew2_3 := dstep w2 hB3 (by repeat (first | with_reducible exact Below.refl _ _ | with_reducible apply bdrew | with_reducible apply bdrewN | with_reducible apply balloc | ((with_reducible refine bset ?_ ?_ _); rotate_left; (first | omega | (simp <;> omega)))))
  have C3 := Cls.below (l := [(w.heap.size, 0, .slice AR m cr), (w.heap.size, 1, .slice AB mb cb), (w.heap.size, 2, .slice AO n co), (w2.heap.size, 0, .int .i64 0), (w2.heap.size, 1, .int .i64 0), (w2.heap.size, 2, .int .i64 0), (w2.heap.size, 3, .slice Ax2 0 0), (w2.heap.size, 4, .int .i64 0), (w2.heap.size, 5, .slice Ay2 0 0), (w2.heap.size, 6, .int .i64 0), (w2.heap.size, 7, .slice Ar2 0 0), (w2.heap.size, 8, .int .i64 0), (w2.heap.size + 1, 0, .int .i64 c2), (w2.heap.size + 1, 1, .int .i64 c22)]) hB3 (by simp [Cls, go_sem, F2, y2w0, y2wp1, y2wp2])
  have F3 := C3
  simp only [Cls, and_true] at F3
  have y3w0 : w.heap.size < w3.heap.size := C3.blk (b := w.heap.size) (k := 0) (v := .slice AR m cr) (by simp)
  have y3wp1 : w.heap.size < w3.heap.size + 1 := (by omega)
  have y3wp2 : w.heap.size < w3.heap.size + 1 + 1 := (by omega)
  have y3w21 : w2.heap.size + 1 < w3.heap.size := C3.blk (b := w2.heap.size + 1) (k := 0) (v := .int .i64 c2) (by simp)
  have y3w20 : w2.heap.size < w3.heap.size := (by omega)
  have y3w2p1 : w2.heap.size < w3.heap.size + 1 := (by omega)
  have y3w2p2 : w2.heap.size < w3.heap.size + 1 + 1 := (by omega)
  go_wp2_with fail
  refine wp_region_held_drew (S := fun W => W.cell? ⟨w.heap.size, 0, none⟩ = some (.slice AR m cr) ∧ W.cell? ⟨w.heap.size, 1, none⟩ = some (.slice AB mb cb) ∧ W.cell? ⟨w.heap.size, 2, none⟩ = some (.slice AO n co) ∧ W.cell? ⟨w3.heap.size, 0, none⟩ = some (.int .i64 c2) ∧ W.cell? ⟨w3.heap.size, 1, none⟩ = some (.int .i64 c22)) (by kernel_rfl) (by simp [go_sem, F3, y3w0, y3wp1, y3wp2, y3w21, y3w20, y3w2p1, y3w2p2]) (fun hHeld => ?_)
  refine wpAnyH_take (i := 0) (v := ?vo10) rfl (by kernel_rfl) (by kernel_rfl) (by kernel_rfl) (fun _ _ _ h => h) (Or.inl ⟨by rfl, ?ho10⟩) (by assumption) ?ro10
  case ho10 => (intro w hSw; (try dsimp only at hSw); go_simp; (try with_reducible rfl))
  try simp only [Act.put, List.getElem_toArray, List.getElem_cons_succ, List.getElem_cons_zero, List.setIfInBounds_toArray, List.set_cons_zero, List.set_cons_succ]
  refine wpAnyH_take (i := 2) (v := ?vo12) rfl (by kernel_rfl) (by kernel_rfl) (by kernel_rfl) (fun _ _ _ h => h) (Or.inl ⟨by rfl, ?ho12⟩) (by assumption) ?ro12
  case ho12 => (intro w hSw; (try dsimp only at hSw); go_simp; (try with_reducible rfl))
  try simp only [Act.put, List.getElem_toArray, List.getElem_cons_succ, List.getElem_cons_zero, List.setIfInBounds_toArray, List.set_cons_zero, List.set_cons_succ]
  refine wpAnyH_ready (rs := [1]) (by kernel_rfl) (by simp) ?_
  refine (AllReadyH.cons rfl (fun K hK => ?bo11x1) AllReadyH.nil)
  case bo11x1 =>
    go_simp
    go_at_call 15
    refine (HLV.out _ (by repeat (first | with_reducible exact D3 | with_reducible apply bdrew | with_reducible apply bdrewN | with_reducible apply balloc | ((with_reducible refine bset ?_ ?_ _); rotate_left; (first | omega | (simp <;> omega)))))).mono ?_
    rintro e w4 ⟨rfl, hB4⟩
    have D4 := dstep w hB4 (by repeat (first | with_reducible exact D3 | with_reducible apply bdrew | with_reducible apply bdrewN | with_reducible apply balloc | ((with_reducible refine bset ?_ ?_ _); rotate_left; (first | omega | (simp <;> omega)))))
    have C4 := Cls.below (l := [(w.heap.size, 0, .slice AR m cr), (w.heap.size, 1, .slice AB mb cb), (w.heap.size, 2, .slice AO n co), (w2.heap.size, 0, .int .i64 0), (w2.heap.size, 1, .int .i64 0), (w2.heap.size, 2, .int .i64 0), (w2.heap.size, 3, .slice Ax2 0 0), (w2.heap.size, 4, .int .i64 0), (w2.heap.size, 5, .slice Ay2 0 0), (w2.heap.size, 6, .int .i64 0), (w2.heap.size, 7, .slice Ar2 0 0), (w2.heap.size, 8, .int .i64 0), (w2.heap.size + 1, 0, .int .i64 c2), (w2.heap.size + 1, 1, .int .i64 c22), (w3.heap.size, 0, .int .i64 c2), (w3.heap.size, 1, .int .i64 c22)]) hB4 (by simp [Cls, go_sem, F3, y3w0, y3wp1, y3wp2, y3w21, y3w20, y3w2p1, y3w2p2])
    have Ew2_4 := dstep w2 hB4 (by repeat (first | with_reducible exact Ew2_3 | with_reducible apply bdrew | with_reducible apply bdrewN | with_reducible apply balloc | ((with_reducible refine bset ?_ ?_ _); rotate_left; (first | omega | (simp <;> omega)))))
    have F4 := C4
    simp only [Cls, and_true] at F4
    have y4w0 : w.heap.size < w4.heap.size := C4.blk (b := w.heap.size) (k := 0) (v := .slice AR m cr) (by simp)
    have y4wp1 : w.heap.size < w4.heap.size + 1 := (by omega)
    have y4wp2 : w.heap.size < w4.heap.size + 1 + 1 := (by omega)
    have y4w21 : w2.heap.size + 1 < w4.heap.size := C4.blk (b := w2.heap.size + 1) (k := 0) (v := .int .i64 c2) (by simp)
    have y4w20 : w2.heap.size < w4.heap.size := (by omega)
    have y4w2p1 : w2.heap.size < w4.heap.size + 1 := (by omega)
    have y4w2p2 : w2.heap.size < w4.heap.size + 1 + 1 := (by omega)
    have y4w30 : w3.heap.size < w4.heap.size := C4.blk (b := w3.heap.size) (k := 0) (v := .int .i64 c2) (by simp)
    have y4w3p1 : w3.heap.size < w4.heap.size + 1 := (by omega)
    have y4w3p2 : w3.heap.size < w4.heap.size + 1 + 1 := (by omega)
    have hSS : w4.cell? ⟨w.heap.size, 0, none⟩ = some (.slice AR m cr) ∧ w4.cell? ⟨w.heap.size, 1, none⟩ = some (.slice AB mb cb) ∧ w4.cell? ⟨w.heap.size, 2, none⟩ = some (.slice AO n co) ∧ w4.cell? ⟨w3.heap.size, 0, none⟩ = some (.int .i64 c2) ∧ w4.cell? ⟨w3.heap.size, 1, none⟩ = some (.int .i64 c22) := (by simp [F4])
    go_wp2_with fail
    refine hK.out _ _ hSS (fun hHeld => ?_)
    clear hK K
    try simp only [Act.put, List.getElem_toArray, List.getElem_cons_succ, List.getElem_cons_zero, List.setIfInBounds_toArray, List.set_cons_zero, List.set_cons_succ]
    refine wpAnyH_take (i := 3) (v := ?vo1l23) rfl (by kernel_rfl) (by kernel_rfl) (by kernel_rfl) (fun _ _ _ h => h) (Or.inl ⟨by rfl, ?ho1l23⟩) (by assumption) ?ro1l23
    case ho1l23 => (intro w hSw; (try dsimp only at hSw); go_simp; (try with_reducible rfl))
    try simp only [Act.put, List.getElem_toArray, List.getElem_cons_succ, List.getElem_cons_zero, List.setIfInBounds_toArray, List.set_cons_zero, List.set_cons_succ]
    refine wpAnyH_done (by kernel_rfl) ?_ _
    go_wp2_with fail
    refine (isnone_yes _ _ _ _ _ rfl rfl).mono ?_
    rintro e w11 ⟨rfl, hB11⟩
    have D11 := dstep w hB11 (by repeat (first | with_reducible exact D4 | with_reducible apply bdrew | with_reducible apply bdrewN | with_reducible apply balloc | ((with_reducible refine bset ?_ ?_ _); rotate_left; (first | omega | (simp <;> omega)))))
    have d11s := D11.size
    have Ew2_11 := dstep w2 hB11 (by repeat (first | with_reducible exact Ew2_4 | with_reducible apply bdrew | with_reducible apply bdrewN | with_reducible apply balloc | ((with_reducible refine bset ?_ ?_ _); rotate_left; (first | omega | (simp <;> omega)))))
    have C11 := Cls.below (l := [(w.heap.size, 0, .slice AR m cr), (w.heap.size, 1, .slice AB mb cb), (w.heap.size, 2, .slice AO n co), (w2.heap.size, 0, .int .i64 0), (w2.heap.size, 1, .int .i64 0), (w2.heap.size, 2, .int .i64 0), (w2.heap.size, 3, .slice Ax2 0 0), (w2.heap.size, 4, .int .i64 0), (w2.heap.size, 5, .slice Ay2 0 0), (w2.heap.size, 6, .int .i64 0), (w2.heap.size, 7, .slice Ar2 0 0), (w2.heap.size, 8, .int .i64 0), (w2.heap.size + 1, 0, .int .i64 c2), (w2.heap.size + 1, 1, .int .i64 c22), (w3.heap.size, 0, .int .i64 c2), (w3.heap.size, 1, .int .i64 c22), (w4.heap.size, 0, .int .i64 0), (w4.heap.size, 1, .int .i64 0)]) hB11 (by simp [Cls, go_sem, F4, y4w0, y4wp1, y4wp2, y4w21, y4w20, y4w2p1, y4w2p2, y4w30, y4w3p1, y4w3p2])
    have F11 := C11
    simp only [Cls, and_true] at F11
    have y11w0 : w.heap.size < w11.heap.size := C11.blk (b := w.heap.size) (k := 0) (v := .slice AR m cr) (by simp)
    have y11wp1 : w.heap.size < w11.heap.size + 1 := (by omega)
    have y11wp2 : w.heap.size < w11.heap.size + 1 + 1 := (by omega)
    have y11w21 : w2.heap.size + 1 < w11.heap.size := C11.blk (b := w2.heap.size + 1) (k := 0) (v := .int .i64 c2) (by simp)
    have y11w20 : w2.heap.size < w11.heap.size := (by omega)
    have y11w2p1 : w2.heap.size < w11.heap.size + 1 := (by omega)
    have y11w2p2 : w2.heap.size < w11.heap.size + 1 + 1 := (by omega)
    have y11w30 : w3.heap.size < w11.heap.size := C11.blk (b := w3.heap.size) (k := 0) (v := .int .i64 c2) (by simp)
    have y11w3p1 : w3.heap.size < w11.heap.size + 1 := (by omega)
    have y11w3p2 : w3.heap.size < w11.heap.size + 1 + 1 := (by omega)
    have y11w40 : w4.heap.size < w11.heap.size := C11.blk (b := w4.heap.size) (k := 0) (v := .int .i64 0) (by simp)
    have y11w4p1 : w4.heap.size < w11.heap.size + 1 := (by omega)
    have y11w4p2 : w4.heap.size < w11.heap.size + 1 + 1 := (by omega)
    go_wp2_with fail
    refine (isnone_yes _ _ _ _ _ rfl rfl).mono ?_
    rintro e w12 ⟨rfl, hB12⟩
    have D12 := dstep w hB12 (by repeat (first | with_reducible exact D11 | with_reducible apply bdrew | with_reducible apply bdrewN | with_reducible apply balloc | ((with_reducible refine bset ?_ ?_ _); rotate_left; (first | omega | (simp <;> omega)))))
    have d12s := D12.size
    have Ew2_12 := dstep w2 hB12 (by repeat (first | with_reducible exact Ew2_11 | with_reducible apply bdrew | with_reducible apply bdrewN | with_reducible apply balloc | ((with_reducible refine bset ?_ ?_ _); rotate_left; (first | omega | (simp <;> omega)))))
    have C12 := Cls.below (l := [(w.heap.size, 0, .slice AR m cr), (w.heap.size, 1, .slice AB mb cb), (w.heap.size, 2, .slice AO n co), (w2.heap.size, 0, .int .i64 0), (w2.heap.size, 1, .int .i64 0), (w2.heap.size, 2, .int .i64 0), (w2.heap.size, 3, .slice Ax2 0 0), (w2.heap.size, 4, .int .i64 0), (w2.heap.size, 5, .slice Ay2 0 0), (w2.heap.size, 6, .int .i64 0), (w2.heap.size, 7, .slice Ar2 0 0), (w2.heap.size, 8, .int .i64 0), (w2.heap.size + 1, 0, .int .i64 c2), (w2.heap.size + 1, 1, .int .i64 c22), (w3.heap.size, 0, .int .i64 c2), (w3.heap.size, 1, .int .i64 c22), (w4.heap.size, 0, .int .i64 0), (w4.heap.size, 1, .int .i64 0)]) hB12 (by simp [Cls, go_sem, F11, y11w0, y11wp1, y11wp2, y11w21, y11w20, y11w2p1, y11w2p2, y11w30, y11w3p1, y11w3p2, y11w40, y11w4p1, y11w4p2])
    have F12 := C12
    simp only [Cls, and_true] at F12
    have y12w0 : w.heap.size < w12.heap.size := C12.blk (b := w.heap.size) (k := 0) (v := .slice AR m cr) (by simp)
    have y12wp1 : w.heap.size < w12.heap.size + 1 := (by omega)
    have y12wp2 : w.heap.size < w12.heap.size + 1 + 1 := (by omega)
    have y12w21 : w2.heap.size + 1 < w12.heap.size := C12.blk (b := w2.heap.size + 1) (k := 0) (v := .int .i64 c2) (by simp)
    have y12w20 : w2.heap.size < w12.heap.size := (by omega)
    have y12w2p1 : w2.heap.size < w12.heap.size + 1 := (by omega)
    have y12w2p2 : w2.heap.size < w12.heap.size + 1 + 1 := (by omega)
    have y12w30 : w3.heap.size < w12.heap.size := C12.blk (b := w3.heap.size) (k := 0) (v := .int .i64 c2) (by simp)
    have y12w3p1 : w3.heap.size < w12.heap.size + 1 := (by omega)
    have y12w3p2 : w3.heap.size < w12.heap.size + 1 + 1 := (by omega)
    have y12w40 : w4.heap.size < w12.heap.size := C12.blk (b := w4.heap.size) (k := 0) (v := .int .i64 0) (by simp)
    have y12w4p1 : w4.heap.size < w12.heap.size + 1 := (by omega)
    have y12w4p2 : w4.heap.size < w12.heap.size + 1 + 1 := (by omega)
    go_wp2_with fail
    refine (isnone_yes _ _ _ _ _ rfl rfl).mono ?_
    rintro e w13 ⟨rfl, hB13⟩
    have D13 := dstep w hB13 (by repeat (first | with_reducible exact D12 | with_reducible apply bdrew | with_reducible apply bdrewN | with_reducible apply balloc | ((with_reducible refine bset ?_ ?_ _); rotate_left; (first | omega | (simp <;> omega)))))
    have d13s := D13.size
    have Ew2_13 := dstep w2 hB13 (by repeat (first | with_reducible exact Ew2_12 | with_reducible apply bdrew | with_reducible apply bdrewN | with_reducible apply balloc | ((with_reducible refine bset ?_ ?_ _); rotate_left; (first | omega | (simp <;> omega)))))
    have C13 := Cls.below (l := [(w.heap.size, 0, .slice AR m cr), (w.heap.size, 1, .slice AB mb cb), (w.heap.size, 2, .slice AO n co), (w2.heap.size, 0, .int .i64 0), (w2.heap.size, 1, .int .i64 0), (w2.heap.size, 2, .int .i64 0), (w2.heap.size, 3, .slice Ax2 0 0), (w2.heap.size, 4, .int .i64 0), (w2.heap.size, 5, .slice Ay2 0 0), (w2.heap.size, 6, .int .i64 0), (w2.heap.size, 7, .slice Ar2 0 0), (w2.heap.size, 8, .int .i64 0), (w2.heap.size + 1, 0, .int .i64 c2), (w2.heap.size + 1, 1, .int .i64 c22), (w3.heap.size, 0, .int .i64 c2), (w3.heap.size, 1, .int .i64 c22), (w4.heap.size, 0, .int .i64 0), (w4.heap.size, 1, .int .i64 0)]) hB13 (by simp [Cls, go_sem, F12, y12w0, y12wp1, y12wp2, y12w21, y12w20, y12w2p1, y12w2p2, y12w30, y12w3p1, y12w3p2, y12w40, y12w4p1, y12w4p2])
    have F13 := C13
    simp only [Cls, and_true] at F13
    have y13w0 : w.heap.size < w13.heap.size := C13.blk (b := w.heap.size) (k := 0) (v := .slice AR m cr) (by simp)
    have y13wp1 : w.heap.size < w13.heap.size + 1 := (by omega)
    have y13wp2 : w.heap.size < w13.heap.size + 1 + 1 := (by omega)
    have y13w21 : w2.heap.size + 1 < w13.heap.size := C13.blk (b := w2.heap.size + 1) (k := 0) (v := .int .i64 c2) (by simp)
    have y13w20 : w2.heap.size < w13.heap.size := (by omega)
    have y13w2p1 : w2.heap.size < w13.heap.size + 1 := (by omega)
    have y13w2p2 : w2.heap.size < w13.heap.size + 1 + 1 := (by omega)
    have y13w30 : w3.heap.size < w13.heap.size := C13.blk (b := w3.heap.size) (k := 0) (v := .int .i64 c2) (by simp)
    have y13w3p1 : w3.heap.size < w13.heap.size + 1 := (by omega)
    have y13w3p2 : w3.heap.size < w13.heap.size + 1 + 1 := (by omega)
    have y13w40 : w4.heap.size < w13.heap.size := C13.blk (b := w4.heap.size) (k := 0) (v := .int .i64 0) (by simp)
    have y13w4p1 : w4.heap.size < w13.heap.size + 1 := (by omega)
    have y13w4p2 : w4.heap.size < w13.heap.size + 1 + 1 := (by omega)
    go_wp2
    refine bodyPost_ret (v := .bool true) ?_ rfl ⟨rfl, by repeat (first | with_reducible exact D13 | with_reducible apply bdrew | with_reducible apply bdrewN | with_reducible apply balloc | ((with_reducible refine bset ?_ ?_ _); rotate_left; (first | omega | (simp <;> omega))))⟩
    simp [results, Try.results4, go_sem, F13, y13w0, y13wp1, y13wp2, y13w21, y13w20, y13w2p1, y13w2p2, y13w30, y13w3p1, y13w3p2, y13w40, y13w4p1, y13w4p2]

set_option maxRecDepth 100000 in
set_option maxHeartbeats 8000000 in
theorem walk_lsm_1 (w : World) (AR AB AO : Option Addr) (cr cb co : Nat) (p : LpV) (hM : LpMem w AR AB AO p) (m mb n : Nat) (hrl : Hid (p.rows.length = m)) (hbl : Hid (p.bounds.length = mb)) (hol : Hid (p.obj.length = n)) (hok : LpOk p) :
    Calls Try.prog 4 #[.agg #[.slice AR m cr, .slice AB mb cb, .slice AO n co]] w fun e w' => e = .returned (.bool true) ∧ Below w.heap.size w w' := by
  have HM := Lib.hid hM
  have HOK := Lib.hid hok
  have hmb : mb = m := by rw [← hbl.out, ← hrl.out]; exact hok.b
  subst hmb
  have hm6 : mb ≤ 6 := by have := hok.m; rw [hrl.out] at this; exact this
  have hn6 : n ≤ 6 := by have := hok.n; rw [hol.out] at this; exact this
  have hc : Hid (lpF p = (0, 0)) := Lib.hid (lpF_ok hok)
  clear hM hok
  have HLF : Hid (∀ W : World, Below w.heap.size w W → Calls Try.prog 14 #[.agg #[.slice AR mb cr, .slice AB mb cb, .slice AO n co]] W fun e w' => e = .returned (.agg #[.int .i64 0, .int .i64 0]) ∧ Below W.heap.size W w') := Lib.hid (fun W hB => by
    have h := slfault_any W AR AB AO cr cb co p (HM.out.below hB)
    rw [hrl.out, hbl.out, hol.out, hc.out] at h
    exact h)
  have HLV : Hid (∀ W : World, Below w.heap.size w W → Calls Try.prog 15 #[.agg #[.slice AR mb cr, .slice AB mb cb, .slice AO n co]] W fun e w' => e = .returned (.agg #[.int .i64 0, .int .i64 0]) ∧ Below W.heap.size W w') := Lib.hid (fun W hB => by
    have h := lvalidate_any W AR AB AO cr cb co p (HM.out.below hB)
    rw [hrl.out, hbl.out, hol.out, hc.out] at h
    exact h)
  go_enter Try.func4, Try.ntmps4
  go_wp2_with fail
  refine (lnexample_any _).mono ?_
  rintro e w1 ⟨rfl, hB1⟩
  have D1 := dstep w hB1 (by repeat (first | with_reducible exact Below.refl _ _ | with_reducible apply bdrew | with_reducible apply bdrewN | with_reducible apply balloc | ((with_reducible refine bset ?_ ?_ _); rotate_left; (first | omega | (simp <;> omega)))))
  have d1s := D1.size
  have C1 := Cls.below (l := [(w.heap.size, 0, .slice AR mb cr), (w.heap.size, 1, .slice AB mb cb), (w.heap.size, 2, .slice AO n co)]) hB1 (by simp [Cls, go_sem])
  have F1 := C1
  simp only [Cls, and_true] at F1
  have y1w0 : w.heap.size < w1.heap.size := C1.blk (b := w.heap.size) (k := 0) (v := .slice AR mb cr) (by simp)
  have y1wp1 : w.heap.size < w1.heap.size + 1 := (by omega)
  have y1wp2 : w.heap.size < w1.heap.size + 1 + 1 := (by omega)
  go_wp2_with fail
  refine (solve_any _ AR AB AO cr cb co p (HM.out.below (by repeat (first | with_reducible exact D1 | with_reducible apply bdrew | with_reducible apply bdrewN | with_reducible apply balloc | ((with_reducible refine bset ?_ ?_ _); rotate_left; (first | omega | (simp <;> omega)))))) mb mb n hrl hbl hol).mono ?_
  rintro e w2 ⟨c2, c22, st2, num2, den2, dx2, dy2, dr2, Ax2, Ay2, Ar2, lx2, ly2, lr2, xs2, ys2, rs2, rfl, HF2, HL2, HZ2, HS2, HX2, hB2⟩
  have D2 := dstep w hB2 (by repeat (first | with_reducible exact D1 | with_reducible apply bdrew | with_reducible apply bdrewN | with_reducible apply balloc | ((with_reducible refine bset ?_ ?_ _); rotate_left; (first | omega | (simp <;> omega)))))
  have d2s := D2.size
  have C2 := Cls.below (l := [(w.heap.size, 0, .slice AR mb cr), (w.heap.size, 1, .slice AB mb cb), (w.heap.size, 2, .slice AO n co)]) hB2 (by simp [Cls, go_sem, F1, y1w0, y1wp1, y1wp2])
  have F2 := C2
  simp only [Cls, and_true] at F2
  have y2w0 : w.heap.size < w2.heap.size := C2.blk (b := w.heap.size) (k := 0) (v := .slice AR mb cr) (by simp)
  have y2wp1 : w.heap.size < w2.heap.size + 1 := (by omega)
  have y2wp2 : w.heap.size < w2.heap.size + 1 + 1 := (by omega)
  obtain ⟨hfa, hfb⟩ : c2 = 0 ∧ c22 = 0 := by have h := HF2.out; rw [hc.out] at h; injection h with h1 h2; exact ⟨h1.symm, h2.symm⟩
  subst hfa hfb
  clear HF2
  have HSO := Lib.hid (HS2.out rfl)
  clear HS2 HZ2
  go_wp2_with fail
  refine (HLF.out _ (by repeat (first | with_reducible exact D2 | with_reducible apply bdrew | with_reducible apply bdrewN | with_reducible apply balloc | ((with_reducible refine bset ?_ ?_ _); rotate_left; (first | omega | (simp <;> omega)))))).mono ?_
  rintro e w3 ⟨rfl, hB3⟩
  have D3 := dstep w hB3 (by repeat (first | with_reducible exact D2 | with_reducible apply bdrew | with_reducible apply bdrewN | with_reducible apply balloc | ((with_reducible refine bset ?_ ?_ _); rotate_left; (first | omega | (simp <;> omega)))))
  have d3s := D3.size
  have Ew2_3 := dstep w2 hB3 (by repeat (first | with_reducible exact Below.refl _ _ | with_reducible apply bdrew | with_reducible apply bdrewN | with_reducible apply balloc | ((with_reducible refine bset ?_ ?_ _); rotate_left; (first | omega | (simp <;> omega)))))
  have C3 := Cls.below (l := [(w.heap.size, 0, .slice AR mb cr), (w.heap.size, 1, .slice AB mb cb), (w.heap.size, 2, .slice AO n co), (w2.heap.size, 0, .int .i64 st2), (w2.heap.size, 1, .int .i64 num2), (w2.heap.size, 2, .int .i64 den2), (w2.heap.size, 3, .slice Ax2 lx2 lx2), (w2.heap.size, 4, .int .i64 dx2), (w2.heap.size, 5, .slice Ay2 ly2 ly2), (w2.heap.size, 6, .int .i64 dy2), (w2.heap.size, 7, .slice Ar2 lr2 lr2), (w2.heap.size, 8, .int .i64 dr2), (w2.heap.size + 1, 0, .int .i64 0), (w2.heap.size + 1, 1, .int .i64 0)]) hB3 (by simp [Cls, go_sem, F2, y2w0, y2wp1, y2wp2])
  have F3 := C3
  simp only [Cls, and_true] at F3
  have y3w0 : w.heap.size < w3.heap.size := C3.blk (b := w.heap.size) (k := 0) (v := .slice AR mb cr) (by simp)
  have y3wp1 : w.heap.size < w3.heap.size + 1 := (by omega)
  have y3wp2 : w.heap.size < w3.heap.size + 1 + 1 := (by omega)
  have y3w21 : w2.heap.size + 1 < w3.heap.size := C3.blk (b := w2.heap.size + 1) (k := 0) (v := .int .i64 0) (by simp)
  have y3w20 : w2.heap.size < w3.heap.size := (by omega)
  have y3w2p1 : w2.heap.size < w3.heap.size + 1 := (by omega)
  have y3w2p2 : w2.heap.size < w3.heap.size + 1 + 1 := (by omega)
  go_wp2_with fail
  refine wp_region_held_drew (S := fun W => W.cell? ⟨w.heap.size, 0, none⟩ = some (.slice AR mb cr) ∧ W.cell? ⟨w.heap.size, 1, none⟩ = some (.slice AB mb cb) ∧ W.cell? ⟨w.heap.size, 2, none⟩ = some (.slice AO n co) ∧ W.cell? ⟨w3.heap.size, 0, none⟩ = some (.int .i64 0) ∧ W.cell? ⟨w3.heap.size, 1, none⟩ = some (.int .i64 0)) (by kernel_rfl) (by simp [go_sem, F3, y3w0, y3wp1, y3wp2, y3w21, y3w20, y3w2p1, y3w2p2]) (fun hHeld => ?_)
  refine wpAnyH_take (i := 0) (v := ?vo20) rfl (by kernel_rfl) (by kernel_rfl) (by kernel_rfl) (fun _ _ _ h => h) (Or.inl ⟨by rfl, ?ho20⟩) (by assumption) ?ro20
  case ho20 => (intro w hSw; (try dsimp only at hSw); go_simp; (try with_reducible rfl))
  try simp only [Act.put, List.getElem_toArray, List.getElem_cons_succ, List.getElem_cons_zero, List.setIfInBounds_toArray, List.set_cons_zero, List.set_cons_succ]
  refine wpAnyH_take (i := 2) (v := ?vo22) rfl (by kernel_rfl) (by kernel_rfl) (by kernel_rfl) (fun _ _ _ h => h) (Or.inl ⟨by rfl, ?ho22⟩) (by assumption) ?ro22
  case ho22 => (intro w hSw; (try dsimp only at hSw); go_simp; (try with_reducible rfl))
  try simp only [Act.put, List.getElem_toArray, List.getElem_cons_succ, List.getElem_cons_zero, List.setIfInBounds_toArray, List.set_cons_zero, List.set_cons_succ]
  refine wpAnyH_ready (rs := [1]) (by kernel_rfl) (by simp) ?_
  refine (AllReadyH.cons rfl (fun K hK => ?bo21x1) AllReadyH.nil)
  case bo21x1 =>
    go_simp
    go_at_call 15
    refine (HLV.out _ (by repeat (first | with_reducible exact D3 | with_reducible apply bdrew | with_reducible apply bdrewN | with_reducible apply balloc | ((with_reducible refine bset ?_ ?_ _); rotate_left; (first | omega | (simp <;> omega)))))).mono ?_
    rintro e w4 ⟨rfl, hB4⟩
    have D4 := dstep w hB4 (by repeat (first | with_reducible exact D3 | with_reducible apply bdrew | with_reducible apply bdrewN | with_reducible apply balloc | ((with_reducible refine bset ?_ ?_ _); rotate_left; (first | omega | (simp <;> omega)))))
    have C4 := Cls.below (l := [(w.heap.size, 0, .slice AR mb cr), (w.heap.size, 1, .slice AB mb cb), (w.heap.size, 2, .slice AO n co), (w2.heap.size, 0, .int .i64 st2), (w2.heap.size, 1, .int .i64 num2), (w2.heap.size, 2, .int .i64 den2), (w2.heap.size, 3, .slice Ax2 lx2 lx2), (w2.heap.size, 4, .int .i64 dx2), (w2.heap.size, 5, .slice Ay2 ly2 ly2), (w2.heap.size, 6, .int .i64 dy2), (w2.heap.size, 7, .slice Ar2 lr2 lr2), (w2.heap.size, 8, .int .i64 dr2), (w2.heap.size + 1, 0, .int .i64 0), (w2.heap.size + 1, 1, .int .i64 0), (w3.heap.size, 0, .int .i64 0), (w3.heap.size, 1, .int .i64 0)]) hB4 (by simp [Cls, go_sem, F3, y3w0, y3wp1, y3wp2, y3w21, y3w20, y3w2p1, y3w2p2])
    have Ew2_4 := dstep w2 hB4 (by repeat (first | with_reducible exact Ew2_3 | with_reducible apply bdrew | with_reducible apply bdrewN | with_reducible apply balloc | ((with_reducible refine bset ?_ ?_ _); rotate_left; (first | omega | (simp <;> omega)))))
    have F4 := C4
    simp only [Cls, and_true] at F4
    have y4w0 : w.heap.size < w4.heap.size := C4.blk (b := w.heap.size) (k := 0) (v := .slice AR mb cr) (by simp)
    have y4wp1 : w.heap.size < w4.heap.size + 1 := (by omega)
    have y4wp2 : w.heap.size < w4.heap.size + 1 + 1 := (by omega)
    have y4w21 : w2.heap.size + 1 < w4.heap.size := C4.blk (b := w2.heap.size + 1) (k := 0) (v := .int .i64 0) (by simp)
    have y4w20 : w2.heap.size < w4.heap.size := (by omega)
    have y4w2p1 : w2.heap.size < w4.heap.size + 1 := (by omega)
    have y4w2p2 : w2.heap.size < w4.heap.size + 1 + 1 := (by omega)
    have y4w30 : w3.heap.size < w4.heap.size := C4.blk (b := w3.heap.size) (k := 0) (v := .int .i64 0) (by simp)
    have y4w3p1 : w3.heap.size < w4.heap.size + 1 := (by omega)
    have y4w3p2 : w3.heap.size < w4.heap.size + 1 + 1 := (by omega)
    have hSS : w4.cell? ⟨w.heap.size, 0, none⟩ = some (.slice AR mb cr) ∧ w4.cell? ⟨w.heap.size, 1, none⟩ = some (.slice AB mb cb) ∧ w4.cell? ⟨w.heap.size, 2, none⟩ = some (.slice AO n co) ∧ w4.cell? ⟨w3.heap.size, 0, none⟩ = some (.int .i64 0) ∧ w4.cell? ⟨w3.heap.size, 1, none⟩ = some (.int .i64 0) := (by simp [F4])
    go_wp2_with fail
    refine hK.out _ _ hSS (fun hHeld => ?_)
    clear hK K
    try simp only [Act.put, List.getElem_toArray, List.getElem_cons_succ, List.getElem_cons_zero, List.setIfInBounds_toArray, List.set_cons_zero, List.set_cons_succ]
    refine wpAnyH_take (i := 3) (v := ?vo2l23) rfl (by kernel_rfl) (by kernel_rfl) (by kernel_rfl) (fun _ _ _ h => h) (Or.inl ⟨by rfl, ?ho2l23⟩) (by assumption) ?ro2l23
    case ho2l23 => (intro w hSw; (try dsimp only at hSw); go_simp; (try with_reducible rfl))
    try simp only [Act.put, List.getElem_toArray, List.getElem_cons_succ, List.getElem_cons_zero, List.setIfInBounds_toArray, List.set_cons_zero, List.set_cons_succ]
    refine wpAnyH_done (by kernel_rfl) ?_ _
    go_wp2_with fail
    go_quiet (fail)
    go_wp2_with fail
    refine (linvalue_any _ AR AB AO cr cb co p (HM.out.below (by repeat (first | with_reducible exact D4 | with_reducible apply bdrew | with_reducible apply bdrewN | with_reducible apply balloc | ((with_reducible refine bset ?_ ?_ _); rotate_left; (first | omega | (simp <;> omega)))))) HOK.out mb n hrl hbl hol hm6 hn6).mono ?_
    rintro e w5 ⟨stv, numv, denv, rfl, hval, hbd, hB5⟩
    have D5 := dstep w hB5 (by repeat (first | with_reducible exact D4 | with_reducible apply bdrew | with_reducible apply bdrewN | with_reducible apply balloc | ((with_reducible refine bset ?_ ?_ _); rotate_left; (first | omega | (simp <;> omega)))))
    have d5s := D5.size
    have Ew2_5 := dstep w2 hB5 (by repeat (first | with_reducible exact Ew2_4 | with_reducible apply bdrew | with_reducible apply bdrewN | with_reducible apply balloc | ((with_reducible refine bset ?_ ?_ _); rotate_left; (first | omega | (simp <;> omega)))))
    have C5 := Cls.below (l := [(w.heap.size, 0, .slice AR mb cr), (w.heap.size, 1, .slice AB mb cb), (w.heap.size, 2, .slice AO n co), (w2.heap.size, 0, .int .i64 st2), (w2.heap.size, 1, .int .i64 num2), (w2.heap.size, 2, .int .i64 den2), (w2.heap.size, 3, .slice Ax2 lx2 lx2), (w2.heap.size, 4, .int .i64 dx2), (w2.heap.size, 5, .slice Ay2 ly2 ly2), (w2.heap.size, 6, .int .i64 dy2), (w2.heap.size, 7, .slice Ar2 lr2 lr2), (w2.heap.size, 8, .int .i64 dr2), (w2.heap.size + 1, 0, .int .i64 0), (w2.heap.size + 1, 1, .int .i64 0), (w3.heap.size, 0, .int .i64 0), (w3.heap.size, 1, .int .i64 0), (w4.heap.size, 0, .int .i64 0), (w4.heap.size, 1, .int .i64 0)]) hB5 (by simp [Cls, go_sem, F4, y4w0, y4wp1, y4wp2, y4w21, y4w20, y4w2p1, y4w2p2, y4w30, y4w3p1, y4w3p2])
    have F5 := C5
    simp only [Cls, and_true] at F5
    have y5w0 : w.heap.size < w5.heap.size := C5.blk (b := w.heap.size) (k := 0) (v := .slice AR mb cr) (by simp)
    have y5wp1 : w.heap.size < w5.heap.size + 1 := (by omega)
    have y5wp2 : w.heap.size < w5.heap.size + 1 + 1 := (by omega)
    have y5w21 : w2.heap.size + 1 < w5.heap.size := C5.blk (b := w2.heap.size + 1) (k := 0) (v := .int .i64 0) (by simp)
    have y5w20 : w2.heap.size < w5.heap.size := (by omega)
    have y5w2p1 : w2.heap.size < w5.heap.size + 1 := (by omega)
    have y5w2p2 : w2.heap.size < w5.heap.size + 1 + 1 := (by omega)
    have y5w30 : w3.heap.size < w5.heap.size := C5.blk (b := w3.heap.size) (k := 0) (v := .int .i64 0) (by simp)
    have y5w3p1 : w3.heap.size < w5.heap.size + 1 := (by omega)
    have y5w3p2 : w3.heap.size < w5.heap.size + 1 + 1 := (by omega)
    have y5w40 : w4.heap.size < w5.heap.size := C5.blk (b := w4.heap.size) (k := 0) (v := .int .i64 0) (by simp)
    have y5w4p1 : w4.heap.size < w5.heap.size + 1 := (by omega)
    have y5w4p2 : w4.heap.size < w5.heap.size + 1 + 1 := (by omega)
    obtain ⟨hst, hnd⟩ := hval _ _ _ HSO.out.out
    subst hst
    obtain ⟨hbd1, hbd2, hbd3, hbd4⟩ := hbd
    have hstb : (stv != stv) = false := by simp
    have HNB := Lib.hid hnd
    obtain ⟨hLx, hLy, hLr⟩ := HL2.out
    clear hval hnd
    rcases HSO.out with ⟨rfl, hop, hr1, hr2⟩ | ⟨rfl, rfl, rfl, hx1, hx2, hr1, hr2, hvy, href⟩ | ⟨rfl, rfl, rfl, hy1, hy2, hvx, hvr, hpt, hray⟩
    · skip
      have HOP := Lib.hid hop
      obtain ⟨hlow1, hlow2⟩ := HNB.out rfl
      obtain ⟨hL1, hL2, hL3⟩ := low_eq hlow2 HOP.out.dpos hlow1 HOP.out.cop HOP.out.nle HOP.out.dle
      have HLO := Lib.hid (fun (W : World) => by have h := lowest_any numv denv (by omega) (by omega) (by omega) (by omega) (by omega) W; rw [hL1, hL2, hL3] at h; exact h)
      have HVX : Hid (VOk n xs2 dx2) := Lib.hid (by have h := HOP.out.xok; rw [show p.lp.n = n from hol.out] at h; exact h)
      have HVY : Hid (VOk mb ys2 dy2) := Lib.hid (by have h := HOP.out.yok; rw [show p.lp.m = mb from hrl.out] at h; exact h)
      have hlx : lx2 = n := by have := HVX.out.len; omega
      subst hlx
      have hly : ly2 = mb := by have := HVY.out.len; omega
      subst hly
      have hlr0 : lr2 = 0 := by rw [hr1] at hLr; simpa using hLr.symm
      subst hlr0
      subst hr2
      clear hL1 hL2 hL3 hop hr1
      have HCX : Hid (∀ W : World, Below w2.heap.size w2 W → Calls Try.prog 18 #[.agg #[.slice Ax2 lx2 lx2, .int .i64 dx2], .int .i64 lx2] W fun e w' => e = .returned (.int .i64 0) ∧ Below W.heap.size W w') := Lib.hid (fun W hW => by
        have hlen : xs2.length = lx2 := by have := HL2.out; omega
        have h := svcode_any W Ax2 lx2 xs2 dx2 lx2 (HX2.out.1.below hW) (by have := HVX.out.len; omega)
        rw [hlen] at h
        have e : vecC xs2 dx2 (lx2 : Int) = 0 := by have e1 := HVX.out.code; exact e1
        rw [e] at h; exact h)
      have HCY : Hid (∀ W : World, Below w2.heap.size w2 W → Calls Try.prog 18 #[.agg #[.slice Ay2 ly2 ly2, .int .i64 dy2], .int .i64 ly2] W fun e w' => e = .returned (.int .i64 0) ∧ Below W.heap.size W w') := Lib.hid (fun W hW => by
        have hlen : ys2.length = ly2 := by have := HL2.out; omega
        have h := svcode_any W Ay2 ly2 ys2 dy2 ly2 (HX2.out.2.1.below hW) (by have := HVY.out.len; omega)
        rw [hlen] at h
        have e : vecC ys2 dy2 (ly2 : Int) = 0 := by have e1 := HVY.out.code; exact e1
        rw [e] at h; exact h)
      go_wp2_with fail
      refine (HLO.out _).mono ?_
      rintro e w6 ⟨rfl, hB6⟩
      have D6 := dstep w hB6 (by repeat (first | with_reducible exact D5 | with_reducible apply bdrew | with_reducible apply bdrewN | with_reducible apply balloc | ((with_reducible refine bset ?_ ?_ _); rotate_left; (first | omega | (simp <;> omega)))))
      have d6s := D6.size
      have Ew2_6 := dstep w2 hB6 (by repeat (first | with_reducible exact Ew2_5 | with_reducible apply bdrew | with_reducible apply bdrewN | with_reducible apply balloc | ((with_reducible refine bset ?_ ?_ _); rotate_left; (first | omega | (simp <;> omega)))))
      have C6 := Cls.below (l := [(w.heap.size, 0, .slice AR ly2 cr), (w.heap.size, 1, .slice AB ly2 cb), (w.heap.size, 2, .slice AO lx2 co), (w2.heap.size, 0, .int .i64 1), (w2.heap.size, 1, .int .i64 num2), (w2.heap.size, 2, .int .i64 den2), (w2.heap.size, 3, .slice Ax2 lx2 lx2), (w2.heap.size, 4, .int .i64 dx2), (w2.heap.size, 5, .slice Ay2 ly2 ly2), (w2.heap.size, 6, .int .i64 dy2), (w2.heap.size, 7, .slice Ar2 0 0), (w2.heap.size, 8, .int .i64 0), (w2.heap.size + 1, 0, .int .i64 0), (w2.heap.size + 1, 1, .int .i64 0), (w3.heap.size, 0, .int .i64 0), (w3.heap.size, 1, .int .i64 0), (w4.heap.size, 0, .int .i64 0), (w4.heap.size, 1, .int .i64 0)]) hB6 (by simp [Cls, go_sem, F5, y5w0, y5wp1, y5wp2, y5w21, y5w20, y5w2p1, y5w2p2, y5w30, y5w3p1, y5w3p2, y5w40, y5w4p1, y5w4p2])
      have F6 := C6
      simp only [Cls, and_true] at F6
      have y6w0 : w.heap.size < w6.heap.size := C6.blk (b := w.heap.size) (k := 0) (v := .slice AR ly2 cr) (by simp)
      have y6wp1 : w.heap.size < w6.heap.size + 1 := (by omega)
      have y6wp2 : w.heap.size < w6.heap.size + 1 + 1 := (by omega)
      have y6w21 : w2.heap.size + 1 < w6.heap.size := C6.blk (b := w2.heap.size + 1) (k := 0) (v := .int .i64 0) (by simp)
      have y6w20 : w2.heap.size < w6.heap.size := (by omega)
      have y6w2p1 : w2.heap.size < w6.heap.size + 1 := (by omega)
      have y6w2p2 : w2.heap.size < w6.heap.size + 1 + 1 := (by omega)
      have y6w30 : w3.heap.size < w6.heap.size := C6.blk (b := w3.heap.size) (k := 0) (v := .int .i64 0) (by simp)
      have y6w3p1 : w3.heap.size < w6.heap.size + 1 := (by omega)
      have y6w3p2 : w3.heap.size < w6.heap.size + 1 + 1 := (by omega)
      have y6w40 : w4.heap.size < w6.heap.size := C6.blk (b := w4.heap.size) (k := 0) (v := .int .i64 0) (by simp)
      have y6w4p1 : w4.heap.size < w6.heap.size + 1 := (by omega)
      have y6w4p2 : w4.heap.size < w6.heap.size + 1 + 1 := (by omega)
      go_wp2_with fail
      refine (isnone_yes _ _ _ _ _ rfl rfl).mono ?_
      rintro e w7 ⟨rfl, hB7⟩
      have D7 := dstep w hB7 (by repeat (first | with_reducible exact D6 | with_reducible apply bdrew | with_reducible apply bdrewN | with_reducible apply balloc | ((with_reducible refine bset ?_ ?_ _); rotate_left; (first | omega | (simp <;> omega)))))
      have d7s := D7.size
      have Ew2_7 := dstep w2 hB7 (by repeat (first | with_reducible exact Ew2_6 | with_reducible apply bdrew | with_reducible apply bdrewN | with_reducible apply balloc | ((with_reducible refine bset ?_ ?_ _); rotate_left; (first | omega | (simp <;> omega)))))
      have C7 := Cls.below (l := [(w.heap.size, 0, .slice AR ly2 cr), (w.heap.size, 1, .slice AB ly2 cb), (w.heap.size, 2, .slice AO lx2 co), (w2.heap.size, 0, .int .i64 1), (w2.heap.size, 1, .int .i64 num2), (w2.heap.size, 2, .int .i64 den2), (w2.heap.size, 3, .slice Ax2 lx2 lx2), (w2.heap.size, 4, .int .i64 dx2), (w2.heap.size, 5, .slice Ay2 ly2 ly2), (w2.heap.size, 6, .int .i64 dy2), (w2.heap.size, 7, .slice Ar2 0 0), (w2.heap.size, 8, .int .i64 0), (w2.heap.size + 1, 0, .int .i64 0), (w2.heap.size + 1, 1, .int .i64 0), (w3.heap.size, 0, .int .i64 0), (w3.heap.size, 1, .int .i64 0), (w4.heap.size, 0, .int .i64 0), (w4.heap.size, 1, .int .i64 0), (w6.heap.size, 0, .int .i64 num2), (w6.heap.size, 1, .int .i64 den2)]) hB7 (by simp [Cls, go_sem, F6, y6w0, y6wp1, y6wp2, y6w21, y6w20, y6w2p1, y6w2p2, y6w30, y6w3p1, y6w3p2, y6w40, y6w4p1, y6w4p2])
      have F7 := C7
      simp only [Cls, and_true] at F7
      have y7w0 : w.heap.size < w7.heap.size := C7.blk (b := w.heap.size) (k := 0) (v := .slice AR ly2 cr) (by simp)
      have y7wp1 : w.heap.size < w7.heap.size + 1 := (by omega)
      have y7wp2 : w.heap.size < w7.heap.size + 1 + 1 := (by omega)
      have y7w21 : w2.heap.size + 1 < w7.heap.size := C7.blk (b := w2.heap.size + 1) (k := 0) (v := .int .i64 0) (by simp)
      have y7w20 : w2.heap.size < w7.heap.size := (by omega)
      have y7w2p1 : w2.heap.size < w7.heap.size + 1 := (by omega)
      have y7w2p2 : w2.heap.size < w7.heap.size + 1 + 1 := (by omega)
      have y7w30 : w3.heap.size < w7.heap.size := C7.blk (b := w3.heap.size) (k := 0) (v := .int .i64 0) (by simp)
      have y7w3p1 : w3.heap.size < w7.heap.size + 1 := (by omega)
      have y7w3p2 : w3.heap.size < w7.heap.size + 1 + 1 := (by omega)
      have y7w40 : w4.heap.size < w7.heap.size := C7.blk (b := w4.heap.size) (k := 0) (v := .int .i64 0) (by simp)
      have y7w4p1 : w4.heap.size < w7.heap.size + 1 := (by omega)
      have y7w4p2 : w4.heap.size < w7.heap.size + 1 + 1 := (by omega)
      have y7w60 : w6.heap.size < w7.heap.size := C7.blk (b := w6.heap.size) (k := 0) (v := .int .i64 num2) (by simp)
      have y7w6p1 : w6.heap.size < w7.heap.size + 1 := (by omega)
      have y7w6p2 : w6.heap.size < w7.heap.size + 1 + 1 := (by omega)
      go_wp2_with fail
      refine (HCX.out _ (by repeat (first | with_reducible exact Ew2_7 | with_reducible apply bdrew | with_reducible apply bdrewN | with_reducible apply balloc | ((with_reducible refine bset ?_ ?_ _); rotate_left; (first | omega | (simp <;> omega)))))).mono ?_
      rintro e w8 ⟨rfl, hB8⟩
      have D8 := dstep w hB8 (by repeat (first | with_reducible exact D7 | with_reducible apply bdrew | with_reducible apply bdrewN | with_reducible apply balloc | ((with_reducible refine bset ?_ ?_ _); rotate_left; (first | omega | (simp <;> omega)))))
      have d8s := D8.size
      have Ew2_8 := dstep w2 hB8 (by repeat (first | with_reducible exact Ew2_7 | with_reducible apply bdrew | with_reducible apply bdrewN | with_reducible apply balloc | ((with_reducible refine bset ?_ ?_ _); rotate_left; (first | omega | (simp <;> omega)))))
      have C8 := Cls.below (l := [(w.heap.size, 0, .slice AR ly2 cr), (w.heap.size, 1, .slice AB ly2 cb), (w.heap.size, 2, .slice AO lx2 co), (w2.heap.size, 0, .int .i64 1), (w2.heap.size, 1, .int .i64 num2), (w2.heap.size, 2, .int .i64 den2), (w2.heap.size, 3, .slice Ax2 lx2 lx2), (w2.heap.size, 4, .int .i64 dx2), (w2.heap.size, 5, .slice Ay2 ly2 ly2), (w2.heap.size, 6, .int .i64 dy2), (w2.heap.size, 7, .slice Ar2 0 0), (w2.heap.size, 8, .int .i64 0), (w2.heap.size + 1, 0, .int .i64 0), (w2.heap.size + 1, 1, .int .i64 0), (w3.heap.size, 0, .int .i64 0), (w3.heap.size, 1, .int .i64 0), (w4.heap.size, 0, .int .i64 0), (w4.heap.size, 1, .int .i64 0), (w6.heap.size, 0, .int .i64 num2), (w6.heap.size, 1, .int .i64 den2)]) hB8 (by simp [Cls, go_sem, F7, y7w0, y7wp1, y7wp2, y7w21, y7w20, y7w2p1, y7w2p2, y7w30, y7w3p1, y7w3p2, y7w40, y7w4p1, y7w4p2, y7w60, y7w6p1, y7w6p2])
      have F8 := C8
      simp only [Cls, and_true] at F8
      have y8w0 : w.heap.size < w8.heap.size := C8.blk (b := w.heap.size) (k := 0) (v := .slice AR ly2 cr) (by simp)
      have y8wp1 : w.heap.size < w8.heap.size + 1 := (by omega)
      have y8wp2 : w.heap.size < w8.heap.size + 1 + 1 := (by omega)
      have y8w21 : w2.heap.size + 1 < w8.heap.size := C8.blk (b := w2.heap.size + 1) (k := 0) (v := .int .i64 0) (by simp)
      have y8w20 : w2.heap.size < w8.heap.size := (by omega)
      have y8w2p1 : w2.heap.size < w8.heap.size + 1 := (by omega)
      have y8w2p2 : w2.heap.size < w8.heap.size + 1 + 1 := (by omega)
      have y8w30 : w3.heap.size < w8.heap.size := C8.blk (b := w3.heap.size) (k := 0) (v := .int .i64 0) (by simp)
      have y8w3p1 : w3.heap.size < w8.heap.size + 1 := (by omega)
      have y8w3p2 : w3.heap.size < w8.heap.size + 1 + 1 := (by omega)
      have y8w40 : w4.heap.size < w8.heap.size := C8.blk (b := w4.heap.size) (k := 0) (v := .int .i64 0) (by simp)
      have y8w4p1 : w4.heap.size < w8.heap.size + 1 := (by omega)
      have y8w4p2 : w4.heap.size < w8.heap.size + 1 + 1 := (by omega)
      have y8w60 : w6.heap.size < w8.heap.size := C8.blk (b := w6.heap.size) (k := 0) (v := .int .i64 num2) (by simp)
      have y8w6p1 : w6.heap.size < w8.heap.size + 1 := (by omega)
      have y8w6p2 : w6.heap.size < w8.heap.size + 1 + 1 := (by omega)
      go_wp2_with fail
      refine (HCY.out _ (by repeat (first | with_reducible exact Ew2_8 | with_reducible apply bdrew | with_reducible apply bdrewN | with_reducible apply balloc | ((with_reducible refine bset ?_ ?_ _); rotate_left; (first | omega | (simp <;> omega)))))).mono ?_
      rintro e w9 ⟨rfl, hB9⟩
      have D9 := dstep w hB9 (by repeat (first | with_reducible exact D8 | with_reducible apply bdrew | with_reducible apply bdrewN | with_reducible apply balloc | ((with_reducible refine bset ?_ ?_ _); rotate_left; (first | omega | (simp <;> omega)))))
      have d9s := D9.size
      have Ew2_9 := dstep w2 hB9 (by repeat (first | with_reducible exact Ew2_8 | with_reducible apply bdrew | with_reducible apply bdrewN | with_reducible apply balloc | ((with_reducible refine bset ?_ ?_ _); rotate_left; (first | omega | (simp <;> omega)))))
      have C9 := Cls.below (l := [(w.heap.size, 0, .slice AR ly2 cr), (w.heap.size, 1, .slice AB ly2 cb), (w.heap.size, 2, .slice AO lx2 co), (w2.heap.size, 0, .int .i64 1), (w2.heap.size, 1, .int .i64 num2), (w2.heap.size, 2, .int .i64 den2), (w2.heap.size, 3, .slice Ax2 lx2 lx2), (w2.heap.size, 4, .int .i64 dx2), (w2.heap.size, 5, .slice Ay2 ly2 ly2), (w2.heap.size, 6, .int .i64 dy2), (w2.heap.size, 7, .slice Ar2 0 0), (w2.heap.size, 8, .int .i64 0), (w2.heap.size + 1, 0, .int .i64 0), (w2.heap.size + 1, 1, .int .i64 0), (w3.heap.size, 0, .int .i64 0), (w3.heap.size, 1, .int .i64 0), (w4.heap.size, 0, .int .i64 0), (w4.heap.size, 1, .int .i64 0), (w6.heap.size, 0, .int .i64 num2), (w6.heap.size, 1, .int .i64 den2)]) hB9 (by simp [Cls, go_sem, F8, y8w0, y8wp1, y8wp2, y8w21, y8w20, y8w2p1, y8w2p2, y8w30, y8w3p1, y8w3p2, y8w40, y8w4p1, y8w4p2, y8w60, y8w6p1, y8w6p2])
      have F9 := C9
      simp only [Cls, and_true] at F9
      have y9w0 : w.heap.size < w9.heap.size := C9.blk (b := w.heap.size) (k := 0) (v := .slice AR ly2 cr) (by simp)
      have y9wp1 : w.heap.size < w9.heap.size + 1 := (by omega)
      have y9wp2 : w.heap.size < w9.heap.size + 1 + 1 := (by omega)
      have y9w21 : w2.heap.size + 1 < w9.heap.size := C9.blk (b := w2.heap.size + 1) (k := 0) (v := .int .i64 0) (by simp)
      have y9w20 : w2.heap.size < w9.heap.size := (by omega)
      have y9w2p1 : w2.heap.size < w9.heap.size + 1 := (by omega)
      have y9w2p2 : w2.heap.size < w9.heap.size + 1 + 1 := (by omega)
      have y9w30 : w3.heap.size < w9.heap.size := C9.blk (b := w3.heap.size) (k := 0) (v := .int .i64 0) (by simp)
      have y9w3p1 : w3.heap.size < w9.heap.size + 1 := (by omega)
      have y9w3p2 : w3.heap.size < w9.heap.size + 1 + 1 := (by omega)
      have y9w40 : w4.heap.size < w9.heap.size := C9.blk (b := w4.heap.size) (k := 0) (v := .int .i64 0) (by simp)
      have y9w4p1 : w4.heap.size < w9.heap.size + 1 := (by omega)
      have y9w4p2 : w4.heap.size < w9.heap.size + 1 + 1 := (by omega)
      have y9w60 : w6.heap.size < w9.heap.size := C9.blk (b := w6.heap.size) (k := 0) (v := .int .i64 num2) (by simp)
      have y9w6p1 : w6.heap.size < w9.heap.size + 1 := (by omega)
      have y9w6p2 : w6.heap.size < w9.heap.size + 1 + 1 := (by omega)
      go_wp2_with fail
      refine (spoint_any _ AR AB AO cr cb co p (HM.out.below (by repeat (first | with_reducible exact D9 | with_reducible apply bdrew | with_reducible apply bdrewN | with_reducible apply balloc | ((with_reducible refine bset ?_ ?_ _); rotate_left; (first | omega | (simp <;> omega)))))) HOK.out ly2 lx2 hrl hbl hol hm6 hn6 Ax2 lx2 xs2 dx2 HVX.out (HX2.out.1.below (by repeat (first | with_reducible exact Ew2_9 | with_reducible apply bdrew | with_reducible apply bdrewN | with_reducible apply balloc | ((with_reducible refine bset ?_ ?_ _); rotate_left; (first | omega | (simp <;> omega))))))).mono ?_
      rintro e w10 ⟨ok1, rfl, HK1, hB10⟩
      have D10 := dstep w hB10 (by repeat (first | with_reducible exact D9 | with_reducible apply bdrew | with_reducible apply bdrewN | with_reducible apply balloc | ((with_reducible refine bset ?_ ?_ _); rotate_left; (first | omega | (simp <;> omega)))))
      have d10s := D10.size
      have Ew2_10 := dstep w2 hB10 (by repeat (first | with_reducible exact Ew2_9 | with_reducible apply bdrew | with_reducible apply bdrewN | with_reducible apply balloc | ((with_reducible refine bset ?_ ?_ _); rotate_left; (first | omega | (simp <;> omega)))))
      have C10 := Cls.below (l := [(w.heap.size, 0, .slice AR ly2 cr), (w.heap.size, 1, .slice AB ly2 cb), (w.heap.size, 2, .slice AO lx2 co), (w2.heap.size, 0, .int .i64 1), (w2.heap.size, 1, .int .i64 num2), (w2.heap.size, 2, .int .i64 den2), (w2.heap.size, 3, .slice Ax2 lx2 lx2), (w2.heap.size, 4, .int .i64 dx2), (w2.heap.size, 5, .slice Ay2 ly2 ly2), (w2.heap.size, 6, .int .i64 dy2), (w2.heap.size, 7, .slice Ar2 0 0), (w2.heap.size, 8, .int .i64 0), (w2.heap.size + 1, 0, .int .i64 0), (w2.heap.size + 1, 1, .int .i64 0), (w3.heap.size, 0, .int .i64 0), (w3.heap.size, 1, .int .i64 0), (w4.heap.size, 0, .int .i64 0), (w4.heap.size, 1, .int .i64 0), (w6.heap.size, 0, .int .i64 num2), (w6.heap.size, 1, .int .i64 den2)]) hB10 (by simp [Cls, go_sem, F9, y9w0, y9wp1, y9wp2, y9w21, y9w20, y9w2p1, y9w2p2, y9w30, y9w3p1, y9w3p2, y9w40, y9w4p1, y9w4p2, y9w60, y9w6p1, y9w6p2])
      have F10 := C10
      simp only [Cls, and_true] at F10
      have y10w0 : w.heap.size < w10.heap.size := C10.blk (b := w.heap.size) (k := 0) (v := .slice AR ly2 cr) (by simp)
      have y10wp1 : w.heap.size < w10.heap.size + 1 := (by omega)
      have y10wp2 : w.heap.size < w10.heap.size + 1 + 1 := (by omega)
      have y10w21 : w2.heap.size + 1 < w10.heap.size := C10.blk (b := w2.heap.size + 1) (k := 0) (v := .int .i64 0) (by simp)
      have y10w20 : w2.heap.size < w10.heap.size := (by omega)
      have y10w2p1 : w2.heap.size < w10.heap.size + 1 := (by omega)
      have y10w2p2 : w2.heap.size < w10.heap.size + 1 + 1 := (by omega)
      have y10w30 : w3.heap.size < w10.heap.size := C10.blk (b := w3.heap.size) (k := 0) (v := .int .i64 0) (by simp)
      have y10w3p1 : w3.heap.size < w10.heap.size + 1 := (by omega)
      have y10w3p2 : w3.heap.size < w10.heap.size + 1 + 1 := (by omega)
      have y10w40 : w4.heap.size < w10.heap.size := C10.blk (b := w4.heap.size) (k := 0) (v := .int .i64 0) (by simp)
      have y10w4p1 : w4.heap.size < w10.heap.size + 1 := (by omega)
      have y10w4p2 : w4.heap.size < w10.heap.size + 1 + 1 := (by omega)
      have y10w60 : w6.heap.size < w10.heap.size := C10.blk (b := w6.heap.size) (k := 0) (v := .int .i64 num2) (by simp)
      have y10w6p1 : w6.heap.size < w10.heap.size + 1 := (by omega)
      have y10w6p2 : w6.heap.size < w10.heap.size + 1 + 1 := (by omega)
      obtain rfl : ok1 = true := HK1.out.2 HOP.out.px
      clear HK1
      go_wp2_with fail
      refine (sdual_any _ AR AB AO cr cb co p (HM.out.below (by repeat (first | with_reducible exact D10 | with_reducible apply bdrew | with_reducible apply bdrewN | with_reducible apply balloc | ((with_reducible refine bset ?_ ?_ _); rotate_left; (first | omega | (simp <;> omega)))))) HOK.out ly2 lx2 hrl hbl hol hm6 hn6 Ay2 ly2 ys2 dy2 HVY.out (HX2.out.2.1.below (by repeat (first | with_reducible exact Ew2_10 | with_reducible apply bdrew | with_reducible apply bdrewN | with_reducible apply balloc | ((with_reducible refine bset ?_ ?_ _); rotate_left; (first | omega | (simp <;> omega))))))).mono ?_
      rintro e w11 ⟨ok2, rfl, HK2, hB11⟩
      have D11 := dstep w hB11 (by repeat (first | with_reducible exact D10 | with_reducible apply bdrew | with_reducible apply bdrewN | with_reducible apply balloc | ((with_reducible refine bset ?_ ?_ _); rotate_left; (first | omega | (simp <;> omega)))))
      have d11s := D11.size
      have Ew2_11 := dstep w2 hB11 (by repeat (first | with_reducible exact Ew2_10 | with_reducible apply bdrew | with_reducible apply bdrewN | with_reducible apply balloc | ((with_reducible refine bset ?_ ?_ _); rotate_left; (first | omega | (simp <;> omega)))))
      have C11 := Cls.below (l := [(w.heap.size, 0, .slice AR ly2 cr), (w.heap.size, 1, .slice AB ly2 cb), (w.heap.size, 2, .slice AO lx2 co), (w2.heap.size, 0, .int .i64 1), (w2.heap.size, 1, .int .i64 num2), (w2.heap.size, 2, .int .i64 den2), (w2.heap.size, 3, .slice Ax2 lx2 lx2), (w2.heap.size, 4, .int .i64 dx2), (w2.heap.size, 5, .slice Ay2 ly2 ly2), (w2.heap.size, 6, .int .i64 dy2), (w2.heap.size, 7, .slice Ar2 0 0), (w2.heap.size, 8, .int .i64 0), (w2.heap.size + 1, 0, .int .i64 0), (w2.heap.size + 1, 1, .int .i64 0), (w3.heap.size, 0, .int .i64 0), (w3.heap.size, 1, .int .i64 0), (w4.heap.size, 0, .int .i64 0), (w4.heap.size, 1, .int .i64 0), (w6.heap.size, 0, .int .i64 num2), (w6.heap.size, 1, .int .i64 den2)]) hB11 (by simp [Cls, go_sem, F10, y10w0, y10wp1, y10wp2, y10w21, y10w20, y10w2p1, y10w2p2, y10w30, y10w3p1, y10w3p2, y10w40, y10w4p1, y10w4p2, y10w60, y10w6p1, y10w6p2])
      have F11 := C11
      simp only [Cls, and_true] at F11
      have y11w0 : w.heap.size < w11.heap.size := C11.blk (b := w.heap.size) (k := 0) (v := .slice AR ly2 cr) (by simp)
      have y11wp1 : w.heap.size < w11.heap.size + 1 := (by omega)
      have y11wp2 : w.heap.size < w11.heap.size + 1 + 1 := (by omega)
      have y11w21 : w2.heap.size + 1 < w11.heap.size := C11.blk (b := w2.heap.size + 1) (k := 0) (v := .int .i64 0) (by simp)
      have y11w20 : w2.heap.size < w11.heap.size := (by omega)
      have y11w2p1 : w2.heap.size < w11.heap.size + 1 := (by omega)
      have y11w2p2 : w2.heap.size < w11.heap.size + 1 + 1 := (by omega)
      have y11w30 : w3.heap.size < w11.heap.size := C11.blk (b := w3.heap.size) (k := 0) (v := .int .i64 0) (by simp)
      have y11w3p1 : w3.heap.size < w11.heap.size + 1 := (by omega)
      have y11w3p2 : w3.heap.size < w11.heap.size + 1 + 1 := (by omega)
      have y11w40 : w4.heap.size < w11.heap.size := C11.blk (b := w4.heap.size) (k := 0) (v := .int .i64 0) (by simp)
      have y11w4p1 : w4.heap.size < w11.heap.size + 1 := (by omega)
      have y11w4p2 : w4.heap.size < w11.heap.size + 1 + 1 := (by omega)
      have y11w60 : w6.heap.size < w11.heap.size := C11.blk (b := w6.heap.size) (k := 0) (v := .int .i64 num2) (by simp)
      have y11w6p1 : w6.heap.size < w11.heap.size + 1 := (by omega)
      have y11w6p2 : w6.heap.size < w11.heap.size + 1 + 1 := (by omega)
      obtain rfl : ok2 = true := HK2.out.2 HOP.out.py
      clear HK2
      go_wp2_with fail
      refine (smeet_any _ AR AB AO cr cb co p (HM.out.below (by repeat (first | with_reducible exact D11 | with_reducible apply bdrew | with_reducible apply bdrewN | with_reducible apply balloc | ((with_reducible refine bset ?_ ?_ _); rotate_left; (first | omega | (simp <;> omega)))))) HOK.out ly2 lx2 hrl hbl hol hm6 hn6 Ax2 lx2 xs2 dx2 HVX.out (HX2.out.1.below (by repeat (first | with_reducible exact Ew2_11 | with_reducible apply bdrew | with_reducible apply bdrewN | with_reducible apply balloc | ((with_reducible refine bset ?_ ?_ _); rotate_left; (first | omega | (simp <;> omega)))))) Ay2 ly2 ys2 dy2 HVY.out (HX2.out.2.1.below (by repeat (first | with_reducible exact Ew2_11 | with_reducible apply bdrew | with_reducible apply bdrewN | with_reducible apply balloc | ((with_reducible refine bset ?_ ?_ _); rotate_left; (first | omega | (simp <;> omega))))))).mono ?_
      rintro e w12 ⟨ok3, rfl, HK3, hB12⟩
      have D12 := dstep w hB12 (by repeat (first | with_reducible exact D11 | with_reducible apply bdrew | with_reducible apply bdrewN | with_reducible apply balloc | ((with_reducible refine bset ?_ ?_ _); rotate_left; (first | omega | (simp <;> omega)))))
      have d12s := D12.size
      have Ew2_12 := dstep w2 hB12 (by repeat (first | with_reducible exact Ew2_11 | with_reducible apply bdrew | with_reducible apply bdrewN | with_reducible apply balloc | ((with_reducible refine bset ?_ ?_ _); rotate_left; (first | omega | (simp <;> omega)))))
      have C12 := Cls.below (l := [(w.heap.size, 0, .slice AR ly2 cr), (w.heap.size, 1, .slice AB ly2 cb), (w.heap.size, 2, .slice AO lx2 co), (w2.heap.size, 0, .int .i64 1), (w2.heap.size, 1, .int .i64 num2), (w2.heap.size, 2, .int .i64 den2), (w2.heap.size, 3, .slice Ax2 lx2 lx2), (w2.heap.size, 4, .int .i64 dx2), (w2.heap.size, 5, .slice Ay2 ly2 ly2), (w2.heap.size, 6, .int .i64 dy2), (w2.heap.size, 7, .slice Ar2 0 0), (w2.heap.size, 8, .int .i64 0), (w2.heap.size + 1, 0, .int .i64 0), (w2.heap.size + 1, 1, .int .i64 0), (w3.heap.size, 0, .int .i64 0), (w3.heap.size, 1, .int .i64 0), (w4.heap.size, 0, .int .i64 0), (w4.heap.size, 1, .int .i64 0), (w6.heap.size, 0, .int .i64 num2), (w6.heap.size, 1, .int .i64 den2)]) hB12 (by simp [Cls, go_sem, F11, y11w0, y11wp1, y11wp2, y11w21, y11w20, y11w2p1, y11w2p2, y11w30, y11w3p1, y11w3p2, y11w40, y11w4p1, y11w4p2, y11w60, y11w6p1, y11w6p2])
      have F12 := C12
      simp only [Cls, and_true] at F12
      have y12w0 : w.heap.size < w12.heap.size := C12.blk (b := w.heap.size) (k := 0) (v := .slice AR ly2 cr) (by simp)
      have y12wp1 : w.heap.size < w12.heap.size + 1 := (by omega)
      have y12wp2 : w.heap.size < w12.heap.size + 1 + 1 := (by omega)
      have y12w21 : w2.heap.size + 1 < w12.heap.size := C12.blk (b := w2.heap.size + 1) (k := 0) (v := .int .i64 0) (by simp)
      have y12w20 : w2.heap.size < w12.heap.size := (by omega)
      have y12w2p1 : w2.heap.size < w12.heap.size + 1 := (by omega)
      have y12w2p2 : w2.heap.size < w12.heap.size + 1 + 1 := (by omega)
      have y12w30 : w3.heap.size < w12.heap.size := C12.blk (b := w3.heap.size) (k := 0) (v := .int .i64 0) (by simp)
      have y12w3p1 : w3.heap.size < w12.heap.size + 1 := (by omega)
      have y12w3p2 : w3.heap.size < w12.heap.size + 1 + 1 := (by omega)
      have y12w40 : w4.heap.size < w12.heap.size := C12.blk (b := w4.heap.size) (k := 0) (v := .int .i64 0) (by simp)
      have y12w4p1 : w4.heap.size < w12.heap.size + 1 := (by omega)
      have y12w4p2 : w4.heap.size < w12.heap.size + 1 + 1 := (by omega)
      have y12w60 : w6.heap.size < w12.heap.size := C12.blk (b := w6.heap.size) (k := 0) (v := .int .i64 num2) (by simp)
      have y12w6p1 : w6.heap.size < w12.heap.size + 1 := (by omega)
      have y12w6p2 : w6.heap.size < w12.heap.size + 1 + 1 := (by omega)
      obtain rfl : ok3 = true := HK3.out.2 (meets HOP.out)
      clear HK3
      go_wp2
      refine bodyPost_ret (v := .bool true) ?_ rfl ⟨rfl, by repeat (first | with_reducible exact D12 | with_reducible apply bdrew | with_reducible apply bdrewN | with_reducible apply balloc | ((with_reducible refine bset ?_ ?_ _); rotate_left; (first | omega | (simp <;> omega))))⟩
      simp [results, Try.results4, go_sem, F12, y12w0, y12wp1, y12wp2, y12w21, y12w20, y12w2p1, y12w2p2, y12w30, y12w3p1, y12w3p2, y12w40, y12w4p1, y12w4p2, y12w60, y12w6p1, y12w6p2]
    · skip
      have HREF := Lib.hid href
      have HVY : Hid (VOk mb ys2 dy2) := Lib.hid (by rw [show p.lp.m = mb from hrl.out] at hvy; exact hvy)
      have hly : ly2 = mb := by have := HVY.out.len; omega
      subst hly
      have hlx0 : lx2 = 0 := by rw [hx1] at hLx; simpa using hLx.symm
      have hlr0 : lr2 = 0 := by rw [hr1] at hLr; simpa using hLr.symm
      subst hlx0 hlr0 hx2 hr2
      clear hvy href hx1 hr1
      have HCY : Hid (∀ W : World, Below w2.heap.size w2 W → Calls Try.prog 18 #[.agg #[.slice Ay2 ly2 ly2, .int .i64 dy2], .int .i64 ly2] W fun e w' => e = .returned (.int .i64 0) ∧ Below W.heap.size W w') := Lib.hid (fun W hW => by
        have hlen : ys2.length = ly2 := by have := HL2.out; omega
        have h := svcode_any W Ay2 ly2 ys2 dy2 ly2 (HX2.out.2.1.below hW) (by have := HVY.out.len; omega)
        rw [hlen] at h
        have e : vecC ys2 dy2 (ly2 : Int) = 0 := by have e1 := HVY.out.code; exact e1
        rw [e] at h; exact h)
      go_wp2_with fail
      refine (isnone_yes _ _ _ _ _ rfl rfl).mono ?_
      rintro e w6 ⟨rfl, hB6⟩
      have D6 := dstep w hB6 (by repeat (first | with_reducible exact D5 | with_reducible apply bdrew | with_reducible apply bdrewN | with_reducible apply balloc | ((with_reducible refine bset ?_ ?_ _); rotate_left; (first | omega | (simp <;> omega)))))
      have d6s := D6.size
      have Ew2_6 := dstep w2 hB6 (by repeat (first | with_reducible exact Ew2_5 | with_reducible apply bdrew | with_reducible apply bdrewN | with_reducible apply balloc | ((with_reducible refine bset ?_ ?_ _); rotate_left; (first | omega | (simp <;> omega)))))
      have C6 := Cls.below (l := [(w.heap.size, 0, .slice AR ly2 cr), (w.heap.size, 1, .slice AB ly2 cb), (w.heap.size, 2, .slice AO n co), (w2.heap.size, 0, .int .i64 2), (w2.heap.size, 1, .int .i64 0), (w2.heap.size, 2, .int .i64 0), (w2.heap.size, 3, .slice Ax2 0 0), (w2.heap.size, 4, .int .i64 0), (w2.heap.size, 5, .slice Ay2 ly2 ly2), (w2.heap.size, 6, .int .i64 dy2), (w2.heap.size, 7, .slice Ar2 0 0), (w2.heap.size, 8, .int .i64 0), (w2.heap.size + 1, 0, .int .i64 0), (w2.heap.size + 1, 1, .int .i64 0), (w3.heap.size, 0, .int .i64 0), (w3.heap.size, 1, .int .i64 0), (w4.heap.size, 0, .int .i64 0), (w4.heap.size, 1, .int .i64 0)]) hB6 (by simp [Cls, go_sem, F5, y5w0, y5wp1, y5wp2, y5w21, y5w20, y5w2p1, y5w2p2, y5w30, y5w3p1, y5w3p2, y5w40, y5w4p1, y5w4p2])
      have F6 := C6
      simp only [Cls, and_true] at F6
      have y6w0 : w.heap.size < w6.heap.size := C6.blk (b := w.heap.size) (k := 0) (v := .slice AR ly2 cr) (by simp)
      have y6wp1 : w.heap.size < w6.heap.size + 1 := (by omega)
      have y6wp2 : w.heap.size < w6.heap.size + 1 + 1 := (by omega)
      have y6w21 : w2.heap.size + 1 < w6.heap.size := C6.blk (b := w2.heap.size + 1) (k := 0) (v := .int .i64 0) (by simp)
      have y6w20 : w2.heap.size < w6.heap.size := (by omega)
      have y6w2p1 : w2.heap.size < w6.heap.size + 1 := (by omega)
      have y6w2p2 : w2.heap.size < w6.heap.size + 1 + 1 := (by omega)
      have y6w30 : w3.heap.size < w6.heap.size := C6.blk (b := w3.heap.size) (k := 0) (v := .int .i64 0) (by simp)
      have y6w3p1 : w3.heap.size < w6.heap.size + 1 := (by omega)
      have y6w3p2 : w3.heap.size < w6.heap.size + 1 + 1 := (by omega)
      have y6w40 : w4.heap.size < w6.heap.size := C6.blk (b := w4.heap.size) (k := 0) (v := .int .i64 0) (by simp)
      have y6w4p1 : w4.heap.size < w6.heap.size + 1 := (by omega)
      have y6w4p2 : w4.heap.size < w6.heap.size + 1 + 1 := (by omega)
      go_wp2_with fail
      refine (isnone_yes _ _ _ _ _ rfl rfl).mono ?_
      rintro e w7 ⟨rfl, hB7⟩
      have D7 := dstep w hB7 (by repeat (first | with_reducible exact D6 | with_reducible apply bdrew | with_reducible apply bdrewN | with_reducible apply balloc | ((with_reducible refine bset ?_ ?_ _); rotate_left; (first | omega | (simp <;> omega)))))
      have d7s := D7.size
      have Ew2_7 := dstep w2 hB7 (by repeat (first | with_reducible exact Ew2_6 | with_reducible apply bdrew | with_reducible apply bdrewN | with_reducible apply balloc | ((with_reducible refine bset ?_ ?_ _); rotate_left; (first | omega | (simp <;> omega)))))
      have C7 := Cls.below (l := [(w.heap.size, 0, .slice AR ly2 cr), (w.heap.size, 1, .slice AB ly2 cb), (w.heap.size, 2, .slice AO n co), (w2.heap.size, 0, .int .i64 2), (w2.heap.size, 1, .int .i64 0), (w2.heap.size, 2, .int .i64 0), (w2.heap.size, 3, .slice Ax2 0 0), (w2.heap.size, 4, .int .i64 0), (w2.heap.size, 5, .slice Ay2 ly2 ly2), (w2.heap.size, 6, .int .i64 dy2), (w2.heap.size, 7, .slice Ar2 0 0), (w2.heap.size, 8, .int .i64 0), (w2.heap.size + 1, 0, .int .i64 0), (w2.heap.size + 1, 1, .int .i64 0), (w3.heap.size, 0, .int .i64 0), (w3.heap.size, 1, .int .i64 0), (w4.heap.size, 0, .int .i64 0), (w4.heap.size, 1, .int .i64 0)]) hB7 (by simp [Cls, go_sem, F6, y6w0, y6wp1, y6wp2, y6w21, y6w20, y6w2p1, y6w2p2, y6w30, y6w3p1, y6w3p2, y6w40, y6w4p1, y6w4p2])
      have F7 := C7
      simp only [Cls, and_true] at F7
      have y7w0 : w.heap.size < w7.heap.size := C7.blk (b := w.heap.size) (k := 0) (v := .slice AR ly2 cr) (by simp)
      have y7wp1 : w.heap.size < w7.heap.size + 1 := (by omega)
      have y7wp2 : w.heap.size < w7.heap.size + 1 + 1 := (by omega)
      have y7w21 : w2.heap.size + 1 < w7.heap.size := C7.blk (b := w2.heap.size + 1) (k := 0) (v := .int .i64 0) (by simp)
      have y7w20 : w2.heap.size < w7.heap.size := (by omega)
      have y7w2p1 : w2.heap.size < w7.heap.size + 1 := (by omega)
      have y7w2p2 : w2.heap.size < w7.heap.size + 1 + 1 := (by omega)
      have y7w30 : w3.heap.size < w7.heap.size := C7.blk (b := w3.heap.size) (k := 0) (v := .int .i64 0) (by simp)
      have y7w3p1 : w3.heap.size < w7.heap.size + 1 := (by omega)
      have y7w3p2 : w3.heap.size < w7.heap.size + 1 + 1 := (by omega)
      have y7w40 : w4.heap.size < w7.heap.size := C7.blk (b := w4.heap.size) (k := 0) (v := .int .i64 0) (by simp)
      have y7w4p1 : w4.heap.size < w7.heap.size + 1 := (by omega)
      have y7w4p2 : w4.heap.size < w7.heap.size + 1 + 1 := (by omega)
      go_wp2_with fail
      refine (HCY.out _ (by repeat (first | with_reducible exact Ew2_7 | with_reducible apply bdrew | with_reducible apply bdrewN | with_reducible apply balloc | ((with_reducible refine bset ?_ ?_ _); rotate_left; (first | omega | (simp <;> omega)))))).mono ?_
      rintro e w8 ⟨rfl, hB8⟩
      have D8 := dstep w hB8 (by repeat (first | with_reducible exact D7 | with_reducible apply bdrew | with_reducible apply bdrewN | with_reducible apply balloc | ((with_reducible refine bset ?_ ?_ _); rotate_left; (first | omega | (simp <;> omega)))))
      have d8s := D8.size
      have Ew2_8 := dstep w2 hB8 (by repeat (first | with_reducible exact Ew2_7 | with_reducible apply bdrew | with_reducible apply bdrewN | with_reducible apply balloc | ((with_reducible refine bset ?_ ?_ _); rotate_left; (first | omega | (simp <;> omega)))))
      have C8 := Cls.below (l := [(w.heap.size, 0, .slice AR ly2 cr), (w.heap.size, 1, .slice AB ly2 cb), (w.heap.size, 2, .slice AO n co), (w2.heap.size, 0, .int .i64 2), (w2.heap.size, 1, .int .i64 0), (w2.heap.size, 2, .int .i64 0), (w2.heap.size, 3, .slice Ax2 0 0), (w2.heap.size, 4, .int .i64 0), (w2.heap.size, 5, .slice Ay2 ly2 ly2), (w2.heap.size, 6, .int .i64 dy2), (w2.heap.size, 7, .slice Ar2 0 0), (w2.heap.size, 8, .int .i64 0), (w2.heap.size + 1, 0, .int .i64 0), (w2.heap.size + 1, 1, .int .i64 0), (w3.heap.size, 0, .int .i64 0), (w3.heap.size, 1, .int .i64 0), (w4.heap.size, 0, .int .i64 0), (w4.heap.size, 1, .int .i64 0)]) hB8 (by simp [Cls, go_sem, F7, y7w0, y7wp1, y7wp2, y7w21, y7w20, y7w2p1, y7w2p2, y7w30, y7w3p1, y7w3p2, y7w40, y7w4p1, y7w4p2])
      have F8 := C8
      simp only [Cls, and_true] at F8
      have y8w0 : w.heap.size < w8.heap.size := C8.blk (b := w.heap.size) (k := 0) (v := .slice AR ly2 cr) (by simp)
      have y8wp1 : w.heap.size < w8.heap.size + 1 := (by omega)
      have y8wp2 : w.heap.size < w8.heap.size + 1 + 1 := (by omega)
      have y8w21 : w2.heap.size + 1 < w8.heap.size := C8.blk (b := w2.heap.size + 1) (k := 0) (v := .int .i64 0) (by simp)
      have y8w20 : w2.heap.size < w8.heap.size := (by omega)
      have y8w2p1 : w2.heap.size < w8.heap.size + 1 := (by omega)
      have y8w2p2 : w2.heap.size < w8.heap.size + 1 + 1 := (by omega)
      have y8w30 : w3.heap.size < w8.heap.size := C8.blk (b := w3.heap.size) (k := 0) (v := .int .i64 0) (by simp)
      have y8w3p1 : w3.heap.size < w8.heap.size + 1 := (by omega)
      have y8w3p2 : w3.heap.size < w8.heap.size + 1 + 1 := (by omega)
      have y8w40 : w4.heap.size < w8.heap.size := C8.blk (b := w4.heap.size) (k := 0) (v := .int .i64 0) (by simp)
      have y8w4p1 : w4.heap.size < w8.heap.size + 1 := (by omega)
      have y8w4p2 : w4.heap.size < w8.heap.size + 1 + 1 := (by omega)
      go_wp2_with fail
      refine (srefutes_any _ AR AB AO cr cb co p (HM.out.below (by repeat (first | with_reducible exact D8 | with_reducible apply bdrew | with_reducible apply bdrewN | with_reducible apply balloc | ((with_reducible refine bset ?_ ?_ _); rotate_left; (first | omega | (simp <;> omega)))))) HOK.out ly2 n hrl hbl hol hm6 hn6 Ay2 ly2 ys2 dy2 HVY.out (HX2.out.2.1.below (by repeat (first | with_reducible exact Ew2_8 | with_reducible apply bdrew | with_reducible apply bdrewN | with_reducible apply balloc | ((with_reducible refine bset ?_ ?_ _); rotate_left; (first | omega | (simp <;> omega))))))).mono ?_
      rintro e w9 ⟨ok1, rfl, HK1, hB9⟩
      have D9 := dstep w hB9 (by repeat (first | with_reducible exact D8 | with_reducible apply bdrew | with_reducible apply bdrewN | with_reducible apply balloc | ((with_reducible refine bset ?_ ?_ _); rotate_left; (first | omega | (simp <;> omega)))))
      have d9s := D9.size
      have Ew2_9 := dstep w2 hB9 (by repeat (first | with_reducible exact Ew2_8 | with_reducible apply bdrew | with_reducible apply bdrewN | with_reducible apply balloc | ((with_reducible refine bset ?_ ?_ _); rotate_left; (first | omega | (simp <;> omega)))))
      have C9 := Cls.below (l := [(w.heap.size, 0, .slice AR ly2 cr), (w.heap.size, 1, .slice AB ly2 cb), (w.heap.size, 2, .slice AO n co), (w2.heap.size, 0, .int .i64 2), (w2.heap.size, 1, .int .i64 0), (w2.heap.size, 2, .int .i64 0), (w2.heap.size, 3, .slice Ax2 0 0), (w2.heap.size, 4, .int .i64 0), (w2.heap.size, 5, .slice Ay2 ly2 ly2), (w2.heap.size, 6, .int .i64 dy2), (w2.heap.size, 7, .slice Ar2 0 0), (w2.heap.size, 8, .int .i64 0), (w2.heap.size + 1, 0, .int .i64 0), (w2.heap.size + 1, 1, .int .i64 0), (w3.heap.size, 0, .int .i64 0), (w3.heap.size, 1, .int .i64 0), (w4.heap.size, 0, .int .i64 0), (w4.heap.size, 1, .int .i64 0)]) hB9 (by simp [Cls, go_sem, F8, y8w0, y8wp1, y8wp2, y8w21, y8w20, y8w2p1, y8w2p2, y8w30, y8w3p1, y8w3p2, y8w40, y8w4p1, y8w4p2])
      have F9 := C9
      simp only [Cls, and_true] at F9
      have y9w0 : w.heap.size < w9.heap.size := C9.blk (b := w.heap.size) (k := 0) (v := .slice AR ly2 cr) (by simp)
      have y9wp1 : w.heap.size < w9.heap.size + 1 := (by omega)
      have y9wp2 : w.heap.size < w9.heap.size + 1 + 1 := (by omega)
      have y9w21 : w2.heap.size + 1 < w9.heap.size := C9.blk (b := w2.heap.size + 1) (k := 0) (v := .int .i64 0) (by simp)
      have y9w20 : w2.heap.size < w9.heap.size := (by omega)
      have y9w2p1 : w2.heap.size < w9.heap.size + 1 := (by omega)
      have y9w2p2 : w2.heap.size < w9.heap.size + 1 + 1 := (by omega)
      have y9w30 : w3.heap.size < w9.heap.size := C9.blk (b := w3.heap.size) (k := 0) (v := .int .i64 0) (by simp)
      have y9w3p1 : w3.heap.size < w9.heap.size + 1 := (by omega)
      have y9w3p2 : w3.heap.size < w9.heap.size + 1 + 1 := (by omega)
      have y9w40 : w4.heap.size < w9.heap.size := C9.blk (b := w4.heap.size) (k := 0) (v := .int .i64 0) (by simp)
      have y9w4p1 : w4.heap.size < w9.heap.size + 1 := (by omega)
      have y9w4p2 : w4.heap.size < w9.heap.size + 1 + 1 := (by omega)
      obtain rfl : ok1 = true := HK1.out.2 HREF.out
      clear HK1
      go_wp2
      refine bodyPost_ret (v := .bool true) ?_ rfl ⟨rfl, by repeat (first | with_reducible exact D9 | with_reducible apply bdrew | with_reducible apply bdrewN | with_reducible apply balloc | ((with_reducible refine bset ?_ ?_ _); rotate_left; (first | omega | (simp <;> omega))))⟩
      simp [results, Try.results4, go_sem, F9, y9w0, y9wp1, y9wp2, y9w21, y9w20, y9w2p1, y9w2p2, y9w30, y9w3p1, y9w3p2, y9w40, y9w4p1, y9w4p2]
    · skip
      have HPT := Lib.hid hpt
      have HRAY := Lib.hid hray
      have HVX : Hid (VOk n xs2 dx2) := Lib.hid (by rw [show p.lp.n = n from hol.out] at hvx; exact hvx)
      have HVR : Hid (VOk n rs2 dr2) := Lib.hid (by rw [show p.lp.n = n from hol.out] at hvr; exact hvr)
      have hlx : lx2 = n := by have := HVX.out.len; omega
      have hlr : lr2 = n := by have := HVR.out.len; omega
      subst hlx hlr
      have hly0 : ly2 = 0 := by rw [hy1] at hLy; simpa using hLy.symm
      subst hly0 hy2
      clear hvx hvr hpt hray hy1
      have HCX : Hid (∀ W : World, Below w2.heap.size w2 W → Calls Try.prog 18 #[.agg #[.slice Ax2 lr2 lr2, .int .i64 dx2], .int .i64 lr2] W fun e w' => e = .returned (.int .i64 0) ∧ Below W.heap.size W w') := Lib.hid (fun W hW => by
        have hlen : xs2.length = lr2 := by have := HL2.out; omega
        have h := svcode_any W Ax2 lr2 xs2 dx2 lr2 (HX2.out.1.below hW) (by have := HVX.out.len; omega)
        rw [hlen] at h
        have e : vecC xs2 dx2 (lr2 : Int) = 0 := by have e1 := HVX.out.code; exact e1
        rw [e] at h; exact h)
      have HCR : Hid (∀ W : World, Below w2.heap.size w2 W → Calls Try.prog 18 #[.agg #[.slice Ar2 lr2 lr2, .int .i64 dr2], .int .i64 lr2] W fun e w' => e = .returned (.int .i64 0) ∧ Below W.heap.size W w') := Lib.hid (fun W hW => by
        have hlen : rs2.length = lr2 := by have := HL2.out; omega
        have h := svcode_any W Ar2 lr2 rs2 dr2 lr2 (HX2.out.2.2.below hW) (by have := HVR.out.len; omega)
        rw [hlen] at h
        have e : vecC rs2 dr2 (lr2 : Int) = 0 := by have e1 := HVR.out.code; exact e1
        rw [e] at h; exact h)
      go_wp2_with fail
      refine (isnone_yes _ _ _ _ _ rfl rfl).mono ?_
      rintro e w6 ⟨rfl, hB6⟩
      have D6 := dstep w hB6 (by repeat (first | with_reducible exact D5 | with_reducible apply bdrew | with_reducible apply bdrewN | with_reducible apply balloc | ((with_reducible refine bset ?_ ?_ _); rotate_left; (first | omega | (simp <;> omega)))))
      have d6s := D6.size
      have Ew2_6 := dstep w2 hB6 (by repeat (first | with_reducible exact Ew2_5 | with_reducible apply bdrew | with_reducible apply bdrewN | with_reducible apply balloc | ((with_reducible refine bset ?_ ?_ _); rotate_left; (first | omega | (simp <;> omega)))))
      have C6 := Cls.below (l := [(w.heap.size, 0, .slice AR mb cr), (w.heap.size, 1, .slice AB mb cb), (w.heap.size, 2, .slice AO lr2 co), (w2.heap.size, 0, .int .i64 3), (w2.heap.size, 1, .int .i64 0), (w2.heap.size, 2, .int .i64 0), (w2.heap.size, 3, .slice Ax2 lr2 lr2), (w2.heap.size, 4, .int .i64 dx2), (w2.heap.size, 5, .slice Ay2 0 0), (w2.heap.size, 6, .int .i64 0), (w2.heap.size, 7, .slice Ar2 lr2 lr2), (w2.heap.size, 8, .int .i64 dr2), (w2.heap.size + 1, 0, .int .i64 0), (w2.heap.size + 1, 1, .int .i64 0), (w3.heap.size, 0, .int .i64 0), (w3.heap.size, 1, .int .i64 0), (w4.heap.size, 0, .int .i64 0), (w4.heap.size, 1, .int .i64 0)]) hB6 (by simp [Cls, go_sem, F5, y5w0, y5wp1, y5wp2, y5w21, y5w20, y5w2p1, y5w2p2, y5w30, y5w3p1, y5w3p2, y5w40, y5w4p1, y5w4p2])
      have F6 := C6
      simp only [Cls, and_true] at F6
      have y6w0 : w.heap.size < w6.heap.size := C6.blk (b := w.heap.size) (k := 0) (v := .slice AR mb cr) (by simp)
      have y6wp1 : w.heap.size < w6.heap.size + 1 := (by omega)
      have y6wp2 : w.heap.size < w6.heap.size + 1 + 1 := (by omega)
      have y6w21 : w2.heap.size + 1 < w6.heap.size := C6.blk (b := w2.heap.size + 1) (k := 0) (v := .int .i64 0) (by simp)
      have y6w20 : w2.heap.size < w6.heap.size := (by omega)
      have y6w2p1 : w2.heap.size < w6.heap.size + 1 := (by omega)
      have y6w2p2 : w2.heap.size < w6.heap.size + 1 + 1 := (by omega)
      have y6w30 : w3.heap.size < w6.heap.size := C6.blk (b := w3.heap.size) (k := 0) (v := .int .i64 0) (by simp)
      have y6w3p1 : w3.heap.size < w6.heap.size + 1 := (by omega)
      have y6w3p2 : w3.heap.size < w6.heap.size + 1 + 1 := (by omega)
      have y6w40 : w4.heap.size < w6.heap.size := C6.blk (b := w4.heap.size) (k := 0) (v := .int .i64 0) (by simp)
      have y6w4p1 : w4.heap.size < w6.heap.size + 1 := (by omega)
      have y6w4p2 : w4.heap.size < w6.heap.size + 1 + 1 := (by omega)
      go_wp2_with fail
      refine (HCX.out _ (by repeat (first | with_reducible exact Ew2_6 | with_reducible apply bdrew | with_reducible apply bdrewN | with_reducible apply balloc | ((with_reducible refine bset ?_ ?_ _); rotate_left; (first | omega | (simp <;> omega)))))).mono ?_
      rintro e w7 ⟨rfl, hB7⟩
      have D7 := dstep w hB7 (by repeat (first | with_reducible exact D6 | with_reducible apply bdrew | with_reducible apply bdrewN | with_reducible apply balloc | ((with_reducible refine bset ?_ ?_ _); rotate_left; (first | omega | (simp <;> omega)))))
      have d7s := D7.size
      have Ew2_7 := dstep w2 hB7 (by repeat (first | with_reducible exact Ew2_6 | with_reducible apply bdrew | with_reducible apply bdrewN | with_reducible apply balloc | ((with_reducible refine bset ?_ ?_ _); rotate_left; (first | omega | (simp <;> omega)))))
      have C7 := Cls.below (l := [(w.heap.size, 0, .slice AR mb cr), (w.heap.size, 1, .slice AB mb cb), (w.heap.size, 2, .slice AO lr2 co), (w2.heap.size, 0, .int .i64 3), (w2.heap.size, 1, .int .i64 0), (w2.heap.size, 2, .int .i64 0), (w2.heap.size, 3, .slice Ax2 lr2 lr2), (w2.heap.size, 4, .int .i64 dx2), (w2.heap.size, 5, .slice Ay2 0 0), (w2.heap.size, 6, .int .i64 0), (w2.heap.size, 7, .slice Ar2 lr2 lr2), (w2.heap.size, 8, .int .i64 dr2), (w2.heap.size + 1, 0, .int .i64 0), (w2.heap.size + 1, 1, .int .i64 0), (w3.heap.size, 0, .int .i64 0), (w3.heap.size, 1, .int .i64 0), (w4.heap.size, 0, .int .i64 0), (w4.heap.size, 1, .int .i64 0)]) hB7 (by simp [Cls, go_sem, F6, y6w0, y6wp1, y6wp2, y6w21, y6w20, y6w2p1, y6w2p2, y6w30, y6w3p1, y6w3p2, y6w40, y6w4p1, y6w4p2])
      have F7 := C7
      simp only [Cls, and_true] at F7
      have y7w0 : w.heap.size < w7.heap.size := C7.blk (b := w.heap.size) (k := 0) (v := .slice AR mb cr) (by simp)
      have y7wp1 : w.heap.size < w7.heap.size + 1 := (by omega)
      have y7wp2 : w.heap.size < w7.heap.size + 1 + 1 := (by omega)
      have y7w21 : w2.heap.size + 1 < w7.heap.size := C7.blk (b := w2.heap.size + 1) (k := 0) (v := .int .i64 0) (by simp)
      have y7w20 : w2.heap.size < w7.heap.size := (by omega)
      have y7w2p1 : w2.heap.size < w7.heap.size + 1 := (by omega)
      have y7w2p2 : w2.heap.size < w7.heap.size + 1 + 1 := (by omega)
      have y7w30 : w3.heap.size < w7.heap.size := C7.blk (b := w3.heap.size) (k := 0) (v := .int .i64 0) (by simp)
      have y7w3p1 : w3.heap.size < w7.heap.size + 1 := (by omega)
      have y7w3p2 : w3.heap.size < w7.heap.size + 1 + 1 := (by omega)
      have y7w40 : w4.heap.size < w7.heap.size := C7.blk (b := w4.heap.size) (k := 0) (v := .int .i64 0) (by simp)
      have y7w4p1 : w4.heap.size < w7.heap.size + 1 := (by omega)
      have y7w4p2 : w4.heap.size < w7.heap.size + 1 + 1 := (by omega)
      go_wp2_with fail
      refine (HCR.out _ (by repeat (first | with_reducible exact Ew2_7 | with_reducible apply bdrew | with_reducible apply bdrewN | with_reducible apply balloc | ((with_reducible refine bset ?_ ?_ _); rotate_left; (first | omega | (simp <;> omega)))))).mono ?_
      rintro e w8 ⟨rfl, hB8⟩
      have D8 := dstep w hB8 (by repeat (first | with_reducible exact D7 | with_reducible apply bdrew | with_reducible apply bdrewN | with_reducible apply balloc | ((with_reducible refine bset ?_ ?_ _); rotate_left; (first | omega | (simp <;> omega)))))
      have d8s := D8.size
      have Ew2_8 := dstep w2 hB8 (by repeat (first | with_reducible exact Ew2_7 | with_reducible apply bdrew | with_reducible apply bdrewN | with_reducible apply balloc | ((with_reducible refine bset ?_ ?_ _); rotate_left; (first | omega | (simp <;> omega)))))
      have C8 := Cls.below (l := [(w.heap.size, 0, .slice AR mb cr), (w.heap.size, 1, .slice AB mb cb), (w.heap.size, 2, .slice AO lr2 co), (w2.heap.size, 0, .int .i64 3), (w2.heap.size, 1, .int .i64 0), (w2.heap.size, 2, .int .i64 0), (w2.heap.size, 3, .slice Ax2 lr2 lr2), (w2.heap.size, 4, .int .i64 dx2), (w2.heap.size, 5, .slice Ay2 0 0), (w2.heap.size, 6, .int .i64 0), (w2.heap.size, 7, .slice Ar2 lr2 lr2), (w2.heap.size, 8, .int .i64 dr2), (w2.heap.size + 1, 0, .int .i64 0), (w2.heap.size + 1, 1, .int .i64 0), (w3.heap.size, 0, .int .i64 0), (w3.heap.size, 1, .int .i64 0), (w4.heap.size, 0, .int .i64 0), (w4.heap.size, 1, .int .i64 0)]) hB8 (by simp [Cls, go_sem, F7, y7w0, y7wp1, y7wp2, y7w21, y7w20, y7w2p1, y7w2p2, y7w30, y7w3p1, y7w3p2, y7w40, y7w4p1, y7w4p2])
      have F8 := C8
      simp only [Cls, and_true] at F8
      have y8w0 : w.heap.size < w8.heap.size := C8.blk (b := w.heap.size) (k := 0) (v := .slice AR mb cr) (by simp)
      have y8wp1 : w.heap.size < w8.heap.size + 1 := (by omega)
      have y8wp2 : w.heap.size < w8.heap.size + 1 + 1 := (by omega)
      have y8w21 : w2.heap.size + 1 < w8.heap.size := C8.blk (b := w2.heap.size + 1) (k := 0) (v := .int .i64 0) (by simp)
      have y8w20 : w2.heap.size < w8.heap.size := (by omega)
      have y8w2p1 : w2.heap.size < w8.heap.size + 1 := (by omega)
      have y8w2p2 : w2.heap.size < w8.heap.size + 1 + 1 := (by omega)
      have y8w30 : w3.heap.size < w8.heap.size := C8.blk (b := w3.heap.size) (k := 0) (v := .int .i64 0) (by simp)
      have y8w3p1 : w3.heap.size < w8.heap.size + 1 := (by omega)
      have y8w3p2 : w3.heap.size < w8.heap.size + 1 + 1 := (by omega)
      have y8w40 : w4.heap.size < w8.heap.size := C8.blk (b := w4.heap.size) (k := 0) (v := .int .i64 0) (by simp)
      have y8w4p1 : w4.heap.size < w8.heap.size + 1 := (by omega)
      have y8w4p2 : w4.heap.size < w8.heap.size + 1 + 1 := (by omega)
      go_wp2_with fail
      refine (spoint_any _ AR AB AO cr cb co p (HM.out.below (by repeat (first | with_reducible exact D8 | with_reducible apply bdrew | with_reducible apply bdrewN | with_reducible apply balloc | ((with_reducible refine bset ?_ ?_ _); rotate_left; (first | omega | (simp <;> omega)))))) HOK.out mb lr2 hrl hbl hol hm6 hn6 Ax2 lr2 xs2 dx2 HVX.out (HX2.out.1.below (by repeat (first | with_reducible exact Ew2_8 | with_reducible apply bdrew | with_reducible apply bdrewN | with_reducible apply balloc | ((with_reducible refine bset ?_ ?_ _); rotate_left; (first | omega | (simp <;> omega))))))).mono ?_
      rintro e w9 ⟨ok1, rfl, HK1, hB9⟩
      have D9 := dstep w hB9 (by repeat (first | with_reducible exact D8 | with_reducible apply bdrew | with_reducible apply bdrewN | with_reducible apply balloc | ((with_reducible refine bset ?_ ?_ _); rotate_left; (first | omega | (simp <;> omega)))))
      have d9s := D9.size
      have Ew2_9 := dstep w2 hB9 (by repeat (first | with_reducible exact Ew2_8 | with_reducible apply bdrew | with_reducible apply bdrewN | with_reducible apply balloc | ((with_reducible refine bset ?_ ?_ _); rotate_left; (first | omega | (simp <;> omega)))))
      have C9 := Cls.below (l := [(w.heap.size, 0, .slice AR mb cr), (w.heap.size, 1, .slice AB mb cb), (w.heap.size, 2, .slice AO lr2 co), (w2.heap.size, 0, .int .i64 3), (w2.heap.size, 1, .int .i64 0), (w2.heap.size, 2, .int .i64 0), (w2.heap.size, 3, .slice Ax2 lr2 lr2), (w2.heap.size, 4, .int .i64 dx2), (w2.heap.size, 5, .slice Ay2 0 0), (w2.heap.size, 6, .int .i64 0), (w2.heap.size, 7, .slice Ar2 lr2 lr2), (w2.heap.size, 8, .int .i64 dr2), (w2.heap.size + 1, 0, .int .i64 0), (w2.heap.size + 1, 1, .int .i64 0), (w3.heap.size, 0, .int .i64 0), (w3.heap.size, 1, .int .i64 0), (w4.heap.size, 0, .int .i64 0), (w4.heap.size, 1, .int .i64 0)]) hB9 (by simp [Cls, go_sem, F8, y8w0, y8wp1, y8wp2, y8w21, y8w20, y8w2p1, y8w2p2, y8w30, y8w3p1, y8w3p2, y8w40, y8w4p1, y8w4p2])
      have F9 := C9
      simp only [Cls, and_true] at F9
      have y9w0 : w.heap.size < w9.heap.size := C9.blk (b := w.heap.size) (k := 0) (v := .slice AR mb cr) (by simp)
      have y9wp1 : w.heap.size < w9.heap.size + 1 := (by omega)
      have y9wp2 : w.heap.size < w9.heap.size + 1 + 1 := (by omega)
      have y9w21 : w2.heap.size + 1 < w9.heap.size := C9.blk (b := w2.heap.size + 1) (k := 0) (v := .int .i64 0) (by simp)
      have y9w20 : w2.heap.size < w9.heap.size := (by omega)
      have y9w2p1 : w2.heap.size < w9.heap.size + 1 := (by omega)
      have y9w2p2 : w2.heap.size < w9.heap.size + 1 + 1 := (by omega)
      have y9w30 : w3.heap.size < w9.heap.size := C9.blk (b := w3.heap.size) (k := 0) (v := .int .i64 0) (by simp)
      have y9w3p1 : w3.heap.size < w9.heap.size + 1 := (by omega)
      have y9w3p2 : w3.heap.size < w9.heap.size + 1 + 1 := (by omega)
      have y9w40 : w4.heap.size < w9.heap.size := C9.blk (b := w4.heap.size) (k := 0) (v := .int .i64 0) (by simp)
      have y9w4p1 : w4.heap.size < w9.heap.size + 1 := (by omega)
      have y9w4p2 : w4.heap.size < w9.heap.size + 1 + 1 := (by omega)
      obtain rfl : ok1 = true := HK1.out.2 HPT.out
      clear HK1
      go_wp2_with fail
      refine (simproves_any _ AR AB AO cr cb co p (HM.out.below (by repeat (first | with_reducible exact D9 | with_reducible apply bdrew | with_reducible apply bdrewN | with_reducible apply balloc | ((with_reducible refine bset ?_ ?_ _); rotate_left; (first | omega | (simp <;> omega)))))) HOK.out mb lr2 hrl hbl hol hm6 hn6 Ar2 lr2 rs2 dr2 HVR.out (HX2.out.2.2.below (by repeat (first | with_reducible exact Ew2_9 | with_reducible apply bdrew | with_reducible apply bdrewN | with_reducible apply balloc | ((with_reducible refine bset ?_ ?_ _); rotate_left; (first | omega | (simp <;> omega))))))).mono ?_
      rintro e w10 ⟨ok2, rfl, HK2, hB10⟩
      have D10 := dstep w hB10 (by repeat (first | with_reducible exact D9 | with_reducible apply bdrew | with_reducible apply bdrewN | with_reducible apply balloc | ((with_reducible refine bset ?_ ?_ _); rotate_left; (first | omega | (simp <;> omega)))))
      have d10s := D10.size
      have Ew2_10 := dstep w2 hB10 (by repeat (first | with_reducible exact Ew2_9 | with_reducible apply bdrew | with_reducible apply bdrewN | with_reducible apply balloc | ((with_reducible refine bset ?_ ?_ _); rotate_left; (first | omega | (simp <;> omega)))))
      have C10 := Cls.below (l := [(w.heap.size, 0, .slice AR mb cr), (w.heap.size, 1, .slice AB mb cb), (w.heap.size, 2, .slice AO lr2 co), (w2.heap.size, 0, .int .i64 3), (w2.heap.size, 1, .int .i64 0), (w2.heap.size, 2, .int .i64 0), (w2.heap.size, 3, .slice Ax2 lr2 lr2), (w2.heap.size, 4, .int .i64 dx2), (w2.heap.size, 5, .slice Ay2 0 0), (w2.heap.size, 6, .int .i64 0), (w2.heap.size, 7, .slice Ar2 lr2 lr2), (w2.heap.size, 8, .int .i64 dr2), (w2.heap.size + 1, 0, .int .i64 0), (w2.heap.size + 1, 1, .int .i64 0), (w3.heap.size, 0, .int .i64 0), (w3.heap.size, 1, .int .i64 0), (w4.heap.size, 0, .int .i64 0), (w4.heap.size, 1, .int .i64 0)]) hB10 (by simp [Cls, go_sem, F9, y9w0, y9wp1, y9wp2, y9w21, y9w20, y9w2p1, y9w2p2, y9w30, y9w3p1, y9w3p2, y9w40, y9w4p1, y9w4p2])
      have F10 := C10
      simp only [Cls, and_true] at F10
      have y10w0 : w.heap.size < w10.heap.size := C10.blk (b := w.heap.size) (k := 0) (v := .slice AR mb cr) (by simp)
      have y10wp1 : w.heap.size < w10.heap.size + 1 := (by omega)
      have y10wp2 : w.heap.size < w10.heap.size + 1 + 1 := (by omega)
      have y10w21 : w2.heap.size + 1 < w10.heap.size := C10.blk (b := w2.heap.size + 1) (k := 0) (v := .int .i64 0) (by simp)
      have y10w20 : w2.heap.size < w10.heap.size := (by omega)
      have y10w2p1 : w2.heap.size < w10.heap.size + 1 := (by omega)
      have y10w2p2 : w2.heap.size < w10.heap.size + 1 + 1 := (by omega)
      have y10w30 : w3.heap.size < w10.heap.size := C10.blk (b := w3.heap.size) (k := 0) (v := .int .i64 0) (by simp)
      have y10w3p1 : w3.heap.size < w10.heap.size + 1 := (by omega)
      have y10w3p2 : w3.heap.size < w10.heap.size + 1 + 1 := (by omega)
      have y10w40 : w4.heap.size < w10.heap.size := C10.blk (b := w4.heap.size) (k := 0) (v := .int .i64 0) (by simp)
      have y10w4p1 : w4.heap.size < w10.heap.size + 1 := (by omega)
      have y10w4p2 : w4.heap.size < w10.heap.size + 1 + 1 := (by omega)
      obtain rfl : ok2 = true := HK2.out.2 HRAY.out
      clear HK2
      go_wp2
      refine bodyPost_ret (v := .bool true) ?_ rfl ⟨rfl, by repeat (first | with_reducible exact D10 | with_reducible apply bdrew | with_reducible apply bdrewN | with_reducible apply balloc | ((with_reducible refine bset ?_ ?_ _); rotate_left; (first | omega | (simp <;> omega))))⟩
      simp [results, Try.results4, go_sem, F10, y10w0, y10wp1, y10wp2, y10w21, y10w20, y10w2p1, y10w2p2, y10w30, y10w3p1, y10w3p2, y10w40, y10w4p1, y10w4p2]

theorem walk_lsm (w : World) (AR AB AO : Option Addr) (cr cb co : Nat) (p : LpV) (hM : LpMem w AR AB AO p) (m mb n : Nat) (hrl : Hid (p.rows.length = m)) (hbl : Hid (p.bounds.length = mb)) (hol : Hid (p.obj.length = n)) :
    Calls Try.prog 4 #[.agg #[.slice AR m cr, .slice AB mb cb, .slice AO n co]] w fun e w' => e = .returned (.bool true) ∧ Below w.heap.size w w' := by
  by_cases h : (lpF p).1 = 0
  · exact walk_lsm_1 w AR AB AO cr cb co p hM m mb n hrl hbl hol (lpF_zero h)
  · exact walk_lsm_0 w AR AB AO cr cb co p hM m mb n hrl hbl hol _ _ (Lib.hid rfl) h

namespace linearSolveMatchesSpec
open Go.ChangeShapes Go.WideShapes Go.ChangeAt Go.RowKit

set_option maxRecDepth 100000 in
theorem lifted (os : Os) (started : os.Started) (H : Type) (enc : TypeId × Value → H) :
    ReturnsInHanded {} Try.checked os 4 .any (Rows.linearSolveMatchesSpecSpec.pre6 enc Try.prog Try.f4 Rows.linearSolveMatchesSpecRow.domain false) (Rows.linearSolveMatchesSpecSpec.post enc Try.prog Try.f4 false true false false) := by
  refine returnsInHanded_of_change (C := Try.checked) own_knob started (by kernel_rfl) Try.func4
    (ChangeSpec.witness6 (enc := enc) (C := Try.checked) false ⟨#[], #[.agg #[.slice none 0 0, .slice none 0 0, .slice none 0 0]], []⟩ 8 (by kernel_rfl) (by kernel_rfl) (by kernel_rfl) (by kernel_rfl)) ?_
  intro W base args ds gs before hval0 hW _ hsz
  have hval : ∀ (j : Nat) t v, Try.f4.params[j]? = some t → args[j]? = some v → Value.okWide Try.prog W .any base t v := hval0
  have hpost := fun (W' : World) (hfn : gs = [] → Rows.linearSolveMatchesSpecSpec.fn H (ds ++ gs) = { results := [.lit (.bool true)], args := ds }) (hb : Below W.heap.size W W') => law_post (f := Try.f4) (tb := 4) laid_out_B Try.underlying4 rfl (by kernel_rfl) rfl hfn hW hb
  obtain ⟨p, q, hA0, hV, hpq, hfz, hnd⟩ := hW
  have hA : DataW.TrodAll enc Try.prog W 0 (fun _ => true) true Try.f4.params.toList args.toList ds p := hA0
  rw [Try.params4] at hA hval
  obtain ⟨v0, vs0, d0, ds0, p0, q0, hargs, rfl, hp0, h0, r0⟩ := trodAll_cons hA
  obtain ⟨rfl, rfl, hpn⟩ := trodAll_nil r0
  obtain rfl : args = #[v0] := by cases args; simp_all
  obtain ⟨p, AR, AB, AO, cr, cb, co, rfl, hM, hNR, hNB, hNO⟩ := open_lpW (hval 0 25 v0 rfl rfl) h0
  refine (walk_lsm W AR AB AO cr cb co p hM p.rows.length p.bounds.length p.obj.length (Lib.hid rfl) (Lib.hid rfl) (Lib.hid rfl)).mono fun e W' ⟨he, hb⟩ => ?_
  subst he
  exact ⟨_, rfl, hpost W' (fun hg => by subst hg; rfl) hb⟩

theorem closed : joinedFacts Try.checked.prog 4 Try.f4 Rows.linearSolveMatchesSpecSpec Rows.linearSolveMatchesSpecRow = true := by
  unfold joinedFacts
  rw [pf_enter, pf_lifts, pf_make]
  kernel_rfl
theorem proved : Rows.LinearSolveMatchesSpecSaid :=
  OpenClaim.holds_of_wide 4 Try.f4 rfl rfl rfl rfl rfl rfl rfl ⟨rfl, rfl, rfl, rfl, rfl⟩ rfl rfl rfl rfl rfl (by kernel_rfl) Try.func4 closed
    (of_decide_eq_true (by kernel_rfl)) (by unfold Func.isWrapper; first | (rw [if_pos (by decide +kernel)]; kernel_rfl) | (rw [if_neg (by decide +kernel)]; exact ⟨rfl, rfl⟩))
    (fun os started H enc _ => lifted os started H enc)
#print axioms proved
end linearSolveMatchesSpec

end Go.Proofs.Ytkepfmglljkjhaa
