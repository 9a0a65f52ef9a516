/-
  Feasible, Certified, Refuted and Improving return the specified results.
-/
import Derived.Test.YtkepfmglljkjhaaLs1
import Derived.Test.YtkepfmglljkjhaaLs2
import Derived.Test.YtkepfmglljkjhaaLx1
import Derived.Test.YtkepfmglljkjhaaOlp
import Derived.Test.YtkepfmglljkjhaaBlaw
import Derived.Test.YtkepfmglljkjhaaMA
import Derived.Test.YtkepfmglljkjhaaPfacts
namespace Go.Proofs.Ytkepfmglljkjhaa
open Go.RowKit
set_option linter.unusedVariables false
set_option linter.unusedSimpArgs false

theorem same_told {a b : Bool} {I : Prop} (h1 : a = true ↔ I) (h2 : b = true ↔ I) : b = a := by rw [Bool.eq_iff_iff, h1, h2]
theorem fltP_bad {p : LpV} {x : List Int} {d c : Int} (h : (lpF p).1 = 0) (hc : vecC x d p.obj.length = c) (h2 : ¬ c = 0) : fltP p x d = (c, -4) := by
  unfold fltP; rw [if_neg (fun a => a h), hc, if_pos h2]
theorem fltP_ok {p : LpV} {x : List Int} {d : Int} (h : (lpF p).1 = 0) (hc : vecC x d p.obj.length = 0) : fltP p x d = (0, 0) := by
  unfold fltP; rw [if_neg (fun a => a h), if_neg (fun a => a hc)]
theorem fltD_bad {p : LpV} {x : List Int} {d c : Int} (h : (lpF p).1 = 0) (hc : vecC x d p.rows.length = c) (h2 : ¬ c = 0) : fltD p x d = (c, -4) := by
  unfold fltD; rw [if_neg (fun a => a h), hc, if_pos h2]
theorem fltD_ok {p : LpV} {x : List Int} {d : Int} (h : (lpF p).1 = 0) (hc : vecC x d p.rows.length = 0) : fltD p x d = (0, 0) := by
  unfold fltD; rw [if_neg (fun a => a h), if_neg (fun a => a hc)]
theorem fltPD_px {p : LpV} {x y : List Int} {d e c c2 : Int} (h : fltP p x d = (c, c2)) (h2 : ¬ c = 0) : fltPD p x d y e = (c, c2) := by
  unfold fltPD; rw [h, if_pos h2]
theorem fltPD_py {p : LpV} {x y : List Int} {d e c : Int} (h : fltP p x d = (0, 0)) (hc : vecC y e p.rows.length = c) (h2 : ¬ c = 0) : fltPD p x d y e = (c, -5) := by
  unfold fltPD; rw [h, if_neg (fun a => a rfl), hc, if_pos h2]
theorem fltPD_ok {p : LpV} {x y : List Int} {d e : Int} (h : fltP p x d = (0, 0)) (hc : vecC y e p.rows.length = 0) : fltPD p x d y e = (0, 0) := by
  unfold fltPD; rw [h, if_neg (fun a => a rfl), if_neg (fun a => a hc)]
theorem flt_bad {p : LpV} {x y : List Int} {d e c c2 : Int} (h : lpF p = (c, c2)) (h2 : ¬ c = 0) : fltP p x d = (c, c2) ∧ fltD p y e = (c, c2) ∧ fltPD p x d y e = (c, c2) := by
  have h1 : fltP p x d = (c, c2) := by unfold fltP; rw [h, if_pos h2]
  exact ⟨h1, by unfold fltD; rw [h, if_pos h2], fltPD_px h1 h2⟩
set_option maxRecDepth 100000 in
set_option maxHeartbeats 4000000 in
theorem walk_lfm_0 (w : World) (AR AB AO : Option Addr) (cr cb co : Nat) (p : LpV) (hM : LpMem w AR AB AO p) (m mb n : Nat) (hrl : Hid (p.rows.length = m)) (hbl : Hid (p.bounds.length = mb)) (hol : Hid (p.obj.length = n)) (X : Option Addr) (cX lx : Nat) (x : List Int) (d : Int) (hlx : Hid (x.length = lx)) (hIx : Ints w X x) (hx63 : lx ≤ 9223372036854775807) (Y : Option Addr) (cY ly : Nat) (y : List Int) (e : Int) (hly : Hid (y.length = ly)) (hIy : Ints w Y y) (hy63 : ly ≤ 9223372036854775807) (c c2 : Int) (hc : Hid (lpF p = (c, c2))) (hc0 : ¬ c = 0) :
    Calls Try.prog 9 #[.agg #[.slice AR m cr, .slice AB mb cb, .slice AO n co], .agg #[.slice X lx cX, .int .i64 d], .agg #[.slice Y ly cY, .int .i64 e]] w fun e w' => e = .returned (.bool true) ∧ Below w.heap.size w w' := by
  have HIX := Lib.hid hIx
  have HIY := Lib.hid hIy
  have HM := Lib.hid hM
  have HFB := Lib.hid (flt_bad (x := x) (y := y) (d := d) (e := e) hc.out hc0)
  have hb1 := bb_no hc0
  have hb2 := bn_yes hc0
  have HC0 := Lib.hid hc0
  have HLF : Hid (∀ W : World, Below w.heap.size w W → Calls Try.prog 14 #[.agg #[.slice AR m cr, .slice AB mb cb, .slice AO n co]] W fun e w' => e = .returned (.agg #[.int .i64 c, .int .i64 c2]) ∧ Below W.heap.size W w') := Lib.hid (fun W hB => by
    have h := slfault_any W AR AB AO cr cb co p (HM.out.below hB)
    rw [hrl.out, hbl.out, hol.out, hc.out] at h
    exact h)
  clear hM hIx hIy
  go_enter Try.func9, Try.ntmps9
  go_wp2_with fail
  refine (lnexample_any _).mono ?_
  rintro e w1 ⟨rfl, hB1⟩
  have D1 := dstep w hB1 (by repeat (first | with_reducible exact Below.refl _ _ | with_reducible apply bdrew | with_reducible apply bdrewN | with_reducible apply balloc | ((with_reducible refine bset ?_ ?_ _); rotate_left; (first | omega | (simp <;> omega)))))
  have d1s := D1.size
  have C1 := Cls.below (l := [(w.heap.size, 0, .slice AR m cr), (w.heap.size, 1, .slice AB mb cb), (w.heap.size, 2, .slice AO n co), (w.heap.size + 1, 0, .slice X lx cX), (w.heap.size + 1, 1, .int .i64 d), (w.heap.size + 1 + 1, 0, .slice Y ly cY), (w.heap.size + 1 + 1, 1, .int .i64 e)]) hB1 (by simp [Cls, go_sem])
  have F1 := C1
  simp only [Cls, and_true] at F1
  have y1w2 : w.heap.size + 1 + 1 < w1.heap.size := C1.blk (b := w.heap.size + 1 + 1) (k := 0) (v := .slice Y ly cY) (by simp)
  have y1w1 : w.heap.size + 1 < w1.heap.size := (by omega)
  have y1w0 : w.heap.size < w1.heap.size := (by omega)
  have y1wp1 : w.heap.size < w1.heap.size + 1 := (by omega)
  have y1wp2 : w.heap.size < w1.heap.size + 1 + 1 := (by omega)
  go_wp2_with fail
  refine (feasible_any _ AR AB AO cr cb co p (HM.out.below (by repeat (first | with_reducible exact D1 | with_reducible apply bdrew | with_reducible apply bdrewN | with_reducible apply balloc | ((with_reducible refine bset ?_ ?_ _); rotate_left; (first | omega | (simp <;> omega)))))) m mb n hrl hbl hol X cX lx x d hlx (HIX.out.below (by repeat (first | with_reducible exact D1 | with_reducible apply bdrew | with_reducible apply bdrewN | with_reducible apply balloc | ((with_reducible refine bset ?_ ?_ _); rotate_left; (first | omega | (simp <;> omega)))))) hx63 c c2 (Lib.hid HFB.out.1)).mono ?_
  rintro e w2 ⟨ok2, rfl, HO2, hB2⟩
  have D2 := dstep w hB2 (by repeat (first | with_reducible exact D1 | with_reducible apply bdrew | with_reducible apply bdrewN | with_reducible apply balloc | ((with_reducible refine bset ?_ ?_ _); rotate_left; (first | omega | (simp <;> omega)))))
  have d2s := D2.size
  have C2 := Cls.below (l := [(w.heap.size, 0, .slice AR m cr), (w.heap.size, 1, .slice AB mb cb), (w.heap.size, 2, .slice AO n co), (w.heap.size + 1, 0, .slice X lx cX), (w.heap.size + 1, 1, .int .i64 d), (w.heap.size + 1 + 1, 0, .slice Y ly cY), (w.heap.size + 1 + 1, 1, .int .i64 e)]) hB2 (by simp [Cls, go_sem, F1, y1w2, y1w1, y1w0, y1wp1, y1wp2])
  have F2 := C2
  simp only [Cls, and_true] at F2
  have y2w2 : w.heap.size + 1 + 1 < w2.heap.size := C2.blk (b := w.heap.size + 1 + 1) (k := 0) (v := .slice Y ly cY) (by simp)
  have y2w1 : w.heap.size + 1 < w2.heap.size := (by omega)
  have y2w0 : w.heap.size < w2.heap.size := (by omega)
  have y2wp1 : w.heap.size < w2.heap.size + 1 := (by omega)
  have y2wp2 : w.heap.size < w2.heap.size + 1 + 1 := (by omega)
  go_wp2_with fail
  refine (certified_any _ AR AB AO cr cb co p (HM.out.below (by repeat (first | with_reducible exact D2 | with_reducible apply bdrew | with_reducible apply bdrewN | with_reducible apply balloc | ((with_reducible refine bset ?_ ?_ _); rotate_left; (first | omega | (simp <;> omega)))))) m mb n hrl hbl hol X cX lx x d hlx (HIX.out.below (by repeat (first | with_reducible exact D2 | with_reducible apply bdrew | with_reducible apply bdrewN | with_reducible apply balloc | ((with_reducible refine bset ?_ ?_ _); rotate_left; (first | omega | (simp <;> omega)))))) hx63 Y cY ly y e hly (HIY.out.below (by repeat (first | with_reducible exact D2 | with_reducible apply bdrew | with_reducible apply bdrewN | with_reducible apply balloc | ((with_reducible refine bset ?_ ?_ _); rotate_left; (first | omega | (simp <;> omega)))))) hy63 c c2 (Lib.hid HFB.out.2.2)).mono ?_
  rintro e w3 ⟨ok3, rfl, HO3, hB3⟩
  have D3 := dstep w hB3 (by repeat (first | with_reducible exact D2 | with_reducible apply bdrew | with_reducible apply bdrewN | with_reducible apply balloc | ((with_reducible refine bset ?_ ?_ _); rotate_left; (first | omega | (simp <;> omega)))))
  have d3s := D3.size
  have C3 := Cls.below (l := [(w.heap.size, 0, .slice AR m cr), (w.heap.size, 1, .slice AB mb cb), (w.heap.size, 2, .slice AO n co), (w.heap.size + 1, 0, .slice X lx cX), (w.heap.size + 1, 1, .int .i64 d), (w.heap.size + 1 + 1, 0, .slice Y ly cY), (w.heap.size + 1 + 1, 1, .int .i64 e), (w2.heap.size, 0, .int .i64 c), (w2.heap.size, 1, .int .i64 c2)]) hB3 (by simp [Cls, go_sem, F2, y2w2, y2w1, y2w0, y2wp1, y2wp2])
  have F3 := C3
  simp only [Cls, and_true] at F3
  have y3w2 : w.heap.size + 1 + 1 < w3.heap.size := C3.blk (b := w.heap.size + 1 + 1) (k := 0) (v := .slice Y ly cY) (by simp)
  have y3w1 : w.heap.size + 1 < w3.heap.size := (by omega)
  have y3w0 : w.heap.size < w3.heap.size := (by omega)
  have y3wp1 : w.heap.size < w3.heap.size + 1 := (by omega)
  have y3wp2 : w.heap.size < w3.heap.size + 1 + 1 := (by omega)
  have y3w20 : w2.heap.size < w3.heap.size := C3.blk (b := w2.heap.size) (k := 0) (v := .int .i64 c) (by simp)
  have y3w2p1 : w2.heap.size < w3.heap.size + 1 := (by omega)
  have y3w2p2 : w2.heap.size < w3.heap.size + 1 + 1 := (by omega)
  go_wp2_with fail
  refine (refuted_any _ AR AB AO cr cb co p (HM.out.below (by repeat (first | with_reducible exact D3 | with_reducible apply bdrew | with_reducible apply bdrewN | with_reducible apply balloc | ((with_reducible refine bset ?_ ?_ _); rotate_left; (first | omega | (simp <;> omega)))))) m mb n hrl hbl hol Y cY ly y e hly (HIY.out.below (by repeat (first | with_reducible exact D3 | with_reducible apply bdrew | with_reducible apply bdrewN | with_reducible apply balloc | ((with_reducible refine bset ?_ ?_ _); rotate_left; (first | omega | (simp <;> omega)))))) hy63 c c2 (Lib.hid HFB.out.2.1)).mono ?_
  rintro e w4 ⟨ok4, rfl, HO4, hB4⟩
  have D4 := dstep w hB4 (by repeat (first | with_reducible exact D3 | with_reducible apply bdrew | with_reducible apply bdrewN | with_reducible apply balloc | ((with_reducible refine bset ?_ ?_ _); rotate_left; (first | omega | (simp <;> omega)))))
  have d4s := D4.size
  have C4 := Cls.below (l := [(w.heap.size, 0, .slice AR m cr), (w.heap.size, 1, .slice AB mb cb), (w.heap.size, 2, .slice AO n co), (w.heap.size + 1, 0, .slice X lx cX), (w.heap.size + 1, 1, .int .i64 d), (w.heap.size + 1 + 1, 0, .slice Y ly cY), (w.heap.size + 1 + 1, 1, .int .i64 e), (w2.heap.size, 0, .int .i64 c), (w2.heap.size, 1, .int .i64 c2), (w3.heap.size, 0, .int .i64 c), (w3.heap.size, 1, .int .i64 c2)]) hB4 (by simp [Cls, go_sem, F3, y3w2, y3w1, y3w0, y3wp1, y3wp2, y3w20, y3w2p1, y3w2p2])
  have F4 := C4
  simp only [Cls, and_true] at F4
  have y4w2 : w.heap.size + 1 + 1 < w4.heap.size := C4.blk (b := w.heap.size + 1 + 1) (k := 0) (v := .slice Y ly cY) (by simp)
  have y4w1 : w.heap.size + 1 < w4.heap.size := (by omega)
  have y4w0 : w.heap.size < w4.heap.size := (by omega)
  have y4wp1 : w.heap.size < w4.heap.size + 1 := (by omega)
  have y4wp2 : w.heap.size < w4.heap.size + 1 + 1 := (by omega)
  have y4w20 : w2.heap.size < w4.heap.size := C4.blk (b := w2.heap.size) (k := 0) (v := .int .i64 c) (by simp)
  have y4w2p1 : w2.heap.size < w4.heap.size + 1 := (by omega)
  have y4w2p2 : w2.heap.size < w4.heap.size + 1 + 1 := (by omega)
  have y4w30 : w3.heap.size < w4.heap.size := C4.blk (b := w3.heap.size) (k := 0) (v := .int .i64 c) (by simp)
  have y4w3p1 : w3.heap.size < w4.heap.size + 1 := (by omega)
  have y4w3p2 : w3.heap.size < w4.heap.size + 1 + 1 := (by omega)
  go_wp2_with fail
  refine (improving_any _ AR AB AO cr cb co p (HM.out.below (by repeat (first | with_reducible exact D4 | with_reducible apply bdrew | with_reducible apply bdrewN | with_reducible apply balloc | ((with_reducible refine bset ?_ ?_ _); rotate_left; (first | omega | (simp <;> omega)))))) m mb n hrl hbl hol X cX lx x d hlx (HIX.out.below (by repeat (first | with_reducible exact D4 | with_reducible apply bdrew | with_reducible apply bdrewN | with_reducible apply balloc | ((with_reducible refine bset ?_ ?_ _); rotate_left; (first | omega | (simp <;> omega)))))) hx63 c c2 (Lib.hid HFB.out.1)).mono ?_
  rintro e w5 ⟨ok5, rfl, HO5, hB5⟩
  have D5 := dstep w hB5 (by repeat (first | with_reducible exact D4 | with_reducible apply bdrew | with_reducible apply bdrewN | with_reducible apply balloc | ((with_reducible refine bset ?_ ?_ _); rotate_left; (first | omega | (simp <;> omega)))))
  have d5s := D5.size
  have C5 := Cls.below (l := [(w.heap.size, 0, .slice AR m cr), (w.heap.size, 1, .slice AB mb cb), (w.heap.size, 2, .slice AO n co), (w.heap.size + 1, 0, .slice X lx cX), (w.heap.size + 1, 1, .int .i64 d), (w.heap.size + 1 + 1, 0, .slice Y ly cY), (w.heap.size + 1 + 1, 1, .int .i64 e), (w2.heap.size, 0, .int .i64 c), (w2.heap.size, 1, .int .i64 c2), (w3.heap.size, 0, .int .i64 c), (w3.heap.size, 1, .int .i64 c2), (w4.heap.size, 0, .int .i64 c), (w4.heap.size, 1, .int .i64 c2)]) hB5 (by simp [Cls, go_sem, F4, y4w2, y4w1, y4w0, y4wp1, y4wp2, y4w20, y4w2p1, y4w2p2, y4w30, y4w3p1, y4w3p2])
  have F5 := C5
  simp only [Cls, and_true] at F5
  have y5w2 : w.heap.size + 1 + 1 < w5.heap.size := C5.blk (b := w.heap.size + 1 + 1) (k := 0) (v := .slice Y ly cY) (by simp)
  have y5w1 : w.heap.size + 1 < w5.heap.size := (by omega)
  have y5w0 : w.heap.size < w5.heap.size := (by omega)
  have y5wp1 : w.heap.size < w5.heap.size + 1 := (by omega)
  have y5wp2 : w.heap.size < w5.heap.size + 1 + 1 := (by omega)
  have y5w20 : w2.heap.size < w5.heap.size := C5.blk (b := w2.heap.size) (k := 0) (v := .int .i64 c) (by simp)
  have y5w2p1 : w2.heap.size < w5.heap.size + 1 := (by omega)
  have y5w2p2 : w2.heap.size < w5.heap.size + 1 + 1 := (by omega)
  have y5w30 : w3.heap.size < w5.heap.size := C5.blk (b := w3.heap.size) (k := 0) (v := .int .i64 c) (by simp)
  have y5w3p1 : w3.heap.size < w5.heap.size + 1 := (by omega)
  have y5w3p2 : w3.heap.size < w5.heap.size + 1 + 1 := (by omega)
  have y5w40 : w4.heap.size < w5.heap.size := C5.blk (b := w4.heap.size) (k := 0) (v := .int .i64 c) (by simp)
  have y5w4p1 : w4.heap.size < w5.heap.size + 1 := (by omega)
  have y5w4p2 : w4.heap.size < w5.heap.size + 1 + 1 := (by omega)
  obtain rfl : ok2 = false := HO2.out.1 HC0.out
  obtain rfl : ok3 = false := HO3.out.1 HC0.out
  obtain rfl : ok4 = false := HO4.out.1 HC0.out
  obtain rfl : ok5 = false := HO5.out.1 HC0.out
  clear HO2 HO3 HO4 HO5
  go_wp2_with fail
  refine (HLF.out _ (by repeat (first | with_reducible exact D5 | with_reducible apply bdrew | with_reducible apply bdrewN | with_reducible apply balloc | ((with_reducible refine bset ?_ ?_ _); rotate_left; (first | omega | (simp <;> omega)))))).mono ?_
  rintro e w6 ⟨rfl, hB6⟩
  have D6 := dstep w hB6 (by repeat (first | with_reducible exact D5 | with_reducible apply bdrew | with_reducible apply bdrewN | with_reducible apply balloc | ((with_reducible refine bset ?_ ?_ _); rotate_left; (first | omega | (simp <;> omega)))))
  have d6s := D6.size
  have C6 := Cls.below (l := [(w.heap.size, 0, .slice AR m cr), (w.heap.size, 1, .slice AB mb cb), (w.heap.size, 2, .slice AO n co), (w.heap.size + 1, 0, .slice X lx cX), (w.heap.size + 1, 1, .int .i64 d), (w.heap.size + 1 + 1, 0, .slice Y ly cY), (w.heap.size + 1 + 1, 1, .int .i64 e), (w2.heap.size, 0, .int .i64 c), (w2.heap.size, 1, .int .i64 c2), (w3.heap.size, 0, .int .i64 c), (w3.heap.size, 1, .int .i64 c2), (w4.heap.size, 0, .int .i64 c), (w4.heap.size, 1, .int .i64 c2), (w5.heap.size, 0, .int .i64 c), (w5.heap.size, 1, .int .i64 c2)]) hB6 (by simp [Cls, go_sem, F5, y5w2, y5w1, y5w0, y5wp1, y5wp2, y5w20, y5w2p1, y5w2p2, y5w30, y5w3p1, y5w3p2, y5w40, y5w4p1, y5w4p2])
  have F6 := C6
  simp only [Cls, and_true] at F6
  have y6w2 : w.heap.size + 1 + 1 < w6.heap.size := C6.blk (b := w.heap.size + 1 + 1) (k := 0) (v := .slice Y ly cY) (by simp)
  have y6w1 : w.heap.size + 1 < w6.heap.size := (by omega)
  have y6w0 : w.heap.size < w6.heap.size := (by omega)
  have y6wp1 : w.heap.size < w6.heap.size + 1 := (by omega)
  have y6wp2 : w.heap.size < w6.heap.size + 1 + 1 := (by omega)
  have y6w20 : w2.heap.size < w6.heap.size := C6.blk (b := w2.heap.size) (k := 0) (v := .int .i64 c) (by simp)
  have y6w2p1 : w2.heap.size < w6.heap.size + 1 := (by omega)
  have y6w2p2 : w2.heap.size < w6.heap.size + 1 + 1 := (by omega)
  have y6w30 : w3.heap.size < w6.heap.size := C6.blk (b := w3.heap.size) (k := 0) (v := .int .i64 c) (by simp)
  have y6w3p1 : w3.heap.size < w6.heap.size + 1 := (by omega)
  have y6w3p2 : w3.heap.size < w6.heap.size + 1 + 1 := (by omega)
  have y6w40 : w4.heap.size < w6.heap.size := C6.blk (b := w4.heap.size) (k := 0) (v := .int .i64 c) (by simp)
  have y6w4p1 : w4.heap.size < w6.heap.size + 1 := (by omega)
  have y6w4p2 : w4.heap.size < w6.heap.size + 1 + 1 := (by omega)
  have y6w50 : w5.heap.size < w6.heap.size := C6.blk (b := w5.heap.size) (k := 0) (v := .int .i64 c) (by simp)
  have y6w5p1 : w5.heap.size < w6.heap.size + 1 := (by omega)
  have y6w5p2 : w5.heap.size < w6.heap.size + 1 + 1 := (by omega)
  go_wp2
  refine bodyPost_ret (v := .bool true) ?_ rfl ⟨rfl, by repeat (first | with_reducible exact D6 | with_reducible apply bdrew | with_reducible apply bdrewN | with_reducible apply balloc | ((with_reducible refine bset ?_ ?_ _); rotate_left; (first | omega | (simp <;> omega))))⟩
  simp [results, Try.results9, go_sem, F6, y6w2, y6w1, y6w0, y6wp1, y6wp2, y6w20, y6w2p1, y6w2p2, y6w30, y6w3p1, y6w3p2, y6w40, y6w4p1, y6w4p2, y6w50, y6w5p1, y6w5p2]

set_option maxRecDepth 100000 in
set_option maxHeartbeats 8000000 in
theorem walk_lfm_1 (w : World) (AR AB AO : Option Addr) (cr cb co : Nat) (p : LpV) (hM : LpMem w AR AB AO p) (m mb n : Nat) (hrl : Hid (p.rows.length = m)) (hbl : Hid (p.bounds.length = mb)) (hol : Hid (p.obj.length = n)) (X : Option Addr) (cX lx : Nat) (x : List Int) (d : Int) (hlx : Hid (x.length = lx)) (hIx : Ints w X x) (hx63 : lx ≤ 9223372036854775807) (Y : Option Addr) (cY ly : Nat) (y : List Int) (e : Int) (hly : Hid (y.length = ly)) (hIy : Ints w Y y) (hy63 : ly ≤ 9223372036854775807) (hok : LpOk p) (px py : Int) (hpx : Hid (vecC x d p.obj.length = px)) (hpy : Hid (vecC y e p.rows.length = py)) (hx0 : ¬ px = 0) (hy0 : ¬ py = 0) :
    Calls Try.prog 9 #[.agg #[.slice AR m cr, .slice AB mb cb, .slice AO n co], .agg #[.slice X lx cX, .int .i64 d], .agg #[.slice Y ly cY, .int .i64 e]] w fun e w' => e = .returned (.bool true) ∧ Below w.heap.size w w' := by
  have HIX := Lib.hid hIx
  have HIY := Lib.hid hIy
  have HM := Lib.hid hM
  have HOK := Lib.hid hok
  have HLZ : Hid ((lpF p).1 = 0) := Lib.hid (by rw [lpF_ok hok])
  have HVX0 : Hid (∀ W : World, Below w.heap.size w W → Calls Try.prog 18 #[.agg #[.slice X lx cX, .int .i64 d], .int .i64 n] W fun e w' => e = .returned (.int .i64 px) ∧ Below W.heap.size W w') := Lib.hid (fun W hB => by
    have h := svcode_any W X cX x d n (HIX.out.below hB) (by rw [hlx.out]; exact hx63)
    rw [hlx.out, ← hol.out, hpx.out, hol.out] at h
    exact h)
  have HVY0 : Hid (∀ W : World, Below w.heap.size w W → Calls Try.prog 18 #[.agg #[.slice Y ly cY, .int .i64 e], .int .i64 m] W fun r w' => r = .returned (.int .i64 py) ∧ Below W.heap.size W w') := Lib.hid (fun W hB => by
    have h := svcode_any W Y cY y e m (HIY.out.below hB) (by rw [hly.out]; exact hy63)
    rw [hly.out, ← hrl.out, hpy.out, hrl.out] at h
    exact h)
  have HLF : Hid (∀ W : World, Below w.heap.size w W → Calls Try.prog 14 #[.agg #[.slice AR m cr, .slice AB mb cb, .slice AO n co]] W fun e w' => e = .returned (.agg #[.int .i64 0, .int .i64 0]) ∧ Below W.heap.size W w') := Lib.hid (fun W hB => by
    have h := slfault_any W AR AB AO cr cb co p (HM.out.below hB)
    rw [hrl.out, hbl.out, hol.out, lpF_ok HOK.out] at h
    exact h)
  have HPX := Lib.hid hx0
  have HPY := Lib.hid hy0
  have hx1 := bb_no hx0
  have hx2 := bn_yes hx0
  have hy1 := bb_no hy0
  have hy2 := bn_yes hy0
  have HFP := Lib.hid (fltP_bad HLZ.out hpx.out hx0)
  have HFD := Lib.hid (fltD_bad HLZ.out hpy.out hy0)
  have HFPD : Hid (fltPD p x d y e = (px, -4)) := Lib.hid (fltPD_px HFP.out hx0)
  clear hM hIx hIy
  go_enter Try.func9, Try.ntmps9
  go_wp2_with fail
  refine (lnexample_any _).mono ?_
  rintro e w1 ⟨rfl, hB1⟩
  have D1 := dstep w hB1 (by repeat (first | with_reducible exact Below.refl _ _ | with_reducible apply bdrew | with_reducible apply bdrewN | with_reducible apply balloc | ((with_reducible refine bset ?_ ?_ _); rotate_left; (first | omega | (simp <;> omega)))))
  have d1s := D1.size
  have C1 := Cls.below (l := [(w.heap.size, 0, .slice AR m cr), (w.heap.size, 1, .slice AB mb cb), (w.heap.size, 2, .slice AO n co), (w.heap.size + 1, 0, .slice X lx cX), (w.heap.size + 1, 1, .int .i64 d), (w.heap.size + 1 + 1, 0, .slice Y ly cY), (w.heap.size + 1 + 1, 1, .int .i64 e)]) hB1 (by simp [Cls, go_sem])
  have F1 := C1
  simp only [Cls, and_true] at F1
  have y1w2 : w.heap.size + 1 + 1 < w1.heap.size := C1.blk (b := w.heap.size + 1 + 1) (k := 0) (v := .slice Y ly cY) (by simp)
  have y1w1 : w.heap.size + 1 < w1.heap.size := (by omega)
  have y1w0 : w.heap.size < w1.heap.size := (by omega)
  have y1wp1 : w.heap.size < w1.heap.size + 1 := (by omega)
  have y1wp2 : w.heap.size < w1.heap.size + 1 + 1 := (by omega)
  go_wp2_with fail
  refine (feasible_any _ AR AB AO cr cb co p (HM.out.below (by repeat (first | with_reducible exact D1 | with_reducible apply bdrew | with_reducible apply bdrewN | with_reducible apply balloc | ((with_reducible refine bset ?_ ?_ _); rotate_left; (first | omega | (simp <;> omega)))))) m mb n hrl hbl hol X cX lx x d hlx (HIX.out.below (by repeat (first | with_reducible exact D1 | with_reducible apply bdrew | with_reducible apply bdrewN | with_reducible apply balloc | ((with_reducible refine bset ?_ ?_ _); rotate_left; (first | omega | (simp <;> omega)))))) hx63 px (-4) HFP).mono ?_
  rintro e w2 ⟨ok2, rfl, HO2, hB2⟩
  have D2 := dstep w hB2 (by repeat (first | with_reducible exact D1 | with_reducible apply bdrew | with_reducible apply bdrewN | with_reducible apply balloc | ((with_reducible refine bset ?_ ?_ _); rotate_left; (first | omega | (simp <;> omega)))))
  have d2s := D2.size
  have C2 := Cls.below (l := [(w.heap.size, 0, .slice AR m cr), (w.heap.size, 1, .slice AB mb cb), (w.heap.size, 2, .slice AO n co), (w.heap.size + 1, 0, .slice X lx cX), (w.heap.size + 1, 1, .int .i64 d), (w.heap.size + 1 + 1, 0, .slice Y ly cY), (w.heap.size + 1 + 1, 1, .int .i64 e)]) hB2 (by simp [Cls, go_sem, F1, y1w2, y1w1, y1w0, y1wp1, y1wp2])
  have F2 := C2
  simp only [Cls, and_true] at F2
  have y2w2 : w.heap.size + 1 + 1 < w2.heap.size := C2.blk (b := w.heap.size + 1 + 1) (k := 0) (v := .slice Y ly cY) (by simp)
  have y2w1 : w.heap.size + 1 < w2.heap.size := (by omega)
  have y2w0 : w.heap.size < w2.heap.size := (by omega)
  have y2wp1 : w.heap.size < w2.heap.size + 1 := (by omega)
  have y2wp2 : w.heap.size < w2.heap.size + 1 + 1 := (by omega)
  go_wp2_with fail
  refine (certified_any _ AR AB AO cr cb co p (HM.out.below (by repeat (first | with_reducible exact D2 | with_reducible apply bdrew | with_reducible apply bdrewN | with_reducible apply balloc | ((with_reducible refine bset ?_ ?_ _); rotate_left; (first | omega | (simp <;> omega)))))) m mb n hrl hbl hol X cX lx x d hlx (HIX.out.below (by repeat (first | with_reducible exact D2 | with_reducible apply bdrew | with_reducible apply bdrewN | with_reducible apply balloc | ((with_reducible refine bset ?_ ?_ _); rotate_left; (first | omega | (simp <;> omega)))))) hx63 Y cY ly y e hly (HIY.out.below (by repeat (first | with_reducible exact D2 | with_reducible apply bdrew | with_reducible apply bdrewN | with_reducible apply balloc | ((with_reducible refine bset ?_ ?_ _); rotate_left; (first | omega | (simp <;> omega)))))) hy63 px (-4) HFPD).mono ?_
  rintro e w3 ⟨ok3, rfl, HO3, hB3⟩
  have D3 := dstep w hB3 (by repeat (first | with_reducible exact D2 | with_reducible apply bdrew | with_reducible apply bdrewN | with_reducible apply balloc | ((with_reducible refine bset ?_ ?_ _); rotate_left; (first | omega | (simp <;> omega)))))
  have d3s := D3.size
  have C3 := Cls.below (l := [(w.heap.size, 0, .slice AR m cr), (w.heap.size, 1, .slice AB mb cb), (w.heap.size, 2, .slice AO n co), (w.heap.size + 1, 0, .slice X lx cX), (w.heap.size + 1, 1, .int .i64 d), (w.heap.size + 1 + 1, 0, .slice Y ly cY), (w.heap.size + 1 + 1, 1, .int .i64 e), (w2.heap.size, 0, .int .i64 px), (w2.heap.size, 1, .int .i64 (-4))]) hB3 (by simp [Cls, go_sem, F2, y2w2, y2w1, y2w0, y2wp1, y2wp2])
  have F3 := C3
  simp only [Cls, and_true] at F3
  have y3w2 : w.heap.size + 1 + 1 < w3.heap.size := C3.blk (b := w.heap.size + 1 + 1) (k := 0) (v := .slice Y ly cY) (by simp)
  have y3w1 : w.heap.size + 1 < w3.heap.size := (by omega)
  have y3w0 : w.heap.size < w3.heap.size := (by omega)
  have y3wp1 : w.heap.size < w3.heap.size + 1 := (by omega)
  have y3wp2 : w.heap.size < w3.heap.size + 1 + 1 := (by omega)
  have y3w20 : w2.heap.size < w3.heap.size := C3.blk (b := w2.heap.size) (k := 0) (v := .int .i64 px) (by simp)
  have y3w2p1 : w2.heap.size < w3.heap.size + 1 := (by omega)
  have y3w2p2 : w2.heap.size < w3.heap.size + 1 + 1 := (by omega)
  go_wp2_with fail
  refine (refuted_any _ AR AB AO cr cb co p (HM.out.below (by repeat (first | with_reducible exact D3 | with_reducible apply bdrew | with_reducible apply bdrewN | with_reducible apply balloc | ((with_reducible refine bset ?_ ?_ _); rotate_left; (first | omega | (simp <;> omega)))))) m mb n hrl hbl hol Y cY ly y e hly (HIY.out.below (by repeat (first | with_reducible exact D3 | with_reducible apply bdrew | with_reducible apply bdrewN | with_reducible apply balloc | ((with_reducible refine bset ?_ ?_ _); rotate_left; (first | omega | (simp <;> omega)))))) hy63 py (-4) HFD).mono ?_
  rintro e w4 ⟨ok4, rfl, HO4, hB4⟩
  have D4 := dstep w hB4 (by repeat (first | with_reducible exact D3 | with_reducible apply bdrew | with_reducible apply bdrewN | with_reducible apply balloc | ((with_reducible refine bset ?_ ?_ _); rotate_left; (first | omega | (simp <;> omega)))))
  have d4s := D4.size
  have C4 := Cls.below (l := [(w.heap.size, 0, .slice AR m cr), (w.heap.size, 1, .slice AB mb cb), (w.heap.size, 2, .slice AO n co), (w.heap.size + 1, 0, .slice X lx cX), (w.heap.size + 1, 1, .int .i64 d), (w.heap.size + 1 + 1, 0, .slice Y ly cY), (w.heap.size + 1 + 1, 1, .int .i64 e), (w2.heap.size, 0, .int .i64 px), (w2.heap.size, 1, .int .i64 (-4)), (w3.heap.size, 0, .int .i64 px), (w3.heap.size, 1, .int .i64 (-4))]) hB4 (by simp [Cls, go_sem, F3, y3w2, y3w1, y3w0, y3wp1, y3wp2, y3w20, y3w2p1, y3w2p2])
  have F4 := C4
  simp only [Cls, and_true] at F4
  have y4w2 : w.heap.size + 1 + 1 < w4.heap.size := C4.blk (b := w.heap.size + 1 + 1) (k := 0) (v := .slice Y ly cY) (by simp)
  have y4w1 : w.heap.size + 1 < w4.heap.size := (by omega)
  have y4w0 : w.heap.size < w4.heap.size := (by omega)
  have y4wp1 : w.heap.size < w4.heap.size + 1 := (by omega)
  have y4wp2 : w.heap.size < w4.heap.size + 1 + 1 := (by omega)
  have y4w20 : w2.heap.size < w4.heap.size := C4.blk (b := w2.heap.size) (k := 0) (v := .int .i64 px) (by simp)
  have y4w2p1 : w2.heap.size < w4.heap.size + 1 := (by omega)
  have y4w2p2 : w2.heap.size < w4.heap.size + 1 + 1 := (by omega)
  have y4w30 : w3.heap.size < w4.heap.size := C4.blk (b := w3.heap.size) (k := 0) (v := .int .i64 px) (by simp)
  have y4w3p1 : w3.heap.size < w4.heap.size + 1 := (by omega)
  have y4w3p2 : w3.heap.size < w4.heap.size + 1 + 1 := (by omega)
  go_wp2_with fail
  refine (improving_any _ AR AB AO cr cb co p (HM.out.below (by repeat (first | with_reducible exact D4 | with_reducible apply bdrew | with_reducible apply bdrewN | with_reducible apply balloc | ((with_reducible refine bset ?_ ?_ _); rotate_left; (first | omega | (simp <;> omega)))))) m mb n hrl hbl hol X cX lx x d hlx (HIX.out.below (by repeat (first | with_reducible exact D4 | with_reducible apply bdrew | with_reducible apply bdrewN | with_reducible apply balloc | ((with_reducible refine bset ?_ ?_ _); rotate_left; (first | omega | (simp <;> omega)))))) hx63 px (-4) HFP).mono ?_
  rintro e w5 ⟨ok5, rfl, HO5, hB5⟩
  have D5 := dstep w hB5 (by repeat (first | with_reducible exact D4 | with_reducible apply bdrew | with_reducible apply bdrewN | with_reducible apply balloc | ((with_reducible refine bset ?_ ?_ _); rotate_left; (first | omega | (simp <;> omega)))))
  have d5s := D5.size
  have C5 := Cls.below (l := [(w.heap.size, 0, .slice AR m cr), (w.heap.size, 1, .slice AB mb cb), (w.heap.size, 2, .slice AO n co), (w.heap.size + 1, 0, .slice X lx cX), (w.heap.size + 1, 1, .int .i64 d), (w.heap.size + 1 + 1, 0, .slice Y ly cY), (w.heap.size + 1 + 1, 1, .int .i64 e), (w2.heap.size, 0, .int .i64 px), (w2.heap.size, 1, .int .i64 (-4)), (w3.heap.size, 0, .int .i64 px), (w3.heap.size, 1, .int .i64 (-4)), (w4.heap.size, 0, .int .i64 py), (w4.heap.size, 1, .int .i64 (-4))]) hB5 (by simp [Cls, go_sem, F4, y4w2, y4w1, y4w0, y4wp1, y4wp2, y4w20, y4w2p1, y4w2p2, y4w30, y4w3p1, y4w3p2])
  have F5 := C5
  simp only [Cls, and_true] at F5
  have y5w2 : w.heap.size + 1 + 1 < w5.heap.size := C5.blk (b := w.heap.size + 1 + 1) (k := 0) (v := .slice Y ly cY) (by simp)
  have y5w1 : w.heap.size + 1 < w5.heap.size := (by omega)
  have y5w0 : w.heap.size < w5.heap.size := (by omega)
  have y5wp1 : w.heap.size < w5.heap.size + 1 := (by omega)
  have y5wp2 : w.heap.size < w5.heap.size + 1 + 1 := (by omega)
  have y5w20 : w2.heap.size < w5.heap.size := C5.blk (b := w2.heap.size) (k := 0) (v := .int .i64 px) (by simp)
  have y5w2p1 : w2.heap.size < w5.heap.size + 1 := (by omega)
  have y5w2p2 : w2.heap.size < w5.heap.size + 1 + 1 := (by omega)
  have y5w30 : w3.heap.size < w5.heap.size := C5.blk (b := w3.heap.size) (k := 0) (v := .int .i64 px) (by simp)
  have y5w3p1 : w3.heap.size < w5.heap.size + 1 := (by omega)
  have y5w3p2 : w3.heap.size < w5.heap.size + 1 + 1 := (by omega)
  have y5w40 : w4.heap.size < w5.heap.size := C5.blk (b := w4.heap.size) (k := 0) (v := .int .i64 py) (by simp)
  have y5w4p1 : w4.heap.size < w5.heap.size + 1 := (by omega)
  have y5w4p2 : w4.heap.size < w5.heap.size + 1 + 1 := (by omega)
  obtain rfl : ok2 = false := HO2.out.1 HPX.out
  obtain rfl : ok3 = false := HO3.out.1 HPX.out
  obtain rfl : ok4 = false := HO4.out.1 HPY.out
  obtain rfl : ok5 = false := HO5.out.1 HPX.out
  clear HO2 HO3 HO4 HO5
  go_wp2_with fail
  refine (HLF.out _ (by repeat (first | with_reducible exact D5 | with_reducible apply bdrew | with_reducible apply bdrewN | with_reducible apply balloc | ((with_reducible refine bset ?_ ?_ _); rotate_left; (first | omega | (simp <;> omega)))))).mono ?_
  rintro e w6 ⟨rfl, hB6⟩
  have D6 := dstep w hB6 (by repeat (first | with_reducible exact D5 | with_reducible apply bdrew | with_reducible apply bdrewN | with_reducible apply balloc | ((with_reducible refine bset ?_ ?_ _); rotate_left; (first | omega | (simp <;> omega)))))
  have d6s := D6.size
  have C6 := Cls.below (l := [(w.heap.size, 0, .slice AR m cr), (w.heap.size, 1, .slice AB mb cb), (w.heap.size, 2, .slice AO n co), (w.heap.size + 1, 0, .slice X lx cX), (w.heap.size + 1, 1, .int .i64 d), (w.heap.size + 1 + 1, 0, .slice Y ly cY), (w.heap.size + 1 + 1, 1, .int .i64 e), (w2.heap.size, 0, .int .i64 px), (w2.heap.size, 1, .int .i64 (-4)), (w3.heap.size, 0, .int .i64 px), (w3.heap.size, 1, .int .i64 (-4)), (w4.heap.size, 0, .int .i64 py), (w4.heap.size, 1, .int .i64 (-4)), (w5.heap.size, 0, .int .i64 px), (w5.heap.size, 1, .int .i64 (-4))]) hB6 (by simp [Cls, go_sem, F5, y5w2, y5w1, y5w0, y5wp1, y5wp2, y5w20, y5w2p1, y5w2p2, y5w30, y5w3p1, y5w3p2, y5w40, y5w4p1, y5w4p2])
  have F6 := C6
  simp only [Cls, and_true] at F6
  have y6w2 : w.heap.size + 1 + 1 < w6.heap.size := C6.blk (b := w.heap.size + 1 + 1) (k := 0) (v := .slice Y ly cY) (by simp)
  have y6w1 : w.heap.size + 1 < w6.heap.size := (by omega)
  have y6w0 : w.heap.size < w6.heap.size := (by omega)
  have y6wp1 : w.heap.size < w6.heap.size + 1 := (by omega)
  have y6wp2 : w.heap.size < w6.heap.size + 1 + 1 := (by omega)
  have y6w20 : w2.heap.size < w6.heap.size := C6.blk (b := w2.heap.size) (k := 0) (v := .int .i64 px) (by simp)
  have y6w2p1 : w2.heap.size < w6.heap.size + 1 := (by omega)
  have y6w2p2 : w2.heap.size < w6.heap.size + 1 + 1 := (by omega)
  have y6w30 : w3.heap.size < w6.heap.size := C6.blk (b := w3.heap.size) (k := 0) (v := .int .i64 px) (by simp)
  have y6w3p1 : w3.heap.size < w6.heap.size + 1 := (by omega)
  have y6w3p2 : w3.heap.size < w6.heap.size + 1 + 1 := (by omega)
  have y6w40 : w4.heap.size < w6.heap.size := C6.blk (b := w4.heap.size) (k := 0) (v := .int .i64 py) (by simp)
  have y6w4p1 : w4.heap.size < w6.heap.size + 1 := (by omega)
  have y6w4p2 : w4.heap.size < w6.heap.size + 1 + 1 := (by omega)
  have y6w50 : w5.heap.size < w6.heap.size := C6.blk (b := w5.heap.size) (k := 0) (v := .int .i64 px) (by simp)
  have y6w5p1 : w5.heap.size < w6.heap.size + 1 := (by omega)
  have y6w5p2 : w5.heap.size < w6.heap.size + 1 + 1 := (by omega)
  go_wp2_with fail
  go_upto_region 10 with fail
  go_cut [16, 17] (fun u v wx => u = .int .i64 px ∧ v = .int .i64 py ∧ Below w.heap.size w wx ∧ Cls wx [(w.heap.size, 0, .slice AR m cr), (w.heap.size, 1, .slice AB mb cb), (w.heap.size, 2, .slice AO n co), (w.heap.size + 1, 0, .slice X lx cX), (w.heap.size + 1, 1, .int .i64 d), (w.heap.size + 1 + 1, 0, .slice Y ly cY), (w.heap.size + 1 + 1, 1, .int .i64 e), (w2.heap.size, 0, .int .i64 px), (w2.heap.size, 1, .int .i64 (-4)), (w3.heap.size, 0, .int .i64 px), (w3.heap.size, 1, .int .i64 (-4)), (w4.heap.size, 0, .int .i64 py), (w4.heap.size, 1, .int .i64 (-4)), (w5.heap.size, 0, .int .i64 px), (w5.heap.size, 1, .int .i64 (-4)), (w6.heap.size, 0, .int .i64 0), (w6.heap.size, 1, .int .i64 0)])
  case first =>
    refine wp_region_held_drew (S := fun W => W.cell? ⟨w.heap.size, 0, none⟩ = some (.slice AR m cr) ∧ W.cell? ⟨w.heap.size, 2, none⟩ = some (.slice AO n co) ∧ W.cell? ⟨w.heap.size + 1, 0, none⟩ = some (.slice X lx cX) ∧ W.cell? ⟨w.heap.size + 1, 1, none⟩ = some (.int .i64 d) ∧ W.cell? ⟨w.heap.size + 1 + 1, 0, none⟩ = some (.slice Y ly cY) ∧ W.cell? ⟨w.heap.size + 1 + 1, 1, none⟩ = some (.int .i64 e)) (by kernel_rfl) (by simp [go_sem, F6, y6w2, y6w1, y6w0, y6wp1, y6wp2, y6w20, y6w2p1, y6w2p2, y6w30, y6w3p1, y6w3p2, y6w40, y6w4p1, y6w4p2, y6w50, y6w5p1, y6w5p2]) (fun hHeld => ?_)
    refine wpAnyH_take (i := 0) (v := ?vo10) rfl (by kernel_rfl) (by kernel_rfl) (by kernel_rfl) (fun _ _ _ h => h) (Or.inl ⟨by rfl, ?ho10⟩) (by assumption) ?ro10
    case ho10 => (intro w hSw; (try dsimp only at hSw); go_simp; (try with_reducible rfl))
    try simp only [Act.put, List.getElem_toArray, List.getElem_cons_succ, List.getElem_cons_zero, List.setIfInBounds_toArray, List.set_cons_zero, List.set_cons_succ]
    refine wpAnyH_take (i := 1) (v := ?vo11) rfl (by kernel_rfl) (by kernel_rfl) (by kernel_rfl) (fun _ _ _ h => h) (Or.inl ⟨by rfl, ?ho11⟩) (by assumption) ?ro11
    case ho11 => (intro w hSw; (try dsimp only at hSw); go_simp; (try with_reducible rfl))
    try simp only [Act.put, List.getElem_toArray, List.getElem_cons_succ, List.getElem_cons_zero, List.setIfInBounds_toArray, List.set_cons_zero, List.set_cons_succ]
    refine wpAnyH_take (i := 2) (v := ?vo12) rfl (by kernel_rfl) (by kernel_rfl) (by kernel_rfl) (fun _ _ _ h => h) (Or.inl ⟨by rfl, ?ho12⟩) (by assumption) ?ro12
    case ho12 => (intro w hSw; (try dsimp only at hSw); go_simp; (try with_reducible rfl))
    try simp only [Act.put, List.getElem_toArray, List.getElem_cons_succ, List.getElem_cons_zero, List.setIfInBounds_toArray, List.set_cons_zero, List.set_cons_succ]
    refine wpAnyH_take (i := 3) (v := ?vo13) rfl (by kernel_rfl) (by kernel_rfl) (by kernel_rfl) (fun _ _ _ h => h) (Or.inl ⟨by rfl, ?ho13⟩) (by assumption) ?ro13
    case ho13 => (intro w hSw; (try dsimp only at hSw); go_simp; (try with_reducible rfl))
    try simp only [Act.put, List.getElem_toArray, List.getElem_cons_succ, List.getElem_cons_zero, List.setIfInBounds_toArray, List.set_cons_zero, List.set_cons_succ]
    refine wpAnyH_take (i := 5) (v := ?vo15) rfl (by kernel_rfl) (by kernel_rfl) (by kernel_rfl) (fun _ _ _ h => h) (Or.inl ⟨by rfl, ?ho15⟩) (by assumption) ?ro15
    case ho15 => (intro w hSw; (try dsimp only at hSw); go_simp; (try with_reducible rfl))
    try simp only [Act.put, List.getElem_toArray, List.getElem_cons_succ, List.getElem_cons_zero, List.setIfInBounds_toArray, List.set_cons_zero, List.set_cons_succ]
    refine wpAnyH_take (i := 6) (v := ?vo16) rfl (by kernel_rfl) (by kernel_rfl) (by kernel_rfl) (fun _ _ _ h => h) (Or.inl ⟨by rfl, ?ho16⟩) (by assumption) ?ro16
    case ho16 => (intro w hSw; (try dsimp only at hSw); go_simp; (try with_reducible rfl))
    try simp only [Act.put, List.getElem_toArray, List.getElem_cons_succ, List.getElem_cons_zero, List.setIfInBounds_toArray, List.set_cons_zero, List.set_cons_succ]
    refine wpAnyH_take (i := 7) (v := ?vo17) rfl (by kernel_rfl) (by kernel_rfl) (by kernel_rfl) (fun _ _ _ h => h) (Or.inl ⟨by rfl, ?ho17⟩) (by assumption) ?ro17
    case ho17 => (intro w hSw; (try dsimp only at hSw); go_simp; (try with_reducible rfl))
    try simp only [Act.put, List.getElem_toArray, List.getElem_cons_succ, List.getElem_cons_zero, List.setIfInBounds_toArray, List.set_cons_zero, List.set_cons_succ]
    refine wpAnyH_take (i := 8) (v := ?vo18) rfl (by kernel_rfl) (by kernel_rfl) (by kernel_rfl) (fun _ _ _ h => h) (Or.inl ⟨by rfl, ?ho18⟩) (by assumption) ?ro18
    case ho18 => (intro w hSw; (try dsimp only at hSw); go_simp; (try with_reducible rfl))
    try simp only [Act.put, List.getElem_toArray, List.getElem_cons_succ, List.getElem_cons_zero, List.setIfInBounds_toArray, List.set_cons_zero, List.set_cons_succ]
    refine wpAnyH_ready (rs := [4]) (by kernel_rfl) (by simp) ?_
    refine (AllReadyH.cons rfl (fun K hK => ?bo11x4) AllReadyH.nil)
    case bo11x4 =>
      go_simp
      go_at_call 18
      refine (HVX0.out _ (by repeat (first | with_reducible exact D6 | with_reducible apply bdrew | with_reducible apply bdrewN | with_reducible apply balloc | ((with_reducible refine bset ?_ ?_ _); rotate_left; (first | omega | (simp <;> omega)))))).mono ?_
      rintro e w7 ⟨rfl, hB7⟩
      have D7 := dstep w hB7 (by repeat (first | with_reducible exact D6 | with_reducible apply bdrew | with_reducible apply bdrewN | with_reducible apply balloc | ((with_reducible refine bset ?_ ?_ _); rotate_left; (first | omega | (simp <;> omega)))))
      have C7 := Cls.below (l := [(w.heap.size, 0, .slice AR m cr), (w.heap.size, 1, .slice AB mb cb), (w.heap.size, 2, .slice AO n co), (w.heap.size + 1, 0, .slice X lx cX), (w.heap.size + 1, 1, .int .i64 d), (w.heap.size + 1 + 1, 0, .slice Y ly cY), (w.heap.size + 1 + 1, 1, .int .i64 e), (w2.heap.size, 0, .int .i64 px), (w2.heap.size, 1, .int .i64 (-4)), (w3.heap.size, 0, .int .i64 px), (w3.heap.size, 1, .int .i64 (-4)), (w4.heap.size, 0, .int .i64 py), (w4.heap.size, 1, .int .i64 (-4)), (w5.heap.size, 0, .int .i64 px), (w5.heap.size, 1, .int .i64 (-4)), (w6.heap.size, 0, .int .i64 0), (w6.heap.size, 1, .int .i64 0)]) hB7 (by simp [Cls, go_sem, F6, y6w2, y6w1, y6w0, y6wp1, y6wp2, y6w20, y6w2p1, y6w2p2, y6w30, y6w3p1, y6w3p2, y6w40, y6w4p1, y6w4p2, y6w50, y6w5p1, y6w5p2])
      have F7 := C7
      simp only [Cls, and_true] at F7
      have y7w2 : w.heap.size + 1 + 1 < w7.heap.size := C7.blk (b := w.heap.size + 1 + 1) (k := 0) (v := .slice Y ly cY) (by simp)
      have y7w1 : w.heap.size + 1 < w7.heap.size := (by omega)
      have y7w0 : w.heap.size < w7.heap.size := (by omega)
      have y7wp1 : w.heap.size < w7.heap.size + 1 := (by omega)
      have y7wp2 : w.heap.size < w7.heap.size + 1 + 1 := (by omega)
      have y7w20 : w2.heap.size < w7.heap.size := C7.blk (b := w2.heap.size) (k := 0) (v := .int .i64 px) (by simp)
      have y7w2p1 : w2.heap.size < w7.heap.size + 1 := (by omega)
      have y7w2p2 : w2.heap.size < w7.heap.size + 1 + 1 := (by omega)
      have y7w30 : w3.heap.size < w7.heap.size := C7.blk (b := w3.heap.size) (k := 0) (v := .int .i64 px) (by simp)
      have y7w3p1 : w3.heap.size < w7.heap.size + 1 := (by omega)
      have y7w3p2 : w3.heap.size < w7.heap.size + 1 + 1 := (by omega)
      have y7w40 : w4.heap.size < w7.heap.size := C7.blk (b := w4.heap.size) (k := 0) (v := .int .i64 py) (by simp)
      have y7w4p1 : w4.heap.size < w7.heap.size + 1 := (by omega)
      have y7w4p2 : w4.heap.size < w7.heap.size + 1 + 1 := (by omega)
      have y7w50 : w5.heap.size < w7.heap.size := C7.blk (b := w5.heap.size) (k := 0) (v := .int .i64 px) (by simp)
      have y7w5p1 : w5.heap.size < w7.heap.size + 1 := (by omega)
      have y7w5p2 : w5.heap.size < w7.heap.size + 1 + 1 := (by omega)
      have y7w60 : w6.heap.size < w7.heap.size := C7.blk (b := w6.heap.size) (k := 0) (v := .int .i64 0) (by simp)
      have y7w6p1 : w6.heap.size < w7.heap.size + 1 := (by omega)
      have y7w6p2 : w6.heap.size < w7.heap.size + 1 + 1 := (by omega)
      have hSS : w7.cell? ⟨w.heap.size, 0, none⟩ = some (.slice AR m cr) ∧ w7.cell? ⟨w.heap.size, 2, none⟩ = some (.slice AO n co) ∧ w7.cell? ⟨w.heap.size + 1, 0, none⟩ = some (.slice X lx cX) ∧ w7.cell? ⟨w.heap.size + 1, 1, none⟩ = some (.int .i64 d) ∧ w7.cell? ⟨w.heap.size + 1 + 1, 0, none⟩ = some (.slice Y ly cY) ∧ w7.cell? ⟨w.heap.size + 1 + 1, 1, none⟩ = some (.int .i64 e) := (by simp [F7])
      go_wp2_with fail
      refine hK.out _ _ hSS (fun hHeld => ?_)
      clear hK K
      try simp only [Act.put, List.getElem_toArray, List.getElem_cons_succ, List.getElem_cons_zero, List.setIfInBounds_toArray, List.set_cons_zero, List.set_cons_succ]
      refine wpAnyH_ready (rs := [9]) (by kernel_rfl) (by simp) ?_
      refine (AllReadyH.cons rfl (fun K hK => ?bo12x9) AllReadyH.nil)
      case bo12x9 =>
        go_simp
        go_at_call 18
        refine (HVY0.out _ (by repeat (first | with_reducible exact D7 | with_reducible apply bdrew | with_reducible apply bdrewN | with_reducible apply balloc | ((with_reducible refine bset ?_ ?_ _); rotate_left; (first | omega | (simp <;> omega)))))).mono ?_
        rintro e w8 ⟨rfl, hB8⟩
        have D8 := dstep w hB8 (by repeat (first | with_reducible exact D7 | with_reducible apply bdrew | with_reducible apply bdrewN | with_reducible apply balloc | ((with_reducible refine bset ?_ ?_ _); rotate_left; (first | omega | (simp <;> omega)))))
        have C8 := Cls.below (l := [(w.heap.size, 0, .slice AR m cr), (w.heap.size, 1, .slice AB mb cb), (w.heap.size, 2, .slice AO n co), (w.heap.size + 1, 0, .slice X lx cX), (w.heap.size + 1, 1, .int .i64 d), (w.heap.size + 1 + 1, 0, .slice Y ly cY), (w.heap.size + 1 + 1, 1, .int .i64 e), (w2.heap.size, 0, .int .i64 px), (w2.heap.size, 1, .int .i64 (-4)), (w3.heap.size, 0, .int .i64 px), (w3.heap.size, 1, .int .i64 (-4)), (w4.heap.size, 0, .int .i64 py), (w4.heap.size, 1, .int .i64 (-4)), (w5.heap.size, 0, .int .i64 px), (w5.heap.size, 1, .int .i64 (-4)), (w6.heap.size, 0, .int .i64 0), (w6.heap.size, 1, .int .i64 0)]) hB8 (by simp [Cls, go_sem, F7, y7w2, y7w1, y7w0, y7wp1, y7wp2, y7w20, y7w2p1, y7w2p2, y7w30, y7w3p1, y7w3p2, y7w40, y7w4p1, y7w4p2, y7w50, y7w5p1, y7w5p2, y7w60, y7w6p1, y7w6p2])
        have F8 := C8
        simp only [Cls, and_true] at F8
        have y8w2 : w.heap.size + 1 + 1 < w8.heap.size := C8.blk (b := w.heap.size + 1 + 1) (k := 0) (v := .slice Y ly cY) (by simp)
        have y8w1 : w.heap.size + 1 < w8.heap.size := (by omega)
        have y8w0 : w.heap.size < w8.heap.size := (by omega)
        have y8wp1 : w.heap.size < w8.heap.size + 1 := (by omega)
        have y8wp2 : w.heap.size < w8.heap.size + 1 + 1 := (by omega)
        have y8w20 : w2.heap.size < w8.heap.size := C8.blk (b := w2.heap.size) (k := 0) (v := .int .i64 px) (by simp)
        have y8w2p1 : w2.heap.size < w8.heap.size + 1 := (by omega)
        have y8w2p2 : w2.heap.size < w8.heap.size + 1 + 1 := (by omega)
        have y8w30 : w3.heap.size < w8.heap.size := C8.blk (b := w3.heap.size) (k := 0) (v := .int .i64 px) (by simp)
        have y8w3p1 : w3.heap.size < w8.heap.size + 1 := (by omega)
        have y8w3p2 : w3.heap.size < w8.heap.size + 1 + 1 := (by omega)
        have y8w40 : w4.heap.size < w8.heap.size := C8.blk (b := w4.heap.size) (k := 0) (v := .int .i64 py) (by simp)
        have y8w4p1 : w4.heap.size < w8.heap.size + 1 := (by omega)
        have y8w4p2 : w4.heap.size < w8.heap.size + 1 + 1 := (by omega)
        have y8w50 : w5.heap.size < w8.heap.size := C8.blk (b := w5.heap.size) (k := 0) (v := .int .i64 px) (by simp)
        have y8w5p1 : w5.heap.size < w8.heap.size + 1 := (by omega)
        have y8w5p2 : w5.heap.size < w8.heap.size + 1 + 1 := (by omega)
        have y8w60 : w6.heap.size < w8.heap.size := C8.blk (b := w6.heap.size) (k := 0) (v := .int .i64 0) (by simp)
        have y8w6p1 : w6.heap.size < w8.heap.size + 1 := (by omega)
        have y8w6p2 : w6.heap.size < w8.heap.size + 1 + 1 := (by omega)
        have hSS : w8.cell? ⟨w.heap.size, 0, none⟩ = some (.slice AR m cr) ∧ w8.cell? ⟨w.heap.size, 2, none⟩ = some (.slice AO n co) ∧ w8.cell? ⟨w.heap.size + 1, 0, none⟩ = some (.slice X lx cX) ∧ w8.cell? ⟨w.heap.size + 1, 1, none⟩ = some (.int .i64 d) ∧ w8.cell? ⟨w.heap.size + 1 + 1, 0, none⟩ = some (.slice Y ly cY) ∧ w8.cell? ⟨w.heap.size + 1 + 1, 1, none⟩ = some (.int .i64 e) := (by simp [F8])
        go_wp2_with fail
        refine hK.out _ _ hSS (fun hHeld => ?_)
        clear hK K
        try simp only [Act.put, List.getElem_toArray, List.getElem_cons_succ, List.getElem_cons_zero, List.setIfInBounds_toArray, List.set_cons_zero, List.set_cons_succ]
        refine wpAnyH_take (i := 10) (v := ?vo1l310) rfl (by kernel_rfl) (by kernel_rfl) (by kernel_rfl) (fun _ _ _ h => h) (Or.inl ⟨by rfl, ?ho1l310⟩) (by assumption) ?ro1l310
        case ho1l310 => (intro w hSw; (try dsimp only at hSw); go_simp; (try with_reducible rfl))
        try simp only [Act.put, List.getElem_toArray, List.getElem_cons_succ, List.getElem_cons_zero, List.setIfInBounds_toArray, List.set_cons_zero, List.set_cons_succ]
        refine wpAnyH_take (i := 11) (v := ?vo1l411) rfl (by kernel_rfl) (by kernel_rfl) (by kernel_rfl) (fun _ _ _ h => h) (Or.inl ⟨by rfl, ?ho1l411⟩) (by assumption) ?ro1l411
        case ho1l411 => (intro w hSw; (try dsimp only at hSw); go_simp; (try with_reducible rfl))
        try simp only [Act.put, List.getElem_toArray, List.getElem_cons_succ, List.getElem_cons_zero, List.setIfInBounds_toArray, List.set_cons_zero, List.set_cons_succ]
        refine wpAnyH_done (by kernel_rfl) ?_ _
        go_wp2_with fail
        go_meet
        exact ⟨rfl, rfl, by repeat (first | with_reducible exact D8 | with_reducible apply bdrew | with_reducible apply bdrewN | with_reducible apply balloc | ((with_reducible refine bset ?_ ?_ _); rotate_left; (first | omega | (simp <;> omega)))), by simp [Cls, go_sem, F8, y8w2, y8w1, y8w0, y8wp1, y8wp2, y8w20, y8w2p1, y8w2p2, y8w30, y8w3p1, y8w3p2, y8w40, y8w4p1, y8w4p2, y8w50, y8w5p1, y8w5p2, y8w60, y8w6p1, y8w6p2]⟩
  case rest =>
    obtain ⟨w9, rfl⟩ : ∃ wo : World, wo = wc := ⟨_, rfl⟩
    obtain ⟨rfl, rfl, D9, C9⟩ := hcut
    have d9s := D9.size
    have F9 := C9
    simp only [Cls, and_true] at F9
    have y9w2 : w.heap.size + 1 + 1 < w9.heap.size := C9.blk (b := w.heap.size + 1 + 1) (k := 0) (v := .slice Y ly cY) (by simp)
    have y9w1 : w.heap.size + 1 < w9.heap.size := (by omega)
    have y9w0 : w.heap.size < w9.heap.size := (by omega)
    have y9wp1 : w.heap.size < w9.heap.size + 1 := (by omega)
    have y9wp2 : w.heap.size < w9.heap.size + 1 + 1 := (by omega)
    have y9w20 : w2.heap.size < w9.heap.size := C9.blk (b := w2.heap.size) (k := 0) (v := .int .i64 px) (by simp)
    have y9w2p1 : w2.heap.size < w9.heap.size + 1 := (by omega)
    have y9w2p2 : w2.heap.size < w9.heap.size + 1 + 1 := (by omega)
    have y9w30 : w3.heap.size < w9.heap.size := C9.blk (b := w3.heap.size) (k := 0) (v := .int .i64 px) (by simp)
    have y9w3p1 : w3.heap.size < w9.heap.size + 1 := (by omega)
    have y9w3p2 : w3.heap.size < w9.heap.size + 1 + 1 := (by omega)
    have y9w40 : w4.heap.size < w9.heap.size := C9.blk (b := w4.heap.size) (k := 0) (v := .int .i64 py) (by simp)
    have y9w4p1 : w4.heap.size < w9.heap.size + 1 := (by omega)
    have y9w4p2 : w4.heap.size < w9.heap.size + 1 + 1 := (by omega)
    have y9w50 : w5.heap.size < w9.heap.size := C9.blk (b := w5.heap.size) (k := 0) (v := .int .i64 px) (by simp)
    have y9w5p1 : w5.heap.size < w9.heap.size + 1 := (by omega)
    have y9w5p2 : w5.heap.size < w9.heap.size + 1 + 1 := (by omega)
    have y9w60 : w6.heap.size < w9.heap.size := C9.blk (b := w6.heap.size) (k := 0) (v := .int .i64 0) (by simp)
    have y9w6p1 : w6.heap.size < w9.heap.size + 1 := (by omega)
    have y9w6p2 : w6.heap.size < w9.heap.size + 1 + 1 := (by omega)
    go_wp2_with fail
    refine (at_any _ _ _).mono ?_
    rintro e w10 ⟨rfl, hB10⟩
    have D10 := dstep w hB10 (by repeat (first | with_reducible exact D9 | with_reducible apply bdrew | with_reducible apply bdrewN | with_reducible apply balloc | ((with_reducible refine bset ?_ ?_ _); rotate_left; (first | omega | (simp <;> omega)))))
    have d10s := D10.size
    have C10 := Cls.below (l := [(w.heap.size, 0, .slice AR m cr), (w.heap.size, 1, .slice AB mb cb), (w.heap.size, 2, .slice AO n co), (w.heap.size + 1, 0, .slice X lx cX), (w.heap.size + 1, 1, .int .i64 d), (w.heap.size + 1 + 1, 0, .slice Y ly cY), (w.heap.size + 1 + 1, 1, .int .i64 e), (w2.heap.size, 0, .int .i64 px), (w2.heap.size, 1, .int .i64 (-4)), (w3.heap.size, 0, .int .i64 px), (w3.heap.size, 1, .int .i64 (-4)), (w4.heap.size, 0, .int .i64 py), (w4.heap.size, 1, .int .i64 (-4)), (w5.heap.size, 0, .int .i64 px), (w5.heap.size, 1, .int .i64 (-4)), (w6.heap.size, 0, .int .i64 0), (w6.heap.size, 1, .int .i64 0)]) hB10 (by simp [Cls, go_sem, F9, y9w2, y9w1, y9w0, y9wp1, y9wp2, y9w20, y9w2p1, y9w2p2, y9w30, y9w3p1, y9w3p2, y9w40, y9w4p1, y9w4p2, y9w50, y9w5p1, y9w5p2, y9w60, y9w6p1, y9w6p2])
    have F10 := C10
    simp only [Cls, and_true] at F10
    have y10w2 : w.heap.size + 1 + 1 < w10.heap.size := C10.blk (b := w.heap.size + 1 + 1) (k := 0) (v := .slice Y ly cY) (by simp)
    have y10w1 : w.heap.size + 1 < w10.heap.size := (by omega)
    have y10w0 : w.heap.size < w10.heap.size := (by omega)
    have y10wp1 : w.heap.size < w10.heap.size + 1 := (by omega)
    have y10wp2 : w.heap.size < w10.heap.size + 1 + 1 := (by omega)
    have y10w20 : w2.heap.size < w10.heap.size := C10.blk (b := w2.heap.size) (k := 0) (v := .int .i64 px) (by simp)
    have y10w2p1 : w2.heap.size < w10.heap.size + 1 := (by omega)
    have y10w2p2 : w2.heap.size < w10.heap.size + 1 + 1 := (by omega)
    have y10w30 : w3.heap.size < w10.heap.size := C10.blk (b := w3.heap.size) (k := 0) (v := .int .i64 px) (by simp)
    have y10w3p1 : w3.heap.size < w10.heap.size + 1 := (by omega)
    have y10w3p2 : w3.heap.size < w10.heap.size + 1 + 1 := (by omega)
    have y10w40 : w4.heap.size < w10.heap.size := C10.blk (b := w4.heap.size) (k := 0) (v := .int .i64 py) (by simp)
    have y10w4p1 : w4.heap.size < w10.heap.size + 1 := (by omega)
    have y10w4p2 : w4.heap.size < w10.heap.size + 1 + 1 := (by omega)
    have y10w50 : w5.heap.size < w10.heap.size := C10.blk (b := w5.heap.size) (k := 0) (v := .int .i64 px) (by simp)
    have y10w5p1 : w5.heap.size < w10.heap.size + 1 := (by omega)
    have y10w5p2 : w5.heap.size < w10.heap.size + 1 + 1 := (by omega)
    have y10w60 : w6.heap.size < w10.heap.size := C10.blk (b := w6.heap.size) (k := 0) (v := .int .i64 0) (by simp)
    have y10w6p1 : w6.heap.size < w10.heap.size + 1 := (by omega)
    have y10w6p2 : w6.heap.size < w10.heap.size + 1 + 1 := (by omega)
    go_wp2_with fail
    go_upto_region 18 with fail
    refine wp_region_held_drew (S := fun W => W.cell? ⟨w4.heap.size, 0, none⟩ = some (.int .i64 py) ∧ W.cell? ⟨w4.heap.size, 1, none⟩ = some (.int .i64 (-4)) ∧ W.cell? ⟨w3.heap.size, 0, none⟩ = some (.int .i64 px) ∧ W.cell? ⟨w3.heap.size, 1, none⟩ = some (.int .i64 (-4))) (by kernel_rfl) (by simp [go_sem, F10, y10w2, y10w1, y10w0, y10wp1, y10wp2, y10w20, y10w2p1, y10w2p2, y10w30, y10w3p1, y10w3p2, y10w40, y10w4p1, y10w4p2, y10w50, y10w5p1, y10w5p2, y10w60, y10w6p1, y10w6p2]) (fun hHeld => ?_)
    refine wpAnyH_take (i := 0) (v := ?vq10) rfl (by kernel_rfl) (by kernel_rfl) (by kernel_rfl) (fun _ _ _ h => h) (Or.inl ⟨by rfl, ?hq10⟩) (by assumption) ?rq10
    case hq10 => (intro w hSw; (try dsimp only at hSw); go_simp; (try with_reducible rfl))
    try simp only [Act.put, List.getElem_toArray, List.getElem_cons_succ, List.getElem_cons_zero, List.setIfInBounds_toArray, List.set_cons_zero, List.set_cons_succ]
    refine wpAnyH_take (i := 1) (v := ?vq11) rfl (by kernel_rfl) (by kernel_rfl) (by kernel_rfl) (fun _ _ _ h => h) (Or.inl ⟨by rfl, ?hq11⟩) (by assumption) ?rq11
    case hq11 => (intro w hSw; (try dsimp only at hSw); go_simp; (try with_reducible rfl))
    try simp only [Act.put, List.getElem_toArray, List.getElem_cons_succ, List.getElem_cons_zero, List.setIfInBounds_toArray, List.set_cons_zero, List.set_cons_succ]
    refine wpAnyH_ready (rs := [2]) (by kernel_rfl) (by simp) ?_
    refine AllReadyH.cons rfl (fun K hK => ?_) AllReadyH.nil
    go_simp
    go_at_call 32; refine (at_any _ _ _).mono ?_; rintro e w12 ⟨rfl, hB12⟩; have D12 := dstep w hB12 (by repeat (first | with_reducible exact D10 | with_reducible apply bdrew | with_reducible apply bdrewN | with_reducible apply balloc | ((with_reducible refine bset ?_ ?_ _); rotate_left; (first | omega | (simp <;> omega))))); have C12 := Cls.below (l := [(w.heap.size, 0, .slice AR m cr), (w.heap.size, 1, .slice AB mb cb), (w.heap.size, 2, .slice AO n co), (w.heap.size + 1, 0, .slice X lx cX), (w.heap.size + 1, 1, .int .i64 d), (w.heap.size + 1 + 1, 0, .slice Y ly cY), (w.heap.size + 1 + 1, 1, .int .i64 e), (w2.heap.size, 0, .int .i64 px), (w2.heap.size, 1, .int .i64 (-4)), (w3.heap.size, 0, .int .i64 px), (w3.heap.size, 1, .int .i64 (-4)), (w4.heap.size, 0, .int .i64 py), (w4.heap.size, 1, .int .i64 (-4)), (w5.heap.size, 0, .int .i64 px), (w5.heap.size, 1, .int .i64 (-4)), (w6.heap.size, 0, .int .i64 0), (w6.heap.size, 1, .int .i64 0), (w10.heap.size, 0, .int .i64 px), (w10.heap.size, 1, .int .i64 (-4))]) hB12 (by simp [Cls, go_sem, F10, y10w2, y10w1, y10w0, y10wp1, y10wp2, y10w20, y10w2p1, y10w2p2, y10w30, y10w3p1, y10w3p2, y10w40, y10w4p1, y10w4p2, y10w50, y10w5p1, y10w5p2, y10w60, y10w6p1, y10w6p2]); have F12 := C12; simp only [Cls, and_true] at F12; have y12w2 : w.heap.size + 1 + 1 < w12.heap.size := C12.blk (b := w.heap.size + 1 + 1) (k := 0) (v := .slice Y ly cY) (by simp); have y12w1 : w.heap.size + 1 < w12.heap.size := (by omega); have y12w0 : w.heap.size < w12.heap.size := (by omega); have y12wp1 : w.heap.size < w12.heap.size + 1 := (by omega); have y12wp2 : w.heap.size < w12.heap.size + 1 + 1 := (by omega); have y12w100 : w10.heap.size < w12.heap.size := C12.blk (b := w10.heap.size) (k := 0) (v := .int .i64 px) (by simp); have y12w10p1 : w10.heap.size < w12.heap.size + 1 := (by omega); have y12w10p2 : w10.heap.size < w12.heap.size + 1 + 1 := (by omega); have y12w20 : w2.heap.size < w12.heap.size := C12.blk (b := w2.heap.size) (k := 0) (v := .int .i64 px) (by simp); have y12w2p1 : w2.heap.size < w12.heap.size + 1 := (by omega); have y12w2p2 : w2.heap.size < w12.heap.size + 1 + 1 := (by omega); have y12w30 : w3.heap.size < w12.heap.size := C12.blk (b := w3.heap.size) (k := 0) (v := .int .i64 px) (by simp); have y12w3p1 : w3.heap.size < w12.heap.size + 1 := (by omega); have y12w3p2 : w3.heap.size < w12.heap.size + 1 + 1 := (by omega); have y12w40 : w4.heap.size < w12.heap.size := C12.blk (b := w4.heap.size) (k := 0) (v := .int .i64 py) (by simp); have y12w4p1 : w4.heap.size < w12.heap.size + 1 := (by omega); have y12w4p2 : w4.heap.size < w12.heap.size + 1 + 1 := (by omega); have y12w50 : w5.heap.size < w12.heap.size := C12.blk (b := w5.heap.size) (k := 0) (v := .int .i64 px) (by simp); have y12w5p1 : w5.heap.size < w12.heap.size + 1 := (by omega); have y12w5p2 : w5.heap.size < w12.heap.size + 1 + 1 := (by omega); have y12w60 : w6.heap.size < w12.heap.size := C12.blk (b := w6.heap.size) (k := 0) (v := .int .i64 0) (by simp); have y12w6p1 : w6.heap.size < w12.heap.size + 1 := (by omega); have y12w6p2 : w6.heap.size < w12.heap.size + 1 + 1 := (by omega); have hSS : w12.cell? ⟨w4.heap.size, 0, none⟩ = some (.int .i64 py) ∧ w12.cell? ⟨w4.heap.size, 1, none⟩ = some (.int .i64 (-4)) ∧ w12.cell? ⟨w3.heap.size, 0, none⟩ = some (.int .i64 px) ∧ w12.cell? ⟨w3.heap.size, 1, none⟩ = some (.int .i64 (-4)) := (by simp [F12])
    go_wp2_with fail
    refine hK.out _ _ hSS (fun hHeld => ?_)
    clear hK K
    try simp only [Act.put, List.getElem_toArray, List.getElem_cons_succ, List.getElem_cons_zero, List.setIfInBounds_toArray, List.set_cons_zero, List.set_cons_succ]
    refine wpAnyH_take (i := 3) (v := ?vq13) rfl (by kernel_rfl) (by kernel_rfl) (by kernel_rfl) (fun _ _ _ h => h) (Or.inl ⟨by rfl, ?hq13⟩) (by assumption) ?rq13
    case hq13 => (intro w hSw; (try dsimp only at hSw); go_simp; (try with_reducible rfl))
    try simp only [Act.put, List.getElem_toArray, List.getElem_cons_succ, List.getElem_cons_zero, List.setIfInBounds_toArray, List.set_cons_zero, List.set_cons_succ]
    refine wpAnyH_take (i := 4) (v := ?vq14) rfl (by kernel_rfl) (by kernel_rfl) (by kernel_rfl) (fun _ _ _ h => h) (Or.inl ⟨by rfl, ?hq14⟩) (by assumption) ?rq14
    case hq14 => (intro w hSw; (try dsimp only at hSw); go_simp; (try with_reducible rfl))
    try simp only [Act.put, List.getElem_toArray, List.getElem_cons_succ, List.getElem_cons_zero, List.setIfInBounds_toArray, List.set_cons_zero, List.set_cons_succ]
    refine wpAnyH_take (i := 5) (v := ?vq15) rfl (by kernel_rfl) (by kernel_rfl) (by kernel_rfl) (fun _ _ _ h => h) (Or.inl ⟨?wq15, ?hq15⟩) (by assumption) ?rq15
    case wq15 => simp [Region.wanted, yielded]
    case hq15 => (intro w hSw; (try dsimp only at hSw); go_simp; (try with_reducible rfl))
    try simp only [Act.put, List.getElem_toArray, List.getElem_cons_succ, List.getElem_cons_zero, List.setIfInBounds_toArray, List.set_cons_zero, List.set_cons_succ]
    refine wpAnyH_take (i := 6) (v := ?vq16) rfl (by kernel_rfl) (by kernel_rfl) (by kernel_rfl) (fun _ _ _ h => h) (Or.inl ⟨?wq16, ?hq16⟩) (by assumption) ?rq16
    case wq16 => simp [Region.wanted, yielded]
    case hq16 => (intro w hSw; (try dsimp only at hSw); go_simp; (try with_reducible rfl))
    try simp only [Act.put, List.getElem_toArray, List.getElem_cons_succ, List.getElem_cons_zero, List.setIfInBounds_toArray, List.set_cons_zero, List.set_cons_succ]
    refine wpAnyH_take (i := 7) (v := ?vq17) rfl (by kernel_rfl) (by kernel_rfl) (by kernel_rfl) (fun _ _ _ h => h) (Or.inl ⟨by rfl, ?hq17⟩) (by assumption) ?rq17
    case hq17 => (intro w hSw; (try dsimp only at hSw); go_simp; (try with_reducible rfl))
    try simp only [Act.put, List.getElem_toArray, List.getElem_cons_succ, List.getElem_cons_zero, List.setIfInBounds_toArray, List.set_cons_zero, List.set_cons_succ]
    refine wpAnyH_take (i := 8) (v := ?vq18) rfl (by kernel_rfl) (by kernel_rfl) (by kernel_rfl) (fun _ _ _ h => h) (Or.inl ⟨by rfl, ?hq18⟩) (by assumption) ?rq18
    case hq18 => (intro w hSw; (try dsimp only at hSw); go_simp; (try with_reducible rfl))
    try simp only [Act.put, List.getElem_toArray, List.getElem_cons_succ, List.getElem_cons_zero, List.setIfInBounds_toArray, List.set_cons_zero, List.set_cons_succ]
    refine wpAnyH_take (i := 9) (v := ?vq19) rfl (by kernel_rfl) (by kernel_rfl) (by kernel_rfl) (fun _ _ _ h => h) (Or.inl ⟨?wq19, ?hq19⟩) (by assumption) ?rq19
    case wq19 => simp [Region.wanted, yielded]
    case hq19 => (intro w hSw; (try dsimp only at hSw); go_simp; (try with_reducible rfl))
    try simp only [Act.put, List.getElem_toArray, List.getElem_cons_succ, List.getElem_cons_zero, List.setIfInBounds_toArray, List.set_cons_zero, List.set_cons_succ]
    refine wpAnyH_take (i := 10) (v := ?vq110) rfl (by kernel_rfl) (by kernel_rfl) (by kernel_rfl) (fun _ _ _ h => h) (Or.inl ⟨?wq110, ?hq110⟩) (by assumption) ?rq110
    case wq110 => simp [Region.wanted, yielded]
    case hq110 => (intro w hSw; (try dsimp only at hSw); go_simp; (try with_reducible rfl))
    try simp only [Act.put, List.getElem_toArray, List.getElem_cons_succ, List.getElem_cons_zero, List.setIfInBounds_toArray, List.set_cons_zero, List.set_cons_succ]
    refine wpAnyH_take (i := 11) (v := ?vq111) rfl (by kernel_rfl) (by kernel_rfl) (by kernel_rfl) (fun _ _ _ h => h) (Or.inl ⟨?wq111, ?hq111⟩) (by assumption) ?rq111
    case wq111 => simp [Region.wanted, yielded]
    case hq111 => (intro w hSw; (try dsimp only at hSw); go_simp; (try with_reducible rfl))
    try simp only [Act.put, List.getElem_toArray, List.getElem_cons_succ, List.getElem_cons_zero, List.setIfInBounds_toArray, List.set_cons_zero, List.set_cons_succ]
    refine wpAnyH_take (i := 12) (v := undef) rfl (by kernel_rfl) (by kernel_rfl) (by kernel_rfl) (fun _ _ _ h => h) (Or.inr ⟨?wq112, rfl⟩) (by assumption) ?rq112
    case wq112 => (first | (simp [Region.wanted, yielded]; done) | simp [Region.wanted, yielded, undef])
    try simp only [Act.put, List.getElem_toArray, List.getElem_cons_succ, List.getElem_cons_zero, List.setIfInBounds_toArray, List.set_cons_zero, List.set_cons_succ]
    refine wpAnyH_take (i := 13) (v := undef) rfl (by kernel_rfl) (by kernel_rfl) (by kernel_rfl) (fun _ _ _ h => h) (Or.inr ⟨?wq113, rfl⟩) (by assumption) ?rq113
    case wq113 => (first | (simp [Region.wanted, yielded]; done) | simp [Region.wanted, yielded, undef])
    try simp only [Act.put, List.getElem_toArray, List.getElem_cons_succ, List.getElem_cons_zero, List.setIfInBounds_toArray, List.set_cons_zero, List.set_cons_succ]
    refine wpAnyH_take (i := 14) (v := undef) rfl (by kernel_rfl) (by kernel_rfl) (by kernel_rfl) (fun _ _ _ h => h) (Or.inr ⟨?wq114, rfl⟩) (by assumption) ?rq114
    case wq114 => (first | (simp [Region.wanted, yielded]; done) | simp [Region.wanted, yielded, undef])
    try simp only [Act.put, List.getElem_toArray, List.getElem_cons_succ, List.getElem_cons_zero, List.setIfInBounds_toArray, List.set_cons_zero, List.set_cons_succ]
    refine wpAnyH_take (i := 15) (v := undef) rfl (by kernel_rfl) (by kernel_rfl) (by kernel_rfl) (fun _ _ _ h => h) (Or.inr ⟨?wq115, rfl⟩) (by assumption) ?rq115
    case wq115 => (first | (simp [Region.wanted, yielded]; done) | simp [Region.wanted, yielded, undef])
    try simp only [Act.put, List.getElem_toArray, List.getElem_cons_succ, List.getElem_cons_zero, List.setIfInBounds_toArray, List.set_cons_zero, List.set_cons_succ]
    refine wpAnyH_take (i := 16) (v := undef) rfl (by kernel_rfl) (by kernel_rfl) (by kernel_rfl) (fun _ _ _ h => h) (Or.inr ⟨?wq116, rfl⟩) (by assumption) ?rq116
    case wq116 => (first | (simp [Region.wanted, yielded]; done) | simp [Region.wanted, yielded, undef])
    try simp only [Act.put, List.getElem_toArray, List.getElem_cons_succ, List.getElem_cons_zero, List.setIfInBounds_toArray, List.set_cons_zero, List.set_cons_succ]
    refine wpAnyH_take (i := 17) (v := undef) rfl (by kernel_rfl) (by kernel_rfl) (by kernel_rfl) (fun _ _ _ h => h) (Or.inr ⟨?wq117, rfl⟩) (by assumption) ?rq117
    case wq117 => (first | (simp [Region.wanted, yielded]; done) | simp [Region.wanted, yielded, undef])
    try simp only [Act.put, List.getElem_toArray, List.getElem_cons_succ, List.getElem_cons_zero, List.setIfInBounds_toArray, List.set_cons_zero, List.set_cons_succ]
    refine wpAnyH_take (i := 18) (v := undef) rfl (by kernel_rfl) (by kernel_rfl) (by kernel_rfl) (fun _ _ _ h => h) (Or.inr ⟨?wq118, rfl⟩) (by assumption) ?rq118
    case wq118 => (first | (simp [Region.wanted, yielded]; done) | simp [Region.wanted, yielded, undef])
    try simp only [Act.put, List.getElem_toArray, List.getElem_cons_succ, List.getElem_cons_zero, List.setIfInBounds_toArray, List.set_cons_zero, List.set_cons_succ]
    refine wpAnyH_take (i := 19) (v := undef) rfl (by kernel_rfl) (by kernel_rfl) (by kernel_rfl) (fun _ _ _ h => h) (Or.inr ⟨?wq119, rfl⟩) (by assumption) ?rq119
    case wq119 => (first | (simp [Region.wanted, yielded]; done) | simp [Region.wanted, yielded, undef])
    try simp only [Act.put, List.getElem_toArray, List.getElem_cons_succ, List.getElem_cons_zero, List.setIfInBounds_toArray, List.set_cons_zero, List.set_cons_succ]
    refine wpAnyH_take (i := 20) (v := ?vq120) rfl (by kernel_rfl) (by kernel_rfl) (by kernel_rfl) (fun _ _ _ h => h) (Or.inl ⟨?wq120, ?hq120⟩) (by assumption) ?rq120
    case wq120 => simp [Region.wanted, yielded]
    case hq120 => (intro w hSw; (try dsimp only at hSw); go_simp; (try with_reducible rfl))
    try simp only [Act.put, List.getElem_toArray, List.getElem_cons_succ, List.getElem_cons_zero, List.setIfInBounds_toArray, List.set_cons_zero, List.set_cons_succ]
    refine wpAnyH_take (i := 21) (v := ?vq121) rfl (by kernel_rfl) (by kernel_rfl) (by kernel_rfl) (fun _ _ _ h => h) (Or.inl ⟨by rfl, ?hq121⟩) (by assumption) ?rq121
    case hq121 => (intro w hSw; (try dsimp only at hSw); go_simp; (try with_reducible rfl))
    try simp only [Act.put, List.getElem_toArray, List.getElem_cons_succ, List.getElem_cons_zero, List.setIfInBounds_toArray, List.set_cons_zero, List.set_cons_succ]
    refine wpAnyH_take (i := 22) (v := ?vq122) rfl (by kernel_rfl) (by kernel_rfl) (by kernel_rfl) (fun _ _ _ h => h) (Or.inl ⟨by rfl, ?hq122⟩) (by assumption) ?rq122
    case hq122 => (intro w hSw; (try dsimp only at hSw); go_simp; (try with_reducible rfl))
    try simp only [Act.put, List.getElem_toArray, List.getElem_cons_succ, List.getElem_cons_zero, List.setIfInBounds_toArray, List.set_cons_zero, List.set_cons_succ]
    refine wpAnyH_done (by kernel_rfl) ?_ _
    go_wp2
    refine bodyPost_ret (v := .bool true) ?_ rfl ⟨rfl, by repeat (first | with_reducible exact D12 | with_reducible apply bdrew | with_reducible apply bdrewN | with_reducible apply balloc | ((with_reducible refine bset ?_ ?_ _); rotate_left; (first | omega | (simp <;> omega))))⟩
    simp [results, Try.results9, go_sem, F12, y12w2, y12w1, y12w0, y12wp1, y12wp2, y12w100, y12w10p1, y12w10p2, y12w20, y12w2p1, y12w2p2, y12w30, y12w3p1, y12w3p2, y12w40, y12w4p1, y12w4p2, y12w50, y12w5p1, y12w5p2, y12w60, y12w6p1, y12w6p2]

set_option maxRecDepth 100000 in
set_option maxHeartbeats 8000000 in
theorem walk_lfm_2 (w : World) (AR AB AO : Option Addr) (cr cb co : Nat) (p : LpV) (hM : LpMem w AR AB AO p) (m mb n : Nat) (hrl : Hid (p.rows.length = m)) (hbl : Hid (p.bounds.length = mb)) (hol : Hid (p.obj.length = n)) (X : Option Addr) (cX lx : Nat) (x : List Int) (d : Int) (hlx : Hid (x.length = lx)) (hIx : Ints w X x) (hx63 : lx ≤ 9223372036854775807) (Y : Option Addr) (cY ly : Nat) (y : List Int) (e : Int) (hly : Hid (y.length = ly)) (hIy : Ints w Y y) (hy63 : ly ≤ 9223372036854775807) (hok : LpOk p) (px : Int) (hpx : Hid (vecC x d p.obj.length = px)) (hpy : Hid (vecC y e p.rows.length = 0)) (hx0 : ¬ px = 0) :
    Calls Try.prog 9 #[.agg #[.slice AR m cr, .slice AB mb cb, .slice AO n co], .agg #[.slice X lx cX, .int .i64 d], .agg #[.slice Y ly cY, .int .i64 e]] w fun e w' => e = .returned (.bool true) ∧ Below w.heap.size w w' := by
  have HIX := Lib.hid hIx
  have HIY := Lib.hid hIy
  have HM := Lib.hid hM
  have HOK := Lib.hid hok
  have hmb : mb = m := by rw [← hbl.out, ← hrl.out]; exact HOK.out.b
  subst hmb
  have HVY : Hid (VOk p.rows.length y e) := Lib.hid (vecC_zero hpy.out)
  have hlny : ly = mb := by rw [← hly.out, HVY.out.len]; exact hrl.out
  subst hlny
  have hm6 : ly ≤ 6 := by have := HOK.out.m; rw [hrl.out] at this; exact this
  have hn6 : n ≤ 6 := by have := HOK.out.n; rw [hol.out] at this; exact this
  have HVY2 : Hid (VOk ly y e) := Lib.hid (by rw [← hrl.out]; exact HVY.out)
  have HLZ : Hid ((lpF p).1 = 0) := Lib.hid (by rw [lpF_ok hok])
  have HVX0 : Hid (∀ W : World, Below w.heap.size w W → Calls Try.prog 18 #[.agg #[.slice X lx cX, .int .i64 d], .int .i64 n] W fun e w' => e = .returned (.int .i64 px) ∧ Below W.heap.size W w') := Lib.hid (fun W hB => by
    have h := svcode_any W X cX x d n (HIX.out.below hB) (by rw [hlx.out]; exact hx63)
    rw [hlx.out, ← hol.out, hpx.out, hol.out] at h
    exact h)
  have HVY0 : Hid (∀ W : World, Below w.heap.size w W → Calls Try.prog 18 #[.agg #[.slice Y ly cY, .int .i64 e], .int .i64 ly] W fun r w' => r = .returned (.int .i64 0) ∧ Below W.heap.size W w') := Lib.hid (fun W hB => by
    have h := svcode_any W Y cY y e ly (HIY.out.below hB) (by rw [hly.out]; exact hy63)
    rw [hly.out, ← hrl.out, hpy.out, hrl.out] at h
    exact h)
  have HLF : Hid (∀ W : World, Below w.heap.size w W → Calls Try.prog 14 #[.agg #[.slice AR ly cr, .slice AB ly cb, .slice AO n co]] W fun e w' => e = .returned (.agg #[.int .i64 0, .int .i64 0]) ∧ Below W.heap.size W w') := Lib.hid (fun W hB => by
    have h := slfault_any W AR AB AO cr cb co p (HM.out.below hB)
    rw [hrl.out, hbl.out, hol.out, lpF_ok HOK.out] at h
    exact h)
  have HPX := Lib.hid hx0
  have hx1 := bb_no hx0
  have hx2 := bn_yes hx0
  have HFP := Lib.hid (fltP_bad HLZ.out hpx.out hx0)
  have HFD := Lib.hid (fltD_ok HLZ.out hpy.out)
  have HFPD : Hid (fltPD p x d y e = (px, -4)) := Lib.hid (fltPD_px HFP.out hx0)
  clear hM hIx hIy
  go_enter Try.func9, Try.ntmps9
  go_wp2_with fail
  refine (lnexample_any _).mono ?_
  rintro e w1 ⟨rfl, hB1⟩
  have D1 := dstep w hB1 (by repeat (first | with_reducible exact Below.refl _ _ | with_reducible apply bdrew | with_reducible apply bdrewN | with_reducible apply balloc | ((with_reducible refine bset ?_ ?_ _); rotate_left; (first | omega | (simp <;> omega)))))
  have d1s := D1.size
  have C1 := Cls.below (l := [(w.heap.size, 0, .slice AR ly cr), (w.heap.size, 1, .slice AB ly cb), (w.heap.size, 2, .slice AO n co), (w.heap.size + 1, 0, .slice X lx cX), (w.heap.size + 1, 1, .int .i64 d), (w.heap.size + 1 + 1, 0, .slice Y ly cY), (w.heap.size + 1 + 1, 1, .int .i64 e)]) hB1 (by simp [Cls, go_sem])
  have F1 := C1
  simp only [Cls, and_true] at F1
  have y1w2 : w.heap.size + 1 + 1 < w1.heap.size := C1.blk (b := w.heap.size + 1 + 1) (k := 0) (v := .slice Y ly cY) (by simp)
  have y1w1 : w.heap.size + 1 < w1.heap.size := (by omega)
  have y1w0 : w.heap.size < w1.heap.size := (by omega)
  have y1wp1 : w.heap.size < w1.heap.size + 1 := (by omega)
  have y1wp2 : w.heap.size < w1.heap.size + 1 + 1 := (by omega)
  go_wp2_with fail
  refine (feasible_any _ AR AB AO cr cb co p (HM.out.below (by repeat (first | with_reducible exact D1 | with_reducible apply bdrew | with_reducible apply bdrewN | with_reducible apply balloc | ((with_reducible refine bset ?_ ?_ _); rotate_left; (first | omega | (simp <;> omega)))))) ly ly n hrl hbl hol X cX lx x d hlx (HIX.out.below (by repeat (first | with_reducible exact D1 | with_reducible apply bdrew | with_reducible apply bdrewN | with_reducible apply balloc | ((with_reducible refine bset ?_ ?_ _); rotate_left; (first | omega | (simp <;> omega)))))) hx63 px (-4) HFP).mono ?_
  rintro e w2 ⟨ok2, rfl, HO2, hB2⟩
  have D2 := dstep w hB2 (by repeat (first | with_reducible exact D1 | with_reducible apply bdrew | with_reducible apply bdrewN | with_reducible apply balloc | ((with_reducible refine bset ?_ ?_ _); rotate_left; (first | omega | (simp <;> omega)))))
  have d2s := D2.size
  have C2 := Cls.below (l := [(w.heap.size, 0, .slice AR ly cr), (w.heap.size, 1, .slice AB ly cb), (w.heap.size, 2, .slice AO n co), (w.heap.size + 1, 0, .slice X lx cX), (w.heap.size + 1, 1, .int .i64 d), (w.heap.size + 1 + 1, 0, .slice Y ly cY), (w.heap.size + 1 + 1, 1, .int .i64 e)]) hB2 (by simp [Cls, go_sem, F1, y1w2, y1w1, y1w0, y1wp1, y1wp2])
  have F2 := C2
  simp only [Cls, and_true] at F2
  have y2w2 : w.heap.size + 1 + 1 < w2.heap.size := C2.blk (b := w.heap.size + 1 + 1) (k := 0) (v := .slice Y ly cY) (by simp)
  have y2w1 : w.heap.size + 1 < w2.heap.size := (by omega)
  have y2w0 : w.heap.size < w2.heap.size := (by omega)
  have y2wp1 : w.heap.size < w2.heap.size + 1 := (by omega)
  have y2wp2 : w.heap.size < w2.heap.size + 1 + 1 := (by omega)
  go_wp2_with fail
  refine (certified_any _ AR AB AO cr cb co p (HM.out.below (by repeat (first | with_reducible exact D2 | with_reducible apply bdrew | with_reducible apply bdrewN | with_reducible apply balloc | ((with_reducible refine bset ?_ ?_ _); rotate_left; (first | omega | (simp <;> omega)))))) ly ly n hrl hbl hol X cX lx x d hlx (HIX.out.below (by repeat (first | with_reducible exact D2 | with_reducible apply bdrew | with_reducible apply bdrewN | with_reducible apply balloc | ((with_reducible refine bset ?_ ?_ _); rotate_left; (first | omega | (simp <;> omega)))))) hx63 Y cY ly y e hly (HIY.out.below (by repeat (first | with_reducible exact D2 | with_reducible apply bdrew | with_reducible apply bdrewN | with_reducible apply balloc | ((with_reducible refine bset ?_ ?_ _); rotate_left; (first | omega | (simp <;> omega)))))) hy63 px (-4) HFPD).mono ?_
  rintro e w3 ⟨ok3, rfl, HO3, hB3⟩
  have D3 := dstep w hB3 (by repeat (first | with_reducible exact D2 | with_reducible apply bdrew | with_reducible apply bdrewN | with_reducible apply balloc | ((with_reducible refine bset ?_ ?_ _); rotate_left; (first | omega | (simp <;> omega)))))
  have d3s := D3.size
  have C3 := Cls.below (l := [(w.heap.size, 0, .slice AR ly cr), (w.heap.size, 1, .slice AB ly cb), (w.heap.size, 2, .slice AO n co), (w.heap.size + 1, 0, .slice X lx cX), (w.heap.size + 1, 1, .int .i64 d), (w.heap.size + 1 + 1, 0, .slice Y ly cY), (w.heap.size + 1 + 1, 1, .int .i64 e), (w2.heap.size, 0, .int .i64 px), (w2.heap.size, 1, .int .i64 (-4))]) hB3 (by simp [Cls, go_sem, F2, y2w2, y2w1, y2w0, y2wp1, y2wp2])
  have F3 := C3
  simp only [Cls, and_true] at F3
  have y3w2 : w.heap.size + 1 + 1 < w3.heap.size := C3.blk (b := w.heap.size + 1 + 1) (k := 0) (v := .slice Y ly cY) (by simp)
  have y3w1 : w.heap.size + 1 < w3.heap.size := (by omega)
  have y3w0 : w.heap.size < w3.heap.size := (by omega)
  have y3wp1 : w.heap.size < w3.heap.size + 1 := (by omega)
  have y3wp2 : w.heap.size < w3.heap.size + 1 + 1 := (by omega)
  have y3w20 : w2.heap.size < w3.heap.size := C3.blk (b := w2.heap.size) (k := 0) (v := .int .i64 px) (by simp)
  have y3w2p1 : w2.heap.size < w3.heap.size + 1 := (by omega)
  have y3w2p2 : w2.heap.size < w3.heap.size + 1 + 1 := (by omega)
  go_wp2_with fail
  refine (refuted_any _ AR AB AO cr cb co p (HM.out.below (by repeat (first | with_reducible exact D3 | with_reducible apply bdrew | with_reducible apply bdrewN | with_reducible apply balloc | ((with_reducible refine bset ?_ ?_ _); rotate_left; (first | omega | (simp <;> omega)))))) ly ly n hrl hbl hol Y cY ly y e hly (HIY.out.below (by repeat (first | with_reducible exact D3 | with_reducible apply bdrew | with_reducible apply bdrewN | with_reducible apply balloc | ((with_reducible refine bset ?_ ?_ _); rotate_left; (first | omega | (simp <;> omega)))))) hy63 0 0 HFD).mono ?_
  rintro e w4 ⟨ok4, rfl, HO4, hB4⟩
  have D4 := dstep w hB4 (by repeat (first | with_reducible exact D3 | with_reducible apply bdrew | with_reducible apply bdrewN | with_reducible apply balloc | ((with_reducible refine bset ?_ ?_ _); rotate_left; (first | omega | (simp <;> omega)))))
  have d4s := D4.size
  have C4 := Cls.below (l := [(w.heap.size, 0, .slice AR ly cr), (w.heap.size, 1, .slice AB ly cb), (w.heap.size, 2, .slice AO n co), (w.heap.size + 1, 0, .slice X lx cX), (w.heap.size + 1, 1, .int .i64 d), (w.heap.size + 1 + 1, 0, .slice Y ly cY), (w.heap.size + 1 + 1, 1, .int .i64 e), (w2.heap.size, 0, .int .i64 px), (w2.heap.size, 1, .int .i64 (-4)), (w3.heap.size, 0, .int .i64 px), (w3.heap.size, 1, .int .i64 (-4))]) hB4 (by simp [Cls, go_sem, F3, y3w2, y3w1, y3w0, y3wp1, y3wp2, y3w20, y3w2p1, y3w2p2])
  have F4 := C4
  simp only [Cls, and_true] at F4
  have y4w2 : w.heap.size + 1 + 1 < w4.heap.size := C4.blk (b := w.heap.size + 1 + 1) (k := 0) (v := .slice Y ly cY) (by simp)
  have y4w1 : w.heap.size + 1 < w4.heap.size := (by omega)
  have y4w0 : w.heap.size < w4.heap.size := (by omega)
  have y4wp1 : w.heap.size < w4.heap.size + 1 := (by omega)
  have y4wp2 : w.heap.size < w4.heap.size + 1 + 1 := (by omega)
  have y4w20 : w2.heap.size < w4.heap.size := C4.blk (b := w2.heap.size) (k := 0) (v := .int .i64 px) (by simp)
  have y4w2p1 : w2.heap.size < w4.heap.size + 1 := (by omega)
  have y4w2p2 : w2.heap.size < w4.heap.size + 1 + 1 := (by omega)
  have y4w30 : w3.heap.size < w4.heap.size := C4.blk (b := w3.heap.size) (k := 0) (v := .int .i64 px) (by simp)
  have y4w3p1 : w3.heap.size < w4.heap.size + 1 := (by omega)
  have y4w3p2 : w3.heap.size < w4.heap.size + 1 + 1 := (by omega)
  go_wp2_with fail
  refine (improving_any _ AR AB AO cr cb co p (HM.out.below (by repeat (first | with_reducible exact D4 | with_reducible apply bdrew | with_reducible apply bdrewN | with_reducible apply balloc | ((with_reducible refine bset ?_ ?_ _); rotate_left; (first | omega | (simp <;> omega)))))) ly ly n hrl hbl hol X cX lx x d hlx (HIX.out.below (by repeat (first | with_reducible exact D4 | with_reducible apply bdrew | with_reducible apply bdrewN | with_reducible apply balloc | ((with_reducible refine bset ?_ ?_ _); rotate_left; (first | omega | (simp <;> omega)))))) hx63 px (-4) HFP).mono ?_
  rintro e w5 ⟨ok5, rfl, HO5, hB5⟩
  have D5 := dstep w hB5 (by repeat (first | with_reducible exact D4 | with_reducible apply bdrew | with_reducible apply bdrewN | with_reducible apply balloc | ((with_reducible refine bset ?_ ?_ _); rotate_left; (first | omega | (simp <;> omega)))))
  have d5s := D5.size
  have C5 := Cls.below (l := [(w.heap.size, 0, .slice AR ly cr), (w.heap.size, 1, .slice AB ly cb), (w.heap.size, 2, .slice AO n co), (w.heap.size + 1, 0, .slice X lx cX), (w.heap.size + 1, 1, .int .i64 d), (w.heap.size + 1 + 1, 0, .slice Y ly cY), (w.heap.size + 1 + 1, 1, .int .i64 e), (w2.heap.size, 0, .int .i64 px), (w2.heap.size, 1, .int .i64 (-4)), (w3.heap.size, 0, .int .i64 px), (w3.heap.size, 1, .int .i64 (-4)), (w4.heap.size, 0, .int .i64 0), (w4.heap.size, 1, .int .i64 0)]) hB5 (by simp [Cls, go_sem, F4, y4w2, y4w1, y4w0, y4wp1, y4wp2, y4w20, y4w2p1, y4w2p2, y4w30, y4w3p1, y4w3p2])
  have F5 := C5
  simp only [Cls, and_true] at F5
  have y5w2 : w.heap.size + 1 + 1 < w5.heap.size := C5.blk (b := w.heap.size + 1 + 1) (k := 0) (v := .slice Y ly cY) (by simp)
  have y5w1 : w.heap.size + 1 < w5.heap.size := (by omega)
  have y5w0 : w.heap.size < w5.heap.size := (by omega)
  have y5wp1 : w.heap.size < w5.heap.size + 1 := (by omega)
  have y5wp2 : w.heap.size < w5.heap.size + 1 + 1 := (by omega)
  have y5w20 : w2.heap.size < w5.heap.size := C5.blk (b := w2.heap.size) (k := 0) (v := .int .i64 px) (by simp)
  have y5w2p1 : w2.heap.size < w5.heap.size + 1 := (by omega)
  have y5w2p2 : w2.heap.size < w5.heap.size + 1 + 1 := (by omega)
  have y5w30 : w3.heap.size < w5.heap.size := C5.blk (b := w3.heap.size) (k := 0) (v := .int .i64 px) (by simp)
  have y5w3p1 : w3.heap.size < w5.heap.size + 1 := (by omega)
  have y5w3p2 : w3.heap.size < w5.heap.size + 1 + 1 := (by omega)
  have y5w40 : w4.heap.size < w5.heap.size := C5.blk (b := w4.heap.size) (k := 0) (v := .int .i64 0) (by simp)
  have y5w4p1 : w4.heap.size < w5.heap.size + 1 := (by omega)
  have y5w4p2 : w4.heap.size < w5.heap.size + 1 + 1 := (by omega)
  obtain rfl : ok2 = false := HO2.out.1 HPX.out
  obtain rfl : ok3 = false := HO3.out.1 HPX.out
  obtain rfl : ok5 = false := HO5.out.1 HPX.out
  have HT4 := Lib.hid (HO4.out.2 (by simp))
  clear HO2 HO3 HO4 HO5
  go_wp2_with fail
  refine (HLF.out _ (by repeat (first | with_reducible exact D5 | with_reducible apply bdrew | with_reducible apply bdrewN | with_reducible apply balloc | ((with_reducible refine bset ?_ ?_ _); rotate_left; (first | omega | (simp <;> omega)))))).mono ?_
  rintro e w6 ⟨rfl, hB6⟩
  have D6 := dstep w hB6 (by repeat (first | with_reducible exact D5 | with_reducible apply bdrew | with_reducible apply bdrewN | with_reducible apply balloc | ((with_reducible refine bset ?_ ?_ _); rotate_left; (first | omega | (simp <;> omega)))))
  have d6s := D6.size
  have C6 := Cls.below (l := [(w.heap.size, 0, .slice AR ly cr), (w.heap.size, 1, .slice AB ly cb), (w.heap.size, 2, .slice AO n co), (w.heap.size + 1, 0, .slice X lx cX), (w.heap.size + 1, 1, .int .i64 d), (w.heap.size + 1 + 1, 0, .slice Y ly cY), (w.heap.size + 1 + 1, 1, .int .i64 e), (w2.heap.size, 0, .int .i64 px), (w2.heap.size, 1, .int .i64 (-4)), (w3.heap.size, 0, .int .i64 px), (w3.heap.size, 1, .int .i64 (-4)), (w4.heap.size, 0, .int .i64 0), (w4.heap.size, 1, .int .i64 0), (w5.heap.size, 0, .int .i64 px), (w5.heap.size, 1, .int .i64 (-4))]) hB6 (by simp [Cls, go_sem, F5, y5w2, y5w1, y5w0, y5wp1, y5wp2, y5w20, y5w2p1, y5w2p2, y5w30, y5w3p1, y5w3p2, y5w40, y5w4p1, y5w4p2])
  have F6 := C6
  simp only [Cls, and_true] at F6
  have y6w2 : w.heap.size + 1 + 1 < w6.heap.size := C6.blk (b := w.heap.size + 1 + 1) (k := 0) (v := .slice Y ly cY) (by simp)
  have y6w1 : w.heap.size + 1 < w6.heap.size := (by omega)
  have y6w0 : w.heap.size < w6.heap.size := (by omega)
  have y6wp1 : w.heap.size < w6.heap.size + 1 := (by omega)
  have y6wp2 : w.heap.size < w6.heap.size + 1 + 1 := (by omega)
  have y6w20 : w2.heap.size < w6.heap.size := C6.blk (b := w2.heap.size) (k := 0) (v := .int .i64 px) (by simp)
  have y6w2p1 : w2.heap.size < w6.heap.size + 1 := (by omega)
  have y6w2p2 : w2.heap.size < w6.heap.size + 1 + 1 := (by omega)
  have y6w30 : w3.heap.size < w6.heap.size := C6.blk (b := w3.heap.size) (k := 0) (v := .int .i64 px) (by simp)
  have y6w3p1 : w3.heap.size < w6.heap.size + 1 := (by omega)
  have y6w3p2 : w3.heap.size < w6.heap.size + 1 + 1 := (by omega)
  have y6w40 : w4.heap.size < w6.heap.size := C6.blk (b := w4.heap.size) (k := 0) (v := .int .i64 0) (by simp)
  have y6w4p1 : w4.heap.size < w6.heap.size + 1 := (by omega)
  have y6w4p2 : w4.heap.size < w6.heap.size + 1 + 1 := (by omega)
  have y6w50 : w5.heap.size < w6.heap.size := C6.blk (b := w5.heap.size) (k := 0) (v := .int .i64 px) (by simp)
  have y6w5p1 : w5.heap.size < w6.heap.size + 1 := (by omega)
  have y6w5p2 : w5.heap.size < w6.heap.size + 1 + 1 := (by omega)
  go_wp2_with fail
  go_upto_region 10 with fail
  go_cut [16, 17] (fun u v wx => u = .int .i64 px ∧ v = .int .i64 0 ∧ Below w.heap.size w wx ∧ Cls wx [(w.heap.size, 0, .slice AR ly cr), (w.heap.size, 1, .slice AB ly cb), (w.heap.size, 2, .slice AO n co), (w.heap.size + 1, 0, .slice X lx cX), (w.heap.size + 1, 1, .int .i64 d), (w.heap.size + 1 + 1, 0, .slice Y ly cY), (w.heap.size + 1 + 1, 1, .int .i64 e), (w2.heap.size, 0, .int .i64 px), (w2.heap.size, 1, .int .i64 (-4)), (w3.heap.size, 0, .int .i64 px), (w3.heap.size, 1, .int .i64 (-4)), (w4.heap.size, 0, .int .i64 0), (w4.heap.size, 1, .int .i64 0), (w5.heap.size, 0, .int .i64 px), (w5.heap.size, 1, .int .i64 (-4)), (w6.heap.size, 0, .int .i64 0), (w6.heap.size, 1, .int .i64 0)])
  case first =>
    refine wp_region_held_drew (S := fun W => W.cell? ⟨w.heap.size, 0, none⟩ = some (.slice AR ly cr) ∧ W.cell? ⟨w.heap.size, 2, none⟩ = some (.slice AO n co) ∧ W.cell? ⟨w.heap.size + 1, 0, none⟩ = some (.slice X lx cX) ∧ W.cell? ⟨w.heap.size + 1, 1, none⟩ = some (.int .i64 d) ∧ W.cell? ⟨w.heap.size + 1 + 1, 0, none⟩ = some (.slice Y ly cY) ∧ W.cell? ⟨w.heap.size + 1 + 1, 1, none⟩ = some (.int .i64 e)) (by kernel_rfl) (by simp [go_sem, F6, y6w2, y6w1, y6w0, y6wp1, y6wp2, y6w20, y6w2p1, y6w2p2, y6w30, y6w3p1, y6w3p2, y6w40, y6w4p1, y6w4p2, y6w50, y6w5p1, y6w5p2]) (fun hHeld => ?_)
    refine wpAnyH_take (i := 0) (v := ?vo20) rfl (by kernel_rfl) (by kernel_rfl) (by kernel_rfl) (fun _ _ _ h => h) (Or.inl ⟨by rfl, ?ho20⟩) (by assumption) ?ro20
    case ho20 => (intro w hSw; (try dsimp only at hSw); go_simp; (try with_reducible rfl))
    try simp only [Act.put, List.getElem_toArray, List.getElem_cons_succ, List.getElem_cons_zero, List.setIfInBounds_toArray, List.set_cons_zero, List.set_cons_succ]
    refine wpAnyH_take (i := 1) (v := ?vo21) rfl (by kernel_rfl) (by kernel_rfl) (by kernel_rfl) (fun _ _ _ h => h) (Or.inl ⟨by rfl, ?ho21⟩) (by assumption) ?ro21
    case ho21 => (intro w hSw; (try dsimp only at hSw); go_simp; (try with_reducible rfl))
    try simp only [Act.put, List.getElem_toArray, List.getElem_cons_succ, List.getElem_cons_zero, List.setIfInBounds_toArray, List.set_cons_zero, List.set_cons_succ]
    refine wpAnyH_take (i := 2) (v := ?vo22) rfl (by kernel_rfl) (by kernel_rfl) (by kernel_rfl) (fun _ _ _ h => h) (Or.inl ⟨by rfl, ?ho22⟩) (by assumption) ?ro22
    case ho22 => (intro w hSw; (try dsimp only at hSw); go_simp; (try with_reducible rfl))
    try simp only [Act.put, List.getElem_toArray, List.getElem_cons_succ, List.getElem_cons_zero, List.setIfInBounds_toArray, List.set_cons_zero, List.set_cons_succ]
    refine wpAnyH_take (i := 3) (v := ?vo23) rfl (by kernel_rfl) (by kernel_rfl) (by kernel_rfl) (fun _ _ _ h => h) (Or.inl ⟨by rfl, ?ho23⟩) (by assumption) ?ro23
    case ho23 => (intro w hSw; (try dsimp only at hSw); go_simp; (try with_reducible rfl))
    try simp only [Act.put, List.getElem_toArray, List.getElem_cons_succ, List.getElem_cons_zero, List.setIfInBounds_toArray, List.set_cons_zero, List.set_cons_succ]
    refine wpAnyH_take (i := 5) (v := ?vo25) rfl (by kernel_rfl) (by kernel_rfl) (by kernel_rfl) (fun _ _ _ h => h) (Or.inl ⟨by rfl, ?ho25⟩) (by assumption) ?ro25
    case ho25 => (intro w hSw; (try dsimp only at hSw); go_simp; (try with_reducible rfl))
    try simp only [Act.put, List.getElem_toArray, List.getElem_cons_succ, List.getElem_cons_zero, List.setIfInBounds_toArray, List.set_cons_zero, List.set_cons_succ]
    refine wpAnyH_take (i := 6) (v := ?vo26) rfl (by kernel_rfl) (by kernel_rfl) (by kernel_rfl) (fun _ _ _ h => h) (Or.inl ⟨by rfl, ?ho26⟩) (by assumption) ?ro26
    case ho26 => (intro w hSw; (try dsimp only at hSw); go_simp; (try with_reducible rfl))
    try simp only [Act.put, List.getElem_toArray, List.getElem_cons_succ, List.getElem_cons_zero, List.setIfInBounds_toArray, List.set_cons_zero, List.set_cons_succ]
    refine wpAnyH_take (i := 7) (v := ?vo27) rfl (by kernel_rfl) (by kernel_rfl) (by kernel_rfl) (fun _ _ _ h => h) (Or.inl ⟨by rfl, ?ho27⟩) (by assumption) ?ro27
    case ho27 => (intro w hSw; (try dsimp only at hSw); go_simp; (try with_reducible rfl))
    try simp only [Act.put, List.getElem_toArray, List.getElem_cons_succ, List.getElem_cons_zero, List.setIfInBounds_toArray, List.set_cons_zero, List.set_cons_succ]
    refine wpAnyH_take (i := 8) (v := ?vo28) rfl (by kernel_rfl) (by kernel_rfl) (by kernel_rfl) (fun _ _ _ h => h) (Or.inl ⟨by rfl, ?ho28⟩) (by assumption) ?ro28
    case ho28 => (intro w hSw; (try dsimp only at hSw); go_simp; (try with_reducible rfl))
    try simp only [Act.put, List.getElem_toArray, List.getElem_cons_succ, List.getElem_cons_zero, List.setIfInBounds_toArray, List.set_cons_zero, List.set_cons_succ]
    refine wpAnyH_ready (rs := [4]) (by kernel_rfl) (by simp) ?_
    refine (AllReadyH.cons rfl (fun K hK => ?bo21x4) AllReadyH.nil)
    case bo21x4 =>
      go_simp
      go_at_call 18
      refine (HVX0.out _ (by repeat (first | with_reducible exact D6 | with_reducible apply bdrew | with_reducible apply bdrewN | with_reducible apply balloc | ((with_reducible refine bset ?_ ?_ _); rotate_left; (first | omega | (simp <;> omega)))))).mono ?_
      rintro e w7 ⟨rfl, hB7⟩
      have D7 := dstep w hB7 (by repeat (first | with_reducible exact D6 | with_reducible apply bdrew | with_reducible apply bdrewN | with_reducible apply balloc | ((with_reducible refine bset ?_ ?_ _); rotate_left; (first | omega | (simp <;> omega)))))
      have C7 := Cls.below (l := [(w.heap.size, 0, .slice AR ly cr), (w.heap.size, 1, .slice AB ly cb), (w.heap.size, 2, .slice AO n co), (w.heap.size + 1, 0, .slice X lx cX), (w.heap.size + 1, 1, .int .i64 d), (w.heap.size + 1 + 1, 0, .slice Y ly cY), (w.heap.size + 1 + 1, 1, .int .i64 e), (w2.heap.size, 0, .int .i64 px), (w2.heap.size, 1, .int .i64 (-4)), (w3.heap.size, 0, .int .i64 px), (w3.heap.size, 1, .int .i64 (-4)), (w4.heap.size, 0, .int .i64 0), (w4.heap.size, 1, .int .i64 0), (w5.heap.size, 0, .int .i64 px), (w5.heap.size, 1, .int .i64 (-4)), (w6.heap.size, 0, .int .i64 0), (w6.heap.size, 1, .int .i64 0)]) hB7 (by simp [Cls, go_sem, F6, y6w2, y6w1, y6w0, y6wp1, y6wp2, y6w20, y6w2p1, y6w2p2, y6w30, y6w3p1, y6w3p2, y6w40, y6w4p1, y6w4p2, y6w50, y6w5p1, y6w5p2])
      have F7 := C7
      simp only [Cls, and_true] at F7
      have y7w2 : w.heap.size + 1 + 1 < w7.heap.size := C7.blk (b := w.heap.size + 1 + 1) (k := 0) (v := .slice Y ly cY) (by simp)
      have y7w1 : w.heap.size + 1 < w7.heap.size := (by omega)
      have y7w0 : w.heap.size < w7.heap.size := (by omega)
      have y7wp1 : w.heap.size < w7.heap.size + 1 := (by omega)
      have y7wp2 : w.heap.size < w7.heap.size + 1 + 1 := (by omega)
      have y7w20 : w2.heap.size < w7.heap.size := C7.blk (b := w2.heap.size) (k := 0) (v := .int .i64 px) (by simp)
      have y7w2p1 : w2.heap.size < w7.heap.size + 1 := (by omega)
      have y7w2p2 : w2.heap.size < w7.heap.size + 1 + 1 := (by omega)
      have y7w30 : w3.heap.size < w7.heap.size := C7.blk (b := w3.heap.size) (k := 0) (v := .int .i64 px) (by simp)
      have y7w3p1 : w3.heap.size < w7.heap.size + 1 := (by omega)
      have y7w3p2 : w3.heap.size < w7.heap.size + 1 + 1 := (by omega)
      have y7w40 : w4.heap.size < w7.heap.size := C7.blk (b := w4.heap.size) (k := 0) (v := .int .i64 0) (by simp)
      have y7w4p1 : w4.heap.size < w7.heap.size + 1 := (by omega)
      have y7w4p2 : w4.heap.size < w7.heap.size + 1 + 1 := (by omega)
      have y7w50 : w5.heap.size < w7.heap.size := C7.blk (b := w5.heap.size) (k := 0) (v := .int .i64 px) (by simp)
      have y7w5p1 : w5.heap.size < w7.heap.size + 1 := (by omega)
      have y7w5p2 : w5.heap.size < w7.heap.size + 1 + 1 := (by omega)
      have y7w60 : w6.heap.size < w7.heap.size := C7.blk (b := w6.heap.size) (k := 0) (v := .int .i64 0) (by simp)
      have y7w6p1 : w6.heap.size < w7.heap.size + 1 := (by omega)
      have y7w6p2 : w6.heap.size < w7.heap.size + 1 + 1 := (by omega)
      have hSS : w7.cell? ⟨w.heap.size, 0, none⟩ = some (.slice AR ly cr) ∧ w7.cell? ⟨w.heap.size, 2, none⟩ = some (.slice AO n co) ∧ w7.cell? ⟨w.heap.size + 1, 0, none⟩ = some (.slice X lx cX) ∧ w7.cell? ⟨w.heap.size + 1, 1, none⟩ = some (.int .i64 d) ∧ w7.cell? ⟨w.heap.size + 1 + 1, 0, none⟩ = some (.slice Y ly cY) ∧ w7.cell? ⟨w.heap.size + 1 + 1, 1, none⟩ = some (.int .i64 e) := (by simp [F7])
      go_wp2_with fail
      refine hK.out _ _ hSS (fun hHeld => ?_)
      clear hK K
      try simp only [Act.put, List.getElem_toArray, List.getElem_cons_succ, List.getElem_cons_zero, List.setIfInBounds_toArray, List.set_cons_zero, List.set_cons_succ]
      refine wpAnyH_ready (rs := [9]) (by kernel_rfl) (by simp) ?_
      refine (AllReadyH.cons rfl (fun K hK => ?bo22x9) AllReadyH.nil)
      case bo22x9 =>
        go_simp
        go_at_call 18
        refine (HVY0.out _ (by repeat (first | with_reducible exact D7 | with_reducible apply bdrew | with_reducible apply bdrewN | with_reducible apply balloc | ((with_reducible refine bset ?_ ?_ _); rotate_left; (first | omega | (simp <;> omega)))))).mono ?_
        rintro e w8 ⟨rfl, hB8⟩
        have D8 := dstep w hB8 (by repeat (first | with_reducible exact D7 | with_reducible apply bdrew | with_reducible apply bdrewN | with_reducible apply balloc | ((with_reducible refine bset ?_ ?_ _); rotate_left; (first | omega | (simp <;> omega)))))
        have C8 := Cls.below (l := [(w.heap.size, 0, .slice AR ly cr), (w.heap.size, 1, .slice AB ly cb), (w.heap.size, 2, .slice AO n co), (w.heap.size + 1, 0, .slice X lx cX), (w.heap.size + 1, 1, .int .i64 d), (w.heap.size + 1 + 1, 0, .slice Y ly cY), (w.heap.size + 1 + 1, 1, .int .i64 e), (w2.heap.size, 0, .int .i64 px), (w2.heap.size, 1, .int .i64 (-4)), (w3.heap.size, 0, .int .i64 px), (w3.heap.size, 1, .int .i64 (-4)), (w4.heap.size, 0, .int .i64 0), (w4.heap.size, 1, .int .i64 0), (w5.heap.size, 0, .int .i64 px), (w5.heap.size, 1, .int .i64 (-4)), (w6.heap.size, 0, .int .i64 0), (w6.heap.size, 1, .int .i64 0)]) hB8 (by simp [Cls, go_sem, F7, y7w2, y7w1, y7w0, y7wp1, y7wp2, y7w20, y7w2p1, y7w2p2, y7w30, y7w3p1, y7w3p2, y7w40, y7w4p1, y7w4p2, y7w50, y7w5p1, y7w5p2, y7w60, y7w6p1, y7w6p2])
        have F8 := C8
        simp only [Cls, and_true] at F8
        have y8w2 : w.heap.size + 1 + 1 < w8.heap.size := C8.blk (b := w.heap.size + 1 + 1) (k := 0) (v := .slice Y ly cY) (by simp)
        have y8w1 : w.heap.size + 1 < w8.heap.size := (by omega)
        have y8w0 : w.heap.size < w8.heap.size := (by omega)
        have y8wp1 : w.heap.size < w8.heap.size + 1 := (by omega)
        have y8wp2 : w.heap.size < w8.heap.size + 1 + 1 := (by omega)
        have y8w20 : w2.heap.size < w8.heap.size := C8.blk (b := w2.heap.size) (k := 0) (v := .int .i64 px) (by simp)
        have y8w2p1 : w2.heap.size < w8.heap.size + 1 := (by omega)
        have y8w2p2 : w2.heap.size < w8.heap.size + 1 + 1 := (by omega)
        have y8w30 : w3.heap.size < w8.heap.size := C8.blk (b := w3.heap.size) (k := 0) (v := .int .i64 px) (by simp)
        have y8w3p1 : w3.heap.size < w8.heap.size + 1 := (by omega)
        have y8w3p2 : w3.heap.size < w8.heap.size + 1 + 1 := (by omega)
        have y8w40 : w4.heap.size < w8.heap.size := C8.blk (b := w4.heap.size) (k := 0) (v := .int .i64 0) (by simp)
        have y8w4p1 : w4.heap.size < w8.heap.size + 1 := (by omega)
        have y8w4p2 : w4.heap.size < w8.heap.size + 1 + 1 := (by omega)
        have y8w50 : w5.heap.size < w8.heap.size := C8.blk (b := w5.heap.size) (k := 0) (v := .int .i64 px) (by simp)
        have y8w5p1 : w5.heap.size < w8.heap.size + 1 := (by omega)
        have y8w5p2 : w5.heap.size < w8.heap.size + 1 + 1 := (by omega)
        have y8w60 : w6.heap.size < w8.heap.size := C8.blk (b := w6.heap.size) (k := 0) (v := .int .i64 0) (by simp)
        have y8w6p1 : w6.heap.size < w8.heap.size + 1 := (by omega)
        have y8w6p2 : w6.heap.size < w8.heap.size + 1 + 1 := (by omega)
        have hSS : w8.cell? ⟨w.heap.size, 0, none⟩ = some (.slice AR ly cr) ∧ w8.cell? ⟨w.heap.size, 2, none⟩ = some (.slice AO n co) ∧ w8.cell? ⟨w.heap.size + 1, 0, none⟩ = some (.slice X lx cX) ∧ w8.cell? ⟨w.heap.size + 1, 1, none⟩ = some (.int .i64 d) ∧ w8.cell? ⟨w.heap.size + 1 + 1, 0, none⟩ = some (.slice Y ly cY) ∧ w8.cell? ⟨w.heap.size + 1 + 1, 1, none⟩ = some (.int .i64 e) := (by simp [F8])
        go_wp2_with fail
        refine hK.out _ _ hSS (fun hHeld => ?_)
        clear hK K
        try simp only [Act.put, List.getElem_toArray, List.getElem_cons_succ, List.getElem_cons_zero, List.setIfInBounds_toArray, List.set_cons_zero, List.set_cons_succ]
        refine wpAnyH_take (i := 10) (v := ?vo2l310) rfl (by kernel_rfl) (by kernel_rfl) (by kernel_rfl) (fun _ _ _ h => h) (Or.inl ⟨by rfl, ?ho2l310⟩) (by assumption) ?ro2l310
        case ho2l310 => (intro w hSw; (try dsimp only at hSw); go_simp; (try with_reducible rfl))
        try simp only [Act.put, List.getElem_toArray, List.getElem_cons_succ, List.getElem_cons_zero, List.setIfInBounds_toArray, List.set_cons_zero, List.set_cons_succ]
        refine wpAnyH_take (i := 11) (v := ?vo2l411) rfl (by kernel_rfl) (by kernel_rfl) (by kernel_rfl) (fun _ _ _ h => h) (Or.inl ⟨by rfl, ?ho2l411⟩) (by assumption) ?ro2l411
        case ho2l411 => (intro w hSw; (try dsimp only at hSw); go_simp; (try with_reducible rfl))
        try simp only [Act.put, List.getElem_toArray, List.getElem_cons_succ, List.getElem_cons_zero, List.setIfInBounds_toArray, List.set_cons_zero, List.set_cons_succ]
        refine wpAnyH_done (by kernel_rfl) ?_ _
        go_wp2_with fail
        go_meet
        exact ⟨rfl, rfl, by repeat (first | with_reducible exact D8 | with_reducible apply bdrew | with_reducible apply bdrewN | with_reducible apply balloc | ((with_reducible refine bset ?_ ?_ _); rotate_left; (first | omega | (simp <;> omega)))), by simp [Cls, go_sem, F8, y8w2, y8w1, y8w0, y8wp1, y8wp2, y8w20, y8w2p1, y8w2p2, y8w30, y8w3p1, y8w3p2, y8w40, y8w4p1, y8w4p2, y8w50, y8w5p1, y8w5p2, y8w60, y8w6p1, y8w6p2]⟩
  case rest =>
    obtain ⟨w9, rfl⟩ : ∃ wo : World, wo = wc := ⟨_, rfl⟩
    obtain ⟨rfl, rfl, D9, C9⟩ := hcut
    have d9s := D9.size
    have F9 := C9
    simp only [Cls, and_true] at F9
    have y9w2 : w.heap.size + 1 + 1 < w9.heap.size := C9.blk (b := w.heap.size + 1 + 1) (k := 0) (v := .slice Y ly cY) (by simp)
    have y9w1 : w.heap.size + 1 < w9.heap.size := (by omega)
    have y9w0 : w.heap.size < w9.heap.size := (by omega)
    have y9wp1 : w.heap.size < w9.heap.size + 1 := (by omega)
    have y9wp2 : w.heap.size < w9.heap.size + 1 + 1 := (by omega)
    have y9w20 : w2.heap.size < w9.heap.size := C9.blk (b := w2.heap.size) (k := 0) (v := .int .i64 px) (by simp)
    have y9w2p1 : w2.heap.size < w9.heap.size + 1 := (by omega)
    have y9w2p2 : w2.heap.size < w9.heap.size + 1 + 1 := (by omega)
    have y9w30 : w3.heap.size < w9.heap.size := C9.blk (b := w3.heap.size) (k := 0) (v := .int .i64 px) (by simp)
    have y9w3p1 : w3.heap.size < w9.heap.size + 1 := (by omega)
    have y9w3p2 : w3.heap.size < w9.heap.size + 1 + 1 := (by omega)
    have y9w40 : w4.heap.size < w9.heap.size := C9.blk (b := w4.heap.size) (k := 0) (v := .int .i64 0) (by simp)
    have y9w4p1 : w4.heap.size < w9.heap.size + 1 := (by omega)
    have y9w4p2 : w4.heap.size < w9.heap.size + 1 + 1 := (by omega)
    have y9w50 : w5.heap.size < w9.heap.size := C9.blk (b := w5.heap.size) (k := 0) (v := .int .i64 px) (by simp)
    have y9w5p1 : w5.heap.size < w9.heap.size + 1 := (by omega)
    have y9w5p2 : w5.heap.size < w9.heap.size + 1 + 1 := (by omega)
    have y9w60 : w6.heap.size < w9.heap.size := C9.blk (b := w6.heap.size) (k := 0) (v := .int .i64 0) (by simp)
    have y9w6p1 : w6.heap.size < w9.heap.size + 1 := (by omega)
    have y9w6p2 : w6.heap.size < w9.heap.size + 1 + 1 := (by omega)
    go_wp2_with fail
    refine (at_any _ _ _).mono ?_
    rintro e w10 ⟨rfl, hB10⟩
    have D10 := dstep w hB10 (by repeat (first | with_reducible exact D9 | with_reducible apply bdrew | with_reducible apply bdrewN | with_reducible apply balloc | ((with_reducible refine bset ?_ ?_ _); rotate_left; (first | omega | (simp <;> omega)))))
    have d10s := D10.size
    have C10 := Cls.below (l := [(w.heap.size, 0, .slice AR ly cr), (w.heap.size, 1, .slice AB ly cb), (w.heap.size, 2, .slice AO n co), (w.heap.size + 1, 0, .slice X lx cX), (w.heap.size + 1, 1, .int .i64 d), (w.heap.size + 1 + 1, 0, .slice Y ly cY), (w.heap.size + 1 + 1, 1, .int .i64 e), (w2.heap.size, 0, .int .i64 px), (w2.heap.size, 1, .int .i64 (-4)), (w3.heap.size, 0, .int .i64 px), (w3.heap.size, 1, .int .i64 (-4)), (w4.heap.size, 0, .int .i64 0), (w4.heap.size, 1, .int .i64 0), (w5.heap.size, 0, .int .i64 px), (w5.heap.size, 1, .int .i64 (-4)), (w6.heap.size, 0, .int .i64 0), (w6.heap.size, 1, .int .i64 0)]) hB10 (by simp [Cls, go_sem, F9, y9w2, y9w1, y9w0, y9wp1, y9wp2, y9w20, y9w2p1, y9w2p2, y9w30, y9w3p1, y9w3p2, y9w40, y9w4p1, y9w4p2, y9w50, y9w5p1, y9w5p2, y9w60, y9w6p1, y9w6p2])
    have F10 := C10
    simp only [Cls, and_true] at F10
    have y10w2 : w.heap.size + 1 + 1 < w10.heap.size := C10.blk (b := w.heap.size + 1 + 1) (k := 0) (v := .slice Y ly cY) (by simp)
    have y10w1 : w.heap.size + 1 < w10.heap.size := (by omega)
    have y10w0 : w.heap.size < w10.heap.size := (by omega)
    have y10wp1 : w.heap.size < w10.heap.size + 1 := (by omega)
    have y10wp2 : w.heap.size < w10.heap.size + 1 + 1 := (by omega)
    have y10w20 : w2.heap.size < w10.heap.size := C10.blk (b := w2.heap.size) (k := 0) (v := .int .i64 px) (by simp)
    have y10w2p1 : w2.heap.size < w10.heap.size + 1 := (by omega)
    have y10w2p2 : w2.heap.size < w10.heap.size + 1 + 1 := (by omega)
    have y10w30 : w3.heap.size < w10.heap.size := C10.blk (b := w3.heap.size) (k := 0) (v := .int .i64 px) (by simp)
    have y10w3p1 : w3.heap.size < w10.heap.size + 1 := (by omega)
    have y10w3p2 : w3.heap.size < w10.heap.size + 1 + 1 := (by omega)
    have y10w40 : w4.heap.size < w10.heap.size := C10.blk (b := w4.heap.size) (k := 0) (v := .int .i64 0) (by simp)
    have y10w4p1 : w4.heap.size < w10.heap.size + 1 := (by omega)
    have y10w4p2 : w4.heap.size < w10.heap.size + 1 + 1 := (by omega)
    have y10w50 : w5.heap.size < w10.heap.size := C10.blk (b := w5.heap.size) (k := 0) (v := .int .i64 px) (by simp)
    have y10w5p1 : w5.heap.size < w10.heap.size + 1 := (by omega)
    have y10w5p2 : w5.heap.size < w10.heap.size + 1 + 1 := (by omega)
    have y10w60 : w6.heap.size < w10.heap.size := C10.blk (b := w6.heap.size) (k := 0) (v := .int .i64 0) (by simp)
    have y10w6p1 : w6.heap.size < w10.heap.size + 1 := (by omega)
    have y10w6p2 : w6.heap.size < w10.heap.size + 1 + 1 := (by omega)
    go_wp2_with fail
    refine (srefutes_any _ AR AB AO cr cb co p (HM.out.below (by repeat (first | with_reducible exact D10 | with_reducible apply bdrew | with_reducible apply bdrewN | with_reducible apply balloc | ((with_reducible refine bset ?_ ?_ _); rotate_left; (first | omega | (simp <;> omega)))))) HOK.out ly n hrl hbl hol hm6 hn6 Y cY y e HVY2.out (HIY.out.below (by repeat (first | with_reducible exact D10 | with_reducible apply bdrew | with_reducible apply bdrewN | with_reducible apply balloc | ((with_reducible refine bset ?_ ?_ _); rotate_left; (first | omega | (simp <;> omega))))))).mono ?_
    rintro e w11 ⟨r4, rfl, HR4, hB11⟩
    have D11 := dstep w hB11 (by repeat (first | with_reducible exact D10 | with_reducible apply bdrew | with_reducible apply bdrewN | with_reducible apply balloc | ((with_reducible refine bset ?_ ?_ _); rotate_left; (first | omega | (simp <;> omega)))))
    have d11s := D11.size
    have C11 := Cls.below (l := [(w.heap.size, 0, .slice AR ly cr), (w.heap.size, 1, .slice AB ly cb), (w.heap.size, 2, .slice AO n co), (w.heap.size + 1, 0, .slice X lx cX), (w.heap.size + 1, 1, .int .i64 d), (w.heap.size + 1 + 1, 0, .slice Y ly cY), (w.heap.size + 1 + 1, 1, .int .i64 e), (w2.heap.size, 0, .int .i64 px), (w2.heap.size, 1, .int .i64 (-4)), (w3.heap.size, 0, .int .i64 px), (w3.heap.size, 1, .int .i64 (-4)), (w4.heap.size, 0, .int .i64 0), (w4.heap.size, 1, .int .i64 0), (w5.heap.size, 0, .int .i64 px), (w5.heap.size, 1, .int .i64 (-4)), (w6.heap.size, 0, .int .i64 0), (w6.heap.size, 1, .int .i64 0), (w10.heap.size, 0, .int .i64 px), (w10.heap.size, 1, .int .i64 (-4))]) hB11 (by simp [Cls, go_sem, F10, y10w2, y10w1, y10w0, y10wp1, y10wp2, y10w20, y10w2p1, y10w2p2, y10w30, y10w3p1, y10w3p2, y10w40, y10w4p1, y10w4p2, y10w50, y10w5p1, y10w5p2, y10w60, y10w6p1, y10w6p2])
    have F11 := C11
    simp only [Cls, and_true] at F11
    have y11w2 : w.heap.size + 1 + 1 < w11.heap.size := C11.blk (b := w.heap.size + 1 + 1) (k := 0) (v := .slice Y ly cY) (by simp)
    have y11w1 : w.heap.size + 1 < w11.heap.size := (by omega)
    have y11w0 : w.heap.size < w11.heap.size := (by omega)
    have y11wp1 : w.heap.size < w11.heap.size + 1 := (by omega)
    have y11wp2 : w.heap.size < w11.heap.size + 1 + 1 := (by omega)
    have y11w100 : w10.heap.size < w11.heap.size := C11.blk (b := w10.heap.size) (k := 0) (v := .int .i64 px) (by simp)
    have y11w10p1 : w10.heap.size < w11.heap.size + 1 := (by omega)
    have y11w10p2 : w10.heap.size < w11.heap.size + 1 + 1 := (by omega)
    have y11w20 : w2.heap.size < w11.heap.size := C11.blk (b := w2.heap.size) (k := 0) (v := .int .i64 px) (by simp)
    have y11w2p1 : w2.heap.size < w11.heap.size + 1 := (by omega)
    have y11w2p2 : w2.heap.size < w11.heap.size + 1 + 1 := (by omega)
    have y11w30 : w3.heap.size < w11.heap.size := C11.blk (b := w3.heap.size) (k := 0) (v := .int .i64 px) (by simp)
    have y11w3p1 : w3.heap.size < w11.heap.size + 1 := (by omega)
    have y11w3p2 : w3.heap.size < w11.heap.size + 1 + 1 := (by omega)
    have y11w40 : w4.heap.size < w11.heap.size := C11.blk (b := w4.heap.size) (k := 0) (v := .int .i64 0) (by simp)
    have y11w4p1 : w4.heap.size < w11.heap.size + 1 := (by omega)
    have y11w4p2 : w4.heap.size < w11.heap.size + 1 + 1 := (by omega)
    have y11w50 : w5.heap.size < w11.heap.size := C11.blk (b := w5.heap.size) (k := 0) (v := .int .i64 px) (by simp)
    have y11w5p1 : w5.heap.size < w11.heap.size + 1 := (by omega)
    have y11w5p2 : w5.heap.size < w11.heap.size + 1 + 1 := (by omega)
    have y11w60 : w6.heap.size < w11.heap.size := C11.blk (b := w6.heap.size) (k := 0) (v := .int .i64 0) (by simp)
    have y11w6p1 : w6.heap.size < w11.heap.size + 1 := (by omega)
    have y11w6p2 : w6.heap.size < w11.heap.size + 1 + 1 := (by omega)
    obtain rfl : r4 = ok4 := same_told HT4.out HR4.out
    have hbn : (r4 != r4) = false := by simp
    clear HT4 HR4
    go_wp2
    refine bodyPost_ret (v := .bool true) ?_ rfl ⟨rfl, by repeat (first | with_reducible exact D11 | with_reducible apply bdrew | with_reducible apply bdrewN | with_reducible apply balloc | ((with_reducible refine bset ?_ ?_ _); rotate_left; (first | omega | (simp <;> omega))))⟩
    simp [results, Try.results9, go_sem, F11, y11w2, y11w1, y11w0, y11wp1, y11wp2, y11w100, y11w10p1, y11w10p2, y11w20, y11w2p1, y11w2p2, y11w30, y11w3p1, y11w3p2, y11w40, y11w4p1, y11w4p2, y11w50, y11w5p1, y11w5p2, y11w60, y11w6p1, y11w6p2]

set_option maxRecDepth 100000 in
set_option maxHeartbeats 8000000 in
theorem walk_lfm_3 (w : World) (AR AB AO : Option Addr) (cr cb co : Nat) (p : LpV) (hM : LpMem w AR AB AO p) (m mb n : Nat) (hrl : Hid (p.rows.length = m)) (hbl : Hid (p.bounds.length = mb)) (hol : Hid (p.obj.length = n)) (X : Option Addr) (cX lx : Nat) (x : List Int) (d : Int) (hlx : Hid (x.length = lx)) (hIx : Ints w X x) (hx63 : lx ≤ 9223372036854775807) (Y : Option Addr) (cY ly : Nat) (y : List Int) (e : Int) (hly : Hid (y.length = ly)) (hIy : Ints w Y y) (hy63 : ly ≤ 9223372036854775807) (hok : LpOk p) (py : Int) (hpx : Hid (vecC x d p.obj.length = 0)) (hpy : Hid (vecC y e p.rows.length = py)) (hy0 : ¬ py = 0) :
    Calls Try.prog 9 #[.agg #[.slice AR m cr, .slice AB mb cb, .slice AO n co], .agg #[.slice X lx cX, .int .i64 d], .agg #[.slice Y ly cY, .int .i64 e]] w fun e w' => e = .returned (.bool true) ∧ Below w.heap.size w w' := by
  have HIX := Lib.hid hIx
  have HIY := Lib.hid hIy
  have HM := Lib.hid hM
  have HOK := Lib.hid hok
  have hmb : mb = m := by rw [← hbl.out, ← hrl.out]; exact HOK.out.b
  subst hmb
  have HVX : Hid (VOk p.obj.length x d) := Lib.hid (vecC_zero hpx.out)
  have hlnx : lx = n := by rw [← hlx.out, HVX.out.len]; exact hol.out
  subst hlnx
  have hm6 : mb ≤ 6 := by have := HOK.out.m; rw [hrl.out] at this; exact this
  have hn6 : lx ≤ 6 := by have := HOK.out.n; rw [hol.out] at this; exact this
  have HVX2 : Hid (VOk lx x d) := Lib.hid (by rw [← hol.out]; exact HVX.out)
  have HLZ : Hid ((lpF p).1 = 0) := Lib.hid (by rw [lpF_ok hok])
  have HVX0 : Hid (∀ W : World, Below w.heap.size w W → Calls Try.prog 18 #[.agg #[.slice X lx cX, .int .i64 d], .int .i64 lx] W fun e w' => e = .returned (.int .i64 0) ∧ Below W.heap.size W w') := Lib.hid (fun W hB => by
    have h := svcode_any W X cX x d lx (HIX.out.below hB) (by rw [hlx.out]; exact hx63)
    rw [hlx.out, ← hol.out, hpx.out, hol.out] at h
    exact h)
  have HVY0 : Hid (∀ W : World, Below w.heap.size w W → Calls Try.prog 18 #[.agg #[.slice Y ly cY, .int .i64 e], .int .i64 mb] W fun r w' => r = .returned (.int .i64 py) ∧ Below W.heap.size W w') := Lib.hid (fun W hB => by
    have h := svcode_any W Y cY y e mb (HIY.out.below hB) (by rw [hly.out]; exact hy63)
    rw [hly.out, ← hrl.out, hpy.out, hrl.out] at h
    exact h)
  have HLF : Hid (∀ W : World, Below w.heap.size w W → Calls Try.prog 14 #[.agg #[.slice AR mb cr, .slice AB mb cb, .slice AO lx co]] W fun e w' => e = .returned (.agg #[.int .i64 0, .int .i64 0]) ∧ Below W.heap.size W w') := Lib.hid (fun W hB => by
    have h := slfault_any W AR AB AO cr cb co p (HM.out.below hB)
    rw [hrl.out, hbl.out, hol.out, lpF_ok HOK.out] at h
    exact h)
  have HPY := Lib.hid hy0
  have hy1 := bb_no hy0
  have hy2 := bn_yes hy0
  have HFP := Lib.hid (fltP_ok HLZ.out hpx.out)
  have HFD := Lib.hid (fltD_bad HLZ.out hpy.out hy0)
  have HFPD : Hid (fltPD p x d y e = (py, -5)) := Lib.hid (fltPD_py HFP.out hpy.out hy0)
  clear hM hIx hIy
  go_enter Try.func9, Try.ntmps9
  go_wp2_with fail
  refine (lnexample_any _).mono ?_
  rintro e w1 ⟨rfl, hB1⟩
  have D1 := dstep w hB1 (by repeat (first | with_reducible exact Below.refl _ _ | with_reducible apply bdrew | with_reducible apply bdrewN | with_reducible apply balloc | ((with_reducible refine bset ?_ ?_ _); rotate_left; (first | omega | (simp <;> omega)))))
  have d1s := D1.size
  have C1 := Cls.below (l := [(w.heap.size, 0, .slice AR mb cr), (w.heap.size, 1, .slice AB mb cb), (w.heap.size, 2, .slice AO lx co), (w.heap.size + 1, 0, .slice X lx cX), (w.heap.size + 1, 1, .int .i64 d), (w.heap.size + 1 + 1, 0, .slice Y ly cY), (w.heap.size + 1 + 1, 1, .int .i64 e)]) hB1 (by simp [Cls, go_sem])
  have F1 := C1
  simp only [Cls, and_true] at F1
  have y1w2 : w.heap.size + 1 + 1 < w1.heap.size := C1.blk (b := w.heap.size + 1 + 1) (k := 0) (v := .slice Y ly cY) (by simp)
  have y1w1 : w.heap.size + 1 < w1.heap.size := (by omega)
  have y1w0 : w.heap.size < w1.heap.size := (by omega)
  have y1wp1 : w.heap.size < w1.heap.size + 1 := (by omega)
  have y1wp2 : w.heap.size < w1.heap.size + 1 + 1 := (by omega)
  go_wp2_with fail
  refine (feasible_any _ AR AB AO cr cb co p (HM.out.below (by repeat (first | with_reducible exact D1 | with_reducible apply bdrew | with_reducible apply bdrewN | with_reducible apply balloc | ((with_reducible refine bset ?_ ?_ _); rotate_left; (first | omega | (simp <;> omega)))))) mb mb lx hrl hbl hol X cX lx x d hlx (HIX.out.below (by repeat (first | with_reducible exact D1 | with_reducible apply bdrew | with_reducible apply bdrewN | with_reducible apply balloc | ((with_reducible refine bset ?_ ?_ _); rotate_left; (first | omega | (simp <;> omega)))))) hx63 0 0 HFP).mono ?_
  rintro e w2 ⟨ok2, rfl, HO2, hB2⟩
  have D2 := dstep w hB2 (by repeat (first | with_reducible exact D1 | with_reducible apply bdrew | with_reducible apply bdrewN | with_reducible apply balloc | ((with_reducible refine bset ?_ ?_ _); rotate_left; (first | omega | (simp <;> omega)))))
  have d2s := D2.size
  have C2 := Cls.below (l := [(w.heap.size, 0, .slice AR mb cr), (w.heap.size, 1, .slice AB mb cb), (w.heap.size, 2, .slice AO lx co), (w.heap.size + 1, 0, .slice X lx cX), (w.heap.size + 1, 1, .int .i64 d), (w.heap.size + 1 + 1, 0, .slice Y ly cY), (w.heap.size + 1 + 1, 1, .int .i64 e)]) hB2 (by simp [Cls, go_sem, F1, y1w2, y1w1, y1w0, y1wp1, y1wp2])
  have F2 := C2
  simp only [Cls, and_true] at F2
  have y2w2 : w.heap.size + 1 + 1 < w2.heap.size := C2.blk (b := w.heap.size + 1 + 1) (k := 0) (v := .slice Y ly cY) (by simp)
  have y2w1 : w.heap.size + 1 < w2.heap.size := (by omega)
  have y2w0 : w.heap.size < w2.heap.size := (by omega)
  have y2wp1 : w.heap.size < w2.heap.size + 1 := (by omega)
  have y2wp2 : w.heap.size < w2.heap.size + 1 + 1 := (by omega)
  go_wp2_with fail
  refine (certified_any _ AR AB AO cr cb co p (HM.out.below (by repeat (first | with_reducible exact D2 | with_reducible apply bdrew | with_reducible apply bdrewN | with_reducible apply balloc | ((with_reducible refine bset ?_ ?_ _); rotate_left; (first | omega | (simp <;> omega)))))) mb mb lx hrl hbl hol X cX lx x d hlx (HIX.out.below (by repeat (first | with_reducible exact D2 | with_reducible apply bdrew | with_reducible apply bdrewN | with_reducible apply balloc | ((with_reducible refine bset ?_ ?_ _); rotate_left; (first | omega | (simp <;> omega)))))) hx63 Y cY ly y e hly (HIY.out.below (by repeat (first | with_reducible exact D2 | with_reducible apply bdrew | with_reducible apply bdrewN | with_reducible apply balloc | ((with_reducible refine bset ?_ ?_ _); rotate_left; (first | omega | (simp <;> omega)))))) hy63 py (-5) HFPD).mono ?_
  rintro e w3 ⟨ok3, rfl, HO3, hB3⟩
  have D3 := dstep w hB3 (by repeat (first | with_reducible exact D2 | with_reducible apply bdrew | with_reducible apply bdrewN | with_reducible apply balloc | ((with_reducible refine bset ?_ ?_ _); rotate_left; (first | omega | (simp <;> omega)))))
  have d3s := D3.size
  have C3 := Cls.below (l := [(w.heap.size, 0, .slice AR mb cr), (w.heap.size, 1, .slice AB mb cb), (w.heap.size, 2, .slice AO lx co), (w.heap.size + 1, 0, .slice X lx cX), (w.heap.size + 1, 1, .int .i64 d), (w.heap.size + 1 + 1, 0, .slice Y ly cY), (w.heap.size + 1 + 1, 1, .int .i64 e), (w2.heap.size, 0, .int .i64 0), (w2.heap.size, 1, .int .i64 0)]) hB3 (by simp [Cls, go_sem, F2, y2w2, y2w1, y2w0, y2wp1, y2wp2])
  have F3 := C3
  simp only [Cls, and_true] at F3
  have y3w2 : w.heap.size + 1 + 1 < w3.heap.size := C3.blk (b := w.heap.size + 1 + 1) (k := 0) (v := .slice Y ly cY) (by simp)
  have y3w1 : w.heap.size + 1 < w3.heap.size := (by omega)
  have y3w0 : w.heap.size < w3.heap.size := (by omega)
  have y3wp1 : w.heap.size < w3.heap.size + 1 := (by omega)
  have y3wp2 : w.heap.size < w3.heap.size + 1 + 1 := (by omega)
  have y3w20 : w2.heap.size < w3.heap.size := C3.blk (b := w2.heap.size) (k := 0) (v := .int .i64 0) (by simp)
  have y3w2p1 : w2.heap.size < w3.heap.size + 1 := (by omega)
  have y3w2p2 : w2.heap.size < w3.heap.size + 1 + 1 := (by omega)
  go_wp2_with fail
  refine (refuted_any _ AR AB AO cr cb co p (HM.out.below (by repeat (first | with_reducible exact D3 | with_reducible apply bdrew | with_reducible apply bdrewN | with_reducible apply balloc | ((with_reducible refine bset ?_ ?_ _); rotate_left; (first | omega | (simp <;> omega)))))) mb mb lx hrl hbl hol Y cY ly y e hly (HIY.out.below (by repeat (first | with_reducible exact D3 | with_reducible apply bdrew | with_reducible apply bdrewN | with_reducible apply balloc | ((with_reducible refine bset ?_ ?_ _); rotate_left; (first | omega | (simp <;> omega)))))) hy63 py (-4) HFD).mono ?_
  rintro e w4 ⟨ok4, rfl, HO4, hB4⟩
  have D4 := dstep w hB4 (by repeat (first | with_reducible exact D3 | with_reducible apply bdrew | with_reducible apply bdrewN | with_reducible apply balloc | ((with_reducible refine bset ?_ ?_ _); rotate_left; (first | omega | (simp <;> omega)))))
  have d4s := D4.size
  have C4 := Cls.below (l := [(w.heap.size, 0, .slice AR mb cr), (w.heap.size, 1, .slice AB mb cb), (w.heap.size, 2, .slice AO lx co), (w.heap.size + 1, 0, .slice X lx cX), (w.heap.size + 1, 1, .int .i64 d), (w.heap.size + 1 + 1, 0, .slice Y ly cY), (w.heap.size + 1 + 1, 1, .int .i64 e), (w2.heap.size, 0, .int .i64 0), (w2.heap.size, 1, .int .i64 0), (w3.heap.size, 0, .int .i64 py), (w3.heap.size, 1, .int .i64 (-5))]) hB4 (by simp [Cls, go_sem, F3, y3w2, y3w1, y3w0, y3wp1, y3wp2, y3w20, y3w2p1, y3w2p2])
  have F4 := C4
  simp only [Cls, and_true] at F4
  have y4w2 : w.heap.size + 1 + 1 < w4.heap.size := C4.blk (b := w.heap.size + 1 + 1) (k := 0) (v := .slice Y ly cY) (by simp)
  have y4w1 : w.heap.size + 1 < w4.heap.size := (by omega)
  have y4w0 : w.heap.size < w4.heap.size := (by omega)
  have y4wp1 : w.heap.size < w4.heap.size + 1 := (by omega)
  have y4wp2 : w.heap.size < w4.heap.size + 1 + 1 := (by omega)
  have y4w20 : w2.heap.size < w4.heap.size := C4.blk (b := w2.heap.size) (k := 0) (v := .int .i64 0) (by simp)
  have y4w2p1 : w2.heap.size < w4.heap.size + 1 := (by omega)
  have y4w2p2 : w2.heap.size < w4.heap.size + 1 + 1 := (by omega)
  have y4w30 : w3.heap.size < w4.heap.size := C4.blk (b := w3.heap.size) (k := 0) (v := .int .i64 py) (by simp)
  have y4w3p1 : w3.heap.size < w4.heap.size + 1 := (by omega)
  have y4w3p2 : w3.heap.size < w4.heap.size + 1 + 1 := (by omega)
  go_wp2_with fail
  refine (improving_any _ AR AB AO cr cb co p (HM.out.below (by repeat (first | with_reducible exact D4 | with_reducible apply bdrew | with_reducible apply bdrewN | with_reducible apply balloc | ((with_reducible refine bset ?_ ?_ _); rotate_left; (first | omega | (simp <;> omega)))))) mb mb lx hrl hbl hol X cX lx x d hlx (HIX.out.below (by repeat (first | with_reducible exact D4 | with_reducible apply bdrew | with_reducible apply bdrewN | with_reducible apply balloc | ((with_reducible refine bset ?_ ?_ _); rotate_left; (first | omega | (simp <;> omega)))))) hx63 0 0 HFP).mono ?_
  rintro e w5 ⟨ok5, rfl, HO5, hB5⟩
  have D5 := dstep w hB5 (by repeat (first | with_reducible exact D4 | with_reducible apply bdrew | with_reducible apply bdrewN | with_reducible apply balloc | ((with_reducible refine bset ?_ ?_ _); rotate_left; (first | omega | (simp <;> omega)))))
  have d5s := D5.size
  have C5 := Cls.below (l := [(w.heap.size, 0, .slice AR mb cr), (w.heap.size, 1, .slice AB mb cb), (w.heap.size, 2, .slice AO lx co), (w.heap.size + 1, 0, .slice X lx cX), (w.heap.size + 1, 1, .int .i64 d), (w.heap.size + 1 + 1, 0, .slice Y ly cY), (w.heap.size + 1 + 1, 1, .int .i64 e), (w2.heap.size, 0, .int .i64 0), (w2.heap.size, 1, .int .i64 0), (w3.heap.size, 0, .int .i64 py), (w3.heap.size, 1, .int .i64 (-5)), (w4.heap.size, 0, .int .i64 py), (w4.heap.size, 1, .int .i64 (-4))]) hB5 (by simp [Cls, go_sem, F4, y4w2, y4w1, y4w0, y4wp1, y4wp2, y4w20, y4w2p1, y4w2p2, y4w30, y4w3p1, y4w3p2])
  have F5 := C5
  simp only [Cls, and_true] at F5
  have y5w2 : w.heap.size + 1 + 1 < w5.heap.size := C5.blk (b := w.heap.size + 1 + 1) (k := 0) (v := .slice Y ly cY) (by simp)
  have y5w1 : w.heap.size + 1 < w5.heap.size := (by omega)
  have y5w0 : w.heap.size < w5.heap.size := (by omega)
  have y5wp1 : w.heap.size < w5.heap.size + 1 := (by omega)
  have y5wp2 : w.heap.size < w5.heap.size + 1 + 1 := (by omega)
  have y5w20 : w2.heap.size < w5.heap.size := C5.blk (b := w2.heap.size) (k := 0) (v := .int .i64 0) (by simp)
  have y5w2p1 : w2.heap.size < w5.heap.size + 1 := (by omega)
  have y5w2p2 : w2.heap.size < w5.heap.size + 1 + 1 := (by omega)
  have y5w30 : w3.heap.size < w5.heap.size := C5.blk (b := w3.heap.size) (k := 0) (v := .int .i64 py) (by simp)
  have y5w3p1 : w3.heap.size < w5.heap.size + 1 := (by omega)
  have y5w3p2 : w3.heap.size < w5.heap.size + 1 + 1 := (by omega)
  have y5w40 : w4.heap.size < w5.heap.size := C5.blk (b := w4.heap.size) (k := 0) (v := .int .i64 py) (by simp)
  have y5w4p1 : w4.heap.size < w5.heap.size + 1 := (by omega)
  have y5w4p2 : w4.heap.size < w5.heap.size + 1 + 1 := (by omega)
  obtain rfl : ok3 = false := HO3.out.1 HPY.out
  obtain rfl : ok4 = false := HO4.out.1 HPY.out
  have HT2 := Lib.hid (HO2.out.2 (by simp))
  have HT5 := Lib.hid (HO5.out.2 (by simp))
  clear HO2 HO3 HO4 HO5
  go_wp2_with fail
  refine (HLF.out _ (by repeat (first | with_reducible exact D5 | with_reducible apply bdrew | with_reducible apply bdrewN | with_reducible apply balloc | ((with_reducible refine bset ?_ ?_ _); rotate_left; (first | omega | (simp <;> omega)))))).mono ?_
  rintro e w6 ⟨rfl, hB6⟩
  have D6 := dstep w hB6 (by repeat (first | with_reducible exact D5 | with_reducible apply bdrew | with_reducible apply bdrewN | with_reducible apply balloc | ((with_reducible refine bset ?_ ?_ _); rotate_left; (first | omega | (simp <;> omega)))))
  have d6s := D6.size
  have C6 := Cls.below (l := [(w.heap.size, 0, .slice AR mb cr), (w.heap.size, 1, .slice AB mb cb), (w.heap.size, 2, .slice AO lx co), (w.heap.size + 1, 0, .slice X lx cX), (w.heap.size + 1, 1, .int .i64 d), (w.heap.size + 1 + 1, 0, .slice Y ly cY), (w.heap.size + 1 + 1, 1, .int .i64 e), (w2.heap.size, 0, .int .i64 0), (w2.heap.size, 1, .int .i64 0), (w3.heap.size, 0, .int .i64 py), (w3.heap.size, 1, .int .i64 (-5)), (w4.heap.size, 0, .int .i64 py), (w4.heap.size, 1, .int .i64 (-4)), (w5.heap.size, 0, .int .i64 0), (w5.heap.size, 1, .int .i64 0)]) hB6 (by simp [Cls, go_sem, F5, y5w2, y5w1, y5w0, y5wp1, y5wp2, y5w20, y5w2p1, y5w2p2, y5w30, y5w3p1, y5w3p2, y5w40, y5w4p1, y5w4p2])
  have F6 := C6
  simp only [Cls, and_true] at F6
  have y6w2 : w.heap.size + 1 + 1 < w6.heap.size := C6.blk (b := w.heap.size + 1 + 1) (k := 0) (v := .slice Y ly cY) (by simp)
  have y6w1 : w.heap.size + 1 < w6.heap.size := (by omega)
  have y6w0 : w.heap.size < w6.heap.size := (by omega)
  have y6wp1 : w.heap.size < w6.heap.size + 1 := (by omega)
  have y6wp2 : w.heap.size < w6.heap.size + 1 + 1 := (by omega)
  have y6w20 : w2.heap.size < w6.heap.size := C6.blk (b := w2.heap.size) (k := 0) (v := .int .i64 0) (by simp)
  have y6w2p1 : w2.heap.size < w6.heap.size + 1 := (by omega)
  have y6w2p2 : w2.heap.size < w6.heap.size + 1 + 1 := (by omega)
  have y6w30 : w3.heap.size < w6.heap.size := C6.blk (b := w3.heap.size) (k := 0) (v := .int .i64 py) (by simp)
  have y6w3p1 : w3.heap.size < w6.heap.size + 1 := (by omega)
  have y6w3p2 : w3.heap.size < w6.heap.size + 1 + 1 := (by omega)
  have y6w40 : w4.heap.size < w6.heap.size := C6.blk (b := w4.heap.size) (k := 0) (v := .int .i64 py) (by simp)
  have y6w4p1 : w4.heap.size < w6.heap.size + 1 := (by omega)
  have y6w4p2 : w4.heap.size < w6.heap.size + 1 + 1 := (by omega)
  have y6w50 : w5.heap.size < w6.heap.size := C6.blk (b := w5.heap.size) (k := 0) (v := .int .i64 0) (by simp)
  have y6w5p1 : w5.heap.size < w6.heap.size + 1 := (by omega)
  have y6w5p2 : w5.heap.size < w6.heap.size + 1 + 1 := (by omega)
  go_wp2_with fail
  go_upto_region 10 with fail
  go_cut [16, 17] (fun u v wx => u = .int .i64 0 ∧ v = .int .i64 py ∧ Below w.heap.size w wx ∧ Cls wx [(w.heap.size, 0, .slice AR mb cr), (w.heap.size, 1, .slice AB mb cb), (w.heap.size, 2, .slice AO lx co), (w.heap.size + 1, 0, .slice X lx cX), (w.heap.size + 1, 1, .int .i64 d), (w.heap.size + 1 + 1, 0, .slice Y ly cY), (w.heap.size + 1 + 1, 1, .int .i64 e), (w2.heap.size, 0, .int .i64 0), (w2.heap.size, 1, .int .i64 0), (w3.heap.size, 0, .int .i64 py), (w3.heap.size, 1, .int .i64 (-5)), (w4.heap.size, 0, .int .i64 py), (w4.heap.size, 1, .int .i64 (-4)), (w5.heap.size, 0, .int .i64 0), (w5.heap.size, 1, .int .i64 0), (w6.heap.size, 0, .int .i64 0), (w6.heap.size, 1, .int .i64 0)])
  case first =>
    refine wp_region_held_drew (S := fun W => W.cell? ⟨w.heap.size, 0, none⟩ = some (.slice AR mb cr) ∧ W.cell? ⟨w.heap.size, 2, none⟩ = some (.slice AO lx co) ∧ W.cell? ⟨w.heap.size + 1, 0, none⟩ = some (.slice X lx cX) ∧ W.cell? ⟨w.heap.size + 1, 1, none⟩ = some (.int .i64 d) ∧ W.cell? ⟨w.heap.size + 1 + 1, 0, none⟩ = some (.slice Y ly cY) ∧ W.cell? ⟨w.heap.size + 1 + 1, 1, none⟩ = some (.int .i64 e)) (by kernel_rfl) (by simp [go_sem, F6, y6w2, y6w1, y6w0, y6wp1, y6wp2, y6w20, y6w2p1, y6w2p2, y6w30, y6w3p1, y6w3p2, y6w40, y6w4p1, y6w4p2, y6w50, y6w5p1, y6w5p2]) (fun hHeld => ?_)
    refine wpAnyH_take (i := 0) (v := ?vo30) rfl (by kernel_rfl) (by kernel_rfl) (by kernel_rfl) (fun _ _ _ h => h) (Or.inl ⟨by rfl, ?ho30⟩) (by assumption) ?ro30
    case ho30 => (intro w hSw; (try dsimp only at hSw); go_simp; (try with_reducible rfl))
    try simp only [Act.put, List.getElem_toArray, List.getElem_cons_succ, List.getElem_cons_zero, List.setIfInBounds_toArray, List.set_cons_zero, List.set_cons_succ]
    refine wpAnyH_take (i := 1) (v := ?vo31) rfl (by kernel_rfl) (by kernel_rfl) (by kernel_rfl) (fun _ _ _ h => h) (Or.inl ⟨by rfl, ?ho31⟩) (by assumption) ?ro31
    case ho31 => (intro w hSw; (try dsimp only at hSw); go_simp; (try with_reducible rfl))
    try simp only [Act.put, List.getElem_toArray, List.getElem_cons_succ, List.getElem_cons_zero, List.setIfInBounds_toArray, List.set_cons_zero, List.set_cons_succ]
    refine wpAnyH_take (i := 2) (v := ?vo32) rfl (by kernel_rfl) (by kernel_rfl) (by kernel_rfl) (fun _ _ _ h => h) (Or.inl ⟨by rfl, ?ho32⟩) (by assumption) ?ro32
    case ho32 => (intro w hSw; (try dsimp only at hSw); go_simp; (try with_reducible rfl))
    try simp only [Act.put, List.getElem_toArray, List.getElem_cons_succ, List.getElem_cons_zero, List.setIfInBounds_toArray, List.set_cons_zero, List.set_cons_succ]
    refine wpAnyH_take (i := 3) (v := ?vo33) rfl (by kernel_rfl) (by kernel_rfl) (by kernel_rfl) (fun _ _ _ h => h) (Or.inl ⟨by rfl, ?ho33⟩) (by assumption) ?ro33
    case ho33 => (intro w hSw; (try dsimp only at hSw); go_simp; (try with_reducible rfl))
    try simp only [Act.put, List.getElem_toArray, List.getElem_cons_succ, List.getElem_cons_zero, List.setIfInBounds_toArray, List.set_cons_zero, List.set_cons_succ]
    refine wpAnyH_take (i := 5) (v := ?vo35) rfl (by kernel_rfl) (by kernel_rfl) (by kernel_rfl) (fun _ _ _ h => h) (Or.inl ⟨by rfl, ?ho35⟩) (by assumption) ?ro35
    case ho35 => (intro w hSw; (try dsimp only at hSw); go_simp; (try with_reducible rfl))
    try simp only [Act.put, List.getElem_toArray, List.getElem_cons_succ, List.getElem_cons_zero, List.setIfInBounds_toArray, List.set_cons_zero, List.set_cons_succ]
    refine wpAnyH_take (i := 6) (v := ?vo36) rfl (by kernel_rfl) (by kernel_rfl) (by kernel_rfl) (fun _ _ _ h => h) (Or.inl ⟨by rfl, ?ho36⟩) (by assumption) ?ro36
    case ho36 => (intro w hSw; (try dsimp only at hSw); go_simp; (try with_reducible rfl))
    try simp only [Act.put, List.getElem_toArray, List.getElem_cons_succ, List.getElem_cons_zero, List.setIfInBounds_toArray, List.set_cons_zero, List.set_cons_succ]
    refine wpAnyH_take (i := 7) (v := ?vo37) rfl (by kernel_rfl) (by kernel_rfl) (by kernel_rfl) (fun _ _ _ h => h) (Or.inl ⟨by rfl, ?ho37⟩) (by assumption) ?ro37
    case ho37 => (intro w hSw; (try dsimp only at hSw); go_simp; (try with_reducible rfl))
    try simp only [Act.put, List.getElem_toArray, List.getElem_cons_succ, List.getElem_cons_zero, List.setIfInBounds_toArray, List.set_cons_zero, List.set_cons_succ]
    refine wpAnyH_take (i := 8) (v := ?vo38) rfl (by kernel_rfl) (by kernel_rfl) (by kernel_rfl) (fun _ _ _ h => h) (Or.inl ⟨by rfl, ?ho38⟩) (by assumption) ?ro38
    case ho38 => (intro w hSw; (try dsimp only at hSw); go_simp; (try with_reducible rfl))
    try simp only [Act.put, List.getElem_toArray, List.getElem_cons_succ, List.getElem_cons_zero, List.setIfInBounds_toArray, List.set_cons_zero, List.set_cons_succ]
    refine wpAnyH_ready (rs := [4]) (by kernel_rfl) (by simp) ?_
    refine (AllReadyH.cons rfl (fun K hK => ?bo31x4) AllReadyH.nil)
    case bo31x4 =>
      go_simp
      go_at_call 18
      refine (HVX0.out _ (by repeat (first | with_reducible exact D6 | with_reducible apply bdrew | with_reducible apply bdrewN | with_reducible apply balloc | ((with_reducible refine bset ?_ ?_ _); rotate_left; (first | omega | (simp <;> omega)))))).mono ?_
      rintro e w7 ⟨rfl, hB7⟩
      have D7 := dstep w hB7 (by repeat (first | with_reducible exact D6 | with_reducible apply bdrew | with_reducible apply bdrewN | with_reducible apply balloc | ((with_reducible refine bset ?_ ?_ _); rotate_left; (first | omega | (simp <;> omega)))))
      have C7 := Cls.below (l := [(w.heap.size, 0, .slice AR mb cr), (w.heap.size, 1, .slice AB mb cb), (w.heap.size, 2, .slice AO lx co), (w.heap.size + 1, 0, .slice X lx cX), (w.heap.size + 1, 1, .int .i64 d), (w.heap.size + 1 + 1, 0, .slice Y ly cY), (w.heap.size + 1 + 1, 1, .int .i64 e), (w2.heap.size, 0, .int .i64 0), (w2.heap.size, 1, .int .i64 0), (w3.heap.size, 0, .int .i64 py), (w3.heap.size, 1, .int .i64 (-5)), (w4.heap.size, 0, .int .i64 py), (w4.heap.size, 1, .int .i64 (-4)), (w5.heap.size, 0, .int .i64 0), (w5.heap.size, 1, .int .i64 0), (w6.heap.size, 0, .int .i64 0), (w6.heap.size, 1, .int .i64 0)]) hB7 (by simp [Cls, go_sem, F6, y6w2, y6w1, y6w0, y6wp1, y6wp2, y6w20, y6w2p1, y6w2p2, y6w30, y6w3p1, y6w3p2, y6w40, y6w4p1, y6w4p2, y6w50, y6w5p1, y6w5p2])
      have F7 := C7
      simp only [Cls, and_true] at F7
      have y7w2 : w.heap.size + 1 + 1 < w7.heap.size := C7.blk (b := w.heap.size + 1 + 1) (k := 0) (v := .slice Y ly cY) (by simp)
      have y7w1 : w.heap.size + 1 < w7.heap.size := (by omega)
      have y7w0 : w.heap.size < w7.heap.size := (by omega)
      have y7wp1 : w.heap.size < w7.heap.size + 1 := (by omega)
      have y7wp2 : w.heap.size < w7.heap.size + 1 + 1 := (by omega)
      have y7w20 : w2.heap.size < w7.heap.size := C7.blk (b := w2.heap.size) (k := 0) (v := .int .i64 0) (by simp)
      have y7w2p1 : w2.heap.size < w7.heap.size + 1 := (by omega)
      have y7w2p2 : w2.heap.size < w7.heap.size + 1 + 1 := (by omega)
      have y7w30 : w3.heap.size < w7.heap.size := C7.blk (b := w3.heap.size) (k := 0) (v := .int .i64 py) (by simp)
      have y7w3p1 : w3.heap.size < w7.heap.size + 1 := (by omega)
      have y7w3p2 : w3.heap.size < w7.heap.size + 1 + 1 := (by omega)
      have y7w40 : w4.heap.size < w7.heap.size := C7.blk (b := w4.heap.size) (k := 0) (v := .int .i64 py) (by simp)
      have y7w4p1 : w4.heap.size < w7.heap.size + 1 := (by omega)
      have y7w4p2 : w4.heap.size < w7.heap.size + 1 + 1 := (by omega)
      have y7w50 : w5.heap.size < w7.heap.size := C7.blk (b := w5.heap.size) (k := 0) (v := .int .i64 0) (by simp)
      have y7w5p1 : w5.heap.size < w7.heap.size + 1 := (by omega)
      have y7w5p2 : w5.heap.size < w7.heap.size + 1 + 1 := (by omega)
      have y7w60 : w6.heap.size < w7.heap.size := C7.blk (b := w6.heap.size) (k := 0) (v := .int .i64 0) (by simp)
      have y7w6p1 : w6.heap.size < w7.heap.size + 1 := (by omega)
      have y7w6p2 : w6.heap.size < w7.heap.size + 1 + 1 := (by omega)
      have hSS : w7.cell? ⟨w.heap.size, 0, none⟩ = some (.slice AR mb cr) ∧ w7.cell? ⟨w.heap.size, 2, none⟩ = some (.slice AO lx co) ∧ w7.cell? ⟨w.heap.size + 1, 0, none⟩ = some (.slice X lx cX) ∧ w7.cell? ⟨w.heap.size + 1, 1, none⟩ = some (.int .i64 d) ∧ w7.cell? ⟨w.heap.size + 1 + 1, 0, none⟩ = some (.slice Y ly cY) ∧ w7.cell? ⟨w.heap.size + 1 + 1, 1, none⟩ = some (.int .i64 e) := (by simp [F7])
      go_wp2_with fail
      refine hK.out _ _ hSS (fun hHeld => ?_)
      clear hK K
      try simp only [Act.put, List.getElem_toArray, List.getElem_cons_succ, List.getElem_cons_zero, List.setIfInBounds_toArray, List.set_cons_zero, List.set_cons_succ]
      refine wpAnyH_ready (rs := [9]) (by kernel_rfl) (by simp) ?_
      refine (AllReadyH.cons rfl (fun K hK => ?bo32x9) AllReadyH.nil)
      case bo32x9 =>
        go_simp
        go_at_call 18
        refine (HVY0.out _ (by repeat (first | with_reducible exact D7 | with_reducible apply bdrew | with_reducible apply bdrewN | with_reducible apply balloc | ((with_reducible refine bset ?_ ?_ _); rotate_left; (first | omega | (simp <;> omega)))))).mono ?_
        rintro e w8 ⟨rfl, hB8⟩
        have D8 := dstep w hB8 (by repeat (first | with_reducible exact D7 | with_reducible apply bdrew | with_reducible apply bdrewN | with_reducible apply balloc | ((with_reducible refine bset ?_ ?_ _); rotate_left; (first | omega | (simp <;> omega)))))
        have C8 := Cls.below (l := [(w.heap.size, 0, .slice AR mb cr), (w.heap.size, 1, .slice AB mb cb), (w.heap.size, 2, .slice AO lx co), (w.heap.size + 1, 0, .slice X lx cX), (w.heap.size + 1, 1, .int .i64 d), (w.heap.size + 1 + 1, 0, .slice Y ly cY), (w.heap.size + 1 + 1, 1, .int .i64 e), (w2.heap.size, 0, .int .i64 0), (w2.heap.size, 1, .int .i64 0), (w3.heap.size, 0, .int .i64 py), (w3.heap.size, 1, .int .i64 (-5)), (w4.heap.size, 0, .int .i64 py), (w4.heap.size, 1, .int .i64 (-4)), (w5.heap.size, 0, .int .i64 0), (w5.heap.size, 1, .int .i64 0), (w6.heap.size, 0, .int .i64 0), (w6.heap.size, 1, .int .i64 0)]) hB8 (by simp [Cls, go_sem, F7, y7w2, y7w1, y7w0, y7wp1, y7wp2, y7w20, y7w2p1, y7w2p2, y7w30, y7w3p1, y7w3p2, y7w40, y7w4p1, y7w4p2, y7w50, y7w5p1, y7w5p2, y7w60, y7w6p1, y7w6p2])
        have F8 := C8
        simp only [Cls, and_true] at F8
        have y8w2 : w.heap.size + 1 + 1 < w8.heap.size := C8.blk (b := w.heap.size + 1 + 1) (k := 0) (v := .slice Y ly cY) (by simp)
        have y8w1 : w.heap.size + 1 < w8.heap.size := (by omega)
        have y8w0 : w.heap.size < w8.heap.size := (by omega)
        have y8wp1 : w.heap.size < w8.heap.size + 1 := (by omega)
        have y8wp2 : w.heap.size < w8.heap.size + 1 + 1 := (by omega)
        have y8w20 : w2.heap.size < w8.heap.size := C8.blk (b := w2.heap.size) (k := 0) (v := .int .i64 0) (by simp)
        have y8w2p1 : w2.heap.size < w8.heap.size + 1 := (by omega)
        have y8w2p2 : w2.heap.size < w8.heap.size + 1 + 1 := (by omega)
        have y8w30 : w3.heap.size < w8.heap.size := C8.blk (b := w3.heap.size) (k := 0) (v := .int .i64 py) (by simp)
        have y8w3p1 : w3.heap.size < w8.heap.size + 1 := (by omega)
        have y8w3p2 : w3.heap.size < w8.heap.size + 1 + 1 := (by omega)
        have y8w40 : w4.heap.size < w8.heap.size := C8.blk (b := w4.heap.size) (k := 0) (v := .int .i64 py) (by simp)
        have y8w4p1 : w4.heap.size < w8.heap.size + 1 := (by omega)
        have y8w4p2 : w4.heap.size < w8.heap.size + 1 + 1 := (by omega)
        have y8w50 : w5.heap.size < w8.heap.size := C8.blk (b := w5.heap.size) (k := 0) (v := .int .i64 0) (by simp)
        have y8w5p1 : w5.heap.size < w8.heap.size + 1 := (by omega)
        have y8w5p2 : w5.heap.size < w8.heap.size + 1 + 1 := (by omega)
        have y8w60 : w6.heap.size < w8.heap.size := C8.blk (b := w6.heap.size) (k := 0) (v := .int .i64 0) (by simp)
        have y8w6p1 : w6.heap.size < w8.heap.size + 1 := (by omega)
        have y8w6p2 : w6.heap.size < w8.heap.size + 1 + 1 := (by omega)
        have hSS : w8.cell? ⟨w.heap.size, 0, none⟩ = some (.slice AR mb cr) ∧ w8.cell? ⟨w.heap.size, 2, none⟩ = some (.slice AO lx co) ∧ w8.cell? ⟨w.heap.size + 1, 0, none⟩ = some (.slice X lx cX) ∧ w8.cell? ⟨w.heap.size + 1, 1, none⟩ = some (.int .i64 d) ∧ w8.cell? ⟨w.heap.size + 1 + 1, 0, none⟩ = some (.slice Y ly cY) ∧ w8.cell? ⟨w.heap.size + 1 + 1, 1, none⟩ = some (.int .i64 e) := (by simp [F8])
        go_wp2_with fail
        refine hK.out _ _ hSS (fun hHeld => ?_)
        clear hK K
        try simp only [Act.put, List.getElem_toArray, List.getElem_cons_succ, List.getElem_cons_zero, List.setIfInBounds_toArray, List.set_cons_zero, List.set_cons_succ]
        refine wpAnyH_take (i := 10) (v := ?vo3l310) rfl (by kernel_rfl) (by kernel_rfl) (by kernel_rfl) (fun _ _ _ h => h) (Or.inl ⟨by rfl, ?ho3l310⟩) (by assumption) ?ro3l310
        case ho3l310 => (intro w hSw; (try dsimp only at hSw); go_simp; (try with_reducible rfl))
        try simp only [Act.put, List.getElem_toArray, List.getElem_cons_succ, List.getElem_cons_zero, List.setIfInBounds_toArray, List.set_cons_zero, List.set_cons_succ]
        refine wpAnyH_take (i := 11) (v := ?vo3l411) rfl (by kernel_rfl) (by kernel_rfl) (by kernel_rfl) (fun _ _ _ h => h) (Or.inl ⟨by rfl, ?ho3l411⟩) (by assumption) ?ro3l411
        case ho3l411 => (intro w hSw; (try dsimp only at hSw); go_simp; (try with_reducible rfl))
        try simp only [Act.put, List.getElem_toArray, List.getElem_cons_succ, List.getElem_cons_zero, List.setIfInBounds_toArray, List.set_cons_zero, List.set_cons_succ]
        refine wpAnyH_done (by kernel_rfl) ?_ _
        go_wp2_with fail
        go_meet
        exact ⟨rfl, rfl, by repeat (first | with_reducible exact D8 | with_reducible apply bdrew | with_reducible apply bdrewN | with_reducible apply balloc | ((with_reducible refine bset ?_ ?_ _); rotate_left; (first | omega | (simp <;> omega)))), by simp [Cls, go_sem, F8, y8w2, y8w1, y8w0, y8wp1, y8wp2, y8w20, y8w2p1, y8w2p2, y8w30, y8w3p1, y8w3p2, y8w40, y8w4p1, y8w4p2, y8w50, y8w5p1, y8w5p2, y8w60, y8w6p1, y8w6p2]⟩
  case rest =>
    obtain ⟨w9, rfl⟩ : ∃ wo : World, wo = wc := ⟨_, rfl⟩
    obtain ⟨rfl, rfl, D9, C9⟩ := hcut
    have d9s := D9.size
    have F9 := C9
    simp only [Cls, and_true] at F9
    have y9w2 : w.heap.size + 1 + 1 < w9.heap.size := C9.blk (b := w.heap.size + 1 + 1) (k := 0) (v := .slice Y ly cY) (by simp)
    have y9w1 : w.heap.size + 1 < w9.heap.size := (by omega)
    have y9w0 : w.heap.size < w9.heap.size := (by omega)
    have y9wp1 : w.heap.size < w9.heap.size + 1 := (by omega)
    have y9wp2 : w.heap.size < w9.heap.size + 1 + 1 := (by omega)
    have y9w20 : w2.heap.size < w9.heap.size := C9.blk (b := w2.heap.size) (k := 0) (v := .int .i64 0) (by simp)
    have y9w2p1 : w2.heap.size < w9.heap.size + 1 := (by omega)
    have y9w2p2 : w2.heap.size < w9.heap.size + 1 + 1 := (by omega)
    have y9w30 : w3.heap.size < w9.heap.size := C9.blk (b := w3.heap.size) (k := 0) (v := .int .i64 py) (by simp)
    have y9w3p1 : w3.heap.size < w9.heap.size + 1 := (by omega)
    have y9w3p2 : w3.heap.size < w9.heap.size + 1 + 1 := (by omega)
    have y9w40 : w4.heap.size < w9.heap.size := C9.blk (b := w4.heap.size) (k := 0) (v := .int .i64 py) (by simp)
    have y9w4p1 : w4.heap.size < w9.heap.size + 1 := (by omega)
    have y9w4p2 : w4.heap.size < w9.heap.size + 1 + 1 := (by omega)
    have y9w50 : w5.heap.size < w9.heap.size := C9.blk (b := w5.heap.size) (k := 0) (v := .int .i64 0) (by simp)
    have y9w5p1 : w5.heap.size < w9.heap.size + 1 := (by omega)
    have y9w5p2 : w5.heap.size < w9.heap.size + 1 + 1 := (by omega)
    have y9w60 : w6.heap.size < w9.heap.size := C9.blk (b := w6.heap.size) (k := 0) (v := .int .i64 0) (by simp)
    have y9w6p1 : w6.heap.size < w9.heap.size + 1 := (by omega)
    have y9w6p2 : w6.heap.size < w9.heap.size + 1 + 1 := (by omega)
    go_wp2_with fail
    refine (spoint_any _ AR AB AO cr cb co p (HM.out.below (by repeat (first | with_reducible exact D9 | with_reducible apply bdrew | with_reducible apply bdrewN | with_reducible apply balloc | ((with_reducible refine bset ?_ ?_ _); rotate_left; (first | omega | (simp <;> omega)))))) HOK.out mb lx hrl hbl hol hm6 hn6 X cX x d HVX2.out (HIX.out.below (by repeat (first | with_reducible exact D9 | with_reducible apply bdrew | with_reducible apply bdrewN | with_reducible apply balloc | ((with_reducible refine bset ?_ ?_ _); rotate_left; (first | omega | (simp <;> omega))))))).mono ?_
    rintro e w10 ⟨r2, rfl, HR2, hB10⟩
    have D10 := dstep w hB10 (by repeat (first | with_reducible exact D9 | with_reducible apply bdrew | with_reducible apply bdrewN | with_reducible apply balloc | ((with_reducible refine bset ?_ ?_ _); rotate_left; (first | omega | (simp <;> omega)))))
    have d10s := D10.size
    have C10 := Cls.below (l := [(w.heap.size, 0, .slice AR mb cr), (w.heap.size, 1, .slice AB mb cb), (w.heap.size, 2, .slice AO lx co), (w.heap.size + 1, 0, .slice X lx cX), (w.heap.size + 1, 1, .int .i64 d), (w.heap.size + 1 + 1, 0, .slice Y ly cY), (w.heap.size + 1 + 1, 1, .int .i64 e), (w2.heap.size, 0, .int .i64 0), (w2.heap.size, 1, .int .i64 0), (w3.heap.size, 0, .int .i64 py), (w3.heap.size, 1, .int .i64 (-5)), (w4.heap.size, 0, .int .i64 py), (w4.heap.size, 1, .int .i64 (-4)), (w5.heap.size, 0, .int .i64 0), (w5.heap.size, 1, .int .i64 0), (w6.heap.size, 0, .int .i64 0), (w6.heap.size, 1, .int .i64 0)]) hB10 (by simp [Cls, go_sem, F9, y9w2, y9w1, y9w0, y9wp1, y9wp2, y9w20, y9w2p1, y9w2p2, y9w30, y9w3p1, y9w3p2, y9w40, y9w4p1, y9w4p2, y9w50, y9w5p1, y9w5p2, y9w60, y9w6p1, y9w6p2])
    have F10 := C10
    simp only [Cls, and_true] at F10
    have y10w2 : w.heap.size + 1 + 1 < w10.heap.size := C10.blk (b := w.heap.size + 1 + 1) (k := 0) (v := .slice Y ly cY) (by simp)
    have y10w1 : w.heap.size + 1 < w10.heap.size := (by omega)
    have y10w0 : w.heap.size < w10.heap.size := (by omega)
    have y10wp1 : w.heap.size < w10.heap.size + 1 := (by omega)
    have y10wp2 : w.heap.size < w10.heap.size + 1 + 1 := (by omega)
    have y10w20 : w2.heap.size < w10.heap.size := C10.blk (b := w2.heap.size) (k := 0) (v := .int .i64 0) (by simp)
    have y10w2p1 : w2.heap.size < w10.heap.size + 1 := (by omega)
    have y10w2p2 : w2.heap.size < w10.heap.size + 1 + 1 := (by omega)
    have y10w30 : w3.heap.size < w10.heap.size := C10.blk (b := w3.heap.size) (k := 0) (v := .int .i64 py) (by simp)
    have y10w3p1 : w3.heap.size < w10.heap.size + 1 := (by omega)
    have y10w3p2 : w3.heap.size < w10.heap.size + 1 + 1 := (by omega)
    have y10w40 : w4.heap.size < w10.heap.size := C10.blk (b := w4.heap.size) (k := 0) (v := .int .i64 py) (by simp)
    have y10w4p1 : w4.heap.size < w10.heap.size + 1 := (by omega)
    have y10w4p2 : w4.heap.size < w10.heap.size + 1 + 1 := (by omega)
    have y10w50 : w5.heap.size < w10.heap.size := C10.blk (b := w5.heap.size) (k := 0) (v := .int .i64 0) (by simp)
    have y10w5p1 : w5.heap.size < w10.heap.size + 1 := (by omega)
    have y10w5p2 : w5.heap.size < w10.heap.size + 1 + 1 := (by omega)
    have y10w60 : w6.heap.size < w10.heap.size := C10.blk (b := w6.heap.size) (k := 0) (v := .int .i64 0) (by simp)
    have y10w6p1 : w6.heap.size < w10.heap.size + 1 := (by omega)
    have y10w6p2 : w6.heap.size < w10.heap.size + 1 + 1 := (by omega)
    obtain rfl : r2 = ok2 := same_told HT2.out HR2.out
    have hbn2 : (r2 != r2) = false := by simp
    clear HR2
    go_wp2_with fail
    refine (simproves_any _ AR AB AO cr cb co p (HM.out.below (by repeat (first | with_reducible exact D10 | with_reducible apply bdrew | with_reducible apply bdrewN | with_reducible apply balloc | ((with_reducible refine bset ?_ ?_ _); rotate_left; (first | omega | (simp <;> omega)))))) HOK.out mb lx hrl hbl hol hm6 hn6 X cX x d HVX2.out (HIX.out.below (by repeat (first | with_reducible exact D10 | with_reducible apply bdrew | with_reducible apply bdrewN | with_reducible apply balloc | ((with_reducible refine bset ?_ ?_ _); rotate_left; (first | omega | (simp <;> omega))))))).mono ?_
    rintro e w11 ⟨r5, rfl, HR5, hB11⟩
    have D11 := dstep w hB11 (by repeat (first | with_reducible exact D10 | with_reducible apply bdrew | with_reducible apply bdrewN | with_reducible apply balloc | ((with_reducible refine bset ?_ ?_ _); rotate_left; (first | omega | (simp <;> omega)))))
    have d11s := D11.size
    have C11 := Cls.below (l := [(w.heap.size, 0, .slice AR mb cr), (w.heap.size, 1, .slice AB mb cb), (w.heap.size, 2, .slice AO lx co), (w.heap.size + 1, 0, .slice X lx cX), (w.heap.size + 1, 1, .int .i64 d), (w.heap.size + 1 + 1, 0, .slice Y ly cY), (w.heap.size + 1 + 1, 1, .int .i64 e), (w2.heap.size, 0, .int .i64 0), (w2.heap.size, 1, .int .i64 0), (w3.heap.size, 0, .int .i64 py), (w3.heap.size, 1, .int .i64 (-5)), (w4.heap.size, 0, .int .i64 py), (w4.heap.size, 1, .int .i64 (-4)), (w5.heap.size, 0, .int .i64 0), (w5.heap.size, 1, .int .i64 0), (w6.heap.size, 0, .int .i64 0), (w6.heap.size, 1, .int .i64 0)]) hB11 (by simp [Cls, go_sem, F10, y10w2, y10w1, y10w0, y10wp1, y10wp2, y10w20, y10w2p1, y10w2p2, y10w30, y10w3p1, y10w3p2, y10w40, y10w4p1, y10w4p2, y10w50, y10w5p1, y10w5p2, y10w60, y10w6p1, y10w6p2])
    have F11 := C11
    simp only [Cls, and_true] at F11
    have y11w2 : w.heap.size + 1 + 1 < w11.heap.size := C11.blk (b := w.heap.size + 1 + 1) (k := 0) (v := .slice Y ly cY) (by simp)
    have y11w1 : w.heap.size + 1 < w11.heap.size := (by omega)
    have y11w0 : w.heap.size < w11.heap.size := (by omega)
    have y11wp1 : w.heap.size < w11.heap.size + 1 := (by omega)
    have y11wp2 : w.heap.size < w11.heap.size + 1 + 1 := (by omega)
    have y11w20 : w2.heap.size < w11.heap.size := C11.blk (b := w2.heap.size) (k := 0) (v := .int .i64 0) (by simp)
    have y11w2p1 : w2.heap.size < w11.heap.size + 1 := (by omega)
    have y11w2p2 : w2.heap.size < w11.heap.size + 1 + 1 := (by omega)
    have y11w30 : w3.heap.size < w11.heap.size := C11.blk (b := w3.heap.size) (k := 0) (v := .int .i64 py) (by simp)
    have y11w3p1 : w3.heap.size < w11.heap.size + 1 := (by omega)
    have y11w3p2 : w3.heap.size < w11.heap.size + 1 + 1 := (by omega)
    have y11w40 : w4.heap.size < w11.heap.size := C11.blk (b := w4.heap.size) (k := 0) (v := .int .i64 py) (by simp)
    have y11w4p1 : w4.heap.size < w11.heap.size + 1 := (by omega)
    have y11w4p2 : w4.heap.size < w11.heap.size + 1 + 1 := (by omega)
    have y11w50 : w5.heap.size < w11.heap.size := C11.blk (b := w5.heap.size) (k := 0) (v := .int .i64 0) (by simp)
    have y11w5p1 : w5.heap.size < w11.heap.size + 1 := (by omega)
    have y11w5p2 : w5.heap.size < w11.heap.size + 1 + 1 := (by omega)
    have y11w60 : w6.heap.size < w11.heap.size := C11.blk (b := w6.heap.size) (k := 0) (v := .int .i64 0) (by simp)
    have y11w6p1 : w6.heap.size < w11.heap.size + 1 := (by omega)
    have y11w6p2 : w6.heap.size < w11.heap.size + 1 + 1 := (by omega)
    obtain rfl : r5 = ok5 := same_told HT5.out HR5.out
    have hbn5 : (r5 != r5) = false := by simp
    clear HT5 HR5
    go_wp2_with fail
    go_upto_region 18 with fail
    refine wp_region_held_drew (S := fun W => W.cell? ⟨w4.heap.size, 0, none⟩ = some (.int .i64 py) ∧ W.cell? ⟨w4.heap.size, 1, none⟩ = some (.int .i64 (-4)) ∧ W.cell? ⟨w3.heap.size, 0, none⟩ = some (.int .i64 py) ∧ W.cell? ⟨w3.heap.size, 1, none⟩ = some (.int .i64 (-5))) (by kernel_rfl) (by simp [go_sem, F11, y11w2, y11w1, y11w0, y11wp1, y11wp2, y11w20, y11w2p1, y11w2p2, y11w30, y11w3p1, y11w3p2, y11w40, y11w4p1, y11w4p2, y11w50, y11w5p1, y11w5p2, y11w60, y11w6p1, y11w6p2]) (fun hHeld => ?_)
    refine wpAnyH_take (i := 0) (v := ?vq20) rfl (by kernel_rfl) (by kernel_rfl) (by kernel_rfl) (fun _ _ _ h => h) (Or.inl ⟨by rfl, ?hq20⟩) (by assumption) ?rq20
    case hq20 => (intro w hSw; (try dsimp only at hSw); go_simp; (try with_reducible rfl))
    try simp only [Act.put, List.getElem_toArray, List.getElem_cons_succ, List.getElem_cons_zero, List.setIfInBounds_toArray, List.set_cons_zero, List.set_cons_succ]
    refine wpAnyH_take (i := 1) (v := ?vq21) rfl (by kernel_rfl) (by kernel_rfl) (by kernel_rfl) (fun _ _ _ h => h) (Or.inl ⟨by rfl, ?hq21⟩) (by assumption) ?rq21
    case hq21 => (intro w hSw; (try dsimp only at hSw); go_simp; (try with_reducible rfl))
    try simp only [Act.put, List.getElem_toArray, List.getElem_cons_succ, List.getElem_cons_zero, List.setIfInBounds_toArray, List.set_cons_zero, List.set_cons_succ]
    refine wpAnyH_ready (rs := [2]) (by kernel_rfl) (by simp) ?_
    refine AllReadyH.cons rfl (fun K hK => ?_) AllReadyH.nil
    go_simp
    go_at_call 32; refine (at_any _ _ _).mono ?_; rintro e w12 ⟨rfl, hB12⟩; have D12 := dstep w hB12 (by repeat (first | with_reducible exact D11 | with_reducible apply bdrew | with_reducible apply bdrewN | with_reducible apply balloc | ((with_reducible refine bset ?_ ?_ _); rotate_left; (first | omega | (simp <;> omega))))); have C12 := Cls.below (l := [(w.heap.size, 0, .slice AR mb cr), (w.heap.size, 1, .slice AB mb cb), (w.heap.size, 2, .slice AO lx co), (w.heap.size + 1, 0, .slice X lx cX), (w.heap.size + 1, 1, .int .i64 d), (w.heap.size + 1 + 1, 0, .slice Y ly cY), (w.heap.size + 1 + 1, 1, .int .i64 e), (w2.heap.size, 0, .int .i64 0), (w2.heap.size, 1, .int .i64 0), (w3.heap.size, 0, .int .i64 py), (w3.heap.size, 1, .int .i64 (-5)), (w4.heap.size, 0, .int .i64 py), (w4.heap.size, 1, .int .i64 (-4)), (w5.heap.size, 0, .int .i64 0), (w5.heap.size, 1, .int .i64 0), (w6.heap.size, 0, .int .i64 0), (w6.heap.size, 1, .int .i64 0)]) hB12 (by simp [Cls, go_sem, F11, y11w2, y11w1, y11w0, y11wp1, y11wp2, y11w20, y11w2p1, y11w2p2, y11w30, y11w3p1, y11w3p2, y11w40, y11w4p1, y11w4p2, y11w50, y11w5p1, y11w5p2, y11w60, y11w6p1, y11w6p2]); have F12 := C12; simp only [Cls, and_true] at F12; have y12w2 : w.heap.size + 1 + 1 < w12.heap.size := C12.blk (b := w.heap.size + 1 + 1) (k := 0) (v := .slice Y ly cY) (by simp); have y12w1 : w.heap.size + 1 < w12.heap.size := (by omega); have y12w0 : w.heap.size < w12.heap.size := (by omega); have y12wp1 : w.heap.size < w12.heap.size + 1 := (by omega); have y12wp2 : w.heap.size < w12.heap.size + 1 + 1 := (by omega); have y12w20 : w2.heap.size < w12.heap.size := C12.blk (b := w2.heap.size) (k := 0) (v := .int .i64 0) (by simp); have y12w2p1 : w2.heap.size < w12.heap.size + 1 := (by omega); have y12w2p2 : w2.heap.size < w12.heap.size + 1 + 1 := (by omega); have y12w30 : w3.heap.size < w12.heap.size := C12.blk (b := w3.heap.size) (k := 0) (v := .int .i64 py) (by simp); have y12w3p1 : w3.heap.size < w12.heap.size + 1 := (by omega); have y12w3p2 : w3.heap.size < w12.heap.size + 1 + 1 := (by omega); have y12w40 : w4.heap.size < w12.heap.size := C12.blk (b := w4.heap.size) (k := 0) (v := .int .i64 py) (by simp); have y12w4p1 : w4.heap.size < w12.heap.size + 1 := (by omega); have y12w4p2 : w4.heap.size < w12.heap.size + 1 + 1 := (by omega); have y12w50 : w5.heap.size < w12.heap.size := C12.blk (b := w5.heap.size) (k := 0) (v := .int .i64 0) (by simp); have y12w5p1 : w5.heap.size < w12.heap.size + 1 := (by omega); have y12w5p2 : w5.heap.size < w12.heap.size + 1 + 1 := (by omega); have y12w60 : w6.heap.size < w12.heap.size := C12.blk (b := w6.heap.size) (k := 0) (v := .int .i64 0) (by simp); have y12w6p1 : w6.heap.size < w12.heap.size + 1 := (by omega); have y12w6p2 : w6.heap.size < w12.heap.size + 1 + 1 := (by omega); have hSS : w12.cell? ⟨w4.heap.size, 0, none⟩ = some (.int .i64 py) ∧ w12.cell? ⟨w4.heap.size, 1, none⟩ = some (.int .i64 (-4)) ∧ w12.cell? ⟨w3.heap.size, 0, none⟩ = some (.int .i64 py) ∧ w12.cell? ⟨w3.heap.size, 1, none⟩ = some (.int .i64 (-5)) := (by simp [F12])
    go_wp2_with fail
    refine hK.out _ _ hSS (fun hHeld => ?_)
    clear hK K
    try simp only [Act.put, List.getElem_toArray, List.getElem_cons_succ, List.getElem_cons_zero, List.setIfInBounds_toArray, List.set_cons_zero, List.set_cons_succ]
    refine wpAnyH_take (i := 3) (v := ?vq23) rfl (by kernel_rfl) (by kernel_rfl) (by kernel_rfl) (fun _ _ _ h => h) (Or.inl ⟨by rfl, ?hq23⟩) (by assumption) ?rq23
    case hq23 => (intro w hSw; (try dsimp only at hSw); go_simp; (try with_reducible rfl))
    try simp only [Act.put, List.getElem_toArray, List.getElem_cons_succ, List.getElem_cons_zero, List.setIfInBounds_toArray, List.set_cons_zero, List.set_cons_succ]
    refine wpAnyH_take (i := 4) (v := ?vq24) rfl (by kernel_rfl) (by kernel_rfl) (by kernel_rfl) (fun _ _ _ h => h) (Or.inl ⟨by rfl, ?hq24⟩) (by assumption) ?rq24
    case hq24 => (intro w hSw; (try dsimp only at hSw); go_simp; (try with_reducible rfl))
    try simp only [Act.put, List.getElem_toArray, List.getElem_cons_succ, List.getElem_cons_zero, List.setIfInBounds_toArray, List.set_cons_zero, List.set_cons_succ]
    refine wpAnyH_take (i := 5) (v := ?vq25) rfl (by kernel_rfl) (by kernel_rfl) (by kernel_rfl) (fun _ _ _ h => h) (Or.inl ⟨?wq25, ?hq25⟩) (by assumption) ?rq25
    case wq25 => simp [Region.wanted, yielded]
    case hq25 => (intro w hSw; (try dsimp only at hSw); go_simp; (try with_reducible rfl))
    try simp only [Act.put, List.getElem_toArray, List.getElem_cons_succ, List.getElem_cons_zero, List.setIfInBounds_toArray, List.set_cons_zero, List.set_cons_succ]
    refine wpAnyH_take (i := 6) (v := ?vq26) rfl (by kernel_rfl) (by kernel_rfl) (by kernel_rfl) (fun _ _ _ h => h) (Or.inl ⟨?wq26, ?hq26⟩) (by assumption) ?rq26
    case wq26 => simp [Region.wanted, yielded]
    case hq26 => (intro w hSw; (try dsimp only at hSw); go_simp; (try with_reducible rfl))
    try simp only [Act.put, List.getElem_toArray, List.getElem_cons_succ, List.getElem_cons_zero, List.setIfInBounds_toArray, List.set_cons_zero, List.set_cons_succ]
    refine wpAnyH_take (i := 7) (v := ?vq27) rfl (by kernel_rfl) (by kernel_rfl) (by kernel_rfl) (fun _ _ _ h => h) (Or.inl ⟨by rfl, ?hq27⟩) (by assumption) ?rq27
    case hq27 => (intro w hSw; (try dsimp only at hSw); go_simp; (try with_reducible rfl))
    try simp only [Act.put, List.getElem_toArray, List.getElem_cons_succ, List.getElem_cons_zero, List.setIfInBounds_toArray, List.set_cons_zero, List.set_cons_succ]
    refine wpAnyH_take (i := 8) (v := ?vq28) rfl (by kernel_rfl) (by kernel_rfl) (by kernel_rfl) (fun _ _ _ h => h) (Or.inl ⟨by rfl, ?hq28⟩) (by assumption) ?rq28
    case hq28 => (intro w hSw; (try dsimp only at hSw); go_simp; (try with_reducible rfl))
    try simp only [Act.put, List.getElem_toArray, List.getElem_cons_succ, List.getElem_cons_zero, List.setIfInBounds_toArray, List.set_cons_zero, List.set_cons_succ]
    refine wpAnyH_take (i := 9) (v := ?vq29) rfl (by kernel_rfl) (by kernel_rfl) (by kernel_rfl) (fun _ _ _ h => h) (Or.inl ⟨?wq29, ?hq29⟩) (by assumption) ?rq29
    case wq29 => simp [Region.wanted, yielded]
    case hq29 => (intro w hSw; (try dsimp only at hSw); go_simp; (try with_reducible rfl))
    try simp only [Act.put, List.getElem_toArray, List.getElem_cons_succ, List.getElem_cons_zero, List.setIfInBounds_toArray, List.set_cons_zero, List.set_cons_succ]
    refine wpAnyH_take (i := 10) (v := ?vq210) rfl (by kernel_rfl) (by kernel_rfl) (by kernel_rfl) (fun _ _ _ h => h) (Or.inl ⟨?wq210, ?hq210⟩) (by assumption) ?rq210
    case wq210 => simp [Region.wanted, yielded]
    case hq210 => (intro w hSw; (try dsimp only at hSw); go_simp; (try with_reducible rfl))
    try simp only [Act.put, List.getElem_toArray, List.getElem_cons_succ, List.getElem_cons_zero, List.setIfInBounds_toArray, List.set_cons_zero, List.set_cons_succ]
    refine wpAnyH_take (i := 11) (v := ?vq211) rfl (by kernel_rfl) (by kernel_rfl) (by kernel_rfl) (fun _ _ _ h => h) (Or.inl ⟨?wq211, ?hq211⟩) (by assumption) ?rq211
    case wq211 => simp [Region.wanted, yielded]
    case hq211 => (intro w hSw; (try dsimp only at hSw); go_simp; (try with_reducible rfl))
    try simp only [Act.put, List.getElem_toArray, List.getElem_cons_succ, List.getElem_cons_zero, List.setIfInBounds_toArray, List.set_cons_zero, List.set_cons_succ]
    refine wpAnyH_take (i := 12) (v := ?vq212) rfl (by kernel_rfl) (by kernel_rfl) (by kernel_rfl) (fun _ _ _ h => h) (Or.inl ⟨?wq212, ?hq212⟩) (by assumption) ?rq212
    case wq212 => simp [Region.wanted, yielded]
    case hq212 => (intro w hSw; (try dsimp only at hSw); go_simp; (try with_reducible rfl))
    try simp only [Act.put, List.getElem_toArray, List.getElem_cons_succ, List.getElem_cons_zero, List.setIfInBounds_toArray, List.set_cons_zero, List.set_cons_succ]
    refine wpAnyH_take (i := 13) (v := ?vq213) rfl (by kernel_rfl) (by kernel_rfl) (by kernel_rfl) (fun _ _ _ h => h) (Or.inl ⟨?wq213, ?hq213⟩) (by assumption) ?rq213
    case wq213 => simp [Region.wanted, yielded]
    case hq213 => (intro w hSw; (try dsimp only at hSw); go_simp; (try with_reducible rfl))
    try simp only [Act.put, List.getElem_toArray, List.getElem_cons_succ, List.getElem_cons_zero, List.setIfInBounds_toArray, List.set_cons_zero, List.set_cons_succ]
    refine wpAnyH_ready (rs := [14]) (by kernel_rfl) (by simp) ?_
    refine AllReadyH.cons rfl (fun K hK => ?_) AllReadyH.nil
    go_simp
    go_at_call 32; refine (at_any _ _ _).mono ?_; rintro e w13 ⟨rfl, hB13⟩; have D13 := dstep w hB13 (by repeat (first | with_reducible exact D12 | with_reducible apply bdrew | with_reducible apply bdrewN | with_reducible apply balloc | ((with_reducible refine bset ?_ ?_ _); rotate_left; (first | omega | (simp <;> omega))))); have C13 := Cls.below (l := [(w.heap.size, 0, .slice AR mb cr), (w.heap.size, 1, .slice AB mb cb), (w.heap.size, 2, .slice AO lx co), (w.heap.size + 1, 0, .slice X lx cX), (w.heap.size + 1, 1, .int .i64 d), (w.heap.size + 1 + 1, 0, .slice Y ly cY), (w.heap.size + 1 + 1, 1, .int .i64 e), (w2.heap.size, 0, .int .i64 0), (w2.heap.size, 1, .int .i64 0), (w3.heap.size, 0, .int .i64 py), (w3.heap.size, 1, .int .i64 (-5)), (w4.heap.size, 0, .int .i64 py), (w4.heap.size, 1, .int .i64 (-4)), (w5.heap.size, 0, .int .i64 0), (w5.heap.size, 1, .int .i64 0), (w6.heap.size, 0, .int .i64 0), (w6.heap.size, 1, .int .i64 0)]) hB13 (by simp [Cls, go_sem, F12, y12w2, y12w1, y12w0, y12wp1, y12wp2, y12w20, y12w2p1, y12w2p2, y12w30, y12w3p1, y12w3p2, y12w40, y12w4p1, y12w4p2, y12w50, y12w5p1, y12w5p2, y12w60, y12w6p1, y12w6p2]); have F13 := C13; simp only [Cls, and_true] at F13; have y13w2 : w.heap.size + 1 + 1 < w13.heap.size := C13.blk (b := w.heap.size + 1 + 1) (k := 0) (v := .slice Y ly cY) (by simp); have y13w1 : w.heap.size + 1 < w13.heap.size := (by omega); have y13w0 : w.heap.size < w13.heap.size := (by omega); have y13wp1 : w.heap.size < w13.heap.size + 1 := (by omega); have y13wp2 : w.heap.size < w13.heap.size + 1 + 1 := (by omega); have y13w20 : w2.heap.size < w13.heap.size := C13.blk (b := w2.heap.size) (k := 0) (v := .int .i64 0) (by simp); have y13w2p1 : w2.heap.size < w13.heap.size + 1 := (by omega); have y13w2p2 : w2.heap.size < w13.heap.size + 1 + 1 := (by omega); have y13w30 : w3.heap.size < w13.heap.size := C13.blk (b := w3.heap.size) (k := 0) (v := .int .i64 py) (by simp); have y13w3p1 : w3.heap.size < w13.heap.size + 1 := (by omega); have y13w3p2 : w3.heap.size < w13.heap.size + 1 + 1 := (by omega); have y13w40 : w4.heap.size < w13.heap.size := C13.blk (b := w4.heap.size) (k := 0) (v := .int .i64 py) (by simp); have y13w4p1 : w4.heap.size < w13.heap.size + 1 := (by omega); have y13w4p2 : w4.heap.size < w13.heap.size + 1 + 1 := (by omega); have y13w50 : w5.heap.size < w13.heap.size := C13.blk (b := w5.heap.size) (k := 0) (v := .int .i64 0) (by simp); have y13w5p1 : w5.heap.size < w13.heap.size + 1 := (by omega); have y13w5p2 : w5.heap.size < w13.heap.size + 1 + 1 := (by omega); have y13w60 : w6.heap.size < w13.heap.size := C13.blk (b := w6.heap.size) (k := 0) (v := .int .i64 0) (by simp); have y13w6p1 : w6.heap.size < w13.heap.size + 1 := (by omega); have y13w6p2 : w6.heap.size < w13.heap.size + 1 + 1 := (by omega); have hSS : w13.cell? ⟨w4.heap.size, 0, none⟩ = some (.int .i64 py) ∧ w13.cell? ⟨w4.heap.size, 1, none⟩ = some (.int .i64 (-4)) ∧ w13.cell? ⟨w3.heap.size, 0, none⟩ = some (.int .i64 py) ∧ w13.cell? ⟨w3.heap.size, 1, none⟩ = some (.int .i64 (-5)) := (by simp [F13])
    go_wp2_with fail
    refine hK.out _ _ hSS (fun hHeld => ?_)
    clear hK K
    try simp only [Act.put, List.getElem_toArray, List.getElem_cons_succ, List.getElem_cons_zero, List.setIfInBounds_toArray, List.set_cons_zero, List.set_cons_succ]
    refine wpAnyH_take (i := 15) (v := ?vq215) rfl (by kernel_rfl) (by kernel_rfl) (by kernel_rfl) (fun _ _ _ h => h) (Or.inl ⟨?wq215, ?hq215⟩) (by assumption) ?rq215
    case wq215 => simp [Region.wanted, yielded]
    case hq215 => (intro w hSw; (try dsimp only at hSw); go_simp; (try with_reducible rfl))
    try simp only [Act.put, List.getElem_toArray, List.getElem_cons_succ, List.getElem_cons_zero, List.setIfInBounds_toArray, List.set_cons_zero, List.set_cons_succ]
    refine wpAnyH_take (i := 16) (v := ?vq216) rfl (by kernel_rfl) (by kernel_rfl) (by kernel_rfl) (fun _ _ _ h => h) (Or.inl ⟨?wq216, ?hq216⟩) (by assumption) ?rq216
    case wq216 => simp [Region.wanted, yielded]
    case hq216 => (intro w hSw; (try dsimp only at hSw); go_simp; (try with_reducible rfl))
    try simp only [Act.put, List.getElem_toArray, List.getElem_cons_succ, List.getElem_cons_zero, List.setIfInBounds_toArray, List.set_cons_zero, List.set_cons_succ]
    refine wpAnyH_take (i := 17) (v := ?vq217) rfl (by kernel_rfl) (by kernel_rfl) (by kernel_rfl) (fun _ _ _ h => h) (Or.inl ⟨?wq217, ?hq217⟩) (by assumption) ?rq217
    case wq217 => simp [Region.wanted, yielded]
    case hq217 => (intro w hSw; (try dsimp only at hSw); go_simp; (try with_reducible rfl))
    try simp only [Act.put, List.getElem_toArray, List.getElem_cons_succ, List.getElem_cons_zero, List.setIfInBounds_toArray, List.set_cons_zero, List.set_cons_succ]
    refine wpAnyH_take (i := 18) (v := ?vq218) rfl (by kernel_rfl) (by kernel_rfl) (by kernel_rfl) (fun _ _ _ h => h) (Or.inl ⟨?wq218, ?hq218⟩) (by assumption) ?rq218
    case wq218 => simp [Region.wanted, yielded]
    case hq218 => (intro w hSw; (try dsimp only at hSw); go_simp; (try with_reducible rfl))
    try simp only [Act.put, List.getElem_toArray, List.getElem_cons_succ, List.getElem_cons_zero, List.setIfInBounds_toArray, List.set_cons_zero, List.set_cons_succ]
    refine wpAnyH_take (i := 19) (v := ?vq219) rfl (by kernel_rfl) (by kernel_rfl) (by kernel_rfl) (fun _ _ _ h => h) (Or.inl ⟨?wq219, ?hq219⟩) (by assumption) ?rq219
    case wq219 => simp [Region.wanted, yielded]
    case hq219 => (intro w hSw; (try dsimp only at hSw); go_simp; (try with_reducible rfl))
    try simp only [Act.put, List.getElem_toArray, List.getElem_cons_succ, List.getElem_cons_zero, List.setIfInBounds_toArray, List.set_cons_zero, List.set_cons_succ]
    refine wpAnyH_take (i := 20) (v := ?vq220) rfl (by kernel_rfl) (by kernel_rfl) (by kernel_rfl) (fun _ _ _ h => h) (Or.inl ⟨?wq220, ?hq220⟩) (by assumption) ?rq220
    case wq220 => simp [Region.wanted, yielded]
    case hq220 => (intro w hSw; (try dsimp only at hSw); go_simp; (try with_reducible rfl))
    try simp only [Act.put, List.getElem_toArray, List.getElem_cons_succ, List.getElem_cons_zero, List.setIfInBounds_toArray, List.set_cons_zero, List.set_cons_succ]
    refine wpAnyH_take (i := 21) (v := ?vq221) rfl (by kernel_rfl) (by kernel_rfl) (by kernel_rfl) (fun _ _ _ h => h) (Or.inl ⟨by rfl, ?hq221⟩) (by assumption) ?rq221
    case hq221 => (intro w hSw; (try dsimp only at hSw); go_simp; (try with_reducible rfl))
    try simp only [Act.put, List.getElem_toArray, List.getElem_cons_succ, List.getElem_cons_zero, List.setIfInBounds_toArray, List.set_cons_zero, List.set_cons_succ]
    refine wpAnyH_take (i := 22) (v := ?vq222) rfl (by kernel_rfl) (by kernel_rfl) (by kernel_rfl) (fun _ _ _ h => h) (Or.inl ⟨by rfl, ?hq222⟩) (by assumption) ?rq222
    case hq222 => (intro w hSw; (try dsimp only at hSw); go_simp; (try with_reducible rfl))
    try simp only [Act.put, List.getElem_toArray, List.getElem_cons_succ, List.getElem_cons_zero, List.setIfInBounds_toArray, List.set_cons_zero, List.set_cons_succ]
    refine wpAnyH_done (by kernel_rfl) ?_ _
    go_wp2
    refine bodyPost_ret (v := .bool true) ?_ rfl ⟨rfl, by repeat (first | with_reducible exact D13 | with_reducible apply bdrew | with_reducible apply bdrewN | with_reducible apply balloc | ((with_reducible refine bset ?_ ?_ _); rotate_left; (first | omega | (simp <;> omega))))⟩
    simp [results, Try.results9, go_sem, F13, y13w2, y13w1, y13w0, y13wp1, y13wp2, y13w20, y13w2p1, y13w2p2, y13w30, y13w3p1, y13w3p2, y13w40, y13w4p1, y13w4p2, y13w50, y13w5p1, y13w5p2, y13w60, y13w6p1, y13w6p2]

set_option maxRecDepth 100000 in
set_option maxHeartbeats 8000000 in
theorem walk_lfm_4 (w : World) (AR AB AO : Option Addr) (cr cb co : Nat) (p : LpV) (hM : LpMem w AR AB AO p) (m mb n : Nat) (hrl : Hid (p.rows.length = m)) (hbl : Hid (p.bounds.length = mb)) (hol : Hid (p.obj.length = n)) (X : Option Addr) (cX lx : Nat) (x : List Int) (d : Int) (hlx : Hid (x.length = lx)) (hIx : Ints w X x) (hx63 : lx ≤ 9223372036854775807) (Y : Option Addr) (cY ly : Nat) (y : List Int) (e : Int) (hly : Hid (y.length = ly)) (hIy : Ints w Y y) (hy63 : ly ≤ 9223372036854775807) (hok : LpOk p) (hpx : Hid (vecC x d p.obj.length = 0)) (hpy : Hid (vecC y e p.rows.length = 0)) :
    Calls Try.prog 9 #[.agg #[.slice AR m cr, .slice AB mb cb, .slice AO n co], .agg #[.slice X lx cX, .int .i64 d], .agg #[.slice Y ly cY, .int .i64 e]] w fun e w' => e = .returned (.bool true) ∧ Below w.heap.size w w' := by
  have HIX := Lib.hid hIx
  have HIY := Lib.hid hIy
  have HM := Lib.hid hM
  have HOK := Lib.hid hok
  have hmb : mb = m := by rw [← hbl.out, ← hrl.out]; exact HOK.out.b
  subst hmb
  have HVX : Hid (VOk p.obj.length x d) := Lib.hid (vecC_zero hpx.out)
  have hlnx : lx = n := by rw [← hlx.out, HVX.out.len]; exact hol.out
  subst hlnx
  have HVY : Hid (VOk p.rows.length y e) := Lib.hid (vecC_zero hpy.out)
  have hlny : ly = mb := by rw [← hly.out, HVY.out.len]; exact hrl.out
  subst hlny
  have hm6 : ly ≤ 6 := by have := HOK.out.m; rw [hrl.out] at this; exact this
  have hn6 : lx ≤ 6 := by have := HOK.out.n; rw [hol.out] at this; exact this
  have HVX2 : Hid (VOk lx x d) := Lib.hid (by rw [← hol.out]; exact HVX.out)
  have HVY2 : Hid (VOk ly y e) := Lib.hid (by rw [← hrl.out]; exact HVY.out)
  have HLZ : Hid ((lpF p).1 = 0) := Lib.hid (by rw [lpF_ok hok])
  have HVX0 : Hid (∀ W : World, Below w.heap.size w W → Calls Try.prog 18 #[.agg #[.slice X lx cX, .int .i64 d], .int .i64 lx] W fun e w' => e = .returned (.int .i64 0) ∧ Below W.heap.size W w') := Lib.hid (fun W hB => by
    have h := svcode_any W X cX x d lx (HIX.out.below hB) (by rw [hlx.out]; exact hx63)
    rw [hlx.out, ← hol.out, hpx.out, hol.out] at h
    exact h)
  have HVY0 : Hid (∀ W : World, Below w.heap.size w W → Calls Try.prog 18 #[.agg #[.slice Y ly cY, .int .i64 e], .int .i64 ly] W fun r w' => r = .returned (.int .i64 0) ∧ Below W.heap.size W w') := Lib.hid (fun W hB => by
    have h := svcode_any W Y cY y e ly (HIY.out.below hB) (by rw [hly.out]; exact hy63)
    rw [hly.out, ← hrl.out, hpy.out, hrl.out] at h
    exact h)
  have HLF : Hid (∀ W : World, Below w.heap.size w W → Calls Try.prog 14 #[.agg #[.slice AR ly cr, .slice AB ly cb, .slice AO lx co]] W fun e w' => e = .returned (.agg #[.int .i64 0, .int .i64 0]) ∧ Below W.heap.size W w') := Lib.hid (fun W hB => by
    have h := slfault_any W AR AB AO cr cb co p (HM.out.below hB)
    rw [hrl.out, hbl.out, hol.out, lpF_ok HOK.out] at h
    exact h)
  have HFP := Lib.hid (fltP_ok HLZ.out hpx.out)
  have HFD := Lib.hid (fltD_ok HLZ.out hpy.out)
  have HFPD : Hid (fltPD p x d y e = (0, 0)) := Lib.hid (fltPD_ok HFP.out hpy.out)
  clear hM hIx hIy
  go_enter Try.func9, Try.ntmps9
  go_wp2_with fail
  refine (lnexample_any _).mono ?_
  rintro e w1 ⟨rfl, hB1⟩
  have D1 := dstep w hB1 (by repeat (first | with_reducible exact Below.refl _ _ | with_reducible apply bdrew | with_reducible apply bdrewN | with_reducible apply balloc | ((with_reducible refine bset ?_ ?_ _); rotate_left; (first | omega | (simp <;> omega)))))
  have d1s := D1.size
  have C1 := Cls.below (l := [(w.heap.size, 0, .slice AR ly cr), (w.heap.size, 1, .slice AB ly cb), (w.heap.size, 2, .slice AO lx co), (w.heap.size + 1, 0, .slice X lx cX), (w.heap.size + 1, 1, .int .i64 d), (w.heap.size + 1 + 1, 0, .slice Y ly cY), (w.heap.size + 1 + 1, 1, .int .i64 e)]) hB1 (by simp [Cls, go_sem])
  have F1 := C1
  simp only [Cls, and_true] at F1
  have y1w2 : w.heap.size + 1 + 1 < w1.heap.size := C1.blk (b := w.heap.size + 1 + 1) (k := 0) (v := .slice Y ly cY) (by simp)
  have y1w1 : w.heap.size + 1 < w1.heap.size := (by omega)
  have y1w0 : w.heap.size < w1.heap.size := (by omega)
  have y1wp1 : w.heap.size < w1.heap.size + 1 := (by omega)
  have y1wp2 : w.heap.size < w1.heap.size + 1 + 1 := (by omega)
  go_wp2_with fail
  refine (feasible_any _ AR AB AO cr cb co p (HM.out.below (by repeat (first | with_reducible exact D1 | with_reducible apply bdrew | with_reducible apply bdrewN | with_reducible apply balloc | ((with_reducible refine bset ?_ ?_ _); rotate_left; (first | omega | (simp <;> omega)))))) ly ly lx hrl hbl hol X cX lx x d hlx (HIX.out.below (by repeat (first | with_reducible exact D1 | with_reducible apply bdrew | with_reducible apply bdrewN | with_reducible apply balloc | ((with_reducible refine bset ?_ ?_ _); rotate_left; (first | omega | (simp <;> omega)))))) hx63 0 0 HFP).mono ?_
  rintro e w2 ⟨ok2, rfl, HO2, hB2⟩
  have D2 := dstep w hB2 (by repeat (first | with_reducible exact D1 | with_reducible apply bdrew | with_reducible apply bdrewN | with_reducible apply balloc | ((with_reducible refine bset ?_ ?_ _); rotate_left; (first | omega | (simp <;> omega)))))
  have d2s := D2.size
  have C2 := Cls.below (l := [(w.heap.size, 0, .slice AR ly cr), (w.heap.size, 1, .slice AB ly cb), (w.heap.size, 2, .slice AO lx co), (w.heap.size + 1, 0, .slice X lx cX), (w.heap.size + 1, 1, .int .i64 d), (w.heap.size + 1 + 1, 0, .slice Y ly cY), (w.heap.size + 1 + 1, 1, .int .i64 e)]) hB2 (by simp [Cls, go_sem, F1, y1w2, y1w1, y1w0, y1wp1, y1wp2])
  have F2 := C2
  simp only [Cls, and_true] at F2
  have y2w2 : w.heap.size + 1 + 1 < w2.heap.size := C2.blk (b := w.heap.size + 1 + 1) (k := 0) (v := .slice Y ly cY) (by simp)
  have y2w1 : w.heap.size + 1 < w2.heap.size := (by omega)
  have y2w0 : w.heap.size < w2.heap.size := (by omega)
  have y2wp1 : w.heap.size < w2.heap.size + 1 := (by omega)
  have y2wp2 : w.heap.size < w2.heap.size + 1 + 1 := (by omega)
  go_wp2_with fail
  refine (certified_any _ AR AB AO cr cb co p (HM.out.below (by repeat (first | with_reducible exact D2 | with_reducible apply bdrew | with_reducible apply bdrewN | with_reducible apply balloc | ((with_reducible refine bset ?_ ?_ _); rotate_left; (first | omega | (simp <;> omega)))))) ly ly lx hrl hbl hol X cX lx x d hlx (HIX.out.below (by repeat (first | with_reducible exact D2 | with_reducible apply bdrew | with_reducible apply bdrewN | with_reducible apply balloc | ((with_reducible refine bset ?_ ?_ _); rotate_left; (first | omega | (simp <;> omega)))))) hx63 Y cY ly y e hly (HIY.out.below (by repeat (first | with_reducible exact D2 | with_reducible apply bdrew | with_reducible apply bdrewN | with_reducible apply balloc | ((with_reducible refine bset ?_ ?_ _); rotate_left; (first | omega | (simp <;> omega)))))) hy63 0 0 HFPD).mono ?_
  rintro e w3 ⟨ok3, rfl, HO3, hB3⟩
  have D3 := dstep w hB3 (by repeat (first | with_reducible exact D2 | with_reducible apply bdrew | with_reducible apply bdrewN | with_reducible apply balloc | ((with_reducible refine bset ?_ ?_ _); rotate_left; (first | omega | (simp <;> omega)))))
  have d3s := D3.size
  have C3 := Cls.below (l := [(w.heap.size, 0, .slice AR ly cr), (w.heap.size, 1, .slice AB ly cb), (w.heap.size, 2, .slice AO lx co), (w.heap.size + 1, 0, .slice X lx cX), (w.heap.size + 1, 1, .int .i64 d), (w.heap.size + 1 + 1, 0, .slice Y ly cY), (w.heap.size + 1 + 1, 1, .int .i64 e), (w2.heap.size, 0, .int .i64 0), (w2.heap.size, 1, .int .i64 0)]) hB3 (by simp [Cls, go_sem, F2, y2w2, y2w1, y2w0, y2wp1, y2wp2])
  have F3 := C3
  simp only [Cls, and_true] at F3
  have y3w2 : w.heap.size + 1 + 1 < w3.heap.size := C3.blk (b := w.heap.size + 1 + 1) (k := 0) (v := .slice Y ly cY) (by simp)
  have y3w1 : w.heap.size + 1 < w3.heap.size := (by omega)
  have y3w0 : w.heap.size < w3.heap.size := (by omega)
  have y3wp1 : w.heap.size < w3.heap.size + 1 := (by omega)
  have y3wp2 : w.heap.size < w3.heap.size + 1 + 1 := (by omega)
  have y3w20 : w2.heap.size < w3.heap.size := C3.blk (b := w2.heap.size) (k := 0) (v := .int .i64 0) (by simp)
  have y3w2p1 : w2.heap.size < w3.heap.size + 1 := (by omega)
  have y3w2p2 : w2.heap.size < w3.heap.size + 1 + 1 := (by omega)
  go_wp2_with fail
  refine (refuted_any _ AR AB AO cr cb co p (HM.out.below (by repeat (first | with_reducible exact D3 | with_reducible apply bdrew | with_reducible apply bdrewN | with_reducible apply balloc | ((with_reducible refine bset ?_ ?_ _); rotate_left; (first | omega | (simp <;> omega)))))) ly ly lx hrl hbl hol Y cY ly y e hly (HIY.out.below (by repeat (first | with_reducible exact D3 | with_reducible apply bdrew | with_reducible apply bdrewN | with_reducible apply balloc | ((with_reducible refine bset ?_ ?_ _); rotate_left; (first | omega | (simp <;> omega)))))) hy63 0 0 HFD).mono ?_
  rintro e w4 ⟨ok4, rfl, HO4, hB4⟩
  have D4 := dstep w hB4 (by repeat (first | with_reducible exact D3 | with_reducible apply bdrew | with_reducible apply bdrewN | with_reducible apply balloc | ((with_reducible refine bset ?_ ?_ _); rotate_left; (first | omega | (simp <;> omega)))))
  have d4s := D4.size
  have C4 := Cls.below (l := [(w.heap.size, 0, .slice AR ly cr), (w.heap.size, 1, .slice AB ly cb), (w.heap.size, 2, .slice AO lx co), (w.heap.size + 1, 0, .slice X lx cX), (w.heap.size + 1, 1, .int .i64 d), (w.heap.size + 1 + 1, 0, .slice Y ly cY), (w.heap.size + 1 + 1, 1, .int .i64 e), (w2.heap.size, 0, .int .i64 0), (w2.heap.size, 1, .int .i64 0), (w3.heap.size, 0, .int .i64 0), (w3.heap.size, 1, .int .i64 0)]) hB4 (by simp [Cls, go_sem, F3, y3w2, y3w1, y3w0, y3wp1, y3wp2, y3w20, y3w2p1, y3w2p2])
  have F4 := C4
  simp only [Cls, and_true] at F4
  have y4w2 : w.heap.size + 1 + 1 < w4.heap.size := C4.blk (b := w.heap.size + 1 + 1) (k := 0) (v := .slice Y ly cY) (by simp)
  have y4w1 : w.heap.size + 1 < w4.heap.size := (by omega)
  have y4w0 : w.heap.size < w4.heap.size := (by omega)
  have y4wp1 : w.heap.size < w4.heap.size + 1 := (by omega)
  have y4wp2 : w.heap.size < w4.heap.size + 1 + 1 := (by omega)
  have y4w20 : w2.heap.size < w4.heap.size := C4.blk (b := w2.heap.size) (k := 0) (v := .int .i64 0) (by simp)
  have y4w2p1 : w2.heap.size < w4.heap.size + 1 := (by omega)
  have y4w2p2 : w2.heap.size < w4.heap.size + 1 + 1 := (by omega)
  have y4w30 : w3.heap.size < w4.heap.size := C4.blk (b := w3.heap.size) (k := 0) (v := .int .i64 0) (by simp)
  have y4w3p1 : w3.heap.size < w4.heap.size + 1 := (by omega)
  have y4w3p2 : w3.heap.size < w4.heap.size + 1 + 1 := (by omega)
  go_wp2_with fail
  refine (improving_any _ AR AB AO cr cb co p (HM.out.below (by repeat (first | with_reducible exact D4 | with_reducible apply bdrew | with_reducible apply bdrewN | with_reducible apply balloc | ((with_reducible refine bset ?_ ?_ _); rotate_left; (first | omega | (simp <;> omega)))))) ly ly lx hrl hbl hol X cX lx x d hlx (HIX.out.below (by repeat (first | with_reducible exact D4 | with_reducible apply bdrew | with_reducible apply bdrewN | with_reducible apply balloc | ((with_reducible refine bset ?_ ?_ _); rotate_left; (first | omega | (simp <;> omega)))))) hx63 0 0 HFP).mono ?_
  rintro e w5 ⟨ok5, rfl, HO5, hB5⟩
  have D5 := dstep w hB5 (by repeat (first | with_reducible exact D4 | with_reducible apply bdrew | with_reducible apply bdrewN | with_reducible apply balloc | ((with_reducible refine bset ?_ ?_ _); rotate_left; (first | omega | (simp <;> omega)))))
  have d5s := D5.size
  have C5 := Cls.below (l := [(w.heap.size, 0, .slice AR ly cr), (w.heap.size, 1, .slice AB ly cb), (w.heap.size, 2, .slice AO lx co), (w.heap.size + 1, 0, .slice X lx cX), (w.heap.size + 1, 1, .int .i64 d), (w.heap.size + 1 + 1, 0, .slice Y ly cY), (w.heap.size + 1 + 1, 1, .int .i64 e), (w2.heap.size, 0, .int .i64 0), (w2.heap.size, 1, .int .i64 0), (w3.heap.size, 0, .int .i64 0), (w3.heap.size, 1, .int .i64 0), (w4.heap.size, 0, .int .i64 0), (w4.heap.size, 1, .int .i64 0)]) hB5 (by simp [Cls, go_sem, F4, y4w2, y4w1, y4w0, y4wp1, y4wp2, y4w20, y4w2p1, y4w2p2, y4w30, y4w3p1, y4w3p2])
  have F5 := C5
  simp only [Cls, and_true] at F5
  have y5w2 : w.heap.size + 1 + 1 < w5.heap.size := C5.blk (b := w.heap.size + 1 + 1) (k := 0) (v := .slice Y ly cY) (by simp)
  have y5w1 : w.heap.size + 1 < w5.heap.size := (by omega)
  have y5w0 : w.heap.size < w5.heap.size := (by omega)
  have y5wp1 : w.heap.size < w5.heap.size + 1 := (by omega)
  have y5wp2 : w.heap.size < w5.heap.size + 1 + 1 := (by omega)
  have y5w20 : w2.heap.size < w5.heap.size := C5.blk (b := w2.heap.size) (k := 0) (v := .int .i64 0) (by simp)
  have y5w2p1 : w2.heap.size < w5.heap.size + 1 := (by omega)
  have y5w2p2 : w2.heap.size < w5.heap.size + 1 + 1 := (by omega)
  have y5w30 : w3.heap.size < w5.heap.size := C5.blk (b := w3.heap.size) (k := 0) (v := .int .i64 0) (by simp)
  have y5w3p1 : w3.heap.size < w5.heap.size + 1 := (by omega)
  have y5w3p2 : w3.heap.size < w5.heap.size + 1 + 1 := (by omega)
  have y5w40 : w4.heap.size < w5.heap.size := C5.blk (b := w4.heap.size) (k := 0) (v := .int .i64 0) (by simp)
  have y5w4p1 : w4.heap.size < w5.heap.size + 1 := (by omega)
  have y5w4p2 : w4.heap.size < w5.heap.size + 1 + 1 := (by omega)
  have HT2 := Lib.hid (HO2.out.2 (by simp))
  have HT3 := Lib.hid (HO3.out.2 (by simp))
  have HT4 := Lib.hid (HO4.out.2 (by simp))
  have HT5 := Lib.hid (HO5.out.2 (by simp))
  clear HO2 HO3 HO4 HO5
  go_wp2_with fail
  refine (HLF.out _ (by repeat (first | with_reducible exact D5 | with_reducible apply bdrew | with_reducible apply bdrewN | with_reducible apply balloc | ((with_reducible refine bset ?_ ?_ _); rotate_left; (first | omega | (simp <;> omega)))))).mono ?_
  rintro e w6 ⟨rfl, hB6⟩
  have D6 := dstep w hB6 (by repeat (first | with_reducible exact D5 | with_reducible apply bdrew | with_reducible apply bdrewN | with_reducible apply balloc | ((with_reducible refine bset ?_ ?_ _); rotate_left; (first | omega | (simp <;> omega)))))
  have d6s := D6.size
  have C6 := Cls.below (l := [(w.heap.size, 0, .slice AR ly cr), (w.heap.size, 1, .slice AB ly cb), (w.heap.size, 2, .slice AO lx co), (w.heap.size + 1, 0, .slice X lx cX), (w.heap.size + 1, 1, .int .i64 d), (w.heap.size + 1 + 1, 0, .slice Y ly cY), (w.heap.size + 1 + 1, 1, .int .i64 e), (w2.heap.size, 0, .int .i64 0), (w2.heap.size, 1, .int .i64 0), (w3.heap.size, 0, .int .i64 0), (w3.heap.size, 1, .int .i64 0), (w4.heap.size, 0, .int .i64 0), (w4.heap.size, 1, .int .i64 0), (w5.heap.size, 0, .int .i64 0), (w5.heap.size, 1, .int .i64 0)]) hB6 (by simp [Cls, go_sem, F5, y5w2, y5w1, y5w0, y5wp1, y5wp2, y5w20, y5w2p1, y5w2p2, y5w30, y5w3p1, y5w3p2, y5w40, y5w4p1, y5w4p2])
  have F6 := C6
  simp only [Cls, and_true] at F6
  have y6w2 : w.heap.size + 1 + 1 < w6.heap.size := C6.blk (b := w.heap.size + 1 + 1) (k := 0) (v := .slice Y ly cY) (by simp)
  have y6w1 : w.heap.size + 1 < w6.heap.size := (by omega)
  have y6w0 : w.heap.size < w6.heap.size := (by omega)
  have y6wp1 : w.heap.size < w6.heap.size + 1 := (by omega)
  have y6wp2 : w.heap.size < w6.heap.size + 1 + 1 := (by omega)
  have y6w20 : w2.heap.size < w6.heap.size := C6.blk (b := w2.heap.size) (k := 0) (v := .int .i64 0) (by simp)
  have y6w2p1 : w2.heap.size < w6.heap.size + 1 := (by omega)
  have y6w2p2 : w2.heap.size < w6.heap.size + 1 + 1 := (by omega)
  have y6w30 : w3.heap.size < w6.heap.size := C6.blk (b := w3.heap.size) (k := 0) (v := .int .i64 0) (by simp)
  have y6w3p1 : w3.heap.size < w6.heap.size + 1 := (by omega)
  have y6w3p2 : w3.heap.size < w6.heap.size + 1 + 1 := (by omega)
  have y6w40 : w4.heap.size < w6.heap.size := C6.blk (b := w4.heap.size) (k := 0) (v := .int .i64 0) (by simp)
  have y6w4p1 : w4.heap.size < w6.heap.size + 1 := (by omega)
  have y6w4p2 : w4.heap.size < w6.heap.size + 1 + 1 := (by omega)
  have y6w50 : w5.heap.size < w6.heap.size := C6.blk (b := w5.heap.size) (k := 0) (v := .int .i64 0) (by simp)
  have y6w5p1 : w5.heap.size < w6.heap.size + 1 := (by omega)
  have y6w5p2 : w5.heap.size < w6.heap.size + 1 + 1 := (by omega)
  go_wp2_with fail
  go_upto_region 10 with fail
  go_cut [16, 17] (fun u v wx => u = .int .i64 0 ∧ v = .int .i64 0 ∧ Below w.heap.size w wx ∧ Cls wx [(w.heap.size, 0, .slice AR ly cr), (w.heap.size, 1, .slice AB ly cb), (w.heap.size, 2, .slice AO lx co), (w.heap.size + 1, 0, .slice X lx cX), (w.heap.size + 1, 1, .int .i64 d), (w.heap.size + 1 + 1, 0, .slice Y ly cY), (w.heap.size + 1 + 1, 1, .int .i64 e), (w2.heap.size, 0, .int .i64 0), (w2.heap.size, 1, .int .i64 0), (w3.heap.size, 0, .int .i64 0), (w3.heap.size, 1, .int .i64 0), (w4.heap.size, 0, .int .i64 0), (w4.heap.size, 1, .int .i64 0), (w5.heap.size, 0, .int .i64 0), (w5.heap.size, 1, .int .i64 0), (w6.heap.size, 0, .int .i64 0), (w6.heap.size, 1, .int .i64 0)])
  case first =>
    refine wp_region_held_drew (S := fun W => W.cell? ⟨w.heap.size, 0, none⟩ = some (.slice AR ly cr) ∧ W.cell? ⟨w.heap.size, 2, none⟩ = some (.slice AO lx co) ∧ W.cell? ⟨w.heap.size + 1, 0, none⟩ = some (.slice X lx cX) ∧ W.cell? ⟨w.heap.size + 1, 1, none⟩ = some (.int .i64 d) ∧ W.cell? ⟨w.heap.size + 1 + 1, 0, none⟩ = some (.slice Y ly cY) ∧ W.cell? ⟨w.heap.size + 1 + 1, 1, none⟩ = some (.int .i64 e)) (by kernel_rfl) (by simp [go_sem, F6, y6w2, y6w1, y6w0, y6wp1, y6wp2, y6w20, y6w2p1, y6w2p2, y6w30, y6w3p1, y6w3p2, y6w40, y6w4p1, y6w4p2, y6w50, y6w5p1, y6w5p2]) (fun hHeld => ?_)
    refine wpAnyH_take (i := 0) (v := ?vo40) rfl (by kernel_rfl) (by kernel_rfl) (by kernel_rfl) (fun _ _ _ h => h) (Or.inl ⟨by rfl, ?ho40⟩) (by assumption) ?ro40
    case ho40 => (intro w hSw; (try dsimp only at hSw); go_simp; (try with_reducible rfl))
    try simp only [Act.put, List.getElem_toArray, List.getElem_cons_succ, List.getElem_cons_zero, List.setIfInBounds_toArray, List.set_cons_zero, List.set_cons_succ]
    refine wpAnyH_take (i := 1) (v := ?vo41) rfl (by kernel_rfl) (by kernel_rfl) (by kernel_rfl) (fun _ _ _ h => h) (Or.inl ⟨by rfl, ?ho41⟩) (by assumption) ?ro41
    case ho41 => (intro w hSw; (try dsimp only at hSw); go_simp; (try with_reducible rfl))
    try simp only [Act.put, List.getElem_toArray, List.getElem_cons_succ, List.getElem_cons_zero, List.setIfInBounds_toArray, List.set_cons_zero, List.set_cons_succ]
    refine wpAnyH_take (i := 2) (v := ?vo42) rfl (by kernel_rfl) (by kernel_rfl) (by kernel_rfl) (fun _ _ _ h => h) (Or.inl ⟨by rfl, ?ho42⟩) (by assumption) ?ro42
    case ho42 => (intro w hSw; (try dsimp only at hSw); go_simp; (try with_reducible rfl))
    try simp only [Act.put, List.getElem_toArray, List.getElem_cons_succ, List.getElem_cons_zero, List.setIfInBounds_toArray, List.set_cons_zero, List.set_cons_succ]
    refine wpAnyH_take (i := 3) (v := ?vo43) rfl (by kernel_rfl) (by kernel_rfl) (by kernel_rfl) (fun _ _ _ h => h) (Or.inl ⟨by rfl, ?ho43⟩) (by assumption) ?ro43
    case ho43 => (intro w hSw; (try dsimp only at hSw); go_simp; (try with_reducible rfl))
    try simp only [Act.put, List.getElem_toArray, List.getElem_cons_succ, List.getElem_cons_zero, List.setIfInBounds_toArray, List.set_cons_zero, List.set_cons_succ]
    refine wpAnyH_take (i := 5) (v := ?vo45) rfl (by kernel_rfl) (by kernel_rfl) (by kernel_rfl) (fun _ _ _ h => h) (Or.inl ⟨by rfl, ?ho45⟩) (by assumption) ?ro45
    case ho45 => (intro w hSw; (try dsimp only at hSw); go_simp; (try with_reducible rfl))
    try simp only [Act.put, List.getElem_toArray, List.getElem_cons_succ, List.getElem_cons_zero, List.setIfInBounds_toArray, List.set_cons_zero, List.set_cons_succ]
    refine wpAnyH_take (i := 6) (v := ?vo46) rfl (by kernel_rfl) (by kernel_rfl) (by kernel_rfl) (fun _ _ _ h => h) (Or.inl ⟨by rfl, ?ho46⟩) (by assumption) ?ro46
    case ho46 => (intro w hSw; (try dsimp only at hSw); go_simp; (try with_reducible rfl))
    try simp only [Act.put, List.getElem_toArray, List.getElem_cons_succ, List.getElem_cons_zero, List.setIfInBounds_toArray, List.set_cons_zero, List.set_cons_succ]
    refine wpAnyH_take (i := 7) (v := ?vo47) rfl (by kernel_rfl) (by kernel_rfl) (by kernel_rfl) (fun _ _ _ h => h) (Or.inl ⟨by rfl, ?ho47⟩) (by assumption) ?ro47
    case ho47 => (intro w hSw; (try dsimp only at hSw); go_simp; (try with_reducible rfl))
    try simp only [Act.put, List.getElem_toArray, List.getElem_cons_succ, List.getElem_cons_zero, List.setIfInBounds_toArray, List.set_cons_zero, List.set_cons_succ]
    refine wpAnyH_take (i := 8) (v := ?vo48) rfl (by kernel_rfl) (by kernel_rfl) (by kernel_rfl) (fun _ _ _ h => h) (Or.inl ⟨by rfl, ?ho48⟩) (by assumption) ?ro48
    case ho48 => (intro w hSw; (try dsimp only at hSw); go_simp; (try with_reducible rfl))
    try simp only [Act.put, List.getElem_toArray, List.getElem_cons_succ, List.getElem_cons_zero, List.setIfInBounds_toArray, List.set_cons_zero, List.set_cons_succ]
    refine wpAnyH_ready (rs := [4]) (by kernel_rfl) (by simp) ?_
    refine (AllReadyH.cons rfl (fun K hK => ?bo41x4) AllReadyH.nil)
    case bo41x4 =>
      go_simp
      go_at_call 18
      refine (HVX0.out _ (by repeat (first | with_reducible exact D6 | with_reducible apply bdrew | with_reducible apply bdrewN | with_reducible apply balloc | ((with_reducible refine bset ?_ ?_ _); rotate_left; (first | omega | (simp <;> omega)))))).mono ?_
      rintro e w7 ⟨rfl, hB7⟩
      have D7 := dstep w hB7 (by repeat (first | with_reducible exact D6 | with_reducible apply bdrew | with_reducible apply bdrewN | with_reducible apply balloc | ((with_reducible refine bset ?_ ?_ _); rotate_left; (first | omega | (simp <;> omega)))))
      have C7 := Cls.below (l := [(w.heap.size, 0, .slice AR ly cr), (w.heap.size, 1, .slice AB ly cb), (w.heap.size, 2, .slice AO lx co), (w.heap.size + 1, 0, .slice X lx cX), (w.heap.size + 1, 1, .int .i64 d), (w.heap.size + 1 + 1, 0, .slice Y ly cY), (w.heap.size + 1 + 1, 1, .int .i64 e), (w2.heap.size, 0, .int .i64 0), (w2.heap.size, 1, .int .i64 0), (w3.heap.size, 0, .int .i64 0), (w3.heap.size, 1, .int .i64 0), (w4.heap.size, 0, .int .i64 0), (w4.heap.size, 1, .int .i64 0), (w5.heap.size, 0, .int .i64 0), (w5.heap.size, 1, .int .i64 0), (w6.heap.size, 0, .int .i64 0), (w6.heap.size, 1, .int .i64 0)]) hB7 (by simp [Cls, go_sem, F6, y6w2, y6w1, y6w0, y6wp1, y6wp2, y6w20, y6w2p1, y6w2p2, y6w30, y6w3p1, y6w3p2, y6w40, y6w4p1, y6w4p2, y6w50, y6w5p1, y6w5p2])
      have F7 := C7
      simp only [Cls, and_true] at F7
      have y7w2 : w.heap.size + 1 + 1 < w7.heap.size := C7.blk (b := w.heap.size + 1 + 1) (k := 0) (v := .slice Y ly cY) (by simp)
      have y7w1 : w.heap.size + 1 < w7.heap.size := (by omega)
      have y7w0 : w.heap.size < w7.heap.size := (by omega)
      have y7wp1 : w.heap.size < w7.heap.size + 1 := (by omega)
      have y7wp2 : w.heap.size < w7.heap.size + 1 + 1 := (by omega)
      have y7w20 : w2.heap.size < w7.heap.size := C7.blk (b := w2.heap.size) (k := 0) (v := .int .i64 0) (by simp)
      have y7w2p1 : w2.heap.size < w7.heap.size + 1 := (by omega)
      have y7w2p2 : w2.heap.size < w7.heap.size + 1 + 1 := (by omega)
      have y7w30 : w3.heap.size < w7.heap.size := C7.blk (b := w3.heap.size) (k := 0) (v := .int .i64 0) (by simp)
      have y7w3p1 : w3.heap.size < w7.heap.size + 1 := (by omega)
      have y7w3p2 : w3.heap.size < w7.heap.size + 1 + 1 := (by omega)
      have y7w40 : w4.heap.size < w7.heap.size := C7.blk (b := w4.heap.size) (k := 0) (v := .int .i64 0) (by simp)
      have y7w4p1 : w4.heap.size < w7.heap.size + 1 := (by omega)
      have y7w4p2 : w4.heap.size < w7.heap.size + 1 + 1 := (by omega)
      have y7w50 : w5.heap.size < w7.heap.size := C7.blk (b := w5.heap.size) (k := 0) (v := .int .i64 0) (by simp)
      have y7w5p1 : w5.heap.size < w7.heap.size + 1 := (by omega)
      have y7w5p2 : w5.heap.size < w7.heap.size + 1 + 1 := (by omega)
      have y7w60 : w6.heap.size < w7.heap.size := C7.blk (b := w6.heap.size) (k := 0) (v := .int .i64 0) (by simp)
      have y7w6p1 : w6.heap.size < w7.heap.size + 1 := (by omega)
      have y7w6p2 : w6.heap.size < w7.heap.size + 1 + 1 := (by omega)
      have hSS : w7.cell? ⟨w.heap.size, 0, none⟩ = some (.slice AR ly cr) ∧ w7.cell? ⟨w.heap.size, 2, none⟩ = some (.slice AO lx co) ∧ w7.cell? ⟨w.heap.size + 1, 0, none⟩ = some (.slice X lx cX) ∧ w7.cell? ⟨w.heap.size + 1, 1, none⟩ = some (.int .i64 d) ∧ w7.cell? ⟨w.heap.size + 1 + 1, 0, none⟩ = some (.slice Y ly cY) ∧ w7.cell? ⟨w.heap.size + 1 + 1, 1, none⟩ = some (.int .i64 e) := (by simp [F7])
      go_wp2_with fail
      refine hK.out _ _ hSS (fun hHeld => ?_)
      clear hK K
      try simp only [Act.put, List.getElem_toArray, List.getElem_cons_succ, List.getElem_cons_zero, List.setIfInBounds_toArray, List.set_cons_zero, List.set_cons_succ]
      refine wpAnyH_ready (rs := [9]) (by kernel_rfl) (by simp) ?_
      refine (AllReadyH.cons rfl (fun K hK => ?bo42x9) AllReadyH.nil)
      case bo42x9 =>
        go_simp
        go_at_call 18
        refine (HVY0.out _ (by repeat (first | with_reducible exact D7 | with_reducible apply bdrew | with_reducible apply bdrewN | with_reducible apply balloc | ((with_reducible refine bset ?_ ?_ _); rotate_left; (first | omega | (simp <;> omega)))))).mono ?_
        rintro e w8 ⟨rfl, hB8⟩
        have D8 := dstep w hB8 (by repeat (first | with_reducible exact D7 | with_reducible apply bdrew | with_reducible apply bdrewN | with_reducible apply balloc | ((with_reducible refine bset ?_ ?_ _); rotate_left; (first | omega | (simp <;> omega)))))
        have C8 := Cls.below (l := [(w.heap.size, 0, .slice AR ly cr), (w.heap.size, 1, .slice AB ly cb), (w.heap.size, 2, .slice AO lx co), (w.heap.size + 1, 0, .slice X lx cX), (w.heap.size + 1, 1, .int .i64 d), (w.heap.size + 1 + 1, 0, .slice Y ly cY), (w.heap.size + 1 + 1, 1, .int .i64 e), (w2.heap.size, 0, .int .i64 0), (w2.heap.size, 1, .int .i64 0), (w3.heap.size, 0, .int .i64 0), (w3.heap.size, 1, .int .i64 0), (w4.heap.size, 0, .int .i64 0), (w4.heap.size, 1, .int .i64 0), (w5.heap.size, 0, .int .i64 0), (w5.heap.size, 1, .int .i64 0), (w6.heap.size, 0, .int .i64 0), (w6.heap.size, 1, .int .i64 0)]) hB8 (by simp [Cls, go_sem, F7, y7w2, y7w1, y7w0, y7wp1, y7wp2, y7w20, y7w2p1, y7w2p2, y7w30, y7w3p1, y7w3p2, y7w40, y7w4p1, y7w4p2, y7w50, y7w5p1, y7w5p2, y7w60, y7w6p1, y7w6p2])
        have F8 := C8
        simp only [Cls, and_true] at F8
        have y8w2 : w.heap.size + 1 + 1 < w8.heap.size := C8.blk (b := w.heap.size + 1 + 1) (k := 0) (v := .slice Y ly cY) (by simp)
        have y8w1 : w.heap.size + 1 < w8.heap.size := (by omega)
        have y8w0 : w.heap.size < w8.heap.size := (by omega)
        have y8wp1 : w.heap.size < w8.heap.size + 1 := (by omega)
        have y8wp2 : w.heap.size < w8.heap.size + 1 + 1 := (by omega)
        have y8w20 : w2.heap.size < w8.heap.size := C8.blk (b := w2.heap.size) (k := 0) (v := .int .i64 0) (by simp)
        have y8w2p1 : w2.heap.size < w8.heap.size + 1 := (by omega)
        have y8w2p2 : w2.heap.size < w8.heap.size + 1 + 1 := (by omega)
        have y8w30 : w3.heap.size < w8.heap.size := C8.blk (b := w3.heap.size) (k := 0) (v := .int .i64 0) (by simp)
        have y8w3p1 : w3.heap.size < w8.heap.size + 1 := (by omega)
        have y8w3p2 : w3.heap.size < w8.heap.size + 1 + 1 := (by omega)
        have y8w40 : w4.heap.size < w8.heap.size := C8.blk (b := w4.heap.size) (k := 0) (v := .int .i64 0) (by simp)
        have y8w4p1 : w4.heap.size < w8.heap.size + 1 := (by omega)
        have y8w4p2 : w4.heap.size < w8.heap.size + 1 + 1 := (by omega)
        have y8w50 : w5.heap.size < w8.heap.size := C8.blk (b := w5.heap.size) (k := 0) (v := .int .i64 0) (by simp)
        have y8w5p1 : w5.heap.size < w8.heap.size + 1 := (by omega)
        have y8w5p2 : w5.heap.size < w8.heap.size + 1 + 1 := (by omega)
        have y8w60 : w6.heap.size < w8.heap.size := C8.blk (b := w6.heap.size) (k := 0) (v := .int .i64 0) (by simp)
        have y8w6p1 : w6.heap.size < w8.heap.size + 1 := (by omega)
        have y8w6p2 : w6.heap.size < w8.heap.size + 1 + 1 := (by omega)
        have hSS : w8.cell? ⟨w.heap.size, 0, none⟩ = some (.slice AR ly cr) ∧ w8.cell? ⟨w.heap.size, 2, none⟩ = some (.slice AO lx co) ∧ w8.cell? ⟨w.heap.size + 1, 0, none⟩ = some (.slice X lx cX) ∧ w8.cell? ⟨w.heap.size + 1, 1, none⟩ = some (.int .i64 d) ∧ w8.cell? ⟨w.heap.size + 1 + 1, 0, none⟩ = some (.slice Y ly cY) ∧ w8.cell? ⟨w.heap.size + 1 + 1, 1, none⟩ = some (.int .i64 e) := (by simp [F8])
        go_wp2_with fail
        refine hK.out _ _ hSS (fun hHeld => ?_)
        clear hK K
        try simp only [Act.put, List.getElem_toArray, List.getElem_cons_succ, List.getElem_cons_zero, List.setIfInBounds_toArray, List.set_cons_zero, List.set_cons_succ]
        refine wpAnyH_take (i := 10) (v := ?vo4l310) rfl (by kernel_rfl) (by kernel_rfl) (by kernel_rfl) (fun _ _ _ h => h) (Or.inl ⟨by rfl, ?ho4l310⟩) (by assumption) ?ro4l310
        case ho4l310 => (intro w hSw; (try dsimp only at hSw); go_simp; (try with_reducible rfl))
        try simp only [Act.put, List.getElem_toArray, List.getElem_cons_succ, List.getElem_cons_zero, List.setIfInBounds_toArray, List.set_cons_zero, List.set_cons_succ]
        refine wpAnyH_take (i := 11) (v := ?vo4l411) rfl (by kernel_rfl) (by kernel_rfl) (by kernel_rfl) (fun _ _ _ h => h) (Or.inl ⟨by rfl, ?ho4l411⟩) (by assumption) ?ro4l411
        case ho4l411 => (intro w hSw; (try dsimp only at hSw); go_simp; (try with_reducible rfl))
        try simp only [Act.put, List.getElem_toArray, List.getElem_cons_succ, List.getElem_cons_zero, List.setIfInBounds_toArray, List.set_cons_zero, List.set_cons_succ]
        refine wpAnyH_done (by kernel_rfl) ?_ _
        go_wp2_with fail
        go_meet
        exact ⟨rfl, rfl, by repeat (first | with_reducible exact D8 | with_reducible apply bdrew | with_reducible apply bdrewN | with_reducible apply balloc | ((with_reducible refine bset ?_ ?_ _); rotate_left; (first | omega | (simp <;> omega)))), by simp [Cls, go_sem, F8, y8w2, y8w1, y8w0, y8wp1, y8wp2, y8w20, y8w2p1, y8w2p2, y8w30, y8w3p1, y8w3p2, y8w40, y8w4p1, y8w4p2, y8w50, y8w5p1, y8w5p2, y8w60, y8w6p1, y8w6p2]⟩
  case rest =>
    obtain ⟨w9, rfl⟩ : ∃ wo : World, wo = wc := ⟨_, rfl⟩
    obtain ⟨rfl, rfl, D9, C9⟩ := hcut
    have d9s := D9.size
    have F9 := C9
    simp only [Cls, and_true] at F9
    have y9w2 : w.heap.size + 1 + 1 < w9.heap.size := C9.blk (b := w.heap.size + 1 + 1) (k := 0) (v := .slice Y ly cY) (by simp)
    have y9w1 : w.heap.size + 1 < w9.heap.size := (by omega)
    have y9w0 : w.heap.size < w9.heap.size := (by omega)
    have y9wp1 : w.heap.size < w9.heap.size + 1 := (by omega)
    have y9wp2 : w.heap.size < w9.heap.size + 1 + 1 := (by omega)
    have y9w20 : w2.heap.size < w9.heap.size := C9.blk (b := w2.heap.size) (k := 0) (v := .int .i64 0) (by simp)
    have y9w2p1 : w2.heap.size < w9.heap.size + 1 := (by omega)
    have y9w2p2 : w2.heap.size < w9.heap.size + 1 + 1 := (by omega)
    have y9w30 : w3.heap.size < w9.heap.size := C9.blk (b := w3.heap.size) (k := 0) (v := .int .i64 0) (by simp)
    have y9w3p1 : w3.heap.size < w9.heap.size + 1 := (by omega)
    have y9w3p2 : w3.heap.size < w9.heap.size + 1 + 1 := (by omega)
    have y9w40 : w4.heap.size < w9.heap.size := C9.blk (b := w4.heap.size) (k := 0) (v := .int .i64 0) (by simp)
    have y9w4p1 : w4.heap.size < w9.heap.size + 1 := (by omega)
    have y9w4p2 : w4.heap.size < w9.heap.size + 1 + 1 := (by omega)
    have y9w50 : w5.heap.size < w9.heap.size := C9.blk (b := w5.heap.size) (k := 0) (v := .int .i64 0) (by simp)
    have y9w5p1 : w5.heap.size < w9.heap.size + 1 := (by omega)
    have y9w5p2 : w5.heap.size < w9.heap.size + 1 + 1 := (by omega)
    have y9w60 : w6.heap.size < w9.heap.size := C9.blk (b := w6.heap.size) (k := 0) (v := .int .i64 0) (by simp)
    have y9w6p1 : w6.heap.size < w9.heap.size + 1 := (by omega)
    have y9w6p2 : w6.heap.size < w9.heap.size + 1 + 1 := (by omega)
    go_wp2_with fail
    refine (spoint_any _ AR AB AO cr cb co p (HM.out.below (by repeat (first | with_reducible exact D9 | with_reducible apply bdrew | with_reducible apply bdrewN | with_reducible apply balloc | ((with_reducible refine bset ?_ ?_ _); rotate_left; (first | omega | (simp <;> omega)))))) HOK.out ly lx hrl hbl hol hm6 hn6 X cX x d HVX2.out (HIX.out.below (by repeat (first | with_reducible exact D9 | with_reducible apply bdrew | with_reducible apply bdrewN | with_reducible apply balloc | ((with_reducible refine bset ?_ ?_ _); rotate_left; (first | omega | (simp <;> omega))))))).mono ?_
    rintro e w10 ⟨r2, rfl, HR2, hB10⟩
    have D10 := dstep w hB10 (by repeat (first | with_reducible exact D9 | with_reducible apply bdrew | with_reducible apply bdrewN | with_reducible apply balloc | ((with_reducible refine bset ?_ ?_ _); rotate_left; (first | omega | (simp <;> omega)))))
    have d10s := D10.size
    have C10 := Cls.below (l := [(w.heap.size, 0, .slice AR ly cr), (w.heap.size, 1, .slice AB ly cb), (w.heap.size, 2, .slice AO lx co), (w.heap.size + 1, 0, .slice X lx cX), (w.heap.size + 1, 1, .int .i64 d), (w.heap.size + 1 + 1, 0, .slice Y ly cY), (w.heap.size + 1 + 1, 1, .int .i64 e), (w2.heap.size, 0, .int .i64 0), (w2.heap.size, 1, .int .i64 0), (w3.heap.size, 0, .int .i64 0), (w3.heap.size, 1, .int .i64 0), (w4.heap.size, 0, .int .i64 0), (w4.heap.size, 1, .int .i64 0), (w5.heap.size, 0, .int .i64 0), (w5.heap.size, 1, .int .i64 0), (w6.heap.size, 0, .int .i64 0), (w6.heap.size, 1, .int .i64 0)]) hB10 (by simp [Cls, go_sem, F9, y9w2, y9w1, y9w0, y9wp1, y9wp2, y9w20, y9w2p1, y9w2p2, y9w30, y9w3p1, y9w3p2, y9w40, y9w4p1, y9w4p2, y9w50, y9w5p1, y9w5p2, y9w60, y9w6p1, y9w6p2])
    have F10 := C10
    simp only [Cls, and_true] at F10
    have y10w2 : w.heap.size + 1 + 1 < w10.heap.size := C10.blk (b := w.heap.size + 1 + 1) (k := 0) (v := .slice Y ly cY) (by simp)
    have y10w1 : w.heap.size + 1 < w10.heap.size := (by omega)
    have y10w0 : w.heap.size < w10.heap.size := (by omega)
    have y10wp1 : w.heap.size < w10.heap.size + 1 := (by omega)
    have y10wp2 : w.heap.size < w10.heap.size + 1 + 1 := (by omega)
    have y10w20 : w2.heap.size < w10.heap.size := C10.blk (b := w2.heap.size) (k := 0) (v := .int .i64 0) (by simp)
    have y10w2p1 : w2.heap.size < w10.heap.size + 1 := (by omega)
    have y10w2p2 : w2.heap.size < w10.heap.size + 1 + 1 := (by omega)
    have y10w30 : w3.heap.size < w10.heap.size := C10.blk (b := w3.heap.size) (k := 0) (v := .int .i64 0) (by simp)
    have y10w3p1 : w3.heap.size < w10.heap.size + 1 := (by omega)
    have y10w3p2 : w3.heap.size < w10.heap.size + 1 + 1 := (by omega)
    have y10w40 : w4.heap.size < w10.heap.size := C10.blk (b := w4.heap.size) (k := 0) (v := .int .i64 0) (by simp)
    have y10w4p1 : w4.heap.size < w10.heap.size + 1 := (by omega)
    have y10w4p2 : w4.heap.size < w10.heap.size + 1 + 1 := (by omega)
    have y10w50 : w5.heap.size < w10.heap.size := C10.blk (b := w5.heap.size) (k := 0) (v := .int .i64 0) (by simp)
    have y10w5p1 : w5.heap.size < w10.heap.size + 1 := (by omega)
    have y10w5p2 : w5.heap.size < w10.heap.size + 1 + 1 := (by omega)
    have y10w60 : w6.heap.size < w10.heap.size := C10.blk (b := w6.heap.size) (k := 0) (v := .int .i64 0) (by simp)
    have y10w6p1 : w6.heap.size < w10.heap.size + 1 := (by omega)
    have y10w6p2 : w6.heap.size < w10.heap.size + 1 + 1 := (by omega)
    obtain rfl : r2 = ok2 := same_told HT2.out HR2.out
    have hbn2 : (r2 != r2) = false := by simp
    clear HR2
    go_wp2_with fail
    refine (simproves_any _ AR AB AO cr cb co p (HM.out.below (by repeat (first | with_reducible exact D10 | with_reducible apply bdrew | with_reducible apply bdrewN | with_reducible apply balloc | ((with_reducible refine bset ?_ ?_ _); rotate_left; (first | omega | (simp <;> omega)))))) HOK.out ly lx hrl hbl hol hm6 hn6 X cX x d HVX2.out (HIX.out.below (by repeat (first | with_reducible exact D10 | with_reducible apply bdrew | with_reducible apply bdrewN | with_reducible apply balloc | ((with_reducible refine bset ?_ ?_ _); rotate_left; (first | omega | (simp <;> omega))))))).mono ?_
    rintro e w11 ⟨r5, rfl, HR5, hB11⟩
    have D11 := dstep w hB11 (by repeat (first | with_reducible exact D10 | with_reducible apply bdrew | with_reducible apply bdrewN | with_reducible apply balloc | ((with_reducible refine bset ?_ ?_ _); rotate_left; (first | omega | (simp <;> omega)))))
    have d11s := D11.size
    have C11 := Cls.below (l := [(w.heap.size, 0, .slice AR ly cr), (w.heap.size, 1, .slice AB ly cb), (w.heap.size, 2, .slice AO lx co), (w.heap.size + 1, 0, .slice X lx cX), (w.heap.size + 1, 1, .int .i64 d), (w.heap.size + 1 + 1, 0, .slice Y ly cY), (w.heap.size + 1 + 1, 1, .int .i64 e), (w2.heap.size, 0, .int .i64 0), (w2.heap.size, 1, .int .i64 0), (w3.heap.size, 0, .int .i64 0), (w3.heap.size, 1, .int .i64 0), (w4.heap.size, 0, .int .i64 0), (w4.heap.size, 1, .int .i64 0), (w5.heap.size, 0, .int .i64 0), (w5.heap.size, 1, .int .i64 0), (w6.heap.size, 0, .int .i64 0), (w6.heap.size, 1, .int .i64 0)]) hB11 (by simp [Cls, go_sem, F10, y10w2, y10w1, y10w0, y10wp1, y10wp2, y10w20, y10w2p1, y10w2p2, y10w30, y10w3p1, y10w3p2, y10w40, y10w4p1, y10w4p2, y10w50, y10w5p1, y10w5p2, y10w60, y10w6p1, y10w6p2])
    have F11 := C11
    simp only [Cls, and_true] at F11
    have y11w2 : w.heap.size + 1 + 1 < w11.heap.size := C11.blk (b := w.heap.size + 1 + 1) (k := 0) (v := .slice Y ly cY) (by simp)
    have y11w1 : w.heap.size + 1 < w11.heap.size := (by omega)
    have y11w0 : w.heap.size < w11.heap.size := (by omega)
    have y11wp1 : w.heap.size < w11.heap.size + 1 := (by omega)
    have y11wp2 : w.heap.size < w11.heap.size + 1 + 1 := (by omega)
    have y11w20 : w2.heap.size < w11.heap.size := C11.blk (b := w2.heap.size) (k := 0) (v := .int .i64 0) (by simp)
    have y11w2p1 : w2.heap.size < w11.heap.size + 1 := (by omega)
    have y11w2p2 : w2.heap.size < w11.heap.size + 1 + 1 := (by omega)
    have y11w30 : w3.heap.size < w11.heap.size := C11.blk (b := w3.heap.size) (k := 0) (v := .int .i64 0) (by simp)
    have y11w3p1 : w3.heap.size < w11.heap.size + 1 := (by omega)
    have y11w3p2 : w3.heap.size < w11.heap.size + 1 + 1 := (by omega)
    have y11w40 : w4.heap.size < w11.heap.size := C11.blk (b := w4.heap.size) (k := 0) (v := .int .i64 0) (by simp)
    have y11w4p1 : w4.heap.size < w11.heap.size + 1 := (by omega)
    have y11w4p2 : w4.heap.size < w11.heap.size + 1 + 1 := (by omega)
    have y11w50 : w5.heap.size < w11.heap.size := C11.blk (b := w5.heap.size) (k := 0) (v := .int .i64 0) (by simp)
    have y11w5p1 : w5.heap.size < w11.heap.size + 1 := (by omega)
    have y11w5p2 : w5.heap.size < w11.heap.size + 1 + 1 := (by omega)
    have y11w60 : w6.heap.size < w11.heap.size := C11.blk (b := w6.heap.size) (k := 0) (v := .int .i64 0) (by simp)
    have y11w6p1 : w6.heap.size < w11.heap.size + 1 := (by omega)
    have y11w6p2 : w6.heap.size < w11.heap.size + 1 + 1 := (by omega)
    obtain rfl : r5 = ok5 := same_told HT5.out HR5.out
    have hbn5 : (r5 != r5) = false := by simp
    clear HT5 HR5
    go_wp2_with fail
    refine (srefutes_any _ AR AB AO cr cb co p (HM.out.below (by repeat (first | with_reducible exact D11 | with_reducible apply bdrew | with_reducible apply bdrewN | with_reducible apply balloc | ((with_reducible refine bset ?_ ?_ _); rotate_left; (first | omega | (simp <;> omega)))))) HOK.out ly lx hrl hbl hol hm6 hn6 Y cY y e HVY2.out (HIY.out.below (by repeat (first | with_reducible exact D11 | with_reducible apply bdrew | with_reducible apply bdrewN | with_reducible apply balloc | ((with_reducible refine bset ?_ ?_ _); rotate_left; (first | omega | (simp <;> omega))))))).mono ?_
    rintro e w12 ⟨r4, rfl, HR4, hB12⟩
    have D12 := dstep w hB12 (by repeat (first | with_reducible exact D11 | with_reducible apply bdrew | with_reducible apply bdrewN | with_reducible apply balloc | ((with_reducible refine bset ?_ ?_ _); rotate_left; (first | omega | (simp <;> omega)))))
    have d12s := D12.size
    have C12 := Cls.below (l := [(w.heap.size, 0, .slice AR ly cr), (w.heap.size, 1, .slice AB ly cb), (w.heap.size, 2, .slice AO lx co), (w.heap.size + 1, 0, .slice X lx cX), (w.heap.size + 1, 1, .int .i64 d), (w.heap.size + 1 + 1, 0, .slice Y ly cY), (w.heap.size + 1 + 1, 1, .int .i64 e), (w2.heap.size, 0, .int .i64 0), (w2.heap.size, 1, .int .i64 0), (w3.heap.size, 0, .int .i64 0), (w3.heap.size, 1, .int .i64 0), (w4.heap.size, 0, .int .i64 0), (w4.heap.size, 1, .int .i64 0), (w5.heap.size, 0, .int .i64 0), (w5.heap.size, 1, .int .i64 0), (w6.heap.size, 0, .int .i64 0), (w6.heap.size, 1, .int .i64 0)]) hB12 (by simp [Cls, go_sem, F11, y11w2, y11w1, y11w0, y11wp1, y11wp2, y11w20, y11w2p1, y11w2p2, y11w30, y11w3p1, y11w3p2, y11w40, y11w4p1, y11w4p2, y11w50, y11w5p1, y11w5p2, y11w60, y11w6p1, y11w6p2])
    have F12 := C12
    simp only [Cls, and_true] at F12
    have y12w2 : w.heap.size + 1 + 1 < w12.heap.size := C12.blk (b := w.heap.size + 1 + 1) (k := 0) (v := .slice Y ly cY) (by simp)
    have y12w1 : w.heap.size + 1 < w12.heap.size := (by omega)
    have y12w0 : w.heap.size < w12.heap.size := (by omega)
    have y12wp1 : w.heap.size < w12.heap.size + 1 := (by omega)
    have y12wp2 : w.heap.size < w12.heap.size + 1 + 1 := (by omega)
    have y12w20 : w2.heap.size < w12.heap.size := C12.blk (b := w2.heap.size) (k := 0) (v := .int .i64 0) (by simp)
    have y12w2p1 : w2.heap.size < w12.heap.size + 1 := (by omega)
    have y12w2p2 : w2.heap.size < w12.heap.size + 1 + 1 := (by omega)
    have y12w30 : w3.heap.size < w12.heap.size := C12.blk (b := w3.heap.size) (k := 0) (v := .int .i64 0) (by simp)
    have y12w3p1 : w3.heap.size < w12.heap.size + 1 := (by omega)
    have y12w3p2 : w3.heap.size < w12.heap.size + 1 + 1 := (by omega)
    have y12w40 : w4.heap.size < w12.heap.size := C12.blk (b := w4.heap.size) (k := 0) (v := .int .i64 0) (by simp)
    have y12w4p1 : w4.heap.size < w12.heap.size + 1 := (by omega)
    have y12w4p2 : w4.heap.size < w12.heap.size + 1 + 1 := (by omega)
    have y12w50 : w5.heap.size < w12.heap.size := C12.blk (b := w5.heap.size) (k := 0) (v := .int .i64 0) (by simp)
    have y12w5p1 : w5.heap.size < w12.heap.size + 1 := (by omega)
    have y12w5p2 : w5.heap.size < w12.heap.size + 1 + 1 := (by omega)
    have y12w60 : w6.heap.size < w12.heap.size := C12.blk (b := w6.heap.size) (k := 0) (v := .int .i64 0) (by simp)
    have y12w6p1 : w6.heap.size < w12.heap.size + 1 := (by omega)
    have y12w6p2 : w6.heap.size < w12.heap.size + 1 + 1 := (by omega)
    obtain rfl : r4 = ok4 := same_told HT4.out HR4.out
    have hbn4 : (r4 != r4) = false := by simp
    clear HT4 HR4
    go_wp2_with fail
    refine (spoint_any _ AR AB AO cr cb co p (HM.out.below (by repeat (first | with_reducible exact D12 | with_reducible apply bdrew | with_reducible apply bdrewN | with_reducible apply balloc | ((with_reducible refine bset ?_ ?_ _); rotate_left; (first | omega | (simp <;> omega)))))) HOK.out ly lx hrl hbl hol hm6 hn6 X cX x d HVX2.out (HIX.out.below (by repeat (first | with_reducible exact D12 | with_reducible apply bdrew | with_reducible apply bdrewN | with_reducible apply balloc | ((with_reducible refine bset ?_ ?_ _); rotate_left; (first | omega | (simp <;> omega))))))).mono ?_
    rintro e w13 ⟨q2, rfl, HQ2, hB13⟩
    have D13 := dstep w hB13 (by repeat (first | with_reducible exact D12 | with_reducible apply bdrew | with_reducible apply bdrewN | with_reducible apply balloc | ((with_reducible refine bset ?_ ?_ _); rotate_left; (first | omega | (simp <;> omega)))))
    have d13s := D13.size
    have C13 := Cls.below (l := [(w.heap.size, 0, .slice AR ly cr), (w.heap.size, 1, .slice AB ly cb), (w.heap.size, 2, .slice AO lx co), (w.heap.size + 1, 0, .slice X lx cX), (w.heap.size + 1, 1, .int .i64 d), (w.heap.size + 1 + 1, 0, .slice Y ly cY), (w.heap.size + 1 + 1, 1, .int .i64 e), (w2.heap.size, 0, .int .i64 0), (w2.heap.size, 1, .int .i64 0), (w3.heap.size, 0, .int .i64 0), (w3.heap.size, 1, .int .i64 0), (w4.heap.size, 0, .int .i64 0), (w4.heap.size, 1, .int .i64 0), (w5.heap.size, 0, .int .i64 0), (w5.heap.size, 1, .int .i64 0), (w6.heap.size, 0, .int .i64 0), (w6.heap.size, 1, .int .i64 0)]) hB13 (by simp [Cls, go_sem, F12, y12w2, y12w1, y12w0, y12wp1, y12wp2, y12w20, y12w2p1, y12w2p2, y12w30, y12w3p1, y12w3p2, y12w40, y12w4p1, y12w4p2, y12w50, y12w5p1, y12w5p2, y12w60, y12w6p1, y12w6p2])
    have F13 := C13
    simp only [Cls, and_true] at F13
    have y13w2 : w.heap.size + 1 + 1 < w13.heap.size := C13.blk (b := w.heap.size + 1 + 1) (k := 0) (v := .slice Y ly cY) (by simp)
    have y13w1 : w.heap.size + 1 < w13.heap.size := (by omega)
    have y13w0 : w.heap.size < w13.heap.size := (by omega)
    have y13wp1 : w.heap.size < w13.heap.size + 1 := (by omega)
    have y13wp2 : w.heap.size < w13.heap.size + 1 + 1 := (by omega)
    have y13w20 : w2.heap.size < w13.heap.size := C13.blk (b := w2.heap.size) (k := 0) (v := .int .i64 0) (by simp)
    have y13w2p1 : w2.heap.size < w13.heap.size + 1 := (by omega)
    have y13w2p2 : w2.heap.size < w13.heap.size + 1 + 1 := (by omega)
    have y13w30 : w3.heap.size < w13.heap.size := C13.blk (b := w3.heap.size) (k := 0) (v := .int .i64 0) (by simp)
    have y13w3p1 : w3.heap.size < w13.heap.size + 1 := (by omega)
    have y13w3p2 : w3.heap.size < w13.heap.size + 1 + 1 := (by omega)
    have y13w40 : w4.heap.size < w13.heap.size := C13.blk (b := w4.heap.size) (k := 0) (v := .int .i64 0) (by simp)
    have y13w4p1 : w4.heap.size < w13.heap.size + 1 := (by omega)
    have y13w4p2 : w4.heap.size < w13.heap.size + 1 + 1 := (by omega)
    have y13w50 : w5.heap.size < w13.heap.size := C13.blk (b := w5.heap.size) (k := 0) (v := .int .i64 0) (by simp)
    have y13w5p1 : w5.heap.size < w13.heap.size + 1 := (by omega)
    have y13w5p2 : w5.heap.size < w13.heap.size + 1 + 1 := (by omega)
    have y13w60 : w6.heap.size < w13.heap.size := C13.blk (b := w6.heap.size) (k := 0) (v := .int .i64 0) (by simp)
    have y13w6p1 : w6.heap.size < w13.heap.size + 1 := (by omega)
    have y13w6p2 : w6.heap.size < w13.heap.size + 1 + 1 := (by omega)
    obtain rfl : q2 = r2 := same_told HT2.out HQ2.out
    clear HQ2
    cases q2 with
    | false =>
      obtain rfl : ok3 = false := by
        cases ok3 with
        | false => rfl
        | true => exact absurd (HT2.out.2 (HT3.out.1 rfl).1) (by simp)
      clear HT2 HT3
      go_wp2
      refine bodyPost_ret (v := .bool true) ?_ rfl ⟨rfl, by repeat (first | with_reducible exact D13 | with_reducible apply bdrew | with_reducible apply bdrewN | with_reducible apply balloc | ((with_reducible refine bset ?_ ?_ _); rotate_left; (first | omega | (simp <;> omega))))⟩
      simp [results, Try.results9, go_sem, F13, y13w2, y13w1, y13w0, y13wp1, y13wp2, y13w20, y13w2p1, y13w2p2, y13w30, y13w3p1, y13w3p2, y13w40, y13w4p1, y13w4p2, y13w50, y13w5p1, y13w5p2, y13w60, y13w6p1, y13w6p2]
    | true =>
      have HPT := Lib.hid (HT2.out.1 rfl)
      clear HT2
      go_wp2_with fail
      refine (sdual_any _ AR AB AO cr cb co p (HM.out.below (by repeat (first | with_reducible exact D13 | with_reducible apply bdrew | with_reducible apply bdrewN | with_reducible apply balloc | ((with_reducible refine bset ?_ ?_ _); rotate_left; (first | omega | (simp <;> omega)))))) HOK.out ly lx hrl hbl hol hm6 hn6 Y cY y e HVY2.out (HIY.out.below (by repeat (first | with_reducible exact D13 | with_reducible apply bdrew | with_reducible apply bdrewN | with_reducible apply balloc | ((with_reducible refine bset ?_ ?_ _); rotate_left; (first | omega | (simp <;> omega))))))).mono ?_
      rintro e w14 ⟨du, rfl, HD, hB14⟩
      have D14 := dstep w hB14 (by repeat (first | with_reducible exact D13 | with_reducible apply bdrew | with_reducible apply bdrewN | with_reducible apply balloc | ((with_reducible refine bset ?_ ?_ _); rotate_left; (first | omega | (simp <;> omega)))))
      have d14s := D14.size
      have C14 := Cls.below (l := [(w.heap.size, 0, .slice AR ly cr), (w.heap.size, 1, .slice AB ly cb), (w.heap.size, 2, .slice AO lx co), (w.heap.size + 1, 0, .slice X lx cX), (w.heap.size + 1, 1, .int .i64 d), (w.heap.size + 1 + 1, 0, .slice Y ly cY), (w.heap.size + 1 + 1, 1, .int .i64 e), (w2.heap.size, 0, .int .i64 0), (w2.heap.size, 1, .int .i64 0), (w3.heap.size, 0, .int .i64 0), (w3.heap.size, 1, .int .i64 0), (w4.heap.size, 0, .int .i64 0), (w4.heap.size, 1, .int .i64 0), (w5.heap.size, 0, .int .i64 0), (w5.heap.size, 1, .int .i64 0), (w6.heap.size, 0, .int .i64 0), (w6.heap.size, 1, .int .i64 0)]) hB14 (by simp [Cls, go_sem, F13, y13w2, y13w1, y13w0, y13wp1, y13wp2, y13w20, y13w2p1, y13w2p2, y13w30, y13w3p1, y13w3p2, y13w40, y13w4p1, y13w4p2, y13w50, y13w5p1, y13w5p2, y13w60, y13w6p1, y13w6p2])
      have F14 := C14
      simp only [Cls, and_true] at F14
      have y14w2 : w.heap.size + 1 + 1 < w14.heap.size := C14.blk (b := w.heap.size + 1 + 1) (k := 0) (v := .slice Y ly cY) (by simp)
      have y14w1 : w.heap.size + 1 < w14.heap.size := (by omega)
      have y14w0 : w.heap.size < w14.heap.size := (by omega)
      have y14wp1 : w.heap.size < w14.heap.size + 1 := (by omega)
      have y14wp2 : w.heap.size < w14.heap.size + 1 + 1 := (by omega)
      have y14w20 : w2.heap.size < w14.heap.size := C14.blk (b := w2.heap.size) (k := 0) (v := .int .i64 0) (by simp)
      have y14w2p1 : w2.heap.size < w14.heap.size + 1 := (by omega)
      have y14w2p2 : w2.heap.size < w14.heap.size + 1 + 1 := (by omega)
      have y14w30 : w3.heap.size < w14.heap.size := C14.blk (b := w3.heap.size) (k := 0) (v := .int .i64 0) (by simp)
      have y14w3p1 : w3.heap.size < w14.heap.size + 1 := (by omega)
      have y14w3p2 : w3.heap.size < w14.heap.size + 1 + 1 := (by omega)
      have y14w40 : w4.heap.size < w14.heap.size := C14.blk (b := w4.heap.size) (k := 0) (v := .int .i64 0) (by simp)
      have y14w4p1 : w4.heap.size < w14.heap.size + 1 := (by omega)
      have y14w4p2 : w4.heap.size < w14.heap.size + 1 + 1 := (by omega)
      have y14w50 : w5.heap.size < w14.heap.size := C14.blk (b := w5.heap.size) (k := 0) (v := .int .i64 0) (by simp)
      have y14w5p1 : w5.heap.size < w14.heap.size + 1 := (by omega)
      have y14w5p2 : w5.heap.size < w14.heap.size + 1 + 1 := (by omega)
      have y14w60 : w6.heap.size < w14.heap.size := C14.blk (b := w6.heap.size) (k := 0) (v := .int .i64 0) (by simp)
      have y14w6p1 : w6.heap.size < w14.heap.size + 1 := (by omega)
      have y14w6p2 : w6.heap.size < w14.heap.size + 1 + 1 := (by omega)
      cases du with
      | false =>
        obtain rfl : ok3 = false := by
          cases ok3 with
          | false => rfl
          | true => exact absurd (HD.out.2 (HT3.out.1 rfl).2.1) (by simp)
        clear HD HT3
        go_wp2
        refine bodyPost_ret (v := .bool true) ?_ rfl ⟨rfl, by repeat (first | with_reducible exact D14 | with_reducible apply bdrew | with_reducible apply bdrewN | with_reducible apply balloc | ((with_reducible refine bset ?_ ?_ _); rotate_left; (first | omega | (simp <;> omega))))⟩
        simp [results, Try.results9, go_sem, F14, y14w2, y14w1, y14w0, y14wp1, y14wp2, y14w20, y14w2p1, y14w2p2, y14w30, y14w3p1, y14w3p2, y14w40, y14w4p1, y14w4p2, y14w50, y14w5p1, y14w5p2, y14w60, y14w6p1, y14w6p2]
      | true =>
        have HDU := Lib.hid (HD.out.1 rfl)
        clear HD
        go_wp2_with fail
        refine (smeet_any _ AR AB AO cr cb co p (HM.out.below (by repeat (first | with_reducible exact D14 | with_reducible apply bdrew | with_reducible apply bdrewN | with_reducible apply balloc | ((with_reducible refine bset ?_ ?_ _); rotate_left; (first | omega | (simp <;> omega)))))) HOK.out ly lx hrl hbl hol hm6 hn6 X cX x d HVX2.out (HIX.out.below (by repeat (first | with_reducible exact D14 | with_reducible apply bdrew | with_reducible apply bdrewN | with_reducible apply balloc | ((with_reducible refine bset ?_ ?_ _); rotate_left; (first | omega | (simp <;> omega)))))) Y cY y e HVY2.out (HIY.out.below (by repeat (first | with_reducible exact D14 | with_reducible apply bdrew | with_reducible apply bdrewN | with_reducible apply balloc | ((with_reducible refine bset ?_ ?_ _); rotate_left; (first | omega | (simp <;> omega))))))).mono ?_
        rintro e w15 ⟨me, rfl, HE, hB15⟩
        have D15 := dstep w hB15 (by repeat (first | with_reducible exact D14 | with_reducible apply bdrew | with_reducible apply bdrewN | with_reducible apply balloc | ((with_reducible refine bset ?_ ?_ _); rotate_left; (first | omega | (simp <;> omega)))))
        have d15s := D15.size
        have C15 := Cls.below (l := [(w.heap.size, 0, .slice AR ly cr), (w.heap.size, 1, .slice AB ly cb), (w.heap.size, 2, .slice AO lx co), (w.heap.size + 1, 0, .slice X lx cX), (w.heap.size + 1, 1, .int .i64 d), (w.heap.size + 1 + 1, 0, .slice Y ly cY), (w.heap.size + 1 + 1, 1, .int .i64 e), (w2.heap.size, 0, .int .i64 0), (w2.heap.size, 1, .int .i64 0), (w3.heap.size, 0, .int .i64 0), (w3.heap.size, 1, .int .i64 0), (w4.heap.size, 0, .int .i64 0), (w4.heap.size, 1, .int .i64 0), (w5.heap.size, 0, .int .i64 0), (w5.heap.size, 1, .int .i64 0), (w6.heap.size, 0, .int .i64 0), (w6.heap.size, 1, .int .i64 0)]) hB15 (by simp [Cls, go_sem, F14, y14w2, y14w1, y14w0, y14wp1, y14wp2, y14w20, y14w2p1, y14w2p2, y14w30, y14w3p1, y14w3p2, y14w40, y14w4p1, y14w4p2, y14w50, y14w5p1, y14w5p2, y14w60, y14w6p1, y14w6p2])
        have F15 := C15
        simp only [Cls, and_true] at F15
        have y15w2 : w.heap.size + 1 + 1 < w15.heap.size := C15.blk (b := w.heap.size + 1 + 1) (k := 0) (v := .slice Y ly cY) (by simp)
        have y15w1 : w.heap.size + 1 < w15.heap.size := (by omega)
        have y15w0 : w.heap.size < w15.heap.size := (by omega)
        have y15wp1 : w.heap.size < w15.heap.size + 1 := (by omega)
        have y15wp2 : w.heap.size < w15.heap.size + 1 + 1 := (by omega)
        have y15w20 : w2.heap.size < w15.heap.size := C15.blk (b := w2.heap.size) (k := 0) (v := .int .i64 0) (by simp)
        have y15w2p1 : w2.heap.size < w15.heap.size + 1 := (by omega)
        have y15w2p2 : w2.heap.size < w15.heap.size + 1 + 1 := (by omega)
        have y15w30 : w3.heap.size < w15.heap.size := C15.blk (b := w3.heap.size) (k := 0) (v := .int .i64 0) (by simp)
        have y15w3p1 : w3.heap.size < w15.heap.size + 1 := (by omega)
        have y15w3p2 : w3.heap.size < w15.heap.size + 1 + 1 := (by omega)
        have y15w40 : w4.heap.size < w15.heap.size := C15.blk (b := w4.heap.size) (k := 0) (v := .int .i64 0) (by simp)
        have y15w4p1 : w4.heap.size < w15.heap.size + 1 := (by omega)
        have y15w4p2 : w4.heap.size < w15.heap.size + 1 + 1 := (by omega)
        have y15w50 : w5.heap.size < w15.heap.size := C15.blk (b := w5.heap.size) (k := 0) (v := .int .i64 0) (by simp)
        have y15w5p1 : w5.heap.size < w15.heap.size + 1 := (by omega)
        have y15w5p2 : w5.heap.size < w15.heap.size + 1 + 1 := (by omega)
        have y15w60 : w6.heap.size < w15.heap.size := C15.blk (b := w6.heap.size) (k := 0) (v := .int .i64 0) (by simp)
        have y15w6p1 : w6.heap.size < w15.heap.size + 1 := (by omega)
        have y15w6p2 : w6.heap.size < w15.heap.size + 1 + 1 := (by omega)
        obtain rfl : me = ok3 := same_told (I := CertP p x d y e) HT3.out (HE.out.trans ⟨fun h => ⟨HPT.out, HDU.out, h⟩, fun h => h.2.2⟩)
        have hbq : (me == me) = true := by simp
        clear HE HT3
        go_wp2
        refine bodyPost_ret (v := .bool true) ?_ rfl ⟨rfl, by repeat (first | with_reducible exact D15 | with_reducible apply bdrew | with_reducible apply bdrewN | with_reducible apply balloc | ((with_reducible refine bset ?_ ?_ _); rotate_left; (first | omega | (simp <;> omega))))⟩
        simp [results, Try.results9, go_sem, F15, y15w2, y15w1, y15w0, y15wp1, y15wp2, y15w20, y15w2p1, y15w2p2, y15w30, y15w3p1, y15w3p2, y15w40, y15w4p1, y15w4p2, y15w50, y15w5p1, y15w5p2, y15w60, y15w6p1, y15w6p2]

theorem walk_lfm (w : World) (AR AB AO : Option Addr) (cr cb co : Nat) (p : LpV) (hM : LpMem w AR AB AO p) (m mb n : Nat) (hrl : Hid (p.rows.length = m)) (hbl : Hid (p.bounds.length = mb)) (hol : Hid (p.obj.length = n)) (X : Option Addr) (cX lx : Nat) (x : List Int) (d : Int) (hlx : Hid (x.length = lx)) (hIx : Ints w X x) (hx63 : lx ≤ 9223372036854775807) (Y : Option Addr) (cY ly : Nat) (y : List Int) (e : Int) (hly : Hid (y.length = ly)) (hIy : Ints w Y y) (hy63 : ly ≤ 9223372036854775807) :
    Calls Try.prog 9 #[.agg #[.slice AR m cr, .slice AB mb cb, .slice AO n co], .agg #[.slice X lx cX, .int .i64 d], .agg #[.slice Y ly cY, .int .i64 e]] w fun e w' => e = .returned (.bool true) ∧ Below w.heap.size w w' := by
  by_cases h : (lpF p).1 = 0
  · have hok := lpF_zero h
    by_cases h1 : vecC x d p.obj.length = 0
    · by_cases h2 : vecC y e p.rows.length = 0
      · exact walk_lfm_4 w AR AB AO cr cb co p hM m mb n hrl hbl hol X cX lx x d hlx hIx hx63 Y cY ly y e hly hIy hy63 hok (Lib.hid h1) (Lib.hid h2)
      · exact walk_lfm_3 w AR AB AO cr cb co p hM m mb n hrl hbl hol X cX lx x d hlx hIx hx63 Y cY ly y e hly hIy hy63 hok _ (Lib.hid h1) (Lib.hid rfl) h2
    · by_cases h2 : vecC y e p.rows.length = 0
      · exact walk_lfm_2 w AR AB AO cr cb co p hM m mb n hrl hbl hol X cX lx x d hlx hIx hx63 Y cY ly y e hly hIy hy63 hok _ (Lib.hid rfl) (Lib.hid h2) h1
      · exact walk_lfm_1 w AR AB AO cr cb co p hM m mb n hrl hbl hol X cX lx x d hlx hIx hx63 Y cY ly y e hly hIy hy63 hok _ _ (Lib.hid rfl) (Lib.hid rfl) h1 h2
  · exact walk_lfm_0 w AR AB AO cr cb co p hM m mb n hrl hbl hol X cX lx x d hlx hIx hx63 Y cY ly y e hly hIy hy63 _ _ (Lib.hid rfl) h

namespace linearFeasibleMatchesSpec
open Go.ChangeShapes Go.WideShapes Go.ChangeAt Go.RowKit

set_option maxRecDepth 100000 in
theorem lifted (os : Os) (started : os.Started) (H : Type) (enc : TypeId × Value → H) :
    ReturnsInHanded {} Try.checked os 9 .any (Rows.linearFeasibleMatchesSpecSpec.pre6 enc Try.prog Try.f9 Rows.linearFeasibleMatchesSpecRow.domain false) (Rows.linearFeasibleMatchesSpecSpec.post enc Try.prog Try.f9 false true false false) := by
  refine returnsInHanded_of_change (C := Try.checked) own_knob started (by kernel_rfl) Try.func9
    (ChangeSpec.witness6 (enc := enc) (C := Try.checked) false ⟨#[], #[.agg #[.slice none 0 0, .slice none 0 0, .slice none 0 0], .agg #[.slice none 0 0, .int .i64 0], .agg #[.slice none 0 0, .int .i64 0]], []⟩ 8 (by kernel_rfl) (by kernel_rfl) (by kernel_rfl) (by kernel_rfl)) ?_
  intro W base args ds gs before hval0 hW _ hsz
  have hval : ∀ (j : Nat) t v, Try.f9.params[j]? = some t → args[j]? = some v → Value.okWide Try.prog W .any base t v := hval0
  have hpost := fun (W' : World) (hfn : gs = [] → Rows.linearFeasibleMatchesSpecSpec.fn H (ds ++ gs) = { results := [.lit (.bool true)], args := ds }) (hb : Below W.heap.size W W') => law_post (f := Try.f9) (tb := 4) laid_out_B Try.underlying4 rfl (by kernel_rfl) rfl hfn hW hb
  obtain ⟨p, q, hA0, hV, hpq, hfz, hnd⟩ := hW
  have hA : DataW.TrodAll enc Try.prog W 0 (fun _ => true) true Try.f9.params.toList args.toList ds p := hA0
  rw [Try.params9] at hA hval
  obtain ⟨v0, vs0, d0, ds0, p0, q0, hargs, rfl, hp0, h0, r0⟩ := trodAll_cons hA
  obtain ⟨v1, vs1, d1, ds1, p1, q1, rfl, rfl, hp1, h1, r1⟩ := trodAll_cons r0
  obtain ⟨v2, vs2, d2, ds2, p2, q2, rfl, rfl, hp2, h2, r2⟩ := trodAll_cons r1
  obtain ⟨rfl, rfl, hpn⟩ := trodAll_nil r2
  obtain rfl : args = #[v0, v1, v2] := by cases args; simp_all
  obtain ⟨p, AR, AB, AO, cr, cb, co, rfl, hM, hNR, hNB, hNO⟩ := open_lpW (hval 0 25 v0 rfl rfl) h0
  obtain ⟨X, cX, x, d, rfl, hIx, hx63, hxi⟩ := open_vecW (hval 1 30 v1 rfl rfl) h1
  obtain ⟨Xz, cXz, xz, dz, rfl, hIxz, hx63z, hxiz⟩ := open_vecW (hval 2 30 v2 rfl rfl) h2
  refine (walk_lfm W AR AB AO cr cb co p hM p.rows.length p.bounds.length p.obj.length (Lib.hid rfl) (Lib.hid rfl) (Lib.hid rfl) X cX x.length x d (Lib.hid rfl) hIx hx63 Xz cXz xz.length xz dz (Lib.hid rfl) hIxz hx63z).mono fun e W' ⟨he, hb⟩ => ?_
  subst he
  exact ⟨_, rfl, hpost W' (fun hg => by subst hg; rfl) hb⟩

theorem closed : joinedFacts Try.checked.prog 9 Try.f9 Rows.linearFeasibleMatchesSpecSpec Rows.linearFeasibleMatchesSpecRow = true := by
  unfold joinedFacts
  rw [pf_enter, pf_lifts, pf_make]
  kernel_rfl
theorem proved : Rows.LinearFeasibleMatchesSpecSaid :=
  OpenClaim.holds_of_wide 9 Try.f9 rfl rfl rfl rfl rfl rfl rfl ⟨rfl, rfl, rfl, rfl, rfl⟩ rfl rfl rfl rfl rfl (by kernel_rfl) Try.func9 closed
    (of_decide_eq_true (by kernel_rfl)) (by unfold Func.isWrapper; first | (rw [if_pos (by decide +kernel)]; kernel_rfl) | (rw [if_neg (by decide +kernel)]; exact ⟨rfl, rfl⟩))
    (fun os started H enc _ => lifted os started H enc)
#print axioms proved
end linearFeasibleMatchesSpec

end Go.Proofs.Ytkepfmglljkjhaa
