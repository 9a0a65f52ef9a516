/-
  The order of the rows changes neither the outcome nor the value.
-/
import Derived.Test.YtkepfmglljkjhaaMo1
import Derived.Test.YtkepfmglljkjhaaLx1
import Derived.Test.YtkepfmglljkjhaaOlp
import Derived.Test.YtkepfmglljkjhaaTb9
import Derived.Test.YtkepfmglljkjhaaMF
import Derived.Test.YtkepfmglljkjhaaBlaw
import Derived.Test.YtkepfmglljkjhaaMA
import Derived.Test.YtkepfmglljkjhaaPfacts
namespace Go.Proofs.Ytkepfmglljkjhaa
open Go.RowKit
set_option linter.unusedVariables false
set_option linter.unusedSimpArgs false

theorem sol_same {P Q : LA.LP} {st num den dx dy dr st' num' den' dx' dy' dr' : Int} {x y r x' y' r' : List Int} (h1 : LA.Part Q P) (h2 : LA.Part P Q) (h : SolOut P st num den x dx y dy r dr) (h' : SolOut Q st' num' den' x' dx' y' dy' r' dr') : st = st' ∧ num = num' ∧ den = den' := by
  obtain ⟨e1, e2⟩ := LA.same_outcome h1 h2 h.out h'.out
  subst e1
  rcases h with ⟨a, h, _⟩ | ⟨a, b, c, _⟩ | ⟨a, b, c, _⟩ <;> rcases h' with ⟨a', h', _⟩ | ⟨a', b', c', _⟩ | ⟨a', b', c', _⟩
  · obtain ⟨e3, e4⟩ := lowest_uniq h'.dpos h.dpos h'.cop h.cop e2
    exact ⟨rfl, e3.symm, e4.symm⟩
  all_goals first | omega | exact ⟨rfl, by omega, by omega⟩
set_option maxRecDepth 100000 in
set_option maxHeartbeats 4000000 in
theorem walk_loi_0 (w : World) (AR AB AO : Option Addr) (cr cb co : Nat) (p : LpV) (hM : LpMem w AR AB AO p) (m mb n : Nat) (hrl : Hid (p.rows.length = m)) (hbl : Hid (p.bounds.length = mb)) (hol : Hid (p.obj.length = n)) (a b : Int) (hf : ¬ (lpF p).1 = 0) :
    Calls Try.prog 3 #[.agg #[.slice AR m cr, .slice AB mb cb, .slice AO n co], .int .i64 a, .int .i64 b] w fun e w' => e = .returned (.bool true) ∧ Below w.heap.size w w' := by
  have HM := Lib.hid hM
  clear hM
  go_enter Try.func3, Try.ntmps3
  go_wp2_with fail
  refine (lnexample_any _).mono ?_
  rintro e w1 ⟨rfl, hB1⟩
  have D1 := dstep w hB1 (by repeat (first | with_reducible exact Below.refl _ _ | with_reducible apply bdrew | with_reducible apply bdrewN | with_reducible apply balloc | ((with_reducible refine bset ?_ ?_ _); rotate_left; (first | omega | (simp <;> omega)))))
  have d1s := D1.size
  have C1 := Cls.below (l := [(w.heap.size, 0, .slice AR m cr), (w.heap.size, 1, .slice AB mb cb), (w.heap.size, 2, .slice AO n co)]) hB1 (by simp [Cls, go_sem])
  have F1 := C1
  simp only [Cls, and_true] at F1
  have y1w0 : w.heap.size < w1.heap.size := C1.blk (b := w.heap.size) (k := 0) (v := .slice AR m cr) (by simp)
  have y1wp1 : w.heap.size < w1.heap.size + 1 := (by omega)
  have y1wp2 : w.heap.size < w1.heap.size + 1 + 1 := (by omega)
  go_wp2_with fail
  refine (solve_any _ AR AB AO cr cb co p (HM.out.below (by repeat (first | with_reducible exact D1 | with_reducible apply bdrew | with_reducible apply bdrewN | with_reducible apply balloc | ((with_reducible refine bset ?_ ?_ _); rotate_left; (first | omega | (simp <;> omega)))))) m mb n hrl hbl hol).mono ?_
  rintro e w2 ⟨c2, c22, st2, num2, den2, dx2, dy2, dr2, Ax2, Ay2, Ar2, lx2, ly2, lr2, xs2, ys2, rs2, rfl, HF2, HL2, HZ2, HS2, HX2, hB2⟩
  have D2 := dstep w hB2 (by repeat (first | with_reducible exact D1 | with_reducible apply bdrew | with_reducible apply bdrewN | with_reducible apply balloc | ((with_reducible refine bset ?_ ?_ _); rotate_left; (first | omega | (simp <;> omega)))))
  have d2s := D2.size
  have C2 := Cls.below (l := [(w.heap.size, 0, .slice AR m cr), (w.heap.size, 1, .slice AB mb cb), (w.heap.size, 2, .slice AO n co)]) hB2 (by simp [Cls, go_sem, F1, y1w0, y1wp1, y1wp2])
  have F2 := C2
  simp only [Cls, and_true] at F2
  have y2w0 : w.heap.size < w2.heap.size := C2.blk (b := w.heap.size) (k := 0) (v := .slice AR m cr) (by simp)
  have y2wp1 : w.heap.size < w2.heap.size + 1 := (by omega)
  have y2wp2 : w.heap.size < w2.heap.size + 1 + 1 := (by omega)
  have hc : ¬ c2 = 0 := by have h := HF2.out; rw [h] at hf; exact hf
  obtain ⟨rfl, -⟩ := HZ2.out hc
  have hc1 : (c2 == 0) = false := by simpa using hc
  have hc2 : (c2 != 0) = true := by simpa using hc
  clear HS2 HZ2
  go_wp2
  refine bodyPost_ret (v := .bool true) ?_ rfl ⟨rfl, by repeat (first | with_reducible exact D2 | with_reducible apply bdrew | with_reducible apply bdrewN | with_reducible apply balloc | ((with_reducible refine bset ?_ ?_ _); rotate_left; (first | omega | (simp <;> omega))))⟩
  simp [results, Try.results3, go_sem, F2, y2w0, y2wp1, y2wp2]

set_option maxRecDepth 100000 in
set_option maxHeartbeats 4000000 in
theorem walk_loi_1 (w : World) (AR AB AO : Option Addr) (cr cb co : Nat) (p : LpV) (hM : LpMem w AR AB AO p) (hok : LpOk p) (m n : Nat) (hrl : Hid (p.rows.length = m)) (hbl : Hid (p.bounds.length = m)) (hol : Hid (p.obj.length = n)) (hm6 : m ≤ 6) (a b : Int) (hab : (¬ (0 ≤ a ∧ a ≤ (m : Int) - 1)) ∨ ¬ (0 ≤ b ∧ b ≤ (m : Int) - 1)) :
    Calls Try.prog 3 #[.agg #[.slice AR m cr, .slice AB m cb, .slice AO n co], .int .i64 a, .int .i64 b] w fun e w' => e = .returned (.bool true) ∧ Below w.heap.size w w' := by
  have HM := Lib.hid hM
  have HOK := Lib.hid hok
  have hw1 : IntKind.i64.wrap ((m : Int) - 1) = (m : Int) - 1 := Go.IntWalk.i64_in _ (by omega)
  clear hM
  go_enter Try.func3, Try.ntmps3
  go_wp2_with fail
  refine (lnexample_any _).mono ?_
  rintro e w1 ⟨rfl, hB1⟩
  have D1 := dstep w hB1 (by repeat (first | with_reducible exact Below.refl _ _ | with_reducible apply bdrew | with_reducible apply bdrewN | with_reducible apply balloc | ((with_reducible refine bset ?_ ?_ _); rotate_left; (first | omega | (simp <;> omega)))))
  have d1s := D1.size
  have C1 := Cls.below (l := [(w.heap.size, 0, .slice AR m cr), (w.heap.size, 1, .slice AB m cb), (w.heap.size, 2, .slice AO n co)]) hB1 (by simp [Cls, go_sem])
  have F1 := C1
  simp only [Cls, and_true] at F1
  have y1w0 : w.heap.size < w1.heap.size := C1.blk (b := w.heap.size) (k := 0) (v := .slice AR m cr) (by simp)
  have y1wp1 : w.heap.size < w1.heap.size + 1 := (by omega)
  have y1wp2 : w.heap.size < w1.heap.size + 1 + 1 := (by omega)
  go_wp2_with fail
  refine (solve_any _ AR AB AO cr cb co p (HM.out.below (by repeat (first | with_reducible exact D1 | with_reducible apply bdrew | with_reducible apply bdrewN | with_reducible apply balloc | ((with_reducible refine bset ?_ ?_ _); rotate_left; (first | omega | (simp <;> omega)))))) m m n hrl hbl hol).mono ?_
  rintro e w2 ⟨c2, c22, st2, num2, den2, dx2, dy2, dr2, Ax2, Ay2, Ar2, lx2, ly2, lr2, xs2, ys2, rs2, rfl, HF2, HL2, HZ2, HS2, HX2, hB2⟩
  have D2 := dstep w hB2 (by repeat (first | with_reducible exact D1 | with_reducible apply bdrew | with_reducible apply bdrewN | with_reducible apply balloc | ((with_reducible refine bset ?_ ?_ _); rotate_left; (first | omega | (simp <;> omega)))))
  have d2s := D2.size
  have C2 := Cls.below (l := [(w.heap.size, 0, .slice AR m cr), (w.heap.size, 1, .slice AB m cb), (w.heap.size, 2, .slice AO n co)]) hB2 (by simp [Cls, go_sem, F1, y1w0, y1wp1, y1wp2])
  have F2 := C2
  simp only [Cls, and_true] at F2
  have y2w0 : w.heap.size < w2.heap.size := C2.blk (b := w.heap.size) (k := 0) (v := .slice AR m cr) (by simp)
  have y2wp1 : w.heap.size < w2.heap.size + 1 := (by omega)
  have y2wp2 : w.heap.size < w2.heap.size + 1 + 1 := (by omega)
  obtain rfl : c2 = 0 := by have h := HF2.out; rw [lpF_ok HOK.out] at h; injection h with h; exact h.symm
  have HSO := Lib.hid (HS2.out rfl)
  clear HS2 HZ2 HF2 HX2 HL2
  by_cases ha : 0 ≤ a ∧ a ≤ (m : Int) - 1
  · have hb' : b < 0 ∨ (m : Int) - 1 < b := by rcases hab with h | h <;> omega
    go_wp2_with fail
    refine (in_yes _ _ _ _ ha.1 ha.2).mono ?_
    rintro e w' ⟨rfl, rfl⟩
    go_wp2_with fail
    refine (in_no _ _ _ _ hb').mono ?_
    rintro e w' ⟨rfl, rfl⟩
    go_wp2
    refine bodyPost_ret (v := .bool true) ?_ rfl ⟨rfl, by repeat (first | with_reducible exact D2 | with_reducible apply bdrew | with_reducible apply bdrewN | with_reducible apply balloc | ((with_reducible refine bset ?_ ?_ _); rotate_left; (first | omega | (simp <;> omega))))⟩
    simp [results, Try.results3, go_sem, F2, y2w0, y2wp1, y2wp2]
  · have ha' : a < 0 ∨ (m : Int) - 1 < a := by omega
    go_wp2_with fail
    refine (in_no _ _ _ _ ha').mono ?_
    rintro e w' ⟨rfl, rfl⟩
    go_wp2
    refine bodyPost_ret (v := .bool true) ?_ rfl ⟨rfl, by repeat (first | with_reducible exact D2 | with_reducible apply bdrew | with_reducible apply bdrewN | with_reducible apply balloc | ((with_reducible refine bset ?_ ?_ _); rotate_left; (first | omega | (simp <;> omega))))⟩
    simp [results, Try.results3, go_sem, F2, y2w0, y2wp1, y2wp2]

set_option maxRecDepth 100000 in
set_option maxHeartbeats 8000000 in
theorem walk_loi_2 (w : World) (AR AB AO : Option Addr) (cr cb co : Nat) (p : LpV) (hM : LpMem w AR AB AO p) (hok : LpOk p) (m n : Nat) (hrl : Hid (p.rows.length = m)) (hbl : Hid (p.bounds.length = m)) (hol : Hid (p.obj.length = n)) (hm6 : m ≤ 6) (hNB : NilOk AB p.bounds cb) (hNR : AR = none → p.rows = [] ∧ cr = 0) (i k : Nat) (hi : i < m) (hk : k < m) :
    Calls Try.prog 3 #[.agg #[.slice AR m cr, .slice AB m cb, .slice AO n co], .int .i64 i, .int .i64 k] w fun e w' => e = .returned (.bool true) ∧ Below w.heap.size w w' := by
  have HM := Lib.hid hM
  have HOK := Lib.hid hok
  have hw1 : IntKind.i64.wrap ((m : Int) - 1) = (m : Int) - 1 := Go.IntWalk.i64_in _ (by omega)
  have hlen24 : (([] : List (List Int)).length + m) * 24 ≤ 140737488355328 := by simp; omega
  have hne : p.rows ≠ [] := by intro e; have h := hrl.out; rw [e] at h; simp at h; omega
  have HNR := Lib.hid hNR
  have HNB := Lib.hid hNB
  have HNE := Lib.hid hne
  clear hNR hNB hne
  clear hM
  go_enter Try.func3, Try.ntmps3
  go_wp2_with fail
  refine (lnexample_any _).mono ?_
  rintro e w1 ⟨rfl, hB1⟩
  have D1 := dstep w hB1 (by repeat (first | with_reducible exact Below.refl _ _ | with_reducible apply bdrew | with_reducible apply bdrewN | with_reducible apply balloc | ((with_reducible refine bset ?_ ?_ _); rotate_left; (first | omega | (simp <;> omega)))))
  have d1s := D1.size
  have C1 := Cls.below (l := [(w.heap.size, 0, .slice AR m cr), (w.heap.size, 1, .slice AB m cb), (w.heap.size, 2, .slice AO n co)]) hB1 (by simp [Cls, go_sem])
  have F1 := C1
  simp only [Cls, and_true] at F1
  have y1w0 : w.heap.size < w1.heap.size := C1.blk (b := w.heap.size) (k := 0) (v := .slice AR m cr) (by simp)
  have y1wp1 : w.heap.size < w1.heap.size + 1 := (by omega)
  have y1wp2 : w.heap.size < w1.heap.size + 1 + 1 := (by omega)
  go_wp2_with fail
  refine (solve_any _ AR AB AO cr cb co p (HM.out.below (by repeat (first | with_reducible exact D1 | with_reducible apply bdrew | with_reducible apply bdrewN | with_reducible apply balloc | ((with_reducible refine bset ?_ ?_ _); rotate_left; (first | omega | (simp <;> omega)))))) m m n hrl hbl hol).mono ?_
  rintro e w2 ⟨c2, c22, st2, num2, den2, dx2, dy2, dr2, Ax2, Ay2, Ar2, lx2, ly2, lr2, xs2, ys2, rs2, rfl, HF2, HL2, HZ2, HS2, HX2, hB2⟩
  have D2 := dstep w hB2 (by repeat (first | with_reducible exact D1 | with_reducible apply bdrew | with_reducible apply bdrewN | with_reducible apply balloc | ((with_reducible refine bset ?_ ?_ _); rotate_left; (first | omega | (simp <;> omega)))))
  have d2s := D2.size
  have C2 := Cls.below (l := [(w.heap.size, 0, .slice AR m cr), (w.heap.size, 1, .slice AB m cb), (w.heap.size, 2, .slice AO n co)]) hB2 (by simp [Cls, go_sem, F1, y1w0, y1wp1, y1wp2])
  have F2 := C2
  simp only [Cls, and_true] at F2
  have y2w0 : w.heap.size < w2.heap.size := C2.blk (b := w.heap.size) (k := 0) (v := .slice AR m cr) (by simp)
  have y2wp1 : w.heap.size < w2.heap.size + 1 := (by omega)
  have y2wp2 : w.heap.size < w2.heap.size + 1 + 1 := (by omega)
  obtain rfl : c2 = 0 := by have h := HF2.out; rw [lpF_ok HOK.out] at h; injection h with h; exact h.symm
  have HSO := Lib.hid (HS2.out rfl)
  clear HS2 HZ2 HF2 HX2 HL2
  go_wp2_with fail
  refine (in_yes _ _ _ _ (by omega) (by omega)).mono ?_
  rintro e w' ⟨rfl, rfl⟩
  go_wp2_with fail
  refine (in_yes _ _ _ _ (by omega) (by omega)).mono ?_
  rintro e w' ⟨rfl, rfl⟩
  have d2s := D2.size
  go_upto_region 6 with fail
  have D3 : Below w.heap.size w ((w2.alloc (.cells #[.int .i64 st2, .int .i64 num2, .int .i64 den2, .slice Ax2 lx2 lx2, .int .i64 dx2, .slice Ay2 ly2 ly2, .int .i64 dy2, .slice Ar2 lr2 lr2, .int .i64 dr2] 32)).alloc (.cells #[.int .i64 0, .int .i64 c22] 34)) := by repeat (first | with_reducible exact D2 | with_reducible apply bdrew | with_reducible apply bdrewN | with_reducible apply balloc | ((with_reducible refine bset ?_ ?_ _); rotate_left; (first | omega | (simp <;> omega))))
  have C3 : Cls ((w2.alloc (.cells #[.int .i64 st2, .int .i64 num2, .int .i64 den2, .slice Ax2 lx2 lx2, .int .i64 dx2, .slice Ay2 ly2 ly2, .int .i64 dy2, .slice Ar2 lr2 lr2, .int .i64 dr2] 32)).alloc (.cells #[.int .i64 0, .int .i64 c22] 34)) [(w.heap.size, 0, .slice AR m cr), (w.heap.size, 1, .slice AB m cb), (w.heap.size, 2, .slice AO n co), (w2.heap.size, 0, .int .i64 st2), (w2.heap.size, 1, .int .i64 num2), (w2.heap.size, 2, .int .i64 den2), (w2.heap.size, 3, .slice Ax2 lx2 lx2), (w2.heap.size, 4, .int .i64 dx2), (w2.heap.size, 5, .slice Ay2 ly2 ly2), (w2.heap.size, 6, .int .i64 dy2), (w2.heap.size, 7, .slice Ar2 lr2 lr2), (w2.heap.size, 8, .int .i64 dr2), (w2.heap.size + 1, 0, .int .i64 0), (w2.heap.size + 1, 1, .int .i64 c22)] := by simp [Cls, go_sem, F2, y2w0, y2wp1, y2wp2]
  have sz3 : w2.heap.size + 1 < ((w2.alloc (.cells #[.int .i64 st2, .int .i64 num2, .int .i64 den2, .slice Ax2 lx2 lx2, .int .i64 dx2, .slice Ay2 ly2 ly2, .int .i64 dy2, .slice Ar2 lr2 lr2, .int .i64 dr2] 32)).alloc (.cells #[.int .i64 0, .int .i64 c22] 34)).heap.size := by simp
  generalize ((w2.alloc (.cells #[.int .i64 st2, .int .i64 num2, .int .i64 den2, .slice Ax2 lx2 lx2, .int .i64 dx2, .slice Ay2 ly2 ly2, .int .i64 dy2, .slice Ar2 lr2 lr2, .int .i64 dr2] 32)).alloc (.cells #[.int .i64 0, .int .i64 c22] 34)) = w3 at D3 C3 sz3 ⊢
  have d3s := D3.size
  have F3 := C3
  simp only [Cls, and_true] at F3
  have y3w0 : w.heap.size < w3.heap.size := C3.blk (b := w.heap.size) (k := 0) (v := .slice AR m cr) (by simp)
  have y3wp1 : w.heap.size < w3.heap.size + 1 := (by omega)
  have y3wp2 : w.heap.size < w3.heap.size + 1 + 1 := (by omega)
  have y3w21 : w2.heap.size + 1 < w3.heap.size := C3.blk (b := w2.heap.size + 1) (k := 0) (v := .int .i64 0) (by simp)
  have y3w20 : w2.heap.size < w3.heap.size := (by omega)
  have y3w2p1 : w2.heap.size < w3.heap.size + 1 := (by omega)
  have y3w2p2 : w2.heap.size < w3.heap.size + 1 + 1 := (by omega)
  go_cut [9] (fun v wx => ∃ (gq g cg : Nat) (A' : Option Addr) (ca : Nat), v = .pointer (some ⟨gq, 0, none⟩) ∧ w2.heap.size + 1 < gq ∧ w2.heap.size + 1 < g ∧ g ≠ gq ∧ g < wx.heap.size ∧ RowsAt w.heap.size wx g p.rows ∧ OwnI w2.heap.size wx (.slice A' m ca) p.bounds ∧ (∀ ad, A' = some ad → w2.heap.size + 1 < ad.block ∧ ad.block ≠ g ∧ ad.block ≠ gq) ∧ Below w.heap.size w wx ∧ Cls wx ([(w.heap.size, 0, .slice AR m cr), (w.heap.size, 1, .slice AB m cb), (w.heap.size, 2, .slice AO n co), (w2.heap.size, 0, .int .i64 st2), (w2.heap.size, 1, .int .i64 num2), (w2.heap.size, 2, .int .i64 den2), (w2.heap.size, 3, .slice Ax2 lx2 lx2), (w2.heap.size, 4, .int .i64 dx2), (w2.heap.size, 5, .slice Ay2 ly2 ly2), (w2.heap.size, 6, .int .i64 dy2), (w2.heap.size, 7, .slice Ar2 lr2 lr2), (w2.heap.size, 8, .int .i64 dr2), (w2.heap.size + 1, 0, .int .i64 0), (w2.heap.size + 1, 1, .int .i64 c22)] ++ [(gq, 0, .slice (some ⟨g, 0, none⟩) m cg), (gq, 1, .slice A' m ca), (gq, 2, .slice AO n co)]))
  case first =>
    refine wp_region_held_drew (S := fun W => W.cell? ⟨w.heap.size, 0, none⟩ = some (.slice AR m cr) ∧ W.cell? ⟨w.heap.size, 1, none⟩ = some (.slice AB m cb) ∧ W.cell? ⟨w.heap.size, 2, none⟩ = some (.slice AO n co)) (by kernel_rfl) (by simp [go_sem, F3, y3w0, y3wp1, y3wp2, y3w21, y3w20, y3w2p1, y3w2p2]) (fun hHeld => ?_)
    refine wpAnyH_take (i := 0) (v := ?vo10) rfl (by kernel_rfl) (by kernel_rfl) (by kernel_rfl) (fun _ _ _ h => h) (Or.inl ⟨by rfl, ?ho10⟩) (by assumption) ?ro10
    case ho10 => (intro w hSw; (try dsimp only at hSw); go_simp; (try with_reducible rfl))
    try simp only [Act.put, List.getElem_toArray, List.getElem_cons_succ, List.getElem_cons_zero, List.setIfInBounds_toArray, List.set_cons_zero, List.set_cons_succ]
    refine wpAnyH_take (i := 1) (v := ?vo11) rfl (by kernel_rfl) (by kernel_rfl) (by kernel_rfl) (fun _ _ _ h => h) (Or.inl ⟨by rfl, ?ho11⟩) (by assumption) ?ro11
    case ho11 => (intro w hSw; (try dsimp only at hSw); go_simp; (try with_reducible rfl))
    try simp only [Act.put, List.getElem_toArray, List.getElem_cons_succ, List.getElem_cons_zero, List.setIfInBounds_toArray, List.set_cons_zero, List.set_cons_succ]
    refine wpAnyH_take (i := 3) (v := ?vo13) rfl (by kernel_rfl) (by kernel_rfl) (by kernel_rfl) (fun _ _ _ h => h) (Or.inl ⟨by rfl, ?ho13⟩) (by assumption) ?ro13
    case ho13 => (intro w hSw; (try dsimp only at hSw); go_simp; (try with_reducible rfl))
    try simp only [Act.put, List.getElem_toArray, List.getElem_cons_succ, List.getElem_cons_zero, List.setIfInBounds_toArray, List.set_cons_zero, List.set_cons_succ]
    refine wpAnyH_take (i := 4) (v := ?vo14) rfl (by kernel_rfl) (by kernel_rfl) (by kernel_rfl) (fun _ _ _ h => h) (Or.inl ⟨by rfl, ?ho14⟩) (by assumption) ?ro14
    case ho14 => (intro w hSw; (try dsimp only at hSw); go_simp; (try with_reducible rfl))
    try simp only [Act.put, List.getElem_toArray, List.getElem_cons_succ, List.getElem_cons_zero, List.setIfInBounds_toArray, List.set_cons_zero, List.set_cons_succ]
    refine wpAnyH_take (i := 6) (v := ?vo16) rfl (by kernel_rfl) (by kernel_rfl) (by kernel_rfl) (fun _ _ _ h => h) (Or.inl ⟨by rfl, ?ho16⟩) (by assumption) ?ro16
    case ho16 => (intro w hSw; (try dsimp only at hSw); go_simp; (try with_reducible rfl))
    try simp only [Act.put, List.getElem_toArray, List.getElem_cons_succ, List.getElem_cons_zero, List.setIfInBounds_toArray, List.set_cons_zero, List.set_cons_succ]
    refine wpAnyH_take (i := 7) (v := ?vo17) rfl (by kernel_rfl) (by kernel_rfl) (by kernel_rfl) (fun _ _ _ h => h) (Or.inl ⟨by rfl, ?ho17⟩) (by assumption) ?ro17
    case ho17 => (intro w hSw; (try dsimp only at hSw); go_simp; (try with_reducible rfl))
    try simp only [Act.put, List.getElem_toArray, List.getElem_cons_succ, List.getElem_cons_zero, List.setIfInBounds_toArray, List.set_cons_zero, List.set_cons_succ]
    refine wpAnyH_ready (rs := [2, 9]) (by kernel_rfl) (by simp) ?_
    refine (AllReadyH.cons rfl (fun K hK => ?bo11x2) (AllReadyH.cons rfl (fun K hK => ?bo11x9) AllReadyH.nil))
    case bo11x2 =>
      refine step_catL (Kb := w.heap.size) rfl (.const (.slice none 0 0)) (.tmp 58) rfl w [(w.heap.size, 0, .slice AR m cr), (w.heap.size, 1, .slice AB m cb), (w.heap.size, 2, .slice AO n co), (w2.heap.size, 0, .int .i64 st2), (w2.heap.size, 1, .int .i64 num2), (w2.heap.size, 2, .int .i64 den2), (w2.heap.size, 3, .slice Ax2 lx2 lx2), (w2.heap.size, 4, .int .i64 dx2), (w2.heap.size, 5, .slice Ay2 ly2 ly2), (w2.heap.size, 6, .int .i64 dy2), (w2.heap.size, 7, .slice Ar2 lr2 lr2), (w2.heap.size, 8, .int .i64 dr2), (w2.heap.size + 1, 0, .int .i64 0), (w2.heap.size + 1, 1, .int .i64 c22)] (w3.heap.size) (.slice none 0 0) [] rfl (OwnEs.nil _ _) AR cr m p.rows rfl hrl.out HNR.out ?n1_1 p.rows (List.nil_append _) ?n2_1 hlen24 (by simp) ?n4_1 ?n5_1 ?n6_1 ?n7_1 ?nn_1
      case n1_1 => exact HM.out.rows.below (by repeat (first | with_reducible exact D3 | with_reducible apply bdrew | with_reducible apply bdrewN | with_reducible apply balloc | ((with_reducible refine bset ?_ ?_ _); rotate_left; (first | omega | (simp <;> omega)))))
      case n2_1 => exact fun i r B cc hr hne hc => ⟨RowsRead.old HM.out.rows (by repeat (first | with_reducible exact D3 | with_reducible apply bdrew | with_reducible apply bdrewN | with_reducible apply balloc | ((with_reducible refine bset ?_ ?_ _); rotate_left; (first | omega | (simp <;> omega))))) i r B cc hr hne hc, fun h => by cases h⟩
      case n4_1 => (first | omega | (simp <;> omega))
      case n5_1 => repeat (first | with_reducible exact D3 | with_reducible apply bdrew | with_reducible apply bdrewN | with_reducible apply balloc | ((with_reducible refine bset ?_ ?_ _); rotate_left; (first | omega | (simp <;> omega))))
      case n6_1 => simp [Cls, go_sem, F3, y3w0, y3wp1, y3wp2, y3w21, y3w20, y3w2p1, y3w2p2]
      case n7_1 => (simp <;> omega)
      all_goals first | done | skip
      intro vR4 w4 oR4 D4 C4 sz4
      obtain ⟨gR, cR, hvR, hgb, hglt, hRA⟩ := OwnLO.at_block oR4 HNE.out
      rw [hrl.out] at hvR
      subst hvR
      have hRA := Lib.hid hRA
      have hgb' : w2.heap.size + 1 < gR := (by (try simp at hgb); omega)
      have d4s := D4.size
      (try simp at sz4)
      clear oR4
      have F4 := C4
      simp only [Cls, and_true] at F4
      have y4w0 : w.heap.size < w4.heap.size := C4.blk (b := w.heap.size) (k := 0) (v := .slice AR m cr) (by simp)
      have y4wp1 : w.heap.size < w4.heap.size + 1 := (by omega)
      have y4wp2 : w.heap.size < w4.heap.size + 1 + 1 := (by omega)
      have y4w21 : w2.heap.size + 1 < w4.heap.size := C4.blk (b := w2.heap.size + 1) (k := 0) (v := .int .i64 0) (by simp)
      have y4w20 : w2.heap.size < w4.heap.size := (by omega)
      have y4w2p1 : w2.heap.size < w4.heap.size + 1 := (by omega)
      have y4w2p2 : w2.heap.size < w4.heap.size + 1 + 1 := (by omega)
      have hSS : w4.cell? ⟨w.heap.size, 0, none⟩ = some (.slice AR m cr) ∧ w4.cell? ⟨w.heap.size, 1, none⟩ = some (.slice AB m cb) ∧ w4.cell? ⟨w.heap.size, 2, none⟩ = some (.slice AO n co) := (by simp [F4])
      go_wp2_with fail
      refine hK.out _ _ hSS (fun hHeld => ?_)
      clear hK K
      try simp only [Act.put, List.getElem_toArray, List.getElem_cons_succ, List.getElem_cons_zero, List.setIfInBounds_toArray, List.set_cons_zero, List.set_cons_succ]
      refine wpAnyH_ready (rs := [5, 9]) (by kernel_rfl) (by simp) ?_
      refine (AllReadyH.cons rfl (fun K hK => ?bo12x5) (AllReadyH.cons rfl (fun K hK => ?bo12x9) AllReadyH.nil))
      case bo12x5 =>
        go_simp
        go_at_call 13
        refine (copy_any _ AB cb m p.bounds (HM.out.bounds.below (by repeat (first | with_reducible exact D4 | with_reducible apply bdrew | with_reducible apply bdrewN | with_reducible apply balloc | ((with_reducible refine bset ?_ ?_ _); rotate_left; (first | omega | (simp <;> omega)))))) hbl.out HNB.out.1 (by omega)).mono ?_
        rintro e w5 ⟨A', ca, rfl, oB, -, hB5⟩
        have D5 := dstep w hB5 (by repeat (first | with_reducible exact D4 | with_reducible apply bdrew | with_reducible apply bdrewN | with_reducible apply balloc | ((with_reducible refine bset ?_ ?_ _); rotate_left; (first | omega | (simp <;> omega)))))
        have d5s := D5.size
        have hRA5 := Lib.hid (hRA.out.below hglt (by repeat (first | with_reducible exact Below.refl _ _ | with_reducible apply bdrew | with_reducible apply bdrewN | with_reducible apply balloc | ((with_reducible refine bset ?_ ?_ _); rotate_left; (first | omega | (simp <;> omega)))) : Below w4.heap.size w4 _))
        have hRA5' : Hid (RowsAt w.heap.size w5 gR p.rows) := Lib.hid (hRA.out.below hglt (dstep w4 hB5 (by repeat (first | with_reducible exact Below.refl _ _ | with_reducible apply bdrew | with_reducible apply bdrewN | with_reducible apply balloc | ((with_reducible refine bset ?_ ?_ _); rotate_left; (first | omega | (simp <;> omega)))))))
        have hbk := fun ad (e : A' = some ad) => oB.blk_ ad e
        have hsz5 := hB5.size
        (try simp at hbk hsz5)
        have C5 := Cls.below (l := [(w.heap.size, 0, .slice AR m cr), (w.heap.size, 1, .slice AB m cb), (w.heap.size, 2, .slice AO n co), (w2.heap.size, 0, .int .i64 st2), (w2.heap.size, 1, .int .i64 num2), (w2.heap.size, 2, .int .i64 den2), (w2.heap.size, 3, .slice Ax2 lx2 lx2), (w2.heap.size, 4, .int .i64 dx2), (w2.heap.size, 5, .slice Ay2 ly2 ly2), (w2.heap.size, 6, .int .i64 dy2), (w2.heap.size, 7, .slice Ar2 lr2 lr2), (w2.heap.size, 8, .int .i64 dr2), (w2.heap.size + 1, 0, .int .i64 0), (w2.heap.size + 1, 1, .int .i64 c22)]) hB5 (by simp [Cls, go_sem, F4, y4w0, y4wp1, y4wp2, y4w21, y4w20, y4w2p1, y4w2p2])
        have F5 := C5
        simp only [Cls, and_true] at F5
        have y5w0 : w.heap.size < w5.heap.size := C5.blk (b := w.heap.size) (k := 0) (v := .slice AR m cr) (by simp)
        have y5wp1 : w.heap.size < w5.heap.size + 1 := (by omega)
        have y5wp2 : w.heap.size < w5.heap.size + 1 + 1 := (by omega)
        have y5w21 : w2.heap.size + 1 < w5.heap.size := C5.blk (b := w2.heap.size + 1) (k := 0) (v := .int .i64 0) (by simp)
        have y5w20 : w2.heap.size < w5.heap.size := (by omega)
        have y5w2p1 : w2.heap.size < w5.heap.size + 1 := (by omega)
        have y5w2p2 : w2.heap.size < w5.heap.size + 1 + 1 := (by omega)
        have oB := Lib.hid (OwnI.mono (base' := w2.heap.size) oB (by (first | omega | (simp <;> omega))))
        have hSS : w5.cell? ⟨w.heap.size, 0, none⟩ = some (.slice AR m cr) ∧ w5.cell? ⟨w.heap.size, 1, none⟩ = some (.slice AB m cb) ∧ w5.cell? ⟨w.heap.size, 2, none⟩ = some (.slice AO n co) := (by simp [F5])
        go_wp2_with fail
        refine hK.out _ _ hSS (fun hHeld => ?_)
        clear hK K
        try simp only [Act.put, List.getElem_toArray, List.getElem_cons_succ, List.getElem_cons_zero, List.setIfInBounds_toArray, List.set_cons_zero, List.set_cons_succ]
        refine wpAnyH_take (i := 8) (v := ?vo1e38) rfl (by kernel_rfl) (by kernel_rfl) (by kernel_rfl) (fun _ _ _ h => h) (Or.inl ⟨by rfl, ?ho1e38⟩) (by assumption) ?ro1e38
        case ho1e38 => (intro w hSw; (try dsimp only at hSw); go_simp; (try with_reducible rfl))
        try simp only [Act.put, List.getElem_toArray, List.getElem_cons_succ, List.getElem_cons_zero, List.setIfInBounds_toArray, List.set_cons_zero, List.set_cons_succ]
        refine wpAnyH_ready (rs := [9]) (by kernel_rfl) (by simp) ?_
        refine (AllReadyH.cons rfl (fun K hK => ?bo14x9) AllReadyH.nil)
        case bo14x9 =>
          go_simp
          have hSS : (w5.alloc (.cells #[.slice none 0 0, .slice none 0 0, .slice none 0 0] 25)).cell? ⟨w.heap.size, 0, none⟩ = some (.slice AR m cr) ∧ (w5.alloc (.cells #[.slice none 0 0, .slice none 0 0, .slice none 0 0] 25)).cell? ⟨w.heap.size, 1, none⟩ = some (.slice AB m cb) ∧ (w5.alloc (.cells #[.slice none 0 0, .slice none 0 0, .slice none 0 0] 25)).cell? ⟨w.heap.size, 2, none⟩ = some (.slice AO n co) := (by simp [go_sem, F5, y5w0, y5wp1, y5wp2, y5w21, y5w20, y5w2p1, y5w2p2])
          have hvg : ¬ gR = w5.heap.size := (by omega)
          go_wp2_with fail
          refine hK.out _ _ hSS (fun hHeld => ?_)
          clear hK K
          try simp only [Act.put, List.getElem_toArray, List.getElem_cons_succ, List.getElem_cons_zero, List.setIfInBounds_toArray, List.set_cons_zero, List.set_cons_succ]
          refine wpAnyH_ready (rs := [10]) (by kernel_rfl) (by simp) ?_
          refine AllReadyH.cons rfl (fun K hK => ?_) AllReadyH.nil
          go_simp
          go_wp2_with fail
          refine hK.out _ _ (by simp [go_sem, F5, y5w0, y5wp1, y5wp2, y5w21, y5w20, y5w2p1, y5w2p2]) (fun hHeld => ?_)
          clear hK K
          try simp only [Act.put, List.getElem_toArray, List.getElem_cons_succ, List.getElem_cons_zero, List.setIfInBounds_toArray, List.set_cons_zero, List.set_cons_succ]
          refine wpAnyH_done (by kernel_rfl) ?_ _
          go_wp2_with fail
          go_meet
          refine ⟨w5.heap.size, gR, cR, A', ca, rfl, by (first | omega | (simp <;> omega)), hgb', hvg, by (first | omega | (simp <;> omega)), ?_, ?_, fun ad e => ⟨by have := hbk ad e; omega, by have := hbk ad e; omega, by have := hbk ad e; omega⟩, by repeat (first | with_reducible exact D5 | with_reducible apply bdrew | with_reducible apply bdrewN | with_reducible apply balloc | ((with_reducible refine bset ?_ ?_ _); rotate_left; (first | omega | (simp <;> omega)))), by simp [Cls, go_sem, F5, y5w0, y5wp1, y5wp2, y5w21, y5w20, y5w2p1, y5w2p2]⟩
          · repeat (first | with_reducible exact hRA5'.out | (with_reducible refine RowsAt.far ?_ ?_ ?_ _; rotate_left; (first | omega | (dsimp only; omega) | (simp <;> omega)); (first | omega | (dsimp only; omega) | (simp <;> omega))) | (with_reducible refine RowsAt.alloc_ ?_ ?_ _; rotate_left; (first | omega | (simp <;> omega))))
          · repeat (first | with_reducible exact oB.out | (with_reducible refine OwnI.apart2 ?_ ?_ _; rotate_left; (intro ad e; have := hbk ad e; dsimp only; omega)) | (with_reducible refine OwnI.alloc_ ?_ _))
      case bo12x9 =>
        go_simp
        have hSS : (w4.alloc (.cells #[.slice none 0 0, .slice none 0 0, .slice none 0 0] 25)).cell? ⟨w.heap.size, 0, none⟩ = some (.slice AR m cr) ∧ (w4.alloc (.cells #[.slice none 0 0, .slice none 0 0, .slice none 0 0] 25)).cell? ⟨w.heap.size, 1, none⟩ = some (.slice AB m cb) ∧ (w4.alloc (.cells #[.slice none 0 0, .slice none 0 0, .slice none 0 0] 25)).cell? ⟨w.heap.size, 2, none⟩ = some (.slice AO n co) := (by simp [go_sem, F4, y4w0, y4wp1, y4wp2, y4w21, y4w20, y4w2p1, y4w2p2])
        have hvg : ¬ gR = w4.heap.size := (by omega)
        go_wp2_with fail
        refine hK.out _ _ hSS (fun hHeld => ?_)
        clear hK K
        try simp only [Act.put, List.getElem_toArray, List.getElem_cons_succ, List.getElem_cons_zero, List.setIfInBounds_toArray, List.set_cons_zero, List.set_cons_succ]
        refine wpAnyH_ready (rs := [5]) (by kernel_rfl) (by simp) ?_
        refine (AllReadyH.cons rfl (fun K hK => ?bo16x5) AllReadyH.nil)
        case bo16x5 =>
          go_simp
          go_at_call 13
          refine (copy_any _ AB cb m p.bounds (HM.out.bounds.below (by repeat (first | with_reducible exact D4 | with_reducible apply bdrew | with_reducible apply bdrewN | with_reducible apply balloc | ((with_reducible refine bset ?_ ?_ _); rotate_left; (first | omega | (simp <;> omega)))))) hbl.out HNB.out.1 (by omega)).mono ?_
          rintro e w5 ⟨A', ca, rfl, oB, -, hB5⟩
          have D5 := dstep w hB5 (by repeat (first | with_reducible exact D4 | with_reducible apply bdrew | with_reducible apply bdrewN | with_reducible apply balloc | ((with_reducible refine bset ?_ ?_ _); rotate_left; (first | omega | (simp <;> omega)))))
          have d5s := D5.size
          have hRA5 := Lib.hid (hRA.out.below hglt (by repeat (first | with_reducible exact Below.refl _ _ | with_reducible apply bdrew | with_reducible apply bdrewN | with_reducible apply balloc | ((with_reducible refine bset ?_ ?_ _); rotate_left; (first | omega | (simp <;> omega)))) : Below w4.heap.size w4 (w4.alloc (.cells #[.slice none 0 0, .slice none 0 0, .slice none 0 0] 25))))
          have hRA5' : Hid (RowsAt w.heap.size w5 gR p.rows) := Lib.hid (hRA.out.below hglt (dstep w4 hB5 (by repeat (first | with_reducible exact Below.refl _ _ | with_reducible apply bdrew | with_reducible apply bdrewN | with_reducible apply balloc | ((with_reducible refine bset ?_ ?_ _); rotate_left; (first | omega | (simp <;> omega)))))))
          have hbk := fun ad (e : A' = some ad) => oB.blk_ ad e
          have hsz5 := hB5.size
          (try simp at hbk hsz5)
          have C5 := Cls.below (l := [(w.heap.size, 0, .slice AR m cr), (w.heap.size, 1, .slice AB m cb), (w.heap.size, 2, .slice AO n co), (w2.heap.size, 0, .int .i64 st2), (w2.heap.size, 1, .int .i64 num2), (w2.heap.size, 2, .int .i64 den2), (w2.heap.size, 3, .slice Ax2 lx2 lx2), (w2.heap.size, 4, .int .i64 dx2), (w2.heap.size, 5, .slice Ay2 ly2 ly2), (w2.heap.size, 6, .int .i64 dy2), (w2.heap.size, 7, .slice Ar2 lr2 lr2), (w2.heap.size, 8, .int .i64 dr2), (w2.heap.size + 1, 0, .int .i64 0), (w2.heap.size + 1, 1, .int .i64 c22), (w4.heap.size, 0, .slice none 0 0), (w4.heap.size, 1, .slice none 0 0), (w4.heap.size, 2, .slice none 0 0)]) hB5 (by simp [Cls, go_sem, F4, y4w0, y4wp1, y4wp2, y4w21, y4w20, y4w2p1, y4w2p2])
          have F5 := C5
          simp only [Cls, and_true] at F5
          have y5w0 : w.heap.size < w5.heap.size := C5.blk (b := w.heap.size) (k := 0) (v := .slice AR m cr) (by simp)
          have y5wp1 : w.heap.size < w5.heap.size + 1 := (by omega)
          have y5wp2 : w.heap.size < w5.heap.size + 1 + 1 := (by omega)
          have y5w21 : w2.heap.size + 1 < w5.heap.size := C5.blk (b := w2.heap.size + 1) (k := 0) (v := .int .i64 0) (by simp)
          have y5w20 : w2.heap.size < w5.heap.size := (by omega)
          have y5w2p1 : w2.heap.size < w5.heap.size + 1 := (by omega)
          have y5w2p2 : w2.heap.size < w5.heap.size + 1 + 1 := (by omega)
          have y5w40 : w4.heap.size < w5.heap.size := C5.blk (b := w4.heap.size) (k := 0) (v := .slice none 0 0) (by simp)
          have y5w4p1 : w4.heap.size < w5.heap.size + 1 := (by omega)
          have y5w4p2 : w4.heap.size < w5.heap.size + 1 + 1 := (by omega)
          have oB := Lib.hid (OwnI.mono (base' := w2.heap.size) oB (by (first | omega | (simp <;> omega))))
          have hSS : w5.cell? ⟨w.heap.size, 0, none⟩ = some (.slice AR m cr) ∧ w5.cell? ⟨w.heap.size, 1, none⟩ = some (.slice AB m cb) ∧ w5.cell? ⟨w.heap.size, 2, none⟩ = some (.slice AO n co) := (by simp [F5])
          go_wp2_with fail
          refine hK.out _ _ hSS (fun hHeld => ?_)
          clear hK K
          try simp only [Act.put, List.getElem_toArray, List.getElem_cons_succ, List.getElem_cons_zero, List.setIfInBounds_toArray, List.set_cons_zero, List.set_cons_succ]
          refine wpAnyH_take (i := 8) (v := ?vo1e78) rfl (by kernel_rfl) (by kernel_rfl) (by kernel_rfl) (fun _ _ _ h => h) (Or.inl ⟨by rfl, ?ho1e78⟩) (by assumption) ?ro1e78
          case ho1e78 => (intro w hSw; (try dsimp only at hSw); go_simp; (try with_reducible rfl))
          try simp only [Act.put, List.getElem_toArray, List.getElem_cons_succ, List.getElem_cons_zero, List.setIfInBounds_toArray, List.set_cons_zero, List.set_cons_succ]
          refine wpAnyH_ready (rs := [10]) (by kernel_rfl) (by simp) ?_
          refine AllReadyH.cons rfl (fun K hK => ?_) AllReadyH.nil
          go_simp
          go_wp2_with fail
          refine hK.out _ _ (by simp [go_sem, F5, y5w0, y5wp1, y5wp2, y5w21, y5w20, y5w2p1, y5w2p2, y5w40, y5w4p1, y5w4p2]) (fun hHeld => ?_)
          clear hK K
          try simp only [Act.put, List.getElem_toArray, List.getElem_cons_succ, List.getElem_cons_zero, List.setIfInBounds_toArray, List.set_cons_zero, List.set_cons_succ]
          refine wpAnyH_done (by kernel_rfl) ?_ _
          go_wp2_with fail
          go_meet
          refine ⟨w4.heap.size, gR, cR, A', ca, rfl, by (first | omega | (simp <;> omega)), hgb', hvg, by (first | omega | (simp <;> omega)), ?_, ?_, fun ad e => ⟨by have := hbk ad e; omega, by have := hbk ad e; omega, by have := hbk ad e; omega⟩, by repeat (first | with_reducible exact D5 | with_reducible apply bdrew | with_reducible apply bdrewN | with_reducible apply balloc | ((with_reducible refine bset ?_ ?_ _); rotate_left; (first | omega | (simp <;> omega)))), by simp [Cls, go_sem, F5, y5w0, y5wp1, y5wp2, y5w21, y5w20, y5w2p1, y5w2p2, y5w40, y5w4p1, y5w4p2]⟩
          · repeat (first | with_reducible exact hRA5'.out | (with_reducible refine RowsAt.far ?_ ?_ ?_ _; rotate_left; (first | omega | (dsimp only; omega) | (simp <;> omega)); (first | omega | (dsimp only; omega) | (simp <;> omega))) | (with_reducible refine RowsAt.alloc_ ?_ ?_ _; rotate_left; (first | omega | (simp <;> omega))))
          · repeat (first | with_reducible exact oB.out | (with_reducible refine OwnI.apart2 ?_ ?_ _; rotate_left; (intro ad e; have := hbk ad e; dsimp only; omega)) | (with_reducible refine OwnI.alloc_ ?_ _))
    case bo11x9 =>
      go_simp
      have hSS : (w3.alloc (.cells #[.slice none 0 0, .slice none 0 0, .slice none 0 0] 25)).cell? ⟨w.heap.size, 0, none⟩ = some (.slice AR m cr) ∧ (w3.alloc (.cells #[.slice none 0 0, .slice none 0 0, .slice none 0 0] 25)).cell? ⟨w.heap.size, 1, none⟩ = some (.slice AB m cb) ∧ (w3.alloc (.cells #[.slice none 0 0, .slice none 0 0, .slice none 0 0] 25)).cell? ⟨w.heap.size, 2, none⟩ = some (.slice AO n co) := (by simp [go_sem, F3, y3w0, y3wp1, y3wp2, y3w21, y3w20, y3w2p1, y3w2p2])
      go_wp2_with fail
      refine hK.out _ _ hSS (fun hHeld => ?_)
      clear hK K
      try simp only [Act.put, List.getElem_toArray, List.getElem_cons_succ, List.getElem_cons_zero, List.setIfInBounds_toArray, List.set_cons_zero, List.set_cons_succ]
      refine wpAnyH_ready (rs := [2]) (by kernel_rfl) (by simp) ?_
      refine (AllReadyH.cons rfl (fun K hK => ?bo19x2) AllReadyH.nil)
      case bo19x2 =>
        refine step_catL (Kb := w.heap.size) rfl (.const (.slice none 0 0)) (.tmp 58) rfl w [(w.heap.size, 0, .slice AR m cr), (w.heap.size, 1, .slice AB m cb), (w.heap.size, 2, .slice AO n co), (w2.heap.size, 0, .int .i64 st2), (w2.heap.size, 1, .int .i64 num2), (w2.heap.size, 2, .int .i64 den2), (w2.heap.size, 3, .slice Ax2 lx2 lx2), (w2.heap.size, 4, .int .i64 dx2), (w2.heap.size, 5, .slice Ay2 ly2 ly2), (w2.heap.size, 6, .int .i64 dy2), (w2.heap.size, 7, .slice Ar2 lr2 lr2), (w2.heap.size, 8, .int .i64 dr2), (w2.heap.size + 1, 0, .int .i64 0), (w2.heap.size + 1, 1, .int .i64 c22), (w3.heap.size, 0, .slice none 0 0), (w3.heap.size, 1, .slice none 0 0), (w3.heap.size, 2, .slice none 0 0)] ((w3.alloc (.cells #[.slice none 0 0, .slice none 0 0, .slice none 0 0] 25)).heap.size) (.slice none 0 0) [] rfl (OwnEs.nil _ _) AR cr m p.rows rfl hrl.out HNR.out ?n1_2 p.rows (List.nil_append _) ?n2_2 hlen24 (by simp) ?n4_2 ?n5_2 ?n6_2 ?n7_2 ?nn_2
        case n1_2 => exact HM.out.rows.below (by repeat (first | with_reducible exact D3 | with_reducible apply bdrew | with_reducible apply bdrewN | with_reducible apply balloc | ((with_reducible refine bset ?_ ?_ _); rotate_left; (first | omega | (simp <;> omega)))))
        case n2_2 => exact fun i r B cc hr hne hc => ⟨RowsRead.old HM.out.rows (by repeat (first | with_reducible exact D3 | with_reducible apply bdrew | with_reducible apply bdrewN | with_reducible apply balloc | ((with_reducible refine bset ?_ ?_ _); rotate_left; (first | omega | (simp <;> omega))))) i r B cc hr hne hc, fun h => by cases h⟩
        case n4_2 => (first | omega | (simp <;> omega))
        case n5_2 => repeat (first | with_reducible exact D3 | with_reducible apply bdrew | with_reducible apply bdrewN | with_reducible apply balloc | ((with_reducible refine bset ?_ ?_ _); rotate_left; (first | omega | (simp <;> omega))))
        case n6_2 => simp [Cls, go_sem, F3, y3w0, y3wp1, y3wp2, y3w21, y3w20, y3w2p1, y3w2p2]
        case n7_2 => (simp <;> omega)
        all_goals first | done | skip
        intro vR4 w4 oR4 D4 C4 sz4
        obtain ⟨gR, cR, hvR, hgb, hglt, hRA⟩ := OwnLO.at_block oR4 HNE.out
        rw [hrl.out] at hvR
        subst hvR
        have hRA := Lib.hid hRA
        have hgb' : w2.heap.size + 1 < gR := (by (try simp at hgb); omega)
        have d4s := D4.size
        (try simp at sz4)
        have hvg : ¬ gR = w3.heap.size := (by (try simp at hgb); omega)
        clear oR4
        have F4 := C4
        simp only [Cls, and_true] at F4
        have y4w0 : w.heap.size < w4.heap.size := C4.blk (b := w.heap.size) (k := 0) (v := .slice AR m cr) (by simp)
        have y4wp1 : w.heap.size < w4.heap.size + 1 := (by omega)
        have y4wp2 : w.heap.size < w4.heap.size + 1 + 1 := (by omega)
        have y4w21 : w2.heap.size + 1 < w4.heap.size := C4.blk (b := w2.heap.size + 1) (k := 0) (v := .int .i64 0) (by simp)
        have y4w20 : w2.heap.size < w4.heap.size := (by omega)
        have y4w2p1 : w2.heap.size < w4.heap.size + 1 := (by omega)
        have y4w2p2 : w2.heap.size < w4.heap.size + 1 + 1 := (by omega)
        have y4w30 : w3.heap.size < w4.heap.size := C4.blk (b := w3.heap.size) (k := 0) (v := .slice none 0 0) (by simp)
        have y4w3p1 : w3.heap.size < w4.heap.size + 1 := (by omega)
        have y4w3p2 : w3.heap.size < w4.heap.size + 1 + 1 := (by omega)
        have hSS : w4.cell? ⟨w.heap.size, 0, none⟩ = some (.slice AR m cr) ∧ w4.cell? ⟨w.heap.size, 1, none⟩ = some (.slice AB m cb) ∧ w4.cell? ⟨w.heap.size, 2, none⟩ = some (.slice AO n co) := (by simp [F4])
        go_wp2_with fail
        refine hK.out _ _ hSS (fun hHeld => ?_)
        clear hK K
        try simp only [Act.put, List.getElem_toArray, List.getElem_cons_succ, List.getElem_cons_zero, List.setIfInBounds_toArray, List.set_cons_zero, List.set_cons_succ]
        refine wpAnyH_ready (rs := [5]) (by kernel_rfl) (by simp) ?_
        refine (AllReadyH.cons rfl (fun K hK => ?bo110x5) AllReadyH.nil)
        case bo110x5 =>
          go_simp
          go_at_call 13
          refine (copy_any _ AB cb m p.bounds (HM.out.bounds.below (by repeat (first | with_reducible exact D4 | with_reducible apply bdrew | with_reducible apply bdrewN | with_reducible apply balloc | ((with_reducible refine bset ?_ ?_ _); rotate_left; (first | omega | (simp <;> omega)))))) hbl.out HNB.out.1 (by omega)).mono ?_
          rintro e w5 ⟨A', ca, rfl, oB, -, hB5⟩
          have D5 := dstep w hB5 (by repeat (first | with_reducible exact D4 | with_reducible apply bdrew | with_reducible apply bdrewN | with_reducible apply balloc | ((with_reducible refine bset ?_ ?_ _); rotate_left; (first | omega | (simp <;> omega)))))
          have d5s := D5.size
          have hRA5 := Lib.hid (hRA.out.below hglt (by repeat (first | with_reducible exact Below.refl _ _ | with_reducible apply bdrew | with_reducible apply bdrewN | with_reducible apply balloc | ((with_reducible refine bset ?_ ?_ _); rotate_left; (first | omega | (simp <;> omega)))) : Below w4.heap.size w4 _))
          have hRA5' : Hid (RowsAt w.heap.size w5 gR p.rows) := Lib.hid (hRA.out.below hglt (dstep w4 hB5 (by repeat (first | with_reducible exact Below.refl _ _ | with_reducible apply bdrew | with_reducible apply bdrewN | with_reducible apply balloc | ((with_reducible refine bset ?_ ?_ _); rotate_left; (first | omega | (simp <;> omega)))))))
          have hbk := fun ad (e : A' = some ad) => oB.blk_ ad e
          have hsz5 := hB5.size
          (try simp at hbk hsz5)
          have C5 := Cls.below (l := [(w.heap.size, 0, .slice AR m cr), (w.heap.size, 1, .slice AB m cb), (w.heap.size, 2, .slice AO n co), (w2.heap.size, 0, .int .i64 st2), (w2.heap.size, 1, .int .i64 num2), (w2.heap.size, 2, .int .i64 den2), (w2.heap.size, 3, .slice Ax2 lx2 lx2), (w2.heap.size, 4, .int .i64 dx2), (w2.heap.size, 5, .slice Ay2 ly2 ly2), (w2.heap.size, 6, .int .i64 dy2), (w2.heap.size, 7, .slice Ar2 lr2 lr2), (w2.heap.size, 8, .int .i64 dr2), (w2.heap.size + 1, 0, .int .i64 0), (w2.heap.size + 1, 1, .int .i64 c22), (w3.heap.size, 0, .slice none 0 0), (w3.heap.size, 1, .slice none 0 0), (w3.heap.size, 2, .slice none 0 0)]) hB5 (by simp [Cls, go_sem, F4, y4w0, y4wp1, y4wp2, y4w21, y4w20, y4w2p1, y4w2p2, y4w30, y4w3p1, y4w3p2])
          have F5 := C5
          simp only [Cls, and_true] at F5
          have y5w0 : w.heap.size < w5.heap.size := C5.blk (b := w.heap.size) (k := 0) (v := .slice AR m cr) (by simp)
          have y5wp1 : w.heap.size < w5.heap.size + 1 := (by omega)
          have y5wp2 : w.heap.size < w5.heap.size + 1 + 1 := (by omega)
          have y5w21 : w2.heap.size + 1 < w5.heap.size := C5.blk (b := w2.heap.size + 1) (k := 0) (v := .int .i64 0) (by simp)
          have y5w20 : w2.heap.size < w5.heap.size := (by omega)
          have y5w2p1 : w2.heap.size < w5.heap.size + 1 := (by omega)
          have y5w2p2 : w2.heap.size < w5.heap.size + 1 + 1 := (by omega)
          have y5w30 : w3.heap.size < w5.heap.size := C5.blk (b := w3.heap.size) (k := 0) (v := .slice none 0 0) (by simp)
          have y5w3p1 : w3.heap.size < w5.heap.size + 1 := (by omega)
          have y5w3p2 : w3.heap.size < w5.heap.size + 1 + 1 := (by omega)
          have oB := Lib.hid (OwnI.mono (base' := w2.heap.size) oB (by (first | omega | (simp <;> omega))))
          have hSS : w5.cell? ⟨w.heap.size, 0, none⟩ = some (.slice AR m cr) ∧ w5.cell? ⟨w.heap.size, 1, none⟩ = some (.slice AB m cb) ∧ w5.cell? ⟨w.heap.size, 2, none⟩ = some (.slice AO n co) := (by simp [F5])
          go_wp2_with fail
          refine hK.out _ _ hSS (fun hHeld => ?_)
          clear hK K
          try simp only [Act.put, List.getElem_toArray, List.getElem_cons_succ, List.getElem_cons_zero, List.setIfInBounds_toArray, List.set_cons_zero, List.set_cons_succ]
          refine wpAnyH_take (i := 8) (v := ?vo1e118) rfl (by kernel_rfl) (by kernel_rfl) (by kernel_rfl) (fun _ _ _ h => h) (Or.inl ⟨by rfl, ?ho1e118⟩) (by assumption) ?ro1e118
          case ho1e118 => (intro w hSw; (try dsimp only at hSw); go_simp; (try with_reducible rfl))
          try simp only [Act.put, List.getElem_toArray, List.getElem_cons_succ, List.getElem_cons_zero, List.setIfInBounds_toArray, List.set_cons_zero, List.set_cons_succ]
          refine wpAnyH_ready (rs := [10]) (by kernel_rfl) (by simp) ?_
          refine AllReadyH.cons rfl (fun K hK => ?_) AllReadyH.nil
          go_simp
          go_wp2_with fail
          refine hK.out _ _ (by simp [go_sem, F5, y5w0, y5wp1, y5wp2, y5w21, y5w20, y5w2p1, y5w2p2, y5w30, y5w3p1, y5w3p2]) (fun hHeld => ?_)
          clear hK K
          try simp only [Act.put, List.getElem_toArray, List.getElem_cons_succ, List.getElem_cons_zero, List.setIfInBounds_toArray, List.set_cons_zero, List.set_cons_succ]
          refine wpAnyH_done (by kernel_rfl) ?_ _
          go_wp2_with fail
          go_meet
          refine ⟨w3.heap.size, gR, cR, A', ca, rfl, by (first | omega | (simp <;> omega)), hgb', hvg, by (first | omega | (simp <;> omega)), ?_, ?_, fun ad e => ⟨by have := hbk ad e; omega, by have := hbk ad e; omega, by have := hbk ad e; omega⟩, by repeat (first | with_reducible exact D5 | with_reducible apply bdrew | with_reducible apply bdrewN | with_reducible apply balloc | ((with_reducible refine bset ?_ ?_ _); rotate_left; (first | omega | (simp <;> omega)))), by simp [Cls, go_sem, F5, y5w0, y5wp1, y5wp2, y5w21, y5w20, y5w2p1, y5w2p2, y5w30, y5w3p1, y5w3p2]⟩
          · repeat (first | with_reducible exact hRA5'.out | (with_reducible refine RowsAt.far ?_ ?_ ?_ _; rotate_left; (first | omega | (dsimp only; omega) | (simp <;> omega)); (first | omega | (dsimp only; omega) | (simp <;> omega))) | (with_reducible refine RowsAt.alloc_ ?_ ?_ _; rotate_left; (first | omega | (simp <;> omega))))
          · repeat (first | with_reducible exact oB.out | (with_reducible refine OwnI.apart2 ?_ ?_ _; rotate_left; (intro ad e; have := hbk ad e; dsimp only; omega)) | (with_reducible refine OwnI.alloc_ ?_ _))
  case rest =>
    obtain ⟨w4, rfl⟩ : ∃ wo : World, wo = wc := ⟨_, rfl⟩
    obtain ⟨gq, g, cg, A', ca, rfl, hq1, hq2, hgq, hglt, hRA, hOB, hAb, D4, C4⟩ := hcut
    have hgq' : ¬ gq = g := fun e => hgq e.symm
    have hKg : w.heap.size ≤ g := by have := D2.size; omega
    obtain ⟨r, hr⟩ : ∃ r, Hid (p.rows[i]? = some r) := ⟨p.rows[i]'(by rw [hrl.out]; exact hi), Lib.hid (List.getElem?_eq_getElem _)⟩
    obtain ⟨q, hq⟩ : ∃ r, Hid (p.rows[k]? = some r) := ⟨p.rows[k]'(by rw [hrl.out]; exact hk), Lib.hid (List.getElem?_eq_getElem _)⟩
    obtain ⟨Bi, ci, hci, hIi, hni, hfi⟩ := hRA.2 i r hr.out
    obtain ⟨Bk, ck, hck, hIk, hnk, hfk⟩ := hRA.2 k q hq.out
    have HRn := Lib.hid (show r.length = n by rw [(HOK.out.row hr.out).1]; exact hol.out)
    have HQn := Lib.hid (show q.length = n by rw [(HOK.out.row hq.out).1]; exact hol.out)
    rw [HRn.out] at hci
    rw [HQn.out] at hck
    have hfz := hRA.1
    have HRA := Lib.hid hRA
    have HIi := Lib.hid hIi
    have HIk := Lib.hid hIk
    have HNi := Lib.hid hni
    have HNk := Lib.hid hnk
    have HFi := Lib.hid hfi
    have HFk := Lib.hid hfk
    have hi' : (i : Int) < (m : Int) := by omega
    have hk' : (k : Int) < (m : Int) := by omega
    obtain ⟨vk, hvk⟩ := cell?_setCell_some (w := w4) (p := ⟨g, i, none⟩) (x := .slice Bk n ck) (q := ⟨g, k, none⟩) (v := .slice Bk n ck) hck
    have HOB := Lib.hid hOB
    have d4s := D4.size
    clear hRA hIi hIk hni hnk hfi hfk hOB
    have C4 : Cls w4 [(w.heap.size, 0, .slice AR m cr), (w.heap.size, 1, .slice AB m cb), (w.heap.size, 2, .slice AO n co), (w2.heap.size, 0, .int .i64 st2), (w2.heap.size, 1, .int .i64 num2), (w2.heap.size, 2, .int .i64 den2), (w2.heap.size, 3, .slice Ax2 lx2 lx2), (w2.heap.size, 4, .int .i64 dx2), (w2.heap.size, 5, .slice Ay2 ly2 ly2), (w2.heap.size, 6, .int .i64 dy2), (w2.heap.size, 7, .slice Ar2 lr2 lr2), (w2.heap.size, 8, .int .i64 dr2), (w2.heap.size + 1, 0, .int .i64 0), (w2.heap.size + 1, 1, .int .i64 c22), (gq, 0, .slice (some ⟨g, 0, none⟩) m cg), (gq, 1, .slice A' m ca), (gq, 2, .slice AO n co)] := C4
    have F4 := C4
    simp only [Cls, and_true] at F4
    have y4gq0 : gq < w4.heap.size := C4.blk (b := gq) (k := 0) (v := .slice (some ⟨g, 0, none⟩) m cg) (by simp)
    have y4gqp1 : gq < w4.heap.size + 1 := (by omega)
    have y4gqp2 : gq < w4.heap.size + 1 + 1 := (by omega)
    have y4w0 : w.heap.size < w4.heap.size := C4.blk (b := w.heap.size) (k := 0) (v := .slice AR m cr) (by simp)
    have y4wp1 : w.heap.size < w4.heap.size + 1 := (by omega)
    have y4wp2 : w.heap.size < w4.heap.size + 1 + 1 := (by omega)
    have y4w21 : w2.heap.size + 1 < w4.heap.size := C4.blk (b := w2.heap.size + 1) (k := 0) (v := .int .i64 0) (by simp)
    have y4w20 : w2.heap.size < w4.heap.size := (by omega)
    have y4w2p1 : w2.heap.size < w4.heap.size + 1 := (by omega)
    have y4w2p2 : w2.heap.size < w4.heap.size + 1 + 1 := (by omega)
    go_wp2_with fail
    go_upto_region 7 with fail
    go_cut [] (fun wx => RowsAt w.heap.size wx g (swapAt p.rows i k r q) ∧ OwnI w2.heap.size wx (.slice A' m ca) p.bounds ∧ g < wx.heap.size ∧ Below w.heap.size w wx ∧ Cls wx [(w.heap.size, 0, .slice AR m cr), (w.heap.size, 1, .slice AB m cb), (w.heap.size, 2, .slice AO n co), (w2.heap.size, 0, .int .i64 st2), (w2.heap.size, 1, .int .i64 num2), (w2.heap.size, 2, .int .i64 den2), (w2.heap.size, 3, .slice Ax2 lx2 lx2), (w2.heap.size, 4, .int .i64 dx2), (w2.heap.size, 5, .slice Ay2 ly2 ly2), (w2.heap.size, 6, .int .i64 dy2), (w2.heap.size, 7, .slice Ar2 lr2 lr2), (w2.heap.size, 8, .int .i64 dr2), (w2.heap.size + 1, 0, .int .i64 0), (w2.heap.size + 1, 1, .int .i64 c22), (gq, 0, .slice (some ⟨g, 0, none⟩) m cg), (gq, 1, .slice A' m ca), (gq, 2, .slice AO n co)])
    case first =>
      refine wp_region_held_drew (S := fun W => W.cell? ⟨gq, 0, none⟩ = some (.slice (some ⟨g, 0, none⟩) m cg)) (by kernel_rfl) (by simp [go_sem, F4, y4gq0, y4gqp1, y4gqp2, y4w0, y4wp1, y4wp2, y4w21, y4w20, y4w2p1, y4w2p2]) (fun hHeld => ?_)
      refine wpAnyH_take (i := 0) (v := ?vo20) rfl (by kernel_rfl) (by kernel_rfl) (by kernel_rfl) (fun _ _ _ h => h) (Or.inl ⟨by rfl, ?ho20⟩) (by assumption) ?ro20
      case ho20 => (intro w hSw; (try dsimp only at hSw); go_simp; (try with_reducible rfl))
      try simp only [Act.put, List.getElem_toArray, List.getElem_cons_succ, List.getElem_cons_zero, List.setIfInBounds_toArray, List.set_cons_zero, List.set_cons_succ]
      refine wpAnyH_take (i := 1) (v := ?vo21) rfl (by kernel_rfl) (by kernel_rfl) (by kernel_rfl) (fun _ _ _ h => h) (Or.inl ⟨by rfl, ?ho21⟩) (by assumption) ?ro21
      case ho21 => (intro w hSw; (try dsimp only at hSw); go_simp; (try with_reducible rfl))
      try simp only [Act.put, List.getElem_toArray, List.getElem_cons_succ, List.getElem_cons_zero, List.setIfInBounds_toArray, List.set_cons_zero, List.set_cons_succ]
      refine wpAnyH_take (i := 2) (v := ?vo22) rfl (by kernel_rfl) (by kernel_rfl) (by kernel_rfl) (fun _ _ _ h => h) (Or.inl ⟨by rfl, ?ho22⟩) (by assumption) ?ro22
      case ho22 => (intro w hSw; (try dsimp only at hSw); go_simp; (try with_reducible rfl))
      try simp only [Act.put, List.getElem_toArray, List.getElem_cons_succ, List.getElem_cons_zero, List.setIfInBounds_toArray, List.set_cons_zero, List.set_cons_succ]
      refine wpAnyH_take (i := 3) (v := ?vo23) rfl (by kernel_rfl) (by kernel_rfl) (by kernel_rfl) (fun _ _ _ h => h) (Or.inl ⟨by rfl, ?ho23⟩) (by assumption) ?ro23
      case ho23 => (intro w hSw; (try dsimp only at hSw); go_simp; (try with_reducible rfl))
      try simp only [Act.put, List.getElem_toArray, List.getElem_cons_succ, List.getElem_cons_zero, List.setIfInBounds_toArray, List.set_cons_zero, List.set_cons_succ]
      refine wpAnyH_take (i := 4) (v := ?vo24) rfl (by kernel_rfl) (by kernel_rfl) (by kernel_rfl) (fun _ _ _ h => h) (Or.inl ⟨by rfl, ?ho24⟩) (by assumption) ?ro24
      case ho24 => (intro w hSw; (try dsimp only at hSw); go_simp; (try with_reducible rfl))
      try simp only [Act.put, List.getElem_toArray, List.getElem_cons_succ, List.getElem_cons_zero, List.setIfInBounds_toArray, List.set_cons_zero, List.set_cons_succ]
      refine wpAnyH_take (i := 5) (v := ?vo25) rfl (by kernel_rfl) (by kernel_rfl) (by kernel_rfl) (fun _ _ _ h => h) (Or.inl ⟨by rfl, ?ho25⟩) (by assumption) ?ro25
      case ho25 => (intro w hSw; (try dsimp only at hSw); go_simp; (try with_reducible rfl))
      try simp only [Act.put, List.getElem_toArray, List.getElem_cons_succ, List.getElem_cons_zero, List.setIfInBounds_toArray, List.set_cons_zero, List.set_cons_succ]
      refine wpAnyH_take (i := 6) (v := ?vo26) rfl (by kernel_rfl) (by kernel_rfl) (by kernel_rfl) (fun _ _ _ h => h) (Or.inl ⟨by rfl, ?ho26⟩) (by assumption) ?ro26
      case ho26 => (intro w hSw; (try dsimp only at hSw); go_simp; (try with_reducible rfl))
      try simp only [Act.put, List.getElem_toArray, List.getElem_cons_succ, List.getElem_cons_zero, List.setIfInBounds_toArray, List.set_cons_zero, List.set_cons_succ]
      refine wpAnyH_take (i := 7) (v := ?vo27) rfl (by kernel_rfl) (by kernel_rfl) (by kernel_rfl) (fun _ _ _ h => h) (Or.inl ⟨by rfl, ?ho27⟩) (by assumption) ?ro27
      case ho27 => (intro w hSw; (try dsimp only at hSw); go_simp; (try with_reducible rfl))
      try simp only [Act.put, List.getElem_toArray, List.getElem_cons_succ, List.getElem_cons_zero, List.setIfInBounds_toArray, List.set_cons_zero, List.set_cons_succ]
      refine wpAnyH_take (i := 8) (v := ?vo28) rfl (by kernel_rfl) (by kernel_rfl) (by kernel_rfl) (fun _ _ _ h => h) (Or.inl ⟨by rfl, ?ho28⟩) (by assumption) ?ro28
      case ho28 => (intro w hSw; (try dsimp only at hSw); go_simp; (try with_reducible rfl))
      try simp only [Act.put, List.getElem_toArray, List.getElem_cons_succ, List.getElem_cons_zero, List.setIfInBounds_toArray, List.set_cons_zero, List.set_cons_succ]
      refine wpAnyH_take (i := 9) (v := ?vo29) rfl (by kernel_rfl) (by kernel_rfl) (by kernel_rfl) (fun _ _ _ h => h) (Or.inl ⟨by rfl, ?ho29⟩) (by assumption) ?ro29
      case ho29 => (intro w hSw; (try dsimp only at hSw); go_simp; (try with_reducible rfl))
      try simp only [Act.put, List.getElem_toArray, List.getElem_cons_succ, List.getElem_cons_zero, List.setIfInBounds_toArray, List.set_cons_zero, List.set_cons_succ]
      refine wpAnyH_take (i := 11) (v := ?vo211) rfl (by kernel_rfl) (by kernel_rfl) (by kernel_rfl) (fun _ _ _ h => h) (Or.inl ⟨by rfl, ?ho211⟩) (by assumption) ?ro211
      case ho211 => (intro w hSw; (try dsimp only at hSw); go_simp; (try with_reducible rfl))
      try simp only [Act.put, List.getElem_toArray, List.getElem_cons_succ, List.getElem_cons_zero, List.setIfInBounds_toArray, List.set_cons_zero, List.set_cons_succ]
      refine wpAnyH_take (i := 12) (v := ?vo212) rfl (by kernel_rfl) (by kernel_rfl) (by kernel_rfl) (fun _ _ _ h => h) (Or.inl ⟨by rfl, ?ho212⟩) (by assumption) ?ro212
      case ho212 => (intro w hSw; (try dsimp only at hSw); go_simp; (try with_reducible rfl))
      try simp only [Act.put, List.getElem_toArray, List.getElem_cons_succ, List.getElem_cons_zero, List.setIfInBounds_toArray, List.set_cons_zero, List.set_cons_succ]
      refine wpAnyH_take (i := 13) (v := ?vo213) rfl (by kernel_rfl) (by kernel_rfl) (by kernel_rfl) (fun _ _ _ h => h) (Or.inl ⟨by rfl, ?ho213⟩) (by assumption) ?ro213
      case ho213 => (intro w hSw; (try dsimp only at hSw); go_simp; (try with_reducible rfl))
      try simp only [Act.put, List.getElem_toArray, List.getElem_cons_succ, List.getElem_cons_zero, List.setIfInBounds_toArray, List.set_cons_zero, List.set_cons_succ]
      refine wpAnyH_take (i := 14) (v := ?vo214) rfl (by kernel_rfl) (by kernel_rfl) (by kernel_rfl) (fun _ _ _ h => h) (Or.inl ⟨by rfl, ?ho214⟩) (by assumption) ?ro214
      case ho214 => (intro w hSw; (try dsimp only at hSw); go_simp; (try with_reducible rfl))
      try simp only [Act.put, List.getElem_toArray, List.getElem_cons_succ, List.getElem_cons_zero, List.setIfInBounds_toArray, List.set_cons_zero, List.set_cons_succ]
      refine wpAnyH_ready (rs := [10, 15]) (by kernel_rfl) (by simp) ?_
      refine (AllReadyH.cons rfl (fun K hK => ?bo21x10) (AllReadyH.cons rfl (fun K hK => ?bo21x15) AllReadyH.nil))
      case bo21x10 =>
        go_simp
        have hSS := hHeld
        go_wp2_with fail
        refine hK.out _ _ hSS (fun hHeld => ?_)
        clear hK K
        try simp only [Act.put, List.getElem_toArray, List.getElem_cons_succ, List.getElem_cons_zero, List.setIfInBounds_toArray, List.set_cons_zero, List.set_cons_succ]
        refine wpAnyH_ready (rs := [15]) (by kernel_rfl) (by simp) ?_
        refine (AllReadyH.cons rfl (fun K hK => ?bo22x15) AllReadyH.nil)
        case bo22x15 =>
          go_simp
          have hSS := hHeld
          go_wp2_with fail
          refine hK.out _ _ hSS (fun hHeld => ?_)
          clear hK K
          try simp only [Act.put, List.getElem_toArray, List.getElem_cons_succ, List.getElem_cons_zero, List.setIfInBounds_toArray, List.set_cons_zero, List.set_cons_succ]
          refine wpAnyH_take (i := 16) (v := ?vo2l316) rfl (by kernel_rfl) (by kernel_rfl) (by kernel_rfl) (fun _ _ _ h => h) (Or.inl ⟨by rfl, ?ho2l316⟩) (by assumption) ?ro2l316
          case ho2l316 => (intro w hSw; (try dsimp only at hSw); go_simp; (try with_reducible rfl))
          try simp only [Act.put, List.getElem_toArray, List.getElem_cons_succ, List.getElem_cons_zero, List.setIfInBounds_toArray, List.set_cons_zero, List.set_cons_succ]
          refine wpAnyH_ready (rs := [17]) (by kernel_rfl) (by simp) ?_
          refine AllReadyH.cons rfl (fun K hK => ?_) AllReadyH.nil
          go_simp
          go_wp2_with fail
          refine hK.out _ _ (by simp [go_sem, hgq', F4, y4gq0, y4gqp1, y4gqp2, y4w0, y4wp1, y4wp2, y4w21, y4w20, y4w2p1, y4w2p2]) (fun hHeld => ?_)
          clear hK K
          try simp only [Act.put, List.getElem_toArray, List.getElem_cons_succ, List.getElem_cons_zero, List.setIfInBounds_toArray, List.set_cons_zero, List.set_cons_succ]
          refine wpAnyH_take (i := 18) (v := ?vo2l518) rfl (by kernel_rfl) (by kernel_rfl) (by kernel_rfl) (fun _ _ _ h => h) (Or.inl ⟨by rfl, ?ho2l518⟩) (by assumption) ?ro2l518
          case ho2l518 => (intro w hSw; (try dsimp only at hSw); go_simp; (try with_reducible rfl))
          try simp only [Act.put, List.getElem_toArray, List.getElem_cons_succ, List.getElem_cons_zero, List.setIfInBounds_toArray, List.set_cons_zero, List.set_cons_succ]
          refine wpAnyH_ready (rs := [19]) (by kernel_rfl) (by simp) ?_
          refine AllReadyH.cons rfl (fun K hK => ?_) AllReadyH.nil
          go_simp
          go_wp2_with fail
          refine hK.out _ _ (by simp [go_sem, hgq', F4, y4gq0, y4gqp1, y4gqp2, y4w0, y4wp1, y4wp2, y4w21, y4w20, y4w2p1, y4w2p2]) (fun hHeld => ?_)
          clear hK K
          try simp only [Act.put, List.getElem_toArray, List.getElem_cons_succ, List.getElem_cons_zero, List.setIfInBounds_toArray, List.set_cons_zero, List.set_cons_succ]
          refine wpAnyH_done (by kernel_rfl) ?_ _
          go_wp2_with fail
          go_meet
          have h5 : RowsAt w.heap.size ((w4.setCell ⟨g, i, none⟩ (.slice Bk n ck)).setCell ⟨g, k, none⟩ (.slice Bi n ci)) g (swapAt p.rows i k r q) := (HRA.out.set_ hKg (by rw [hrl.out]; exact hi) HQn.out HIk.out HNk.out HFk.out).set_ hKg (by rw [List.length_set, hrl.out]; exact hk) HRn.out (HIi.out.off (fun hne ad e => by have := HFi.out hne ad e; show ad.block ≠ g; omega) _) HNi.out HFi.out
          have h6 : OwnI w2.heap.size ((w4.setCell ⟨g, i, none⟩ (.slice Bk n ck)).setCell ⟨g, k, none⟩ (.slice Bi n ci)) (.slice A' m ca) p.bounds := (HOB.out.apart2 (p := ⟨g, i, none⟩) (fun ad e => (hAb ad e).2.1) _).apart2 (p := ⟨g, k, none⟩) (fun ad e => (hAb ad e).2.1) _
          exact ⟨h5.below (by simp; omega) (by repeat (first | with_reducible exact Below.refl _ _ | with_reducible apply bdrew | with_reducible apply bdrewN | with_reducible apply balloc | ((with_reducible refine bset ?_ ?_ _); rotate_left; (first | omega | (simp <;> omega))))), h6.below (by repeat (first | with_reducible exact Below.refl _ _ | with_reducible apply bdrew | with_reducible apply bdrewN | with_reducible apply balloc | ((with_reducible refine bset ?_ ?_ _); rotate_left; (first | omega | (simp <;> omega))))), by simp; omega, by repeat (first | with_reducible exact D4 | with_reducible apply bdrew | with_reducible apply bdrewN | with_reducible apply balloc | ((with_reducible refine bset ?_ ?_ _); rotate_left; (first | omega | (simp <;> omega)))), by simp [Cls, go_sem, hgq', F4, y4gq0, y4gqp1, y4gqp2, y4w0, y4wp1, y4wp2, y4w21, y4w20, y4w2p1, y4w2p2]⟩
      case bo21x15 =>
        go_simp
        have hSS := hHeld
        go_wp2_with fail
        refine hK.out _ _ hSS (fun hHeld => ?_)
        clear hK K
        try simp only [Act.put, List.getElem_toArray, List.getElem_cons_succ, List.getElem_cons_zero, List.setIfInBounds_toArray, List.set_cons_zero, List.set_cons_succ]
        refine wpAnyH_ready (rs := [10]) (by kernel_rfl) (by simp) ?_
        refine (AllReadyH.cons rfl (fun K hK => ?bo27x10) AllReadyH.nil)
        case bo27x10 =>
          go_simp
          have hSS := hHeld
          go_wp2_with fail
          refine hK.out _ _ hSS (fun hHeld => ?_)
          clear hK K
          try simp only [Act.put, List.getElem_toArray, List.getElem_cons_succ, List.getElem_cons_zero, List.setIfInBounds_toArray, List.set_cons_zero, List.set_cons_succ]
          refine wpAnyH_take (i := 16) (v := ?vo2l816) rfl (by kernel_rfl) (by kernel_rfl) (by kernel_rfl) (fun _ _ _ h => h) (Or.inl ⟨by rfl, ?ho2l816⟩) (by assumption) ?ro2l816
          case ho2l816 => (intro w hSw; (try dsimp only at hSw); go_simp; (try with_reducible rfl))
          try simp only [Act.put, List.getElem_toArray, List.getElem_cons_succ, List.getElem_cons_zero, List.setIfInBounds_toArray, List.set_cons_zero, List.set_cons_succ]
          refine wpAnyH_ready (rs := [17]) (by kernel_rfl) (by simp) ?_
          refine AllReadyH.cons rfl (fun K hK => ?_) AllReadyH.nil
          go_simp
          go_wp2_with fail
          refine hK.out _ _ (by simp [go_sem, hgq', F4, y4gq0, y4gqp1, y4gqp2, y4w0, y4wp1, y4wp2, y4w21, y4w20, y4w2p1, y4w2p2]) (fun hHeld => ?_)
          clear hK K
          try simp only [Act.put, List.getElem_toArray, List.getElem_cons_succ, List.getElem_cons_zero, List.setIfInBounds_toArray, List.set_cons_zero, List.set_cons_succ]
          refine wpAnyH_take (i := 18) (v := ?vo2l1018) rfl (by kernel_rfl) (by kernel_rfl) (by kernel_rfl) (fun _ _ _ h => h) (Or.inl ⟨by rfl, ?ho2l1018⟩) (by assumption) ?ro2l1018
          case ho2l1018 => (intro w hSw; (try dsimp only at hSw); go_simp; (try with_reducible rfl))
          try simp only [Act.put, List.getElem_toArray, List.getElem_cons_succ, List.getElem_cons_zero, List.setIfInBounds_toArray, List.set_cons_zero, List.set_cons_succ]
          refine wpAnyH_ready (rs := [19]) (by kernel_rfl) (by simp) ?_
          refine AllReadyH.cons rfl (fun K hK => ?_) AllReadyH.nil
          go_simp
          go_wp2_with fail
          refine hK.out _ _ (by simp [go_sem, hgq', F4, y4gq0, y4gqp1, y4gqp2, y4w0, y4wp1, y4wp2, y4w21, y4w20, y4w2p1, y4w2p2]) (fun hHeld => ?_)
          clear hK K
          try simp only [Act.put, List.getElem_toArray, List.getElem_cons_succ, List.getElem_cons_zero, List.setIfInBounds_toArray, List.set_cons_zero, List.set_cons_succ]
          refine wpAnyH_done (by kernel_rfl) ?_ _
          go_wp2_with fail
          go_meet
          have h5 : RowsAt w.heap.size ((w4.setCell ⟨g, i, none⟩ (.slice Bk n ck)).setCell ⟨g, k, none⟩ (.slice Bi n ci)) g (swapAt p.rows i k r q) := (HRA.out.set_ hKg (by rw [hrl.out]; exact hi) HQn.out HIk.out HNk.out HFk.out).set_ hKg (by rw [List.length_set, hrl.out]; exact hk) HRn.out (HIi.out.off (fun hne ad e => by have := HFi.out hne ad e; show ad.block ≠ g; omega) _) HNi.out HFi.out
          have h6 : OwnI w2.heap.size ((w4.setCell ⟨g, i, none⟩ (.slice Bk n ck)).setCell ⟨g, k, none⟩ (.slice Bi n ci)) (.slice A' m ca) p.bounds := (HOB.out.apart2 (p := ⟨g, i, none⟩) (fun ad e => (hAb ad e).2.1) _).apart2 (p := ⟨g, k, none⟩) (fun ad e => (hAb ad e).2.1) _
          exact ⟨h5.below (by simp; omega) (by repeat (first | with_reducible exact Below.refl _ _ | with_reducible apply bdrew | with_reducible apply bdrewN | with_reducible apply balloc | ((with_reducible refine bset ?_ ?_ _); rotate_left; (first | omega | (simp <;> omega))))), h6.below (by repeat (first | with_reducible exact Below.refl _ _ | with_reducible apply bdrew | with_reducible apply bdrewN | with_reducible apply balloc | ((with_reducible refine bset ?_ ?_ _); rotate_left; (first | omega | (simp <;> omega))))), by simp; omega, by repeat (first | with_reducible exact D4 | with_reducible apply bdrew | with_reducible apply bdrewN | with_reducible apply balloc | ((with_reducible refine bset ?_ ?_ _); rotate_left; (first | omega | (simp <;> omega)))), by simp [Cls, go_sem, hgq', F4, y4gq0, y4gqp1, y4gqp2, y4w0, y4wp1, y4wp2, y4w21, y4w20, y4w2p1, y4w2p2]⟩
    case rest =>
      obtain ⟨w5, rfl⟩ : ∃ wo : World, wo = wc := ⟨_, rfl⟩
      obtain ⟨hRA5, hOB5, hglt5, D5, C5⟩ := hcut
      have HRA5 := Lib.hid hRA5
      obtain ⟨gb, x, hA', hgb1, hgb2, hx, hxc, hxf⟩ := hOB5.at_ (k := i) (by rw [hbl.out]; exact hi)
      subst hA'
      obtain ⟨gb', y, hA', -, -, hy, hyc, hyf⟩ := hOB5.at_ (k := k) (by rw [hbl.out]; exact hk)
      injection hA' with hA'
      injection hA' with hA'
      subst hA'
      have hgbq := (hAb _ rfl).2.2
      have hgbg := (hAb _ rfl).2.1
      have hgb0 := (hAb _ rfl).1
      dsimp only at hgbq hgbg hgb0
      have hgbq' : ¬ gq = gb := fun e => hgbq e.symm
      have HOB5 := Lib.hid hOB5
      obtain ⟨vk5, hvk5⟩ := cell?_setCell_some (w := w5) (p := ⟨gb, i, none⟩) (x := .int .i64 y) (q := ⟨gb, k, none⟩) (v := .int .i64 y) hyc
      clear hci hck hvk hfz HRA HOB hRA5 hOB5
      have F5 := C5
      simp only [Cls, and_true] at F5
      have y5gq0 : gq < w5.heap.size := C5.blk (b := gq) (k := 0) (v := .slice (some ⟨g, 0, none⟩) m cg) (by simp)
      have y5gqp1 : gq < w5.heap.size + 1 := (by omega)
      have y5gqp2 : gq < w5.heap.size + 1 + 1 := (by omega)
      have y5w0 : w.heap.size < w5.heap.size := C5.blk (b := w.heap.size) (k := 0) (v := .slice AR m cr) (by simp)
      have y5wp1 : w.heap.size < w5.heap.size + 1 := (by omega)
      have y5wp2 : w.heap.size < w5.heap.size + 1 + 1 := (by omega)
      have y5w21 : w2.heap.size + 1 < w5.heap.size := C5.blk (b := w2.heap.size + 1) (k := 0) (v := .int .i64 0) (by simp)
      have y5w20 : w2.heap.size < w5.heap.size := (by omega)
      have y5w2p1 : w2.heap.size < w5.heap.size + 1 := (by omega)
      have y5w2p2 : w2.heap.size < w5.heap.size + 1 + 1 := (by omega)
      go_wp2_with fail
      go_upto_region 8 with fail
      go_cut [] (fun wx => RowsAt w.heap.size wx g (swapAt p.rows i k r q) ∧ OwnI w2.heap.size wx (.slice (some ⟨gb, 0, none⟩) m ca) (swapAt p.bounds i k x y) ∧ Below w.heap.size w wx ∧ Cls wx [(w.heap.size, 0, .slice AR m cr), (w.heap.size, 1, .slice AB m cb), (w.heap.size, 2, .slice AO n co), (w2.heap.size, 0, .int .i64 st2), (w2.heap.size, 1, .int .i64 num2), (w2.heap.size, 2, .int .i64 den2), (w2.heap.size, 3, .slice Ax2 lx2 lx2), (w2.heap.size, 4, .int .i64 dx2), (w2.heap.size, 5, .slice Ay2 ly2 ly2), (w2.heap.size, 6, .int .i64 dy2), (w2.heap.size, 7, .slice Ar2 lr2 lr2), (w2.heap.size, 8, .int .i64 dr2), (w2.heap.size + 1, 0, .int .i64 0), (w2.heap.size + 1, 1, .int .i64 c22), (gq, 0, .slice (some ⟨g, 0, none⟩) m cg), (gq, 1, .slice (some ⟨gb, 0, none⟩) m ca), (gq, 2, .slice AO n co)])
      case first =>
        refine wp_region_held_drew (S := fun W => W.cell? ⟨gq, 1, none⟩ = some (.slice (some ⟨gb, 0, none⟩) m ca)) (by kernel_rfl) (by simp [go_sem, F5, y5gq0, y5gqp1, y5gqp2, y5w0, y5wp1, y5wp2, y5w21, y5w20, y5w2p1, y5w2p2]) (fun hHeld => ?_)
        refine wpAnyH_take (i := 0) (v := ?vo30) rfl (by kernel_rfl) (by kernel_rfl) (by kernel_rfl) (fun _ _ _ h => h) (Or.inl ⟨by rfl, ?ho30⟩) (by assumption) ?ro30
        case ho30 => (intro w hSw; (try dsimp only at hSw); go_simp; (try with_reducible rfl))
        try simp only [Act.put, List.getElem_toArray, List.getElem_cons_succ, List.getElem_cons_zero, List.setIfInBounds_toArray, List.set_cons_zero, List.set_cons_succ]
        refine wpAnyH_take (i := 1) (v := ?vo31) rfl (by kernel_rfl) (by kernel_rfl) (by kernel_rfl) (fun _ _ _ h => h) (Or.inl ⟨by rfl, ?ho31⟩) (by assumption) ?ro31
        case ho31 => (intro w hSw; (try dsimp only at hSw); go_simp; (try with_reducible rfl))
        try simp only [Act.put, List.getElem_toArray, List.getElem_cons_succ, List.getElem_cons_zero, List.setIfInBounds_toArray, List.set_cons_zero, List.set_cons_succ]
        refine wpAnyH_take (i := 2) (v := ?vo32) rfl (by kernel_rfl) (by kernel_rfl) (by kernel_rfl) (fun _ _ _ h => h) (Or.inl ⟨by rfl, ?ho32⟩) (by assumption) ?ro32
        case ho32 => (intro w hSw; (try dsimp only at hSw); go_simp; (try with_reducible rfl))
        try simp only [Act.put, List.getElem_toArray, List.getElem_cons_succ, List.getElem_cons_zero, List.setIfInBounds_toArray, List.set_cons_zero, List.set_cons_succ]
        refine wpAnyH_take (i := 3) (v := ?vo33) rfl (by kernel_rfl) (by kernel_rfl) (by kernel_rfl) (fun _ _ _ h => h) (Or.inl ⟨by rfl, ?ho33⟩) (by assumption) ?ro33
        case ho33 => (intro w hSw; (try dsimp only at hSw); go_simp; (try with_reducible rfl))
        try simp only [Act.put, List.getElem_toArray, List.getElem_cons_succ, List.getElem_cons_zero, List.setIfInBounds_toArray, List.set_cons_zero, List.set_cons_succ]
        refine wpAnyH_take (i := 4) (v := ?vo34) rfl (by kernel_rfl) (by kernel_rfl) (by kernel_rfl) (fun _ _ _ h => h) (Or.inl ⟨by rfl, ?ho34⟩) (by assumption) ?ro34
        case ho34 => (intro w hSw; (try dsimp only at hSw); go_simp; (try with_reducible rfl))
        try simp only [Act.put, List.getElem_toArray, List.getElem_cons_succ, List.getElem_cons_zero, List.setIfInBounds_toArray, List.set_cons_zero, List.set_cons_succ]
        refine wpAnyH_take (i := 5) (v := ?vo35) rfl (by kernel_rfl) (by kernel_rfl) (by kernel_rfl) (fun _ _ _ h => h) (Or.inl ⟨by rfl, ?ho35⟩) (by assumption) ?ro35
        case ho35 => (intro w hSw; (try dsimp only at hSw); go_simp; (try with_reducible rfl))
        try simp only [Act.put, List.getElem_toArray, List.getElem_cons_succ, List.getElem_cons_zero, List.setIfInBounds_toArray, List.set_cons_zero, List.set_cons_succ]
        refine wpAnyH_take (i := 6) (v := ?vo36) rfl (by kernel_rfl) (by kernel_rfl) (by kernel_rfl) (fun _ _ _ h => h) (Or.inl ⟨by rfl, ?ho36⟩) (by assumption) ?ro36
        case ho36 => (intro w hSw; (try dsimp only at hSw); go_simp; (try with_reducible rfl))
        try simp only [Act.put, List.getElem_toArray, List.getElem_cons_succ, List.getElem_cons_zero, List.setIfInBounds_toArray, List.set_cons_zero, List.set_cons_succ]
        refine wpAnyH_take (i := 7) (v := ?vo37) rfl (by kernel_rfl) (by kernel_rfl) (by kernel_rfl) (fun _ _ _ h => h) (Or.inl ⟨by rfl, ?ho37⟩) (by assumption) ?ro37
        case ho37 => (intro w hSw; (try dsimp only at hSw); go_simp; (try with_reducible rfl))
        try simp only [Act.put, List.getElem_toArray, List.getElem_cons_succ, List.getElem_cons_zero, List.setIfInBounds_toArray, List.set_cons_zero, List.set_cons_succ]
        refine wpAnyH_take (i := 8) (v := ?vo38) rfl (by kernel_rfl) (by kernel_rfl) (by kernel_rfl) (fun _ _ _ h => h) (Or.inl ⟨by rfl, ?ho38⟩) (by assumption) ?ro38
        case ho38 => (intro w hSw; (try dsimp only at hSw); go_simp; (try with_reducible rfl))
        try simp only [Act.put, List.getElem_toArray, List.getElem_cons_succ, List.getElem_cons_zero, List.setIfInBounds_toArray, List.set_cons_zero, List.set_cons_succ]
        refine wpAnyH_take (i := 9) (v := ?vo39) rfl (by kernel_rfl) (by kernel_rfl) (by kernel_rfl) (fun _ _ _ h => h) (Or.inl ⟨by rfl, ?ho39⟩) (by assumption) ?ro39
        case ho39 => (intro w hSw; (try dsimp only at hSw); go_simp; (try with_reducible rfl))
        try simp only [Act.put, List.getElem_toArray, List.getElem_cons_succ, List.getElem_cons_zero, List.setIfInBounds_toArray, List.set_cons_zero, List.set_cons_succ]
        refine wpAnyH_take (i := 11) (v := ?vo311) rfl (by kernel_rfl) (by kernel_rfl) (by kernel_rfl) (fun _ _ _ h => h) (Or.inl ⟨by rfl, ?ho311⟩) (by assumption) ?ro311
        case ho311 => (intro w hSw; (try dsimp only at hSw); go_simp; (try with_reducible rfl))
        try simp only [Act.put, List.getElem_toArray, List.getElem_cons_succ, List.getElem_cons_zero, List.setIfInBounds_toArray, List.set_cons_zero, List.set_cons_succ]
        refine wpAnyH_take (i := 12) (v := ?vo312) rfl (by kernel_rfl) (by kernel_rfl) (by kernel_rfl) (fun _ _ _ h => h) (Or.inl ⟨by rfl, ?ho312⟩) (by assumption) ?ro312
        case ho312 => (intro w hSw; (try dsimp only at hSw); go_simp; (try with_reducible rfl))
        try simp only [Act.put, List.getElem_toArray, List.getElem_cons_succ, List.getElem_cons_zero, List.setIfInBounds_toArray, List.set_cons_zero, List.set_cons_succ]
        refine wpAnyH_take (i := 13) (v := ?vo313) rfl (by kernel_rfl) (by kernel_rfl) (by kernel_rfl) (fun _ _ _ h => h) (Or.inl ⟨by rfl, ?ho313⟩) (by assumption) ?ro313
        case ho313 => (intro w hSw; (try dsimp only at hSw); go_simp; (try with_reducible rfl))
        try simp only [Act.put, List.getElem_toArray, List.getElem_cons_succ, List.getElem_cons_zero, List.setIfInBounds_toArray, List.set_cons_zero, List.set_cons_succ]
        refine wpAnyH_take (i := 14) (v := ?vo314) rfl (by kernel_rfl) (by kernel_rfl) (by kernel_rfl) (fun _ _ _ h => h) (Or.inl ⟨by rfl, ?ho314⟩) (by assumption) ?ro314
        case ho314 => (intro w hSw; (try dsimp only at hSw); go_simp; (try with_reducible rfl))
        try simp only [Act.put, List.getElem_toArray, List.getElem_cons_succ, List.getElem_cons_zero, List.setIfInBounds_toArray, List.set_cons_zero, List.set_cons_succ]
        refine wpAnyH_ready (rs := [10, 15]) (by kernel_rfl) (by simp) ?_
        refine (AllReadyH.cons rfl (fun K hK => ?bo31x10) (AllReadyH.cons rfl (fun K hK => ?bo31x15) AllReadyH.nil))
        case bo31x10 =>
          go_simp
          have hSS := hHeld
          go_wp2_with fail
          refine hK.out _ _ hSS (fun hHeld => ?_)
          clear hK K
          try simp only [Act.put, List.getElem_toArray, List.getElem_cons_succ, List.getElem_cons_zero, List.setIfInBounds_toArray, List.set_cons_zero, List.set_cons_succ]
          refine wpAnyH_ready (rs := [15]) (by kernel_rfl) (by simp) ?_
          refine (AllReadyH.cons rfl (fun K hK => ?bo32x15) AllReadyH.nil)
          case bo32x15 =>
            go_simp
            have hSS := hHeld
            go_wp2_with fail
            refine hK.out _ _ hSS (fun hHeld => ?_)
            clear hK K
            try simp only [Act.put, List.getElem_toArray, List.getElem_cons_succ, List.getElem_cons_zero, List.setIfInBounds_toArray, List.set_cons_zero, List.set_cons_succ]
            refine wpAnyH_take (i := 16) (v := ?vo3l316) rfl (by kernel_rfl) (by kernel_rfl) (by kernel_rfl) (fun _ _ _ h => h) (Or.inl ⟨by rfl, ?ho3l316⟩) (by assumption) ?ro3l316
            case ho3l316 => (intro w hSw; (try dsimp only at hSw); go_simp; (try with_reducible rfl))
            try simp only [Act.put, List.getElem_toArray, List.getElem_cons_succ, List.getElem_cons_zero, List.setIfInBounds_toArray, List.set_cons_zero, List.set_cons_succ]
            refine wpAnyH_ready (rs := [17]) (by kernel_rfl) (by simp) ?_
            refine AllReadyH.cons rfl (fun K hK => ?_) AllReadyH.nil
            go_simp
            go_wp2_with fail
            refine hK.out _ _ (by simp [go_sem, hgbq', F5, y5gq0, y5gqp1, y5gqp2, y5w0, y5wp1, y5wp2, y5w21, y5w20, y5w2p1, y5w2p2]) (fun hHeld => ?_)
            clear hK K
            try simp only [Act.put, List.getElem_toArray, List.getElem_cons_succ, List.getElem_cons_zero, List.setIfInBounds_toArray, List.set_cons_zero, List.set_cons_succ]
            refine wpAnyH_take (i := 18) (v := ?vo3l518) rfl (by kernel_rfl) (by kernel_rfl) (by kernel_rfl) (fun _ _ _ h => h) (Or.inl ⟨by rfl, ?ho3l518⟩) (by assumption) ?ro3l518
            case ho3l518 => (intro w hSw; (try dsimp only at hSw); go_simp; (try with_reducible rfl))
            try simp only [Act.put, List.getElem_toArray, List.getElem_cons_succ, List.getElem_cons_zero, List.setIfInBounds_toArray, List.set_cons_zero, List.set_cons_succ]
            refine wpAnyH_ready (rs := [19]) (by kernel_rfl) (by simp) ?_
            refine AllReadyH.cons rfl (fun K hK => ?_) AllReadyH.nil
            go_simp
            go_wp2_with fail
            refine hK.out _ _ (by simp [go_sem, hgbq', F5, y5gq0, y5gqp1, y5gqp2, y5w0, y5wp1, y5wp2, y5w21, y5w20, y5w2p1, y5w2p2]) (fun hHeld => ?_)
            clear hK K
            try simp only [Act.put, List.getElem_toArray, List.getElem_cons_succ, List.getElem_cons_zero, List.setIfInBounds_toArray, List.set_cons_zero, List.set_cons_succ]
            refine wpAnyH_done (by kernel_rfl) ?_ _
            go_wp2_with fail
            go_meet
            have h5 : RowsAt w.heap.size ((w5.setCell ⟨gb, i, none⟩ (.int .i64 y)).setCell ⟨gb, k, none⟩ (.int .i64 x)) g (swapAt p.rows i k r q) := (HRA5.out.far (p := ⟨gb, i, none⟩) hgbg (by show w.heap.size ≤ gb; omega) _).far (p := ⟨gb, k, none⟩) hgbg (by show w.heap.size ≤ gb; omega) _
            have h6 : OwnI w2.heap.size ((w5.setCell ⟨gb, i, none⟩ (.int .i64 y)).setCell ⟨gb, k, none⟩ (.int .i64 x)) (.slice (some ⟨gb, 0, none⟩) m ca) (swapAt p.bounds i k x y) := (HOB5.out.set_ hbl.out i y).set_ (by rw [List.length_set, hbl.out]) k x
            exact ⟨h5.below (by simp; omega) (by repeat (first | with_reducible exact Below.refl _ _ | with_reducible apply bdrew | with_reducible apply bdrewN | with_reducible apply balloc | ((with_reducible refine bset ?_ ?_ _); rotate_left; (first | omega | (simp <;> omega))))), h6.below (by repeat (first | with_reducible exact Below.refl _ _ | with_reducible apply bdrew | with_reducible apply bdrewN | with_reducible apply balloc | ((with_reducible refine bset ?_ ?_ _); rotate_left; (first | omega | (simp <;> omega))))), by repeat (first | with_reducible exact D5 | with_reducible apply bdrew | with_reducible apply bdrewN | with_reducible apply balloc | ((with_reducible refine bset ?_ ?_ _); rotate_left; (first | omega | (simp <;> omega)))), by simp [Cls, go_sem, hgbq', F5, y5gq0, y5gqp1, y5gqp2, y5w0, y5wp1, y5wp2, y5w21, y5w20, y5w2p1, y5w2p2]⟩
        case bo31x15 =>
          go_simp
          have hSS := hHeld
          go_wp2_with fail
          refine hK.out _ _ hSS (fun hHeld => ?_)
          clear hK K
          try simp only [Act.put, List.getElem_toArray, List.getElem_cons_succ, List.getElem_cons_zero, List.setIfInBounds_toArray, List.set_cons_zero, List.set_cons_succ]
          refine wpAnyH_ready (rs := [10]) (by kernel_rfl) (by simp) ?_
          refine (AllReadyH.cons rfl (fun K hK => ?bo37x10) AllReadyH.nil)
          case bo37x10 =>
            go_simp
            have hSS := hHeld
            go_wp2_with fail
            refine hK.out _ _ hSS (fun hHeld => ?_)
            clear hK K
            try simp only [Act.put, List.getElem_toArray, List.getElem_cons_succ, List.getElem_cons_zero, List.setIfInBounds_toArray, List.set_cons_zero, List.set_cons_succ]
            refine wpAnyH_take (i := 16) (v := ?vo3l816) rfl (by kernel_rfl) (by kernel_rfl) (by kernel_rfl) (fun _ _ _ h => h) (Or.inl ⟨by rfl, ?ho3l816⟩) (by assumption) ?ro3l816
            case ho3l816 => (intro w hSw; (try dsimp only at hSw); go_simp; (try with_reducible rfl))
            try simp only [Act.put, List.getElem_toArray, List.getElem_cons_succ, List.getElem_cons_zero, List.setIfInBounds_toArray, List.set_cons_zero, List.set_cons_succ]
            refine wpAnyH_ready (rs := [17]) (by kernel_rfl) (by simp) ?_
            refine AllReadyH.cons rfl (fun K hK => ?_) AllReadyH.nil
            go_simp
            go_wp2_with fail
            refine hK.out _ _ (by simp [go_sem, hgbq', F5, y5gq0, y5gqp1, y5gqp2, y5w0, y5wp1, y5wp2, y5w21, y5w20, y5w2p1, y5w2p2]) (fun hHeld => ?_)
            clear hK K
            try simp only [Act.put, List.getElem_toArray, List.getElem_cons_succ, List.getElem_cons_zero, List.setIfInBounds_toArray, List.set_cons_zero, List.set_cons_succ]
            refine wpAnyH_take (i := 18) (v := ?vo3l1018) rfl (by kernel_rfl) (by kernel_rfl) (by kernel_rfl) (fun _ _ _ h => h) (Or.inl ⟨by rfl, ?ho3l1018⟩) (by assumption) ?ro3l1018
            case ho3l1018 => (intro w hSw; (try dsimp only at hSw); go_simp; (try with_reducible rfl))
            try simp only [Act.put, List.getElem_toArray, List.getElem_cons_succ, List.getElem_cons_zero, List.setIfInBounds_toArray, List.set_cons_zero, List.set_cons_succ]
            refine wpAnyH_ready (rs := [19]) (by kernel_rfl) (by simp) ?_
            refine AllReadyH.cons rfl (fun K hK => ?_) AllReadyH.nil
            go_simp
            go_wp2_with fail
            refine hK.out _ _ (by simp [go_sem, hgbq', F5, y5gq0, y5gqp1, y5gqp2, y5w0, y5wp1, y5wp2, y5w21, y5w20, y5w2p1, y5w2p2]) (fun hHeld => ?_)
            clear hK K
            try simp only [Act.put, List.getElem_toArray, List.getElem_cons_succ, List.getElem_cons_zero, List.setIfInBounds_toArray, List.set_cons_zero, List.set_cons_succ]
            refine wpAnyH_done (by kernel_rfl) ?_ _
            go_wp2_with fail
            go_meet
            have h5 : RowsAt w.heap.size ((w5.setCell ⟨gb, i, none⟩ (.int .i64 y)).setCell ⟨gb, k, none⟩ (.int .i64 x)) g (swapAt p.rows i k r q) := (HRA5.out.far (p := ⟨gb, i, none⟩) hgbg (by show w.heap.size ≤ gb; omega) _).far (p := ⟨gb, k, none⟩) hgbg (by show w.heap.size ≤ gb; omega) _
            have h6 : OwnI w2.heap.size ((w5.setCell ⟨gb, i, none⟩ (.int .i64 y)).setCell ⟨gb, k, none⟩ (.int .i64 x)) (.slice (some ⟨gb, 0, none⟩) m ca) (swapAt p.bounds i k x y) := (HOB5.out.set_ hbl.out i y).set_ (by rw [List.length_set, hbl.out]) k x
            exact ⟨h5.below (by simp; omega) (by repeat (first | with_reducible exact Below.refl _ _ | with_reducible apply bdrew | with_reducible apply bdrewN | with_reducible apply balloc | ((with_reducible refine bset ?_ ?_ _); rotate_left; (first | omega | (simp <;> omega))))), h6.below (by repeat (first | with_reducible exact Below.refl _ _ | with_reducible apply bdrew | with_reducible apply bdrewN | with_reducible apply balloc | ((with_reducible refine bset ?_ ?_ _); rotate_left; (first | omega | (simp <;> omega))))), by repeat (first | with_reducible exact D5 | with_reducible apply bdrew | with_reducible apply bdrewN | with_reducible apply balloc | ((with_reducible refine bset ?_ ?_ _); rotate_left; (first | omega | (simp <;> omega)))), by simp [Cls, go_sem, hgbq', F5, y5gq0, y5gqp1, y5gqp2, y5w0, y5wp1, y5wp2, y5w21, y5w20, y5w2p1, y5w2p2]⟩
      case rest =>
        obtain ⟨w6, rfl⟩ : ∃ wo : World, wo = wc := ⟨_, rfl⟩
        obtain ⟨hRA6, hOB6, D6, C6⟩ := hcut
        have HM6 : Hid (LpMem w6 (some ⟨g, 0, none⟩) (some ⟨gb, 0, none⟩) AO (swapV p i k r q x y)) := Lib.hid ⟨hRA6.read, hOB6.ints_at, HM.out.obj.below D6, by show (swapAt p.rows i k r q).length ≤ _; rw [swapAt_len, hrl.out]; omega, by show (swapAt p.bounds i k x y).length ≤ _; rw [swapAt_len, hbl.out]; omega, HM.out.no⟩
        have HL1 : Hid ((swapV p i k r q x y).rows.length = m) := Lib.hid (by show (swapAt p.rows i k r q).length = _; rw [swapAt_len, hrl.out])
        have HL2 : Hid ((swapV p i k r q x y).bounds.length = m) := Lib.hid (by show (swapAt p.bounds i k x y).length = _; rw [swapAt_len, hbl.out])
        have HL3 : Hid ((swapV p i k r q x y).obj.length = n) := Lib.hid hol.out
        have HSW := Lib.hid (swap_ok HOK.out hr.out hq.out hx.out hy.out)
        have HPA := Lib.hid (swap_part hr.out hq.out hx.out hy.out)
        clear hRA6 hOB6 hxc hyc hvk5
        have F6 := C6
        simp only [Cls, and_true] at F6
        have y6gq0 : gq < w6.heap.size := C6.blk (b := gq) (k := 0) (v := .slice (some ⟨g, 0, none⟩) m cg) (by simp)
        have y6gqp1 : gq < w6.heap.size + 1 := (by omega)
        have y6gqp2 : gq < w6.heap.size + 1 + 1 := (by omega)
        have y6w0 : w.heap.size < w6.heap.size := C6.blk (b := w.heap.size) (k := 0) (v := .slice AR m cr) (by simp)
        have y6wp1 : w.heap.size < w6.heap.size + 1 := (by omega)
        have y6wp2 : w.heap.size < w6.heap.size + 1 + 1 := (by omega)
        have y6w21 : w2.heap.size + 1 < w6.heap.size := C6.blk (b := w2.heap.size + 1) (k := 0) (v := .int .i64 0) (by simp)
        have y6w20 : w2.heap.size < w6.heap.size := (by omega)
        have y6w2p1 : w2.heap.size < w6.heap.size + 1 := (by omega)
        have y6w2p2 : w2.heap.size < w6.heap.size + 1 + 1 := (by omega)
        go_wp2_with fail
        refine (solve_any _ (some ⟨g, 0, none⟩) (some ⟨gb, 0, none⟩) AO cg ca co (swapV p i k r q x y) (HM6.out.below (by repeat (first | with_reducible exact Below.refl _ _ | with_reducible apply bdrew | with_reducible apply bdrewN | with_reducible apply balloc | ((with_reducible refine bset ?_ ?_ _); rotate_left; (first | omega | (simp <;> omega)))))) m m n HL1 HL2 HL3).mono ?_
        rintro e w7 ⟨c7, c72, st7, num7, den7, dx7, dy7, dr7, Ax7, Ay7, Ar7, lx7, ly7, lr7, xs7, ys7, rs7, rfl, HF7, HL7, HZ7, HS7, HX7, hB7⟩
        have D7 := dstep w hB7 (by repeat (first | with_reducible exact D6 | with_reducible apply bdrew | with_reducible apply bdrewN | with_reducible apply balloc | ((with_reducible refine bset ?_ ?_ _); rotate_left; (first | omega | (simp <;> omega)))))
        have d7s := D7.size
        have C7 := Cls.below (l := [(w.heap.size, 0, .slice AR m cr), (w.heap.size, 1, .slice AB m cb), (w.heap.size, 2, .slice AO n co), (w2.heap.size, 0, .int .i64 st2), (w2.heap.size, 1, .int .i64 num2), (w2.heap.size, 2, .int .i64 den2), (w2.heap.size, 3, .slice Ax2 lx2 lx2), (w2.heap.size, 4, .int .i64 dx2), (w2.heap.size, 5, .slice Ay2 ly2 ly2), (w2.heap.size, 6, .int .i64 dy2), (w2.heap.size, 7, .slice Ar2 lr2 lr2), (w2.heap.size, 8, .int .i64 dr2), (w2.heap.size + 1, 0, .int .i64 0), (w2.heap.size + 1, 1, .int .i64 c22), (gq, 0, .slice (some ⟨g, 0, none⟩) m cg), (gq, 1, .slice (some ⟨gb, 0, none⟩) m ca), (gq, 2, .slice AO n co)]) hB7 (by simp [Cls, go_sem, F6, y6gq0, y6gqp1, y6gqp2, y6w0, y6wp1, y6wp2, y6w21, y6w20, y6w2p1, y6w2p2])
        have F7 := C7
        simp only [Cls, and_true] at F7
        have y7gq0 : gq < w7.heap.size := C7.blk (b := gq) (k := 0) (v := .slice (some ⟨g, 0, none⟩) m cg) (by simp)
        have y7gqp1 : gq < w7.heap.size + 1 := (by omega)
        have y7gqp2 : gq < w7.heap.size + 1 + 1 := (by omega)
        have y7w0 : w.heap.size < w7.heap.size := C7.blk (b := w.heap.size) (k := 0) (v := .slice AR m cr) (by simp)
        have y7wp1 : w.heap.size < w7.heap.size + 1 := (by omega)
        have y7wp2 : w.heap.size < w7.heap.size + 1 + 1 := (by omega)
        have y7w21 : w2.heap.size + 1 < w7.heap.size := C7.blk (b := w2.heap.size + 1) (k := 0) (v := .int .i64 0) (by simp)
        have y7w20 : w2.heap.size < w7.heap.size := (by omega)
        have y7w2p1 : w2.heap.size < w7.heap.size + 1 := (by omega)
        have y7w2p2 : w2.heap.size < w7.heap.size + 1 + 1 := (by omega)
        obtain rfl : c7 = 0 := by have h := HF7.out; rw [lpF_ok HSW.out] at h; injection h with h; exact h.symm
        have HSO7 := Lib.hid (HS7.out rfl)
        obtain ⟨hs1, hs2, hs3⟩ := sol_same HPA.out.1 HPA.out.2 HSO.out HSO7.out
        clear HSO HSO7 HS7 HZ7 HF7 HX7 HL7
        subst hs1
        subst hs2
        subst hs3
        go_wp2
        refine bodyPost_ret (v := .bool true) ?_ rfl ⟨rfl, by repeat (first | with_reducible exact D7 | with_reducible apply bdrew | with_reducible apply bdrewN | with_reducible apply balloc | ((with_reducible refine bset ?_ ?_ _); rotate_left; (first | omega | (simp <;> omega))))⟩
        simp [results, Try.results3, go_sem, F7, y7gq0, y7gqp1, y7gqp2, y7w0, y7wp1, y7wp2, y7w21, y7w20, y7w2p1, y7w2p2]

theorem walk_loi (w : World) (AR AB AO : Option Addr) (cr cb co : Nat) (p : LpV) (hM : LpMem w AR AB AO p) (m mb n : Nat) (hrl : Hid (p.rows.length = m)) (hbl : Hid (p.bounds.length = mb)) (hol : Hid (p.obj.length = n)) (hNB : NilOk AB p.bounds cb) (hNR : AR = none → p.rows = [] ∧ cr = 0) (a b : Int) :
    Calls Try.prog 3 #[.agg #[.slice AR m cr, .slice AB mb cb, .slice AO n co], .int .i64 a, .int .i64 b] w fun e w' => e = .returned (.bool true) ∧ Below w.heap.size w w' := by
  by_cases h : (lpF p).1 = 0
  · have hok := lpF_zero h
    have hmb : mb = m := by rw [← hbl.out, ← hrl.out]; exact hok.b
    subst hmb
    have hm6 : mb ≤ 6 := by have := hok.m; rw [hrl.out] at this; exact this
    by_cases ha : 0 ≤ a ∧ a ≤ (mb : Int) - 1
    · by_cases hb : 0 ≤ b ∧ b ≤ (mb : Int) - 1
      · obtain ⟨i, rfl⟩ := Int.eq_ofNat_of_zero_le ha.1
        obtain ⟨k, rfl⟩ := Int.eq_ofNat_of_zero_le hb.1
        exact walk_loi_2 w AR AB AO cr cb co p hM hok mb n hrl hbl hol hm6 hNB hNR i k (by omega) (by omega)
      · exact walk_loi_1 w AR AB AO cr cb co p hM hok mb n hrl hbl hol hm6 a b (.inr hb)
    · exact walk_loi_1 w AR AB AO cr cb co p hM hok mb n hrl hbl hol hm6 a b (.inl ha)
  · exact walk_loi_0 w AR AB AO cr cb co p hM m mb n hrl hbl hol a b h

namespace linearOrderIrrelevant
open Go.ChangeShapes Go.WideShapes Go.ChangeAt Go.RowKit

set_option maxRecDepth 100000 in
theorem lifted (os : Os) (started : os.Started) (H : Type) (enc : TypeId × Value → H) :
    ReturnsInHanded {} Try.checked os 3 .any (Rows.linearOrderIrrelevantSpec.pre6 enc Try.prog Try.f3 Rows.linearOrderIrrelevantRow.domain false) (Rows.linearOrderIrrelevantSpec.post enc Try.prog Try.f3 false true false false) := by
  refine returnsInHanded_of_change (C := Try.checked) own_knob started (by kernel_rfl) Try.func3
    (ChangeSpec.witness6 (enc := enc) (C := Try.checked) false ⟨#[], #[.agg #[.slice none 0 0, .slice none 0 0, .slice none 0 0], .int .i64 0, .int .i64 0], []⟩ 8 (by kernel_rfl) (by kernel_rfl) (by kernel_rfl) (by kernel_rfl)) ?_
  intro W base args ds gs before hval0 hW _ hsz
  have hval : ∀ (j : Nat) t v, Try.f3.params[j]? = some t → args[j]? = some v → Value.okWide Try.prog W .any base t v := hval0
  have hpost := fun (W' : World) (hfn : gs = [] → Rows.linearOrderIrrelevantSpec.fn H (ds ++ gs) = { results := [.lit (.bool true)], args := ds }) (hb : Below W.heap.size W W') => law_post (f := Try.f3) (tb := 4) laid_out_B Try.underlying4 rfl (by kernel_rfl) rfl hfn hW hb
  obtain ⟨p, q, hA0, hV, hpq, hfz, hnd⟩ := hW
  have hA : DataW.TrodAll enc Try.prog W 0 (fun _ => true) true Try.f3.params.toList args.toList ds p := hA0
  rw [Try.params3] at hA hval
  obtain ⟨v0, vs0, d0, ds0, p0, q0, hargs, rfl, hp0, h0, r0⟩ := trodAll_cons hA
  obtain ⟨v1, vs1, d1, ds1, p1, q1, rfl, rfl, hp1, h1, r1⟩ := trodAll_cons r0
  obtain ⟨v2, vs2, d2, ds2, p2, q2, rfl, rfl, hp2, h2, r2⟩ := trodAll_cons r1
  obtain ⟨rfl, rfl, hpn⟩ := trodAll_nil r2
  obtain rfl : args = #[v0, v1, v2] := by cases args; simp_all
  obtain ⟨p, AR, AB, AO, cr, cb, co, rfl, hM, hNR, hNB, hNO⟩ := open_lpW (hval 0 25 v0 rfl rfl) h0
  obtain ⟨a, rfl, rfl, rfl, w1⟩ := open_int Try.underlying3 (hval 1 3 v1 rfl rfl) h1
  obtain ⟨b, rfl, rfl, rfl, w2⟩ := open_int Try.underlying3 (hval 2 3 v2 rfl rfl) h2
  refine (walk_loi W AR AB AO cr cb co p hM p.rows.length p.bounds.length p.obj.length (Lib.hid rfl) (Lib.hid rfl) (Lib.hid rfl) hNB hNR.1 a b).mono fun e W' ⟨he, hb⟩ => ?_
  subst he
  exact ⟨_, rfl, hpost W' (fun hg => by subst hg; rfl) hb⟩

theorem closed : joinedFacts Try.checked.prog 3 Try.f3 Rows.linearOrderIrrelevantSpec Rows.linearOrderIrrelevantRow = true := by
  unfold joinedFacts
  rw [pf_enter, pf_lifts, pf_make]
  kernel_rfl
theorem proved : Rows.LinearOrderIrrelevantSaid :=
  OpenClaim.holds_of_wide 3 Try.f3 rfl rfl rfl rfl rfl rfl rfl ⟨rfl, rfl, rfl, rfl, rfl⟩ rfl rfl rfl rfl rfl (by kernel_rfl) Try.func3 closed
    (of_decide_eq_true (by kernel_rfl)) (by unfold Func.isWrapper; first | (rw [if_pos (by decide +kernel)]; kernel_rfl) | (rw [if_neg (by decide +kernel)]; exact ⟨rfl, rfl⟩))
    (fun os started H enc _ => lifted os started H enc)
#print axioms proved
end linearOrderIrrelevant

end Go.Proofs.Ytkepfmglljkjhaa
