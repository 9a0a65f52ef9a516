/-
  linear.Solve: the outcome, with what proves it.
-/
import Derived.Test.YtkepfmglljkjhaaS6
import Derived.Test.YtkepfmglljkjhaaS9
import Derived.Test.YtkepfmglljkjhaaS7
import Derived.Test.YtkepfmglljkjhaaS3
namespace Go.Proofs.Ytkepfmglljkjhaa
open Go.RowKit
set_option linter.unusedVariables false
set_option linter.unusedSimpArgs false

theorem Cls.low {base : Nat} {w w' : World} {l : List (Nat × Nat × Value)} (hb : Below base w w') (h : Cls w l) (hl : ∀ x ∈ l, x.1 < base) : Cls w' l := by
  induction l with
  | nil => trivial
  | cons x r ih =>
    obtain ⟨b, k, v⟩ := x
    obtain ⟨⟨h1, h2⟩, h3⟩ := h
    have hl' : b < base := hl (b, k, v) (by simp)
    exact ⟨⟨(hb.cell (p := ⟨b, k, none⟩) hl').trans h1, (hb.frozen (p := ⟨b, k, none⟩) hl').trans h2⟩, ih h3 fun x hx => hl x (by simp [hx])⟩
theorem TbMem.cellv {base m N : Nat} {w : World} {L : TbLay} {bs : Nat → Nat} {T : Nat → Nat → Int} {den v : Int} (h : TbMem base w L m N bs T den) {i j : Nat} (hi : i < m + 2) (hj : j < N) (hv : Hid (T i j = v)) : w.cell? ⟨L.blk i, j, none⟩ = some (.int .i64 v) := by
  rw [← hv.out]; exact (h.cell hi hj).1
theorem IArr.alloc_ {w : World} {g : Nat} {xs : List Int} (h : IArr w g xs) (o : Obj) : IArr (w.alloc o) g xs := Arr.alloc h o
theorem dlow {base : Nat} {w X w1 : World} (h : Below w.heap.size w X) (hB : Below base X w1) (hle : w.heap.size ≤ base) : Below w.heap.size w w1 := h.trans (hB.mono hle)
theorem lvalidate_ok (w : World) (AR AB AO : Option Addr) (cr cb co : Nat) (p : LpV) (hM : LpMem w AR AB AO p) (hok : LpOk p) (m n : Nat) (hrl : p.rows.length = m) (hbl : p.bounds.length = m) (hol : p.obj.length = n) :
    Calls Try.prog 15 #[.agg #[.slice AR m cr, .slice AB m cb, .slice AO n co]] w fun e w' => e = .returned (.agg #[.int .i64 0, .int .i64 0]) ∧ Below w.heap.size w w' := by
  have h := lvalidate_any w AR AB AO cr cb co p hM
  rw [hrl, hbl, hol, lpF_ok hok] at h
  exact h
theorem point_at (w : World) (base : Nat) (L : TbLay) (m N n : Nat) (bs : Nat → Nat) (T : Nat → Nat → Int) (den : Int) (col : Nat) (ci : Int) (hci : ci = col) (sg : Int) (hM : TbMem base w L m N bs T den) (hcol : col < N) (hsg : sg = 1 ∨ sg = -1) (hTB : ∀ i, i < m → -1000000000 ≤ T i col ∧ T i col ≤ 1000000000) (hinj : ∀ i k, i < m → k < m → bs i = bs k → i = k) (hm6 : m ≤ 6) (hn6 : n ≤ 100) :
    Calls Try.prog 37 #[.pointer (some ⟨L.b, 0, none⟩), .int .i64 n, .int .i64 ci, .int .i64 sg] w fun e w' => ∃ g : Nat, e = .returned (.slice (some ⟨g, 0, none⟩) n n) ∧ w.heap.size ≤ g ∧ IArr w' g (tbRow n fun j => sg * ptTo bs T col m j) ∧ Below w.heap.size w w' := by
  subst hci
  exact point_walk w base L m N n bs T den col sg hM hcol hsg hTB hinj hm6 hn6
theorem vector_at (w : World) (A : Option Addr) (cA n : Nat) (xs : List Int) (d : Int) (hl : xs.length = n) (hI : Ints w A xs) (hn : n ≤ 100) (hx : ∀ x ∈ xs, -1000000000 ≤ x ∧ x ≤ 1000000000) (hd0 : 0 < d) (hd1 : d ≤ 1000000000) :
    Calls Try.prog 35 #[.slice A n cA, .int .i64 d] w fun e w' => ∃ (g : Nat) (q : Int), e = .returned (.agg #[.slice (some ⟨g, 0, none⟩) n n, .int .i64 q]) ∧ Hid (q = d.tdiv (vgcd d xs)) ∧ w.heap.size ≤ g ∧ Hid (IArr w' g (vdiv d xs)) ∧ Below w.heap.size w w' := by
  subst hl
  refine (vector_any w A cA xs d hI hn hx hd0 hd1).mono ?_
  rintro e w' ⟨g, rfl, h1, h2, h3⟩
  exact ⟨g, _, rfl, Lib.hid rfl, h1, Lib.hid h2, h3⟩
theorem make_sol (w : World) (v d : Int) (h1 : -4611686018427387904 ≤ v) (h2 : v ≤ 4611686018427387904) (h3 : -4611686018427387904 ≤ d) (h4 : d ≤ 4611686018427387904) (hd : d ≠ 0) (hc : rc v d = 0) (hi : ri v d = 0) :
    Calls Try.prog 38 #[.int .i64 v, .int .i64 d] w fun e w' => ∃ a b : Int, e = .returned (.tuple #[.agg #[.int .i64 a, .int .i64 b], .agg #[.int .i64 0, .int .i64 0]]) ∧ Hid (a = rn v d ∧ b = rd v d) ∧ Below w.heap.size w w' := by
  have h := make_in v d h1 h2 h3 h4 hd w
  rw [hc, hi] at h
  exact h.mono fun e w' h => ⟨_, _, h.1, Lib.hid ⟨rfl, rfl⟩, h.2⟩
theorem newtab_at (w : World) (AR AB AO : Option Addr) (cr cb co : Nat) (p : LpV) (hM : LpMem w AR AB AO p) (hok : LpOk p) (m n N : Nat) (hrl : Hid (p.rows.length = m)) (hbl : Hid (p.bounds.length = m)) (hol : Hid (p.obj.length = n)) (hN : Hid (N = n + m + 2)) (hm6 : m ≤ 6) (hn6 : n ≤ 6) (P : LA.LP) (hP : Hid (p.lp = P)) (b : Nat) (hb : w.heap.size = b) :
    Calls Try.prog 33 #[.agg #[.slice AR m cr, .slice AB m cb, .slice AO n co]] w fun e w' => ∃ L : TbLay, e = .returned (.pointer (some ⟨L.b, 0, none⟩)) ∧ TbMem b w' L P.m P.N (fun i => P.n + i) P.T0 1 ∧ Below w.heap.size w w' := by
  refine (newtab_core w AR AB AO cr cb co p hM hok m n N hrl hbl hol hN hm6 hn6).mono ?_
  rintro e w' ⟨L, rfl, h1, h2⟩
  refine ⟨L, rfl, ?_, h2⟩
  have e0 := hP.out
  subst e0
  subst hb
  have e1 : p.lp.m = m := hrl.out
  have e2 : p.lp.n = n := hol.out
  have e3 : p.lp.N = N := by unfold LA.LP.N; rw [e1, e2]; exact hN.out.symm
  rw [e1, e2, e3]
  exact h1
/-- What Solve returns for a valid program. -/
def Solved (P : LA.LP) (w w' : World) (e : Ending) : Prop := ∃ (st num den dx dy dr : Int) (Ax Ay Ar : Option Addr) (x y r : List Int), e = .returned (.tuple #[.agg #[.int .i64 st, .int .i64 num, .int .i64 den, .slice Ax x.length x.length, .int .i64 dx, .slice Ay y.length y.length, .int .i64 dy, .slice Ar r.length r.length, .int .i64 dr], .agg #[.int .i64 0, .int .i64 0]]) ∧ (Ints w' Ax x ∧ Ints w' Ay y ∧ Ints w' Ar r) ∧ SolOut P st num den x dx y dy r dr ∧ Below w.heap.size w w'
theorem solved_mk {P : LA.LP} {w w' : World} (st num den dx dy dr : Int) (Ax Ay Ar : Option Addr) (x y r : List Int) (nx ny nr : Nat) (hx : x.length = nx) (hy : y.length = ny) (hr : r.length = nr) (h1 : Ints w' Ax x) (h2 : Ints w' Ay y) (h3 : Ints w' Ar r) (h4 : SolOut P st num den x dx y dy r dr) (h5 : Below w.heap.size w w') :
    Solved P w w' (.returned (.tuple #[.agg #[.int .i64 st, .int .i64 num, .int .i64 den, .slice Ax nx nx, .int .i64 dx, .slice Ay ny ny, .int .i64 dy, .slice Ar nr nr, .int .i64 dr], .agg #[.int .i64 0, .int .i64 0]])) := by
  subst hx; subst hy; subst hr
  exact ⟨st, num, den, dx, dy, dr, Ax, Ay, Ar, x, y, r, rfl, ⟨h1, h2, h3⟩, h4, h5⟩
set_option maxRecDepth 100000 in
set_option maxHeartbeats 400000 in
theorem solve_1 (w : World) (AR AB AO : Option Addr) (cr cb co : Nat) (p : LpV) (hM : LpMem w AR AB AO p) (h : ¬ (lpF p).1 = 0) :
    Calls Try.prog 11 #[.agg #[.slice AR p.rows.length cr, .slice AB p.bounds.length cb, .slice AO p.obj.length co]] w fun e w' => e = .returned (.tuple #[.agg #[.int .i64 0, .int .i64 0, .int .i64 0, .slice none 0 0, .int .i64 0, .slice none 0 0, .int .i64 0, .slice none 0 0, .int .i64 0], .agg #[.int .i64 (lpF p).1, .int .i64 (lpF p).2]]) ∧ Below w.heap.size w w' := by
  have N := bb_no h
  have N' := bn_yes h
  go_enter Try.func11, Try.ntmps11
  go_wp2_with fail
  refine (lvalidate_any _ AR AB AO cr cb co p (hM.below (by repeat (first | with_reducible exact Below.refl _ _ | with_reducible apply bdrew | with_reducible apply bdrewN | with_reducible apply balloc | ((with_reducible refine bset ?_ ?_ _); rotate_left; (first | omega | (simp <;> omega))))))).mono ?_
  rintro e w1 ⟨rfl, hB1⟩
  have D1 := dstep w hB1 (by repeat (first | with_reducible exact Below.refl _ _ | with_reducible apply bdrew | with_reducible apply bdrewN | with_reducible apply balloc | ((with_reducible refine bset ?_ ?_ _); rotate_left; (first | omega | (simp <;> omega)))))
  have d1s := D1.size
  have C1 := Cls.below (l := [(w.heap.size, 0, .slice AR p.rows.length cr), (w.heap.size, 1, .slice AB p.bounds.length cb), (w.heap.size, 2, .slice AO p.obj.length co), (w.heap.size + 1, 0, .int .i64 0), (w.heap.size + 1, 1, .int .i64 0), (w.heap.size + 1, 2, .int .i64 0), (w.heap.size + 1, 3, .slice none 0 0), (w.heap.size + 1, 4, .int .i64 0), (w.heap.size + 1, 5, .slice none 0 0), (w.heap.size + 1, 6, .int .i64 0), (w.heap.size + 1, 7, .slice none 0 0), (w.heap.size + 1, 8, .int .i64 0), (w.heap.size + 1 + 1, 0, .int .i64 0), (w.heap.size + 1 + 1, 1, .int .i64 0)]) hB1 (by simp [Cls, go_sem])
  have F1 := C1
  simp only [Cls, and_true] at F1
  have y1w2 : w.heap.size + 1 + 1 < w1.heap.size := C1.blk (b := w.heap.size + 1 + 1) (k := 0) (v := .int .i64 0) (by simp)
  have y1w1 : w.heap.size + 1 < w1.heap.size := (by omega)
  have y1w0 : w.heap.size < w1.heap.size := (by omega)
  have y1wp1 : w.heap.size < w1.heap.size + 1 := (by omega)
  have y1wp2 : w.heap.size < w1.heap.size + 1 + 1 := (by omega)
  go_wp2_with fail
  go_region
  all_goals
    go_wp2
    refine bodyPost_ret (v := .tuple #[.agg #[.int .i64 0, .int .i64 0, .int .i64 0, .slice none 0 0, .int .i64 0, .slice none 0 0, .int .i64 0, .slice none 0 0, .int .i64 0], .agg #[.int .i64 (lpF p).1, .int .i64 (lpF p).2]]) ?_ rfl ⟨rfl, by repeat (first | with_reducible exact D1 | with_reducible apply bdrew | with_reducible apply bdrewN | with_reducible apply balloc | ((with_reducible refine bset ?_ ?_ _); rotate_left; (first | omega | (simp <;> omega))))⟩
    simp [results, Try.results11, go_sem, F1, y1w2, y1w1, y1w0, y1wp1, y1wp2]

set_option maxRecDepth 100000 in
set_option maxHeartbeats 16000000 in
theorem solve_2 (w : World) (AR AB AO : Option Addr) (cr cb co : Nat) (p : LpV) (hM : LpMem w AR AB AO p) (hok : LpOk p) (m n : Nat) (hrl : Hid (p.rows.length = m)) (hbl : Hid (p.bounds.length = m)) (hol : Hid (p.obj.length = n)) (P : LA.LP) (hP : Hid (p.lp = P)) :
    Calls Try.prog 11 #[.agg #[.slice AR m cr, .slice AB m cb, .slice AO n co]] w fun e w' => Solved P w w' e := by
  have HOK := Lib.hid hok
  obtain ⟨N, hN⟩ : ∃ N, Hid (N = n + m + 2) := ⟨_, Lib.hid rfl⟩
  have HPm : Hid (P.m = m) := Lib.hid (by rw [← hP.out]; exact hrl.out)
  have HPn : Hid (P.n = n) := Lib.hid (by rw [← hP.out]; exact hol.out)
  have HPN : Hid (P.N = N) := Lib.hid (by unfold LA.LP.N; rw [HPm.out, HPn.out]; exact hN.out.symm)
  have HPl : Hid (P.last = n + m + 1) := Lib.hid (by unfold LA.LP.last; rw [HPm.out, HPn.out])
  have HPI : Hid (LA.LPIn P) := Lib.hid (by rw [← hP.out]; exact hok.lpin)
  have hm6 : m ≤ 6 := by have := HPI.out.m; rw [HPm.out] at this; exact this
  have hn6 : n ≤ 6 := by have := HPI.out.n; rw [HPn.out] at this; exact this
  have hN14 : N ≤ 14 := by have := hN.out; omega
  have hi1 : n + m + 1 < N := by have := hN.out; omega
  clear hok
  go_enter Try.func11, Try.ntmps11
  go_wp2_with fail
  refine (lvalidate_ok _ AR AB AO cr cb co p (hM.below (by repeat (first | with_reducible exact Below.refl _ _ | with_reducible apply bdrew | with_reducible apply bdrewN | with_reducible apply balloc | ((with_reducible refine bset ?_ ?_ _); rotate_left; (first | omega | (simp <;> omega)))))) HOK.out m n hrl.out hbl.out hol.out).mono ?_
  rintro e w1 ⟨rfl, hB1⟩
  have D1 := dstep w hB1 (by repeat (first | with_reducible exact Below.refl _ _ | with_reducible apply bdrew | with_reducible apply bdrewN | with_reducible apply balloc | ((with_reducible refine bset ?_ ?_ _); rotate_left; (first | omega | (simp <;> omega)))))
  have d1s := D1.size
  have C1 := Cls.below (l := [(w.heap.size, 0, .slice AR m cr), (w.heap.size, 1, .slice AB m cb), (w.heap.size, 2, .slice AO n co), (w.heap.size + 1, 0, .int .i64 0), (w.heap.size + 1, 1, .int .i64 0), (w.heap.size + 1, 2, .int .i64 0), (w.heap.size + 1, 3, .slice none 0 0), (w.heap.size + 1, 4, .int .i64 0), (w.heap.size + 1, 5, .slice none 0 0), (w.heap.size + 1, 6, .int .i64 0), (w.heap.size + 1, 7, .slice none 0 0), (w.heap.size + 1, 8, .int .i64 0), (w.heap.size + 1 + 1, 0, .int .i64 0), (w.heap.size + 1 + 1, 1, .int .i64 0)]) hB1 (by simp [Cls, go_sem])
  have F1 := C1
  simp only [Cls, and_true] at F1
  have y1w2 : w.heap.size + 1 + 1 < w1.heap.size := C1.blk (b := w.heap.size + 1 + 1) (k := 0) (v := .int .i64 0) (by simp)
  have y1w1 : w.heap.size + 1 < w1.heap.size := (by omega)
  have y1w0 : w.heap.size < w1.heap.size := (by omega)
  have y1wp1 : w.heap.size < w1.heap.size + 1 := (by omega)
  have y1wp2 : w.heap.size < w1.heap.size + 1 + 1 := (by omega)
  go_wp2_with fail
  go_quiet (fail)
  go_wp2_with fail
  refine (newtab_at _ AR AB AO cr cb co p (hM.below (by repeat (first | with_reducible exact D1 | with_reducible apply bdrew | with_reducible apply bdrewN | with_reducible apply balloc | ((with_reducible refine bset ?_ ?_ _); rotate_left; (first | omega | (simp <;> omega)))))) HOK.out m n N hrl hbl hol hN hm6 hn6 P hP (w1.heap.size + 1) (by simp)).mono ?_
  rintro e w2 ⟨L, rfl, hM2, hB2⟩
  have D2 := dstep w hB2 (by repeat (first | with_reducible exact D1 | with_reducible apply bdrew | with_reducible apply bdrewN | with_reducible apply balloc | ((with_reducible refine bset ?_ ?_ _); rotate_left; (first | omega | (simp <;> omega)))))
  have d2s := D2.size
  have C2 := Cls.below (l := [(w.heap.size, 0, .slice AR m cr), (w.heap.size, 1, .slice AB m cb), (w.heap.size, 2, .slice AO n co), (w.heap.size + 1, 0, .int .i64 0), (w.heap.size + 1, 1, .int .i64 0), (w.heap.size + 1, 2, .int .i64 0), (w.heap.size + 1, 3, .slice none 0 0), (w.heap.size + 1, 4, .int .i64 0), (w.heap.size + 1, 5, .slice none 0 0), (w.heap.size + 1, 6, .int .i64 0), (w.heap.size + 1, 7, .slice none 0 0), (w.heap.size + 1, 8, .int .i64 0), (w.heap.size + 1 + 1, 0, .int .i64 0), (w.heap.size + 1 + 1, 1, .int .i64 0), (w1.heap.size, 0, .int .i64 0), (w1.heap.size, 1, .int .i64 0)]) hB2 (by simp [Cls, go_sem, F1, y1w2, y1w1, y1w0, y1wp1, y1wp2])
  have F2 := C2
  simp only [Cls, and_true] at F2
  have y2w2 : w.heap.size + 1 + 1 < w2.heap.size := C2.blk (b := w.heap.size + 1 + 1) (k := 0) (v := .int .i64 0) (by simp)
  have y2w1 : w.heap.size + 1 < w2.heap.size := (by omega)
  have y2w0 : w.heap.size < w2.heap.size := (by omega)
  have y2wp1 : w.heap.size < w2.heap.size + 1 := (by omega)
  have y2wp2 : w.heap.size < w2.heap.size + 1 + 1 := (by omega)
  have y2w10 : w1.heap.size < w2.heap.size := C2.blk (b := w1.heap.size) (k := 0) (v := .int .i64 0) (by simp)
  have y2w1p1 : w1.heap.size < w2.heap.size + 1 := (by omega)
  have y2w1p2 : w1.heap.size < w2.heap.size + 1 + 1 := (by omega)
  obtain ⟨base, hbe⟩ : ∃ b, b = w1.heap.size + 1 := ⟨_, rfl⟩
  rw [← hbe] at hM2
  have hb2 : base ≤ w2.heap.size := by have := hB2.size; simp at this; omega
  have hbw : w.heap.size ≤ base := by have := D1.size; omega
  obtain ⟨Lb, LgR, LcR, Lblk, LAB, LcB⟩ := L
  have HM2 := Lib.hid hM2
  clear hM2
  go_wp2_with fail
  refine (start_any _ base ⟨Lb, LgR, LcR, Lblk, LAB, LcB⟩ P HPI.out (HM2.out.below (by repeat (first | with_reducible exact Below.refl _ _ | with_reducible apply bdrew | with_reducible apply bdrewN | with_reducible apply balloc | ((with_reducible refine bset ?_ ?_ _); rotate_left; (first | omega | (simp <;> omega)))))) (by (try simp); omega)).mono ?_
  rintro e w3 ⟨s, ok, rfl, hok3, hno3, hinf3, hM3, hB3⟩
  have D3 := dlow (w := w) (by repeat (first | with_reducible exact D2 | with_reducible apply bdrew | with_reducible apply bdrewN | with_reducible apply balloc | ((with_reducible refine bset ?_ ?_ _); rotate_left; (first | omega | (simp <;> omega))))) hB3 hbw
  have E3 : Below base w2 w3 := (by repeat (first | with_reducible exact Below.refl _ _ | with_reducible apply bdrew | with_reducible apply bdrewN | with_reducible apply balloc | ((with_reducible refine bset ?_ ?_ _); rotate_left; (first | omega | (simp <;> omega)))) : Below base w2 _).trans hB3
  have d3s := D3.size
  have C3 := Cls.low (l := [(w.heap.size, 0, .slice AR m cr), (w.heap.size, 1, .slice AB m cb), (w.heap.size, 2, .slice AO n co), (w.heap.size + 1, 0, .int .i64 0), (w.heap.size + 1, 1, .int .i64 0), (w.heap.size + 1, 2, .int .i64 0), (w.heap.size + 1, 3, .slice none 0 0), (w.heap.size + 1, 4, .int .i64 0), (w.heap.size + 1, 5, .slice none 0 0), (w.heap.size + 1, 6, .int .i64 0), (w.heap.size + 1, 7, .slice none 0 0), (w.heap.size + 1, 8, .int .i64 0), (w.heap.size + 1 + 1, 0, .int .i64 0), (w.heap.size + 1 + 1, 1, .int .i64 0), (w1.heap.size, 0, .int .i64 0), (w1.heap.size, 1, .int .i64 0)]) E3 (by simp [Cls, go_sem, F2, y2w2, y2w1, y2w0, y2wp1, y2wp2, y2w10, y2w1p1, y2w1p2]) (by simp; omega)
  have F3 := C3
  simp only [Cls, and_true] at F3
  have y3w2 : w.heap.size + 1 + 1 < w3.heap.size := C3.blk (b := w.heap.size + 1 + 1) (k := 0) (v := .int .i64 0) (by simp)
  have y3w1 : w.heap.size + 1 < w3.heap.size := (by omega)
  have y3w0 : w.heap.size < w3.heap.size := (by omega)
  have y3wp1 : w.heap.size < w3.heap.size + 1 := (by omega)
  have y3wp2 : w.heap.size < w3.heap.size + 1 + 1 := (by omega)
  have y3w10 : w1.heap.size < w3.heap.size := C3.blk (b := w1.heap.size) (k := 0) (v := .int .i64 0) (by simp)
  have y3w1p1 : w1.heap.size < w3.heap.size + 1 := (by omega)
  have y3w1p2 : w1.heap.size < w3.heap.size + 1 + 1 := (by omega)
  have HO3 := Lib.hid hok3
  have HN3 := Lib.hid hno3
  have HI3 := Lib.hid hinf3
  have HM3 := Lib.hid hM3
  have hb3 : base ≤ w3.heap.size := by have := E3.size; omega
  clear hok3 hno3 hinf3 hM3 hB3
  cases ok with
  | false =>
    have hM3' : TbMem base w3 ⟨Lb, LgR, LcR, Lblk, LAB, LcB⟩ m N s.bs s.T s.den := by have h := HM3.out; rw [HPm.out, HPN.out] at h; exact h
    have hx0 := hM3'.box0
    have hx2 := hM3'.box2
    have hxo := hM3'.out (m + 1) (by omega)
    have hxr := hM3'.row (m + 1) (by omega)
    dsimp only at hx0 hx2 hxo hxr
    have hlb := World.block_lt_of_cell? w3 _ hx0
    have hm3 : (m : Int) + 1 < (m : Int) + 2 := by omega
    have hm4 : (0 : Int) ≤ (m : Int) + 1 := by omega
    have hw1 : IntKind.i64.wrap ((m : Int) + 1) = (m : Int) + 1 := Go.IntWalk.i64_in _ (by omega)
    have hw2 : IntKind.i64.wrap ((n : Int) + (m : Int)) = (n : Int) + (m : Int) := Go.IntWalk.i64_in _ (by omega)
    obtain ⟨A', hA', hcut⟩ := cut_part (Lblk (m + 1)) N n m (by omega) (by omega)
    have hrun := hcut (n : Int) ((n : Int) + (m : Int)) rfl rfl
    have HA' := Lib.hid hA'
    have hden := HO3.out.pos
    have hden2 := HO3.out.le_den HPI.out
    obtain ⟨den, hde⟩ : ∃ d, Hid (s.den = d) := ⟨_, Lib.hid rfl⟩
    rw [hde.out] at hx2 hden hden2
    have HYL : Hid ((tbRow m fun k => s.T (m + 1) (n + k)).length = m) := Lib.hid (tbRow_len _ _)
    have HYE : Hid (solY P s (P.m + 1) = tbRow m fun k => s.T (m + 1) (n + k)) := Lib.hid (by unfold solY; rw [HPm.out, HPn.out])
    have HYB : Hid (∀ x ∈ tbRow m (fun k => s.T (m + 1) (n + k)), -1000000000 ≤ x ∧ x ≤ 1000000000) := Lib.hid (fun x hx => by rw [← HYE.out] at hx; have := solZ_le HPI.out HO3.out x hx; omega)
    have HXR := Lib.hid hxr
    clear hA' hcut hxr
    go_wp2_with fail
    obtain ⟨hsb1, hsb2, -, -⟩ := hM3'.sepB
    dsimp only at hsb1 hsb2
    have hna0 : ¬ w.heap.size + 1 = Lb := by omega
    have hna1 : ¬ w.heap.size + 1 = LgR := by omega
    have hna2 : ¬ w.heap.size + 1 + 1 = Lb := by omega
    have hna3 : ¬ w.heap.size + 1 + 1 = LgR := by omega
    refine wp_region_held_drew (S := fun W => W.cell? ⟨Lb, 0, none⟩ = some (.slice (some ⟨LgR, 0, none⟩) (m + 2) LcR) ∧ W.cell? ⟨LgR, m + 1, none⟩ = some (.slice (some ⟨Lblk (m + 1), 0, none⟩) N N) ∧ W.cell? ⟨Lb, 2, none⟩ = some (.int .i64 den)) (by kernel_rfl) (by (first | exact ⟨hx0, hxo, hx2⟩ | simp [go_sem])) (fun hHeld => ?_)
    refine wpAnyH_take (i := 0) (v := ?vo10) rfl (by kernel_rfl) (by kernel_rfl) (by kernel_rfl) (fun _ _ _ h => h) (Or.inl ⟨by rfl, ?ho10⟩) (by assumption) ?ro10
    case ho10 => (intro w hSw; (try dsimp only at hSw); go_simp; (try with_reducible rfl))
    try simp only [Act.put, List.getElem_toArray, List.getElem_cons_succ, List.getElem_cons_zero, List.setIfInBounds_toArray, List.set_cons_zero, List.set_cons_succ]
    refine wpAnyH_take (i := 1) (v := ?vo11) rfl (by kernel_rfl) (by kernel_rfl) (by kernel_rfl) (fun _ _ _ h => h) (Or.inl ⟨by rfl, ?ho11⟩) (by assumption) ?ro11
    case ho11 => (intro w hSw; (try dsimp only at hSw); go_simp; (try with_reducible rfl))
    try simp only [Act.put, List.getElem_toArray, List.getElem_cons_succ, List.getElem_cons_zero, List.setIfInBounds_toArray, List.set_cons_zero, List.set_cons_succ]
    refine wpAnyH_take (i := 2) (v := ?vo12) rfl (by kernel_rfl) (by kernel_rfl) (by kernel_rfl) (fun _ _ _ h => h) (Or.inl ⟨by rfl, ?ho12⟩) (by assumption) ?ro12
    case ho12 => (intro w hSw; (try dsimp only at hSw); go_simp; (try with_reducible rfl))
    try simp only [Act.put, List.getElem_toArray, List.getElem_cons_succ, List.getElem_cons_zero, List.setIfInBounds_toArray, List.set_cons_zero, List.set_cons_succ]
    refine wpAnyH_take (i := 3) (v := ?vo13) rfl (by kernel_rfl) (by kernel_rfl) (by kernel_rfl) (fun _ _ _ h => h) (Or.inl ⟨by rfl, ?ho13⟩) (by assumption) ?ro13
    case ho13 => (intro w hSw; (try dsimp only at hSw); go_simp; (try with_reducible rfl))
    try simp only [Act.put, List.getElem_toArray, List.getElem_cons_succ, List.getElem_cons_zero, List.setIfInBounds_toArray, List.set_cons_zero, List.set_cons_succ]
    refine wpAnyH_take (i := 4) (v := ?vo14) rfl (by kernel_rfl) (by kernel_rfl) (by kernel_rfl) (fun _ _ _ h => h) (Or.inl ⟨by rfl, ?ho14⟩) (by assumption) ?ro14
    case ho14 => (intro w hSw; (try dsimp only at hSw); go_simp; (try with_reducible rfl))
    try simp only [Act.put, List.getElem_toArray, List.getElem_cons_succ, List.getElem_cons_zero, List.setIfInBounds_toArray, List.set_cons_zero, List.set_cons_succ]
    refine wpAnyH_take (i := 5) (v := ?vo15) rfl (by kernel_rfl) (by kernel_rfl) (by kernel_rfl) (fun _ _ _ h => h) (Or.inl ⟨by rfl, ?ho15⟩) (by assumption) ?ro15
    case ho15 => (intro w hSw; (try dsimp only at hSw); go_simp; (try with_reducible rfl))
    try simp only [Act.put, List.getElem_toArray, List.getElem_cons_succ, List.getElem_cons_zero, List.setIfInBounds_toArray, List.set_cons_zero, List.set_cons_succ]
    refine wpAnyH_take (i := 6) (v := ?vo16) rfl (by kernel_rfl) (by kernel_rfl) (by kernel_rfl) (fun _ _ _ h => h) (Or.inl ⟨by rfl, ?ho16⟩) (by assumption) ?ro16
    case ho16 => (intro w hSw; (try dsimp only at hSw); go_simp; (try with_reducible rfl))
    try simp only [Act.put, List.getElem_toArray, List.getElem_cons_succ, List.getElem_cons_zero, List.setIfInBounds_toArray, List.set_cons_zero, List.set_cons_succ]
    refine wpAnyH_take (i := 7) (v := ?vo17) rfl (by kernel_rfl) (by kernel_rfl) (by kernel_rfl) (fun _ _ _ h => h) (Or.inl ⟨by rfl, ?ho17⟩) (by assumption) ?ro17
    case ho17 => (intro w hSw; (try dsimp only at hSw); go_simp; (try with_reducible rfl))
    try simp only [Act.put, List.getElem_toArray, List.getElem_cons_succ, List.getElem_cons_zero, List.setIfInBounds_toArray, List.set_cons_zero, List.set_cons_succ]
    refine wpAnyH_take (i := 8) (v := ?vo18) rfl (by kernel_rfl) (by kernel_rfl) (by kernel_rfl) (fun _ _ _ h => h) (Or.inl ⟨by rfl, ?ho18⟩) (by assumption) ?ro18
    case ho18 => (intro w hSw; (try dsimp only at hSw); go_simp; (try with_reducible rfl))
    try simp only [Act.put, List.getElem_toArray, List.getElem_cons_succ, List.getElem_cons_zero, List.setIfInBounds_toArray, List.set_cons_zero, List.set_cons_succ]
    refine wpAnyH_take (i := 9) (v := ?vo19) rfl (by kernel_rfl) (by kernel_rfl) (by kernel_rfl) (fun _ _ _ h => h) (Or.inl ⟨by rfl, ?ho19⟩) (by assumption) ?ro19
    case ho19 => (intro w hSw; (try dsimp only at hSw); go_simp; (try with_reducible rfl))
    try simp only [Act.put, List.getElem_toArray, List.getElem_cons_succ, List.getElem_cons_zero, List.setIfInBounds_toArray, List.set_cons_zero, List.set_cons_succ]
    refine wpAnyH_take (i := 10) (v := ?vo110) rfl (by kernel_rfl) (by kernel_rfl) (by kernel_rfl) (fun _ _ _ h => h) (Or.inl ⟨by rfl, ?ho110⟩) (by assumption) ?ro110
    case ho110 => (intro w hSw; (try dsimp only at hSw); go_simp; (try with_reducible rfl))
    try simp only [Act.put, List.getElem_toArray, List.getElem_cons_succ, List.getElem_cons_zero, List.setIfInBounds_toArray, List.set_cons_zero, List.set_cons_succ]
    refine wpAnyH_take (i := 11) (v := ?vo111) rfl (by kernel_rfl) (by kernel_rfl) (by kernel_rfl) (fun _ _ _ h => h) (Or.inl ⟨by rfl, ?ho111⟩) (by assumption) ?ro111
    case ho111 => (intro w hSw; (try dsimp only at hSw); go_simp; (try with_reducible rfl))
    try simp only [Act.put, List.getElem_toArray, List.getElem_cons_succ, List.getElem_cons_zero, List.setIfInBounds_toArray, List.set_cons_zero, List.set_cons_succ]
    refine wpAnyH_take (i := 12) (v := ?vo112) rfl (by kernel_rfl) (by kernel_rfl) (by kernel_rfl) (fun _ _ _ h => h) (Or.inl ⟨by rfl, ?ho112⟩) (by assumption) ?ro112
    case ho112 => (intro w hSw; (try dsimp only at hSw); go_simp; (try with_reducible rfl))
    try simp only [Act.put, List.getElem_toArray, List.getElem_cons_succ, List.getElem_cons_zero, List.setIfInBounds_toArray, List.set_cons_zero, List.set_cons_succ]
    refine wpAnyH_take (i := 13) (v := ?vo113) rfl (by kernel_rfl) (by kernel_rfl) (by kernel_rfl) (fun _ _ _ h => h) (Or.inl ⟨by rfl, ?ho113⟩) (by assumption) ?ro113
    case ho113 => (intro w hSw; (try dsimp only at hSw); go_simp; (try with_reducible rfl))
    try simp only [Act.put, List.getElem_toArray, List.getElem_cons_succ, List.getElem_cons_zero, List.setIfInBounds_toArray, List.set_cons_zero, List.set_cons_succ]
    refine wpAnyH_take (i := 14) (v := ?vo114) rfl (by kernel_rfl) (by kernel_rfl) (by kernel_rfl) (fun _ _ _ h => h) (Or.inl ⟨by rfl, ?ho114⟩) (by assumption) ?ro114
    case ho114 => (intro w hSw; (try dsimp only at hSw); go_simp; (try with_reducible rfl))
    try simp only [Act.put, List.getElem_toArray, List.getElem_cons_succ, List.getElem_cons_zero, List.setIfInBounds_toArray, List.set_cons_zero, List.set_cons_succ]
    refine wpAnyH_take (i := 15) (v := ?vo115) rfl (by kernel_rfl) (by kernel_rfl) (by kernel_rfl) (fun _ _ _ h => h) (Or.inl ⟨by rfl, ?ho115⟩) (by assumption) ?ro115
    case ho115 => (intro w hSw; (try dsimp only at hSw); go_simp; (try with_reducible rfl))
    try simp only [Act.put, List.getElem_toArray, List.getElem_cons_succ, List.getElem_cons_zero, List.setIfInBounds_toArray, List.set_cons_zero, List.set_cons_succ]
    refine wpAnyH_take (i := 16) (v := ?vo116) rfl (by kernel_rfl) (by kernel_rfl) (by kernel_rfl) (fun _ _ _ h => h) (Or.inl ⟨by rfl, ?ho116⟩) (by assumption) ?ro116
    case ho116 => (intro w hSw; (try dsimp only at hSw); go_simp; (try with_reducible rfl))
    try simp only [Act.put, List.getElem_toArray, List.getElem_cons_succ, List.getElem_cons_zero, List.setIfInBounds_toArray, List.set_cons_zero, List.set_cons_succ]
    refine wpAnyH_take (i := 19) (v := ?vo119) rfl (by kernel_rfl) (by kernel_rfl) (by kernel_rfl) (fun _ _ _ h => h) (Or.inl ⟨by rfl, ?ho119⟩) (by assumption) ?ro119
    case ho119 => (intro w hSw; (try dsimp only at hSw); go_simp; (try with_reducible rfl))
    try simp only [Act.put, List.getElem_toArray, List.getElem_cons_succ, List.getElem_cons_zero, List.setIfInBounds_toArray, List.set_cons_zero, List.set_cons_succ]
    refine wpAnyH_ready (rs := [17]) (by kernel_rfl) (by simp) ?_
    refine (AllReadyH.cons rfl (fun K hK => ?bo11x17) AllReadyH.nil)
    case bo11x17 =>
      go_simp
      go_at_call 35
      refine (vector_at _ A' (N - n) m (tbRow m fun k => s.T (m + 1) (n + k)) den HYL.out ((HA'.out _ _ HXR.out).below (by repeat (first | with_reducible exact Below.refl _ _ | with_reducible apply bdrew | with_reducible apply bdrewN | with_reducible apply balloc | ((with_reducible refine bset ?_ ?_ _); rotate_left; (first | omega | (simp <;> omega)))))) (by omega) HYB.out hden (by omega)).mono ?_
      rintro e w4 ⟨g4, q4, rfl, HQ4, hg4, HA4, hB4⟩
      have hg4' : w3.heap.size ≤ g4 := (by (try simp at hg4); omega)
      have D4 := dstep w hB4 (by repeat (first | with_reducible exact D3 | with_reducible apply bdrew | with_reducible apply bdrewN | with_reducible apply balloc | ((with_reducible refine bset ?_ ?_ _); rotate_left; (first | omega | (simp <;> omega)))))
      have d4s := D4.size
      have C4 := Cls.below (l := [(w.heap.size, 0, .slice AR m cr), (w.heap.size, 1, .slice AB m cb), (w.heap.size, 2, .slice AO n co), (w.heap.size + 1, 0, .int .i64 0), (w.heap.size + 1, 1, .int .i64 0), (w.heap.size + 1, 2, .int .i64 0), (w.heap.size + 1, 3, .slice none 0 0), (w.heap.size + 1, 4, .int .i64 0), (w.heap.size + 1, 5, .slice none 0 0), (w.heap.size + 1, 6, .int .i64 0), (w.heap.size + 1, 7, .slice none 0 0), (w.heap.size + 1, 8, .int .i64 0), (w.heap.size + 1 + 1, 0, .int .i64 0), (w.heap.size + 1 + 1, 1, .int .i64 0), (w1.heap.size, 0, .int .i64 0), (w1.heap.size, 1, .int .i64 0)]) hB4 (by simp [Cls, go_sem, F3, y3w2, y3w1, y3w0, y3wp1, y3wp2, y3w10, y3w1p1, y3w1p2])
      have hSS : w4.cell? ⟨Lb, 0, none⟩ = some (.slice (some ⟨LgR, 0, none⟩) (m + 2) LcR) ∧ w4.cell? ⟨LgR, m + 1, none⟩ = some (.slice (some ⟨Lblk (m + 1), 0, none⟩) N N) ∧ w4.cell? ⟨Lb, 2, none⟩ = some (.int .i64 den) := ⟨(hB4.cell (World.block_lt_of_cell? _ _ hx0)).trans hx0, (hB4.cell (World.block_lt_of_cell? _ _ hxo)).trans hxo, (hB4.cell (World.block_lt_of_cell? _ _ hx2)).trans hx2⟩
      have F4 := C4
      simp only [Cls, and_true] at F4
      have y4w2 : w.heap.size + 1 + 1 < w4.heap.size := C4.blk (b := w.heap.size + 1 + 1) (k := 0) (v := .int .i64 0) (by simp)
      have y4w1 : w.heap.size + 1 < w4.heap.size := (by omega)
      have y4w0 : w.heap.size < w4.heap.size := (by omega)
      have y4wp1 : w.heap.size < w4.heap.size + 1 := (by omega)
      have y4wp2 : w.heap.size < w4.heap.size + 1 + 1 := (by omega)
      have y4w10 : w1.heap.size < w4.heap.size := C4.blk (b := w1.heap.size) (k := 0) (v := .int .i64 0) (by simp)
      have y4w1p1 : w1.heap.size < w4.heap.size + 1 := (by omega)
      have y4w1p2 : w1.heap.size < w4.heap.size + 1 + 1 := (by omega)
      obtain ⟨hK40, hK41, hK42⟩ := hSS
      have hSS : w4.cell? ⟨Lb, 0, none⟩ = some (.slice (some ⟨LgR, 0, none⟩) (m + 2) LcR) ∧ w4.cell? ⟨LgR, m + 1, none⟩ = some (.slice (some ⟨Lblk (m + 1), 0, none⟩) N N) ∧ w4.cell? ⟨Lb, 2, none⟩ = some (.int .i64 den) := ⟨hK40, hK41, hK42⟩
      go_wp2_with fail
      refine hK.out _ _ hSS (fun hHeld => ?_)
      clear hK K
      try simp only [Act.put, List.getElem_toArray, List.getElem_cons_succ, List.getElem_cons_zero, List.setIfInBounds_toArray, List.set_cons_zero, List.set_cons_succ]
      refine wpAnyH_take (i := 18) (v := ?vo1l218) rfl (by kernel_rfl) (by kernel_rfl) (by kernel_rfl) (fun _ _ _ h => h) (Or.inl ⟨by rfl, ?ho1l218⟩) (by assumption) ?ro1l218
      case ho1l218 => (intro w hSw; (try dsimp only at hSw); go_simp; (try with_reducible rfl))
      try simp only [Act.put, List.getElem_toArray, List.getElem_cons_succ, List.getElem_cons_zero, List.setIfInBounds_toArray, List.set_cons_zero, List.set_cons_succ]
      refine wpAnyH_ready (rs := [20]) (by kernel_rfl) (by simp) ?_
      refine AllReadyH.cons rfl (fun K hK => ?_) AllReadyH.nil
      go_simp
      go_wp2_with fail
      refine hK.out _ _ (by simp [go_sem, F4, hna0, hna1, hna2, hna3, hK40, hK41, hK42]) (fun hHeld => ?_)
      clear hK K
      try simp only [Act.put, List.getElem_toArray, List.getElem_cons_succ, List.getElem_cons_zero, List.setIfInBounds_toArray, List.set_cons_zero, List.set_cons_succ]
      refine wpAnyH_ready (rs := [21]) (by kernel_rfl) (by simp) ?_
      refine AllReadyH.cons rfl (fun K hK => ?_) AllReadyH.nil
      go_simp
      go_wp2_with fail
      refine hK.out _ _ (by simp [go_sem, F4, hna0, hna1, hna2, hna3, hK40, hK41, hK42]) (fun hHeld => ?_)
      clear hK K
      try simp only [Act.put, List.getElem_toArray, List.getElem_cons_succ, List.getElem_cons_zero, List.setIfInBounds_toArray, List.set_cons_zero, List.set_cons_succ]
      refine wpAnyH_done (by kernel_rfl) ?_ _
      go_wp2
      refine bodyPost_ret (v := .tuple #[.agg #[.int .i64 2, .int .i64 0, .int .i64 0, .slice none 0 0, .int .i64 0, .slice (some ⟨g4, 0, none⟩) m m, .int .i64 q4, .slice none 0 0, .int .i64 0], .agg #[.int .i64 0, .int .i64 0]]) ?_ rfl (solved_mk 2 0 0 0 q4 0 none (some ⟨g4, 0, none⟩) none [] (vdiv s.den (solY P s (P.m + 1))) [] 0 m 0 rfl ?_ rfl (Ints.nil _ _) ?_ (Ints.nil _ _) ?_ (by repeat (first | with_reducible exact D4 | with_reducible apply bdrew | with_reducible apply bdrewN | with_reducible apply balloc | ((with_reducible refine bset ?_ ?_ _); rotate_left; (first | omega | (simp <;> omega))))))
      · simp [results, Try.results11, go_sem, F4, y4w2, y4w1, y4w0, y4wp1, y4wp2, y4w10, y4w1p1, y4w1p2]
      · rw [vdiv_len, HYE.out, HYL.out]
      · rw [HYE.out, hde.out]
        refine IArr.ints ?_
        repeat (first | with_reducible exact HA4.out | (with_reducible refine IArr.far ?_ ?_ _; rotate_left; (first | omega | (simp <;> omega))))
      · rw [HQ4.out, ← HYE.out, ← hde.out]
        have h := HI3.out (by simp)
        exact sol_none HPI.out HO3.out h.1 h.2
  | true =>
    have HNs : Hid (LA.NoArt P s) := Lib.hid (HN3.out (by simp))
    clear HN3 HI3
    go_wp2_with fail
    refine (maximize_at _ base ⟨Lb, LgR, LcR, Lblk, LAB, LcB⟩ P s P.m (P.n + P.m) P.g0 _ _ (by rw [HPm.out]) (by rw [HPm.out, HPn.out]; omega) HPI.out (LA.obj_goal P) HO3.out (HM3.out.below (by repeat (first | with_reducible exact Below.refl _ _ | with_reducible apply bdrew | with_reducible apply bdrewN | with_reducible apply balloc | ((with_reducible refine bset ?_ ?_ _); rotate_left; (first | omega | (simp <;> omega)))))) (by (try simp); omega)).mono ?_
    rintro e w4 ⟨s4, b, rfl, hok4, hno4, hcase4, hM4, hB4⟩
    have D4 := dlow (w := w) (by repeat (first | with_reducible exact D3 | with_reducible apply bdrew | with_reducible apply bdrewN | with_reducible apply balloc | ((with_reducible refine bset ?_ ?_ _); rotate_left; (first | omega | (simp <;> omega))))) hB4 hbw
    have E4 : Below base w3 w4 := (by repeat (first | with_reducible exact Below.refl _ _ | with_reducible apply bdrew | with_reducible apply bdrewN | with_reducible apply balloc | ((with_reducible refine bset ?_ ?_ _); rotate_left; (first | omega | (simp <;> omega)))) : Below base w3 _).trans hB4
    have d4s := D4.size
    have C4 := Cls.low (l := [(w.heap.size, 0, .slice AR m cr), (w.heap.size, 1, .slice AB m cb), (w.heap.size, 2, .slice AO n co), (w.heap.size + 1, 0, .int .i64 0), (w.heap.size + 1, 1, .int .i64 0), (w.heap.size + 1, 2, .int .i64 0), (w.heap.size + 1, 3, .slice none 0 0), (w.heap.size + 1, 4, .int .i64 0), (w.heap.size + 1, 5, .slice none 0 0), (w.heap.size + 1, 6, .int .i64 0), (w.heap.size + 1, 7, .slice none 0 0), (w.heap.size + 1, 8, .int .i64 0), (w.heap.size + 1 + 1, 0, .int .i64 0), (w.heap.size + 1 + 1, 1, .int .i64 0), (w1.heap.size, 0, .int .i64 0), (w1.heap.size, 1, .int .i64 0)]) E4 (by simp [Cls, go_sem, F3, y3w2, y3w1, y3w0, y3wp1, y3wp2, y3w10, y3w1p1, y3w1p2]) (by simp; omega)
    have F4 := C4
    simp only [Cls, and_true] at F4
    have y4w2 : w.heap.size + 1 + 1 < w4.heap.size := C4.blk (b := w.heap.size + 1 + 1) (k := 0) (v := .int .i64 0) (by simp)
    have y4w1 : w.heap.size + 1 < w4.heap.size := (by omega)
    have y4w0 : w.heap.size < w4.heap.size := (by omega)
    have y4wp1 : w.heap.size < w4.heap.size + 1 := (by omega)
    have y4wp2 : w.heap.size < w4.heap.size + 1 + 1 := (by omega)
    have y4w10 : w1.heap.size < w4.heap.size := C4.blk (b := w1.heap.size) (k := 0) (v := .int .i64 0) (by simp)
    have y4w1p1 : w1.heap.size < w4.heap.size + 1 := (by omega)
    have y4w1p2 : w1.heap.size < w4.heap.size + 1 + 1 := (by omega)
    have HO4 := Lib.hid hok4
    have HN4 : Hid (LA.NoArt P s4) := Lib.hid (hno4 (Nat.le_refl _) HNs.out)
    have HC4 := Lib.hid hcase4
    have hb4 : base ≤ w4.heap.size := by have := E4.size; omega
    have hM4' : TbMem base w4 ⟨Lb, LgR, LcR, Lblk, LAB, LcB⟩ m N s4.bs s4.T s4.den := by rw [HPm.out, HPN.out] at hM4; exact hM4
    have hden := HO4.out.pos
    have hden2 := HO4.out.le_den HPI.out
    obtain ⟨den, hde⟩ : ∃ d, Hid (s4.den = d) := ⟨_, Lib.hid rfl⟩
    rw [hde.out] at hM4' hden hden2
    have HTB : Hid (∀ i, i < m → -1000000000 ≤ s4.T i (n + m + 1) ∧ s4.T i (n + m + 1) ≤ 1000000000) := Lib.hid (fun i hi => by
      have h := HO4.out.le_last HPI.out (i := i) (by rw [HPm.out]; exact hi)
      rw [HPl.out] at h; omega)
    have HIJ : Hid (∀ i k, i < m → k < m → s4.bs i = s4.bs k → i = k) := Lib.hid (fun i k hi hk => HO4.out.inj (by rw [HPm.out]; exact hi) (by rw [HPm.out]; exact hk))
    have HXE : Hid (solX P s4 = tbRow n fun j => 1 * ptTo s4.bs s4.T (n + m + 1) m j) := Lib.hid (by unfold solX; rw [HPm.out, HPn.out])
    have HXL : Hid ((tbRow n fun j => 1 * ptTo s4.bs s4.T (n + m + 1) m j).length = n) := Lib.hid (tbRow_len _ _)
    have HXB : Hid (∀ x ∈ tbRow n (fun j => 1 * ptTo s4.bs s4.T (n + m + 1) m j), -1000000000 ≤ x ∧ x ≤ 1000000000) := Lib.hid (fun x hx => by rw [← HXE.out] at hx; have := solX_le HPI.out HO4.out x hx; omega)
    have HM4 := Lib.hid hM4'
    have hx0 := hM4'.box0
    have hx2 := hM4'.box2
    obtain ⟨hsb1, hsb2, -, -⟩ := hM4'.sepB
    dsimp only at hx0 hx2 hsb1 hsb2
    have hw2 : IntKind.i64.wrap ((n : Int) + (m : Int)) = (n : Int) + (m : Int) := Go.IntWalk.i64_in _ (by omega)
    have hw3 : IntKind.i64.wrap ((n : Int) + (m : Int) + 1) = (n : Int) + (m : Int) + 1 := Go.IntWalk.i64_in _ (by omega)
    have hm0 : (0 : Int) ≤ (n : Int) + (m : Int) + 1 := by omega
    have hnm : (0 : Int) ≤ (n : Int) + (m : Int) := by omega
    clear hok4 hno4 hcase4 hM4 hM4' hB4
    go_upto_region 9 with fail
    go_cut [9] (fun v wx => ∃ (gv gx : Nat) (q : Int), v = .pointer (some ⟨gv, 0, none⟩) ∧ w4.heap.size ≤ gv ∧ w4.heap.size ≤ gx ∧ gx ≠ gv ∧ Hid (q = den.tdiv (vgcd den (solX P s4))) ∧ Hid (IArr wx gx (vdiv den (solX P s4))) ∧ Below w4.heap.size w4 wx ∧ Cls wx [(gv, 0, .slice (some ⟨gx, 0, none⟩) n n), (gv, 1, .int .i64 q)])
    case first =>
      refine wp_region_held_drew (S := fun W => W.cell? ⟨Lb, 2, none⟩ = some (.int .i64 den)) (by kernel_rfl) (by exact hx2) (fun hHeld => ?_)
      refine wpAnyH_take (i := 0) (v := ?vo20) rfl (by kernel_rfl) (by kernel_rfl) (by kernel_rfl) (fun _ _ _ h => h) (Or.inl ⟨by rfl, ?ho20⟩) (by assumption) ?ro20
      case ho20 => (intro w hSw; (try dsimp only at hSw); go_simp; (try with_reducible rfl))
      try simp only [Act.put, List.getElem_toArray, List.getElem_cons_succ, List.getElem_cons_zero, List.setIfInBounds_toArray, List.set_cons_zero, List.set_cons_succ]
      refine wpAnyH_take (i := 1) (v := ?vo21) rfl (by kernel_rfl) (by kernel_rfl) (by kernel_rfl) (fun _ _ _ h => h) (Or.inl ⟨by rfl, ?ho21⟩) (by assumption) ?ro21
      case ho21 => (intro w hSw; (try dsimp only at hSw); go_simp; (try with_reducible rfl))
      try simp only [Act.put, List.getElem_toArray, List.getElem_cons_succ, List.getElem_cons_zero, List.setIfInBounds_toArray, List.set_cons_zero, List.set_cons_succ]
      refine wpAnyH_take (i := 2) (v := ?vo22) rfl (by kernel_rfl) (by kernel_rfl) (by kernel_rfl) (fun _ _ _ h => h) (Or.inl ⟨by rfl, ?ho22⟩) (by assumption) ?ro22
      case ho22 => (intro w hSw; (try dsimp only at hSw); go_simp; (try with_reducible rfl))
      try simp only [Act.put, List.getElem_toArray, List.getElem_cons_succ, List.getElem_cons_zero, List.setIfInBounds_toArray, List.set_cons_zero, List.set_cons_succ]
      refine wpAnyH_take (i := 3) (v := ?vo23) rfl (by kernel_rfl) (by kernel_rfl) (by kernel_rfl) (fun _ _ _ h => h) (Or.inl ⟨by rfl, ?ho23⟩) (by assumption) ?ro23
      case ho23 => (intro w hSw; (try dsimp only at hSw); go_simp; (try with_reducible rfl))
      try simp only [Act.put, List.getElem_toArray, List.getElem_cons_succ, List.getElem_cons_zero, List.setIfInBounds_toArray, List.set_cons_zero, List.set_cons_succ]
      refine wpAnyH_take (i := 4) (v := ?vo24) rfl (by kernel_rfl) (by kernel_rfl) (by kernel_rfl) (fun _ _ _ h => h) (Or.inl ⟨by rfl, ?ho24⟩) (by assumption) ?ro24
      case ho24 => (intro w hSw; (try dsimp only at hSw); go_simp; (try with_reducible rfl))
      try simp only [Act.put, List.getElem_toArray, List.getElem_cons_succ, List.getElem_cons_zero, List.setIfInBounds_toArray, List.set_cons_zero, List.set_cons_succ]
      refine wpAnyH_take (i := 5) (v := ?vo25) rfl (by kernel_rfl) (by kernel_rfl) (by kernel_rfl) (fun _ _ _ h => h) (Or.inl ⟨by rfl, ?ho25⟩) (by assumption) ?ro25
      case ho25 => (intro w hSw; (try dsimp only at hSw); go_simp; (try with_reducible rfl))
      try simp only [Act.put, List.getElem_toArray, List.getElem_cons_succ, List.getElem_cons_zero, List.setIfInBounds_toArray, List.set_cons_zero, List.set_cons_succ]
      refine wpAnyH_take (i := 7) (v := ?vo27) rfl (by kernel_rfl) (by kernel_rfl) (by kernel_rfl) (fun _ _ _ h => h) (Or.inl ⟨by rfl, ?ho27⟩) (by assumption) ?ro27
      case ho27 => (intro w hSw; (try dsimp only at hSw); go_simp; (try with_reducible rfl))
      try simp only [Act.put, List.getElem_toArray, List.getElem_cons_succ, List.getElem_cons_zero, List.setIfInBounds_toArray, List.set_cons_zero, List.set_cons_succ]
      refine wpAnyH_take (i := 8) (v := ?vo28) rfl (by kernel_rfl) (by kernel_rfl) (by kernel_rfl) (fun _ _ _ h => h) (Or.inl ⟨by rfl, ?ho28⟩) (by assumption) ?ro28
      case ho28 => (intro w hSw; (try dsimp only at hSw); go_simp; (try with_reducible rfl))
      try simp only [Act.put, List.getElem_toArray, List.getElem_cons_succ, List.getElem_cons_zero, List.setIfInBounds_toArray, List.set_cons_zero, List.set_cons_succ]
      refine wpAnyH_take (i := 9) (v := ?vo29) rfl (by kernel_rfl) (by kernel_rfl) (by kernel_rfl) (fun _ _ _ h => h) (Or.inl ⟨by rfl, ?ho29⟩) (by assumption) ?ro29
      case ho29 => (intro w hSw; (try dsimp only at hSw); go_simp; (try with_reducible rfl))
      try simp only [Act.put, List.getElem_toArray, List.getElem_cons_succ, List.getElem_cons_zero, List.setIfInBounds_toArray, List.set_cons_zero, List.set_cons_succ]
      refine wpAnyH_take (i := 10) (v := ?vo210) rfl (by kernel_rfl) (by kernel_rfl) (by kernel_rfl) (fun _ _ _ h => h) (Or.inl ⟨by rfl, ?ho210⟩) (by assumption) ?ro210
      case ho210 => (intro w hSw; (try dsimp only at hSw); go_simp; (try with_reducible rfl))
      try simp only [Act.put, List.getElem_toArray, List.getElem_cons_succ, List.getElem_cons_zero, List.setIfInBounds_toArray, List.set_cons_zero, List.set_cons_succ]
      refine wpAnyH_ready (rs := [6, 12]) (by kernel_rfl) (by simp) ?_
      refine (AllReadyH.cons rfl (fun K hK => ?bo21x6) (AllReadyH.cons rfl (fun K hK => ?bo21x12) AllReadyH.nil))
      case bo21x6 =>
        go_simp
        go_at_call 37
        refine (point_at _ base ⟨Lb, LgR, LcR, Lblk, LAB, LcB⟩ m N n s4.bs s4.T den (n + m + 1) _ (by omega) 1 (HM4.out.below (by repeat (first | with_reducible exact Below.refl w4.heap.size w4 | with_reducible apply bdrew | with_reducible apply bdrewN | with_reducible apply balloc | ((with_reducible refine bset ?_ ?_ _); rotate_left; (first | omega | (simp <;> omega)))))) hi1 (.inl rfl) HTB.out HIJ.out hm6 (by omega)).mono ?_
        rintro e w5 ⟨g5, rfl, hg5, hA5, hB5⟩
        have E5 := dstep w4 hB5 (by repeat (first | with_reducible exact Below.refl w4.heap.size w4 | with_reducible apply bdrew | with_reducible apply bdrewN | with_reducible apply balloc | ((with_reducible refine bset ?_ ?_ _); rotate_left; (first | omega | (simp <;> omega)))))
        have e5s := E5.size
        (try simp at hg5)
        have HA5 := Lib.hid hA5
        have hl5 := HA5.out.lt
        have hSS : w5.cell? ⟨Lb, 2, none⟩ = some (.int .i64 den) := (HM4.out.below (by repeat (first | with_reducible exact E5 | with_reducible apply bdrew | with_reducible apply bdrewN | with_reducible apply balloc | ((with_reducible refine bset ?_ ?_ _); rotate_left; (first | omega | (simp <;> omega)))))).box2
        go_wp2_with fail
        refine hK.out _ _ hSS (fun hHeld => ?_)
        clear hK K
        try simp only [Act.put, List.getElem_toArray, List.getElem_cons_succ, List.getElem_cons_zero, List.setIfInBounds_toArray, List.set_cons_zero, List.set_cons_succ]
        refine wpAnyH_ready (rs := [11, 12]) (by kernel_rfl) (by simp) ?_
        refine (AllReadyH.cons rfl (fun K hK => ?bo22x11) (AllReadyH.cons rfl (fun K hK => ?bo22x12) AllReadyH.nil))
        case bo22x11 =>
          go_simp
          go_at_call 35
          refine (vector_at _ (some ⟨g5, 0, none⟩) n n (tbRow n fun j => 1 * ptTo s4.bs s4.T (n + m + 1) m j) den HXL.out (HA5.out.ints.below (by repeat (first | with_reducible exact Below.refl _ _ | with_reducible apply bdrew | with_reducible apply bdrewN | with_reducible apply balloc | ((with_reducible refine bset ?_ ?_ _); rotate_left; (first | omega | (simp <;> omega)))))) (by omega) HXB.out hden (by omega)).mono ?_
          rintro e w6 ⟨g6, q6, rfl, HQ6, hg6, HA6, hB6⟩
          have E6 := dstep w4 hB6 (by repeat (first | with_reducible exact E5 | with_reducible apply bdrew | with_reducible apply bdrewN | with_reducible apply balloc | ((with_reducible refine bset ?_ ?_ _); rotate_left; (first | omega | (simp <;> omega)))))
          have e6s := E6.size
          (try simp at hg6)
          have hl6 := HA6.out.lt
          have hSS : w6.cell? ⟨Lb, 2, none⟩ = some (.int .i64 den) := (HM4.out.below (by repeat (first | with_reducible exact E6 | with_reducible apply bdrew | with_reducible apply bdrewN | with_reducible apply balloc | ((with_reducible refine bset ?_ ?_ _); rotate_left; (first | omega | (simp <;> omega)))))).box2
          go_wp2_with fail
          refine hK.out _ _ hSS (fun hHeld => ?_)
          clear hK K
          try simp only [Act.put, List.getElem_toArray, List.getElem_cons_succ, List.getElem_cons_zero, List.setIfInBounds_toArray, List.set_cons_zero, List.set_cons_succ]
          refine wpAnyH_ready (rs := [12]) (by kernel_rfl) (by simp) ?_
          refine (AllReadyH.cons rfl (fun K hK => ?bo23x12) AllReadyH.nil)
          case bo23x12 =>
            go_simp
            have hSS : (w6.alloc (.cells #[.slice none 0 0, .int .i64 0] 30)).cell? ⟨Lb, 2, none⟩ = some (.int .i64 den) := (HM4.out.below (by repeat (first | with_reducible exact E6 | with_reducible apply bdrew | with_reducible apply bdrewN | with_reducible apply balloc | ((with_reducible refine bset ?_ ?_ _); rotate_left; (first | omega | (simp <;> omega)))))).box2
            go_wp2_with fail
            refine hK.out _ _ hSS (fun hHeld => ?_)
            clear hK K
            try simp only [Act.put, List.getElem_toArray, List.getElem_cons_succ, List.getElem_cons_zero, List.setIfInBounds_toArray, List.set_cons_zero, List.set_cons_succ]
            refine wpAnyH_ready (rs := [13]) (by kernel_rfl) (by simp) ?_
            refine AllReadyH.cons rfl (fun K hK => ?_) AllReadyH.nil
            go_simp
            have hne9 : ¬ g6 = w6.heap.size := (by omega)
            go_wp2_with fail
            refine hK.out _ _ ((HM4.out.below (by repeat (first | with_reducible exact E6 | with_reducible apply bdrew | with_reducible apply bdrewN | with_reducible apply balloc | ((with_reducible refine bset ?_ ?_ _); rotate_left; (first | omega | (simp <;> omega)))))).box2) (fun hHeld => ?_)
            clear hK K
            try simp only [Act.put, List.getElem_toArray, List.getElem_cons_succ, List.getElem_cons_zero, List.setIfInBounds_toArray, List.set_cons_zero, List.set_cons_succ]
            refine wpAnyH_done (by kernel_rfl) ?_ _
            go_wp2_with fail
            go_meet
            exact ⟨w6.heap.size, g6, q6, rfl, (by omega), (by omega), hne9, (by rw [HXE.out]; exact HQ6), Lib.hid (by rw [HXE.out]; repeat (first | with_reducible exact HA6.out | (with_reducible refine IArr.far ?_ ?_ _; rotate_left; (first | omega | (simp <;> omega))) | (with_reducible refine IArr.alloc_ ?_ _))), (by repeat (first | with_reducible exact E6 | with_reducible apply bdrew | with_reducible apply bdrewN | with_reducible apply balloc | ((with_reducible refine bset ?_ ?_ _); rotate_left; (first | omega | (simp <;> omega))))), (by simp [Cls, go_sem, hne9])⟩
        case bo22x12 =>
          go_simp
          have hSS : (w5.alloc (.cells #[.slice none 0 0, .int .i64 0] 30)).cell? ⟨Lb, 2, none⟩ = some (.int .i64 den) := (HM4.out.below (by repeat (first | with_reducible exact E5 | with_reducible apply bdrew | with_reducible apply bdrewN | with_reducible apply balloc | ((with_reducible refine bset ?_ ?_ _); rotate_left; (first | omega | (simp <;> omega)))))).box2
          go_wp2_with fail
          refine hK.out _ _ hSS (fun hHeld => ?_)
          clear hK K
          try simp only [Act.put, List.getElem_toArray, List.getElem_cons_succ, List.getElem_cons_zero, List.setIfInBounds_toArray, List.set_cons_zero, List.set_cons_succ]
          refine wpAnyH_ready (rs := [11]) (by kernel_rfl) (by simp) ?_
          refine (AllReadyH.cons rfl (fun K hK => ?bo25x11) AllReadyH.nil)
          case bo25x11 =>
            go_simp
            go_at_call 35
            refine (vector_at _ (some ⟨g5, 0, none⟩) n n (tbRow n fun j => 1 * ptTo s4.bs s4.T (n + m + 1) m j) den HXL.out (HA5.out.ints.below (by repeat (first | with_reducible exact Below.refl _ _ | with_reducible apply bdrew | with_reducible apply bdrewN | with_reducible apply balloc | ((with_reducible refine bset ?_ ?_ _); rotate_left; (first | omega | (simp <;> omega)))))) (by omega) HXB.out hden (by omega)).mono ?_
            rintro e w6 ⟨g6, q6, rfl, HQ6, hg6, HA6, hB6⟩
            have E6 := dstep w4 hB6 (by repeat (first | with_reducible exact E5 | with_reducible apply bdrew | with_reducible apply bdrewN | with_reducible apply balloc | ((with_reducible refine bset ?_ ?_ _); rotate_left; (first | omega | (simp <;> omega)))))
            have e6s := E6.size
            (try simp at hg6)
            have hl6 := HA6.out.lt
            have CV6 := Cls.below (l := [(w5.heap.size, 0, .slice none 0 0), (w5.heap.size, 1, .int .i64 0)]) hB6 (by simp [Cls, go_sem])
            have Fv6 := CV6
            simp only [Cls, and_true] at Fv6
            have yv6w50 : w5.heap.size < w6.heap.size := CV6.blk (b := w5.heap.size) (k := 0) (v := .slice none 0 0) (by simp)
            have yv6w5p1 : w5.heap.size < w6.heap.size + 1 := (by omega)
            have yv6w5p2 : w5.heap.size < w6.heap.size + 1 + 1 := (by omega)
            have hSS : w6.cell? ⟨Lb, 2, none⟩ = some (.int .i64 den) := (HM4.out.below (by repeat (first | with_reducible exact E6 | with_reducible apply bdrew | with_reducible apply bdrewN | with_reducible apply balloc | ((with_reducible refine bset ?_ ?_ _); rotate_left; (first | omega | (simp <;> omega)))))).box2
            go_wp2_with fail
            refine hK.out _ _ hSS (fun hHeld => ?_)
            clear hK K
            try simp only [Act.put, List.getElem_toArray, List.getElem_cons_succ, List.getElem_cons_zero, List.setIfInBounds_toArray, List.set_cons_zero, List.set_cons_succ]
            refine wpAnyH_ready (rs := [13]) (by kernel_rfl) (by simp) ?_
            refine AllReadyH.cons rfl (fun K hK => ?_) AllReadyH.nil
            go_simp
            have hne9 : ¬ g6 = w5.heap.size := (by omega)
            go_wp2_with fail
            refine hK.out _ _ ((HM4.out.below (by repeat (first | with_reducible exact E6 | with_reducible apply bdrew | with_reducible apply bdrewN | with_reducible apply balloc | ((with_reducible refine bset ?_ ?_ _); rotate_left; (first | omega | (simp <;> omega)))))).box2) (fun hHeld => ?_)
            clear hK K
            try simp only [Act.put, List.getElem_toArray, List.getElem_cons_succ, List.getElem_cons_zero, List.setIfInBounds_toArray, List.set_cons_zero, List.set_cons_succ]
            refine wpAnyH_done (by kernel_rfl) ?_ _
            go_wp2_with fail
            go_meet
            exact ⟨w5.heap.size, g6, q6, rfl, (by omega), (by omega), hne9, (by rw [HXE.out]; exact HQ6), Lib.hid (by rw [HXE.out]; repeat (first | with_reducible exact HA6.out | (with_reducible refine IArr.far ?_ ?_ _; rotate_left; (first | omega | (simp <;> omega))) | (with_reducible refine IArr.alloc_ ?_ _))), (by repeat (first | with_reducible exact E6 | with_reducible apply bdrew | with_reducible apply bdrewN | with_reducible apply balloc | ((with_reducible refine bset ?_ ?_ _); rotate_left; (first | omega | (simp <;> omega))))), (by simp [Cls, go_sem, hne9, Fv6, yv6w50, yv6w5p1, yv6w5p2])⟩
      case bo21x12 =>
        go_simp
        have hSS : (w4.alloc (.cells #[.slice none 0 0, .int .i64 0] 30)).cell? ⟨Lb, 2, none⟩ = some (.int .i64 den) := (HM4.out.below (by repeat (first | with_reducible exact Below.refl w4.heap.size w4 | with_reducible apply bdrew | with_reducible apply bdrewN | with_reducible apply balloc | ((with_reducible refine bset ?_ ?_ _); rotate_left; (first | omega | (simp <;> omega)))))).box2
        go_wp2_with fail
        refine hK.out _ _ hSS (fun hHeld => ?_)
        clear hK K
        try simp only [Act.put, List.getElem_toArray, List.getElem_cons_succ, List.getElem_cons_zero, List.setIfInBounds_toArray, List.set_cons_zero, List.set_cons_succ]
        refine wpAnyH_ready (rs := [6]) (by kernel_rfl) (by simp) ?_
        refine (AllReadyH.cons rfl (fun K hK => ?bo27x6) AllReadyH.nil)
        case bo27x6 =>
          go_simp
          go_at_call 37
          refine (point_at _ base ⟨Lb, LgR, LcR, Lblk, LAB, LcB⟩ m N n s4.bs s4.T den (n + m + 1) _ (by omega) 1 (HM4.out.below (by repeat (first | with_reducible exact Below.refl w4.heap.size w4 | with_reducible apply bdrew | with_reducible apply bdrewN | with_reducible apply balloc | ((with_reducible refine bset ?_ ?_ _); rotate_left; (first | omega | (simp <;> omega)))))) hi1 (.inl rfl) HTB.out HIJ.out hm6 (by omega)).mono ?_
          rintro e w5 ⟨g5, rfl, hg5, hA5, hB5⟩
          have E5 := dstep w4 hB5 (by repeat (first | with_reducible exact Below.refl w4.heap.size w4 | with_reducible apply bdrew | with_reducible apply bdrewN | with_reducible apply balloc | ((with_reducible refine bset ?_ ?_ _); rotate_left; (first | omega | (simp <;> omega)))))
          have e5s := E5.size
          (try simp at hg5)
          have HA5 := Lib.hid hA5
          have hl5 := HA5.out.lt
          have CV5 := Cls.below (l := [(w4.heap.size, 0, .slice none 0 0), (w4.heap.size, 1, .int .i64 0)]) hB5 (by simp [Cls, go_sem])
          have Fv5 := CV5
          simp only [Cls, and_true] at Fv5
          have yv5w40 : w4.heap.size < w5.heap.size := CV5.blk (b := w4.heap.size) (k := 0) (v := .slice none 0 0) (by simp)
          have yv5w4p1 : w4.heap.size < w5.heap.size + 1 := (by omega)
          have yv5w4p2 : w4.heap.size < w5.heap.size + 1 + 1 := (by omega)
          have hSS : w5.cell? ⟨Lb, 2, none⟩ = some (.int .i64 den) := (HM4.out.below (by repeat (first | with_reducible exact E5 | with_reducible apply bdrew | with_reducible apply bdrewN | with_reducible apply balloc | ((with_reducible refine bset ?_ ?_ _); rotate_left; (first | omega | (simp <;> omega)))))).box2
          go_wp2_with fail
          refine hK.out _ _ hSS (fun hHeld => ?_)
          clear hK K
          try simp only [Act.put, List.getElem_toArray, List.getElem_cons_succ, List.getElem_cons_zero, List.setIfInBounds_toArray, List.set_cons_zero, List.set_cons_succ]
          refine wpAnyH_ready (rs := [11]) (by kernel_rfl) (by simp) ?_
          refine (AllReadyH.cons rfl (fun K hK => ?bo28x11) AllReadyH.nil)
          case bo28x11 =>
            go_simp
            go_at_call 35
            refine (vector_at _ (some ⟨g5, 0, none⟩) n n (tbRow n fun j => 1 * ptTo s4.bs s4.T (n + m + 1) m j) den HXL.out (HA5.out.ints.below (by repeat (first | with_reducible exact Below.refl _ _ | with_reducible apply bdrew | with_reducible apply bdrewN | with_reducible apply balloc | ((with_reducible refine bset ?_ ?_ _); rotate_left; (first | omega | (simp <;> omega)))))) (by omega) HXB.out hden (by omega)).mono ?_
            rintro e w6 ⟨g6, q6, rfl, HQ6, hg6, HA6, hB6⟩
            have E6 := dstep w4 hB6 (by repeat (first | with_reducible exact E5 | with_reducible apply bdrew | with_reducible apply bdrewN | with_reducible apply balloc | ((with_reducible refine bset ?_ ?_ _); rotate_left; (first | omega | (simp <;> omega)))))
            have e6s := E6.size
            (try simp at hg6)
            have hl6 := HA6.out.lt
            have CV6 := Cls.below (l := [(w4.heap.size, 0, .slice none 0 0), (w4.heap.size, 1, .int .i64 0)]) hB6 (by simp [Cls, go_sem, Fv5, yv5w40, yv5w4p1, yv5w4p2])
            have Fv6 := CV6
            simp only [Cls, and_true] at Fv6
            have yv6w40 : w4.heap.size < w6.heap.size := CV6.blk (b := w4.heap.size) (k := 0) (v := .slice none 0 0) (by simp)
            have yv6w4p1 : w4.heap.size < w6.heap.size + 1 := (by omega)
            have yv6w4p2 : w4.heap.size < w6.heap.size + 1 + 1 := (by omega)
            have hSS : w6.cell? ⟨Lb, 2, none⟩ = some (.int .i64 den) := (HM4.out.below (by repeat (first | with_reducible exact E6 | with_reducible apply bdrew | with_reducible apply bdrewN | with_reducible apply balloc | ((with_reducible refine bset ?_ ?_ _); rotate_left; (first | omega | (simp <;> omega)))))).box2
            go_wp2_with fail
            refine hK.out _ _ hSS (fun hHeld => ?_)
            clear hK K
            try simp only [Act.put, List.getElem_toArray, List.getElem_cons_succ, List.getElem_cons_zero, List.setIfInBounds_toArray, List.set_cons_zero, List.set_cons_succ]
            refine wpAnyH_ready (rs := [13]) (by kernel_rfl) (by simp) ?_
            refine AllReadyH.cons rfl (fun K hK => ?_) AllReadyH.nil
            go_simp
            have hne9 : ¬ g6 = w4.heap.size := (by omega)
            go_wp2_with fail
            refine hK.out _ _ ((HM4.out.below (by repeat (first | with_reducible exact E6 | with_reducible apply bdrew | with_reducible apply bdrewN | with_reducible apply balloc | ((with_reducible refine bset ?_ ?_ _); rotate_left; (first | omega | (simp <;> omega)))))).box2) (fun hHeld => ?_)
            clear hK K
            try simp only [Act.put, List.getElem_toArray, List.getElem_cons_succ, List.getElem_cons_zero, List.setIfInBounds_toArray, List.set_cons_zero, List.set_cons_succ]
            refine wpAnyH_done (by kernel_rfl) ?_ _
            go_wp2_with fail
            go_meet
            exact ⟨w4.heap.size, g6, q6, rfl, (by omega), (by omega), hne9, (by rw [HXE.out]; exact HQ6), Lib.hid (by rw [HXE.out]; repeat (first | with_reducible exact HA6.out | (with_reducible refine IArr.far ?_ ?_ _; rotate_left; (first | omega | (simp <;> omega))) | (with_reducible refine IArr.alloc_ ?_ _))), (by repeat (first | with_reducible exact E6 | with_reducible apply bdrew | with_reducible apply bdrewN | with_reducible apply balloc | ((with_reducible refine bset ?_ ?_ _); rotate_left; (first | omega | (simp <;> omega))))), (by simp [Cls, go_sem, hne9, Fv6, yv6w40, yv6w4p1, yv6w4p2])⟩
    case rest =>
      obtain ⟨w5, rfl⟩ : ∃ wo : World, wo = wc := ⟨_, rfl⟩
      obtain ⟨gv, gx, q, rfl, hgv, hgx, hgne, HQ, HX5, hB5, CV5⟩ := hcut
      have D5 := D4.trans (hB5.mono d4s)
      have d5s := D5.size
      have e5s := hB5.size
      have C5 := Cls.below (w := w4) hB5 C4
      have F5 := C5
      simp only [Cls, and_true] at F5
      have y5w2 : w.heap.size + 1 + 1 < w5.heap.size := C5.blk (b := w.heap.size + 1 + 1) (k := 0) (v := .int .i64 0) (by simp)
      have y5w1 : w.heap.size + 1 < w5.heap.size := (by omega)
      have y5w0 : w.heap.size < w5.heap.size := (by omega)
      have y5wp1 : w.heap.size < w5.heap.size + 1 := (by omega)
      have y5wp2 : w.heap.size < w5.heap.size + 1 + 1 := (by omega)
      have y5w10 : w1.heap.size < w5.heap.size := C5.blk (b := w1.heap.size) (k := 0) (v := .int .i64 0) (by simp)
      have y5w1p1 : w1.heap.size < w5.heap.size + 1 := (by omega)
      have y5w1p2 : w1.heap.size < w5.heap.size + 1 + 1 := (by omega)
      have HM5 := Lib.hid (HM4.out.below hB5)
      have hM50 := HM5.out.box0
      have hM52 := HM5.out.box2
      dsimp only at hM50 hM52
      rcases HC4.out with ⟨hb', hopt⟩ | ⟨c, hb', hent, hle⟩
      · subst hb'
        have HOP := Lib.hid hopt
        have HSO := Lib.hid (sol_opt HPI.out HO4.out HN4.out HOP.out)
        obtain ⟨v, hv⟩ : ∃ v, Hid (s4.T m (n + m + 1) = v) := ⟨_, Lib.hid rfl⟩
        have HVE : Hid (s4.T P.m P.last = v) := Lib.hid (by rw [HPm.out, HPl.out]; exact hv.out)
        have hvb := HO4.out.goal_last HPI.out
        rw [HVE.out] at hvb
        obtain ⟨hvb1, hvb2⟩ := hvb
        have HRC := Lib.hid (show rc v den = 0 ∧ ri v den = 0 by have h := HSO.out; rw [HVE.out, hde.out] at h; exact ⟨h.1, h.2.1⟩)
        have hM5o := HM5.out.out m (by omega)
        have hM5c := (HM5.out.cell (i := m) (j := n + m + 1) (by omega) hi1).1
        rw [hv.out] at hM5c
        have hM5r := Lib.hid (HM5.out.row m (by omega))
        dsimp only at hM5o hM5c
        have hm3 : (m : Int) < (m : Int) + 2 := by omega
        have hm5 : (n : Int) + (m : Int) + 1 < (N : Int) := by omega
        have hto : ((n : Int) + (m : Int) + 1).toNat = n + m + 1 := by omega
        clear hopt
        go_wp2_with fail
        go_upto_region 15 with fail
        go_cut [11, 12] (fun x y wx => ∃ (ga gb : Nat) (a d : Int), x = .pointer (some ⟨ga, 0, none⟩) ∧ y = .pointer (some ⟨gb, 0, none⟩) ∧ w5.heap.size ≤ ga ∧ w5.heap.size ≤ gb ∧ ga ≠ gb ∧ Hid (a = rn v den ∧ d = rd v den) ∧ Below w5.heap.size w5 wx ∧ Cls wx [(ga, 0, .int .i64 a), (ga, 1, .int .i64 d), (gb, 0, .int .i64 0), (gb, 1, .int .i64 0)])
        case first =>
          refine wp_region_held_drew (S := fun W => W.cell? ⟨Lb, 0, none⟩ = some (.slice (some ⟨LgR, 0, none⟩) (m + 2) LcR) ∧ W.cell? ⟨Lb, 2, none⟩ = some (.int .i64 den) ∧ W.cell? ⟨LgR, m, none⟩ = some (.slice (some ⟨Lblk m, 0, none⟩) N N) ∧ W.cell? ⟨Lblk m, n + m + 1, none⟩ = some (.int .i64 v)) (by kernel_rfl) (by exact ⟨hM50, hM52, hM5o, hM5c⟩) (fun hHeld => ?_)
          refine wpAnyH_take (i := 0) (v := ?vo30) rfl (by kernel_rfl) (by kernel_rfl) (by kernel_rfl) (fun _ _ _ h => h) (Or.inl ⟨by rfl, ?ho30⟩) (by assumption) ?ro30
          case ho30 => (intro w hSw; (try dsimp only at hSw); go_simp; (try with_reducible rfl))
          try simp only [Act.put, List.getElem_toArray, List.getElem_cons_succ, List.getElem_cons_zero, List.setIfInBounds_toArray, List.set_cons_zero, List.set_cons_succ]
          refine wpAnyH_take (i := 1) (v := ?vo31) rfl (by kernel_rfl) (by kernel_rfl) (by kernel_rfl) (fun _ _ _ h => h) (Or.inl ⟨by rfl, ?ho31⟩) (by assumption) ?ro31
          case ho31 => (intro w hSw; (try dsimp only at hSw); go_simp; (try with_reducible rfl))
          try simp only [Act.put, List.getElem_toArray, List.getElem_cons_succ, List.getElem_cons_zero, List.setIfInBounds_toArray, List.set_cons_zero, List.set_cons_succ]
          refine wpAnyH_take (i := 2) (v := ?vo32) rfl (by kernel_rfl) (by kernel_rfl) (by kernel_rfl) (fun _ _ _ h => h) (Or.inl ⟨by rfl, ?ho32⟩) (by assumption) ?ro32
          case ho32 => (intro w hSw; (try dsimp only at hSw); go_simp; (try with_reducible rfl))
          try simp only [Act.put, List.getElem_toArray, List.getElem_cons_succ, List.getElem_cons_zero, List.setIfInBounds_toArray, List.set_cons_zero, List.set_cons_succ]
          refine wpAnyH_take (i := 3) (v := ?vo33) rfl (by kernel_rfl) (by kernel_rfl) (by kernel_rfl) (fun _ _ _ h => h) (Or.inl ⟨by rfl, ?ho33⟩) (by assumption) ?ro33
          case ho33 => (intro w hSw; (try dsimp only at hSw); go_simp; (try with_reducible rfl))
          try simp only [Act.put, List.getElem_toArray, List.getElem_cons_succ, List.getElem_cons_zero, List.setIfInBounds_toArray, List.set_cons_zero, List.set_cons_succ]
          refine wpAnyH_take (i := 4) (v := ?vo34) rfl (by kernel_rfl) (by kernel_rfl) (by kernel_rfl) (fun _ _ _ h => h) (Or.inl ⟨by rfl, ?ho34⟩) (by assumption) ?ro34
          case ho34 => (intro w hSw; (try dsimp only at hSw); go_simp; (try with_reducible rfl))
          try simp only [Act.put, List.getElem_toArray, List.getElem_cons_succ, List.getElem_cons_zero, List.setIfInBounds_toArray, List.set_cons_zero, List.set_cons_succ]
          refine wpAnyH_take (i := 5) (v := ?vo35) rfl (by kernel_rfl) (by kernel_rfl) (by kernel_rfl) (fun _ _ _ h => h) (Or.inl ⟨by rfl, ?ho35⟩) (by assumption) ?ro35
          case ho35 => (intro w hSw; (try dsimp only at hSw); go_simp; (try with_reducible rfl))
          try simp only [Act.put, List.getElem_toArray, List.getElem_cons_succ, List.getElem_cons_zero, List.setIfInBounds_toArray, List.set_cons_zero, List.set_cons_succ]
          refine wpAnyH_take (i := 6) (v := ?vo36) rfl (by kernel_rfl) (by kernel_rfl) (by kernel_rfl) (fun _ _ _ h => h) (Or.inl ⟨by rfl, ?ho36⟩) (by assumption) ?ro36
          case ho36 => (intro w hSw; (try dsimp only at hSw); go_simp; (try with_reducible rfl))
          try simp only [Act.put, List.getElem_toArray, List.getElem_cons_succ, List.getElem_cons_zero, List.setIfInBounds_toArray, List.set_cons_zero, List.set_cons_succ]
          refine wpAnyH_take (i := 7) (v := ?vo37) rfl (by kernel_rfl) (by kernel_rfl) (by kernel_rfl) (fun _ _ _ h => h) (Or.inl ⟨by rfl, ?ho37⟩) (by assumption) ?ro37
          case ho37 => (intro w hSw; (try dsimp only at hSw); go_simp; (try with_reducible rfl))
          try simp only [Act.put, List.getElem_toArray, List.getElem_cons_succ, List.getElem_cons_zero, List.setIfInBounds_toArray, List.set_cons_zero, List.set_cons_succ]
          refine wpAnyH_take (i := 8) (v := ?vo38) rfl (by kernel_rfl) (by kernel_rfl) (by kernel_rfl) (fun _ _ _ h => h) (Or.inl ⟨by rfl, ?ho38⟩) (by assumption) ?ro38
          case ho38 => (intro w hSw; (try dsimp only at hSw); go_simp; (try with_reducible rfl))
          try simp only [Act.put, List.getElem_toArray, List.getElem_cons_succ, List.getElem_cons_zero, List.setIfInBounds_toArray, List.set_cons_zero, List.set_cons_succ]
          refine wpAnyH_take (i := 9) (v := ?vo39) rfl (by kernel_rfl) (by kernel_rfl) (by kernel_rfl) (fun _ _ _ h => h) (Or.inl ⟨by rfl, ?ho39⟩) (by assumption) ?ro39
          case ho39 => (intro w hSw; (try dsimp only at hSw); go_simp; (try with_reducible rfl))
          try simp only [Act.put, List.getElem_toArray, List.getElem_cons_succ, List.getElem_cons_zero, List.setIfInBounds_toArray, List.set_cons_zero, List.set_cons_succ]
          refine wpAnyH_take (i := 10) (v := ?vo310) rfl (by kernel_rfl) (by kernel_rfl) (by kernel_rfl) (fun _ _ _ h => h) (Or.inl ⟨by rfl, ?ho310⟩) (by assumption) ?ro310
          case ho310 => (intro w hSw; (try dsimp only at hSw); go_simp; (try with_reducible rfl))
          try simp only [Act.put, List.getElem_toArray, List.getElem_cons_succ, List.getElem_cons_zero, List.setIfInBounds_toArray, List.set_cons_zero, List.set_cons_succ]
          refine wpAnyH_take (i := 11) (v := ?vo311) rfl (by kernel_rfl) (by kernel_rfl) (by kernel_rfl) (fun _ _ _ h => h) (Or.inl ⟨by rfl, ?ho311⟩) (by assumption) ?ro311
          case ho311 => (intro w hSw; (try dsimp only at hSw); go_simp; (try with_reducible rfl))
          try simp only [Act.put, List.getElem_toArray, List.getElem_cons_succ, List.getElem_cons_zero, List.setIfInBounds_toArray, List.set_cons_zero, List.set_cons_succ]
          refine wpAnyH_take (i := 12) (v := ?vo312) rfl (by kernel_rfl) (by kernel_rfl) (by kernel_rfl) (fun _ _ _ h => h) (Or.inl ⟨by rfl, ?ho312⟩) (by assumption) ?ro312
          case ho312 => (intro w hSw; (try dsimp only at hSw); go_simp; (try with_reducible rfl))
          try simp only [Act.put, List.getElem_toArray, List.getElem_cons_succ, List.getElem_cons_zero, List.setIfInBounds_toArray, List.set_cons_zero, List.set_cons_succ]
          refine wpAnyH_take (i := 13) (v := ?vo313) rfl (by kernel_rfl) (by kernel_rfl) (by kernel_rfl) (fun _ _ _ h => h) (Or.inl ⟨by rfl, ?ho313⟩) (by assumption) ?ro313
          case ho313 => (intro w hSw; (try dsimp only at hSw); go_simp; (try with_reducible rfl))
          try simp only [Act.put, List.getElem_toArray, List.getElem_cons_succ, List.getElem_cons_zero, List.setIfInBounds_toArray, List.set_cons_zero, List.set_cons_succ]
          refine wpAnyH_take (i := 14) (v := ?vo314) rfl (by kernel_rfl) (by kernel_rfl) (by kernel_rfl) (fun _ _ _ h => h) (Or.inl ⟨by rfl, ?ho314⟩) (by assumption) ?ro314
          case ho314 => (intro w hSw; (try dsimp only at hSw); go_simp; (try with_reducible rfl))
          try simp only [Act.put, List.getElem_toArray, List.getElem_cons_succ, List.getElem_cons_zero, List.setIfInBounds_toArray, List.set_cons_zero, List.set_cons_succ]
          refine wpAnyH_take (i := 15) (v := ?vo315) rfl (by kernel_rfl) (by kernel_rfl) (by kernel_rfl) (fun _ _ _ h => h) (Or.inl ⟨by rfl, ?ho315⟩) (by assumption) ?ro315
          case ho315 => (intro w hSw; (try dsimp only at hSw); go_simp; (try with_reducible rfl))
          try simp only [Act.put, List.getElem_toArray, List.getElem_cons_succ, List.getElem_cons_zero, List.setIfInBounds_toArray, List.set_cons_zero, List.set_cons_succ]
          refine wpAnyH_take (i := 16) (v := ?vo316) rfl (by kernel_rfl) (by kernel_rfl) (by kernel_rfl) (fun _ _ _ h => h) (Or.inl ⟨by rfl, ?ho316⟩) (by assumption) ?ro316
          case ho316 => (intro w hSw; (try dsimp only at hSw); go_simp; (try with_reducible rfl))
          try simp only [Act.put, List.getElem_toArray, List.getElem_cons_succ, List.getElem_cons_zero, List.setIfInBounds_toArray, List.set_cons_zero, List.set_cons_succ]
          refine wpAnyH_ready (rs := [17, 21, 22]) (by kernel_rfl) (by simp) ?_
          refine (AllReadyH.cons rfl (fun K hK => ?bo31x17) (AllReadyH.cons rfl (fun K hK => ?bo31x21) (AllReadyH.cons rfl (fun K hK => ?bo31x22) AllReadyH.nil)))
          case bo31x17 =>
            go_simp
            go_at_call 38
            refine (make_sol _ v den (by omega) (by omega) (by omega) (by omega) (by omega) HRC.out.1 HRC.out.2).mono ?_
            rintro e w6 ⟨a6, d6, rfl, HA6, hB6⟩
            have E6 := dstep w5 hB6 (by repeat (first | with_reducible exact Below.refl w5.heap.size w5 | with_reducible apply bdrew | with_reducible apply bdrewN | with_reducible apply balloc | ((with_reducible refine bset ?_ ?_ _); rotate_left; (first | omega | (simp <;> omega)))))
            have e6s := E6.size
            have hSS : w6.cell? ⟨Lb, 0, none⟩ = some (.slice (some ⟨LgR, 0, none⟩) (m + 2) LcR) ∧ w6.cell? ⟨Lb, 2, none⟩ = some (.int .i64 den) ∧ w6.cell? ⟨LgR, m, none⟩ = some (.slice (some ⟨Lblk m, 0, none⟩) N N) ∧ w6.cell? ⟨Lblk m, n + m + 1, none⟩ = some (.int .i64 v) := ⟨(HM5.out.below (by repeat (first | with_reducible exact E6 | with_reducible apply bdrew | with_reducible apply bdrewN | with_reducible apply balloc | ((with_reducible refine bset ?_ ?_ _); rotate_left; (first | omega | (simp <;> omega)))))).box0, (HM5.out.below (by repeat (first | with_reducible exact E6 | with_reducible apply bdrew | with_reducible apply bdrewN | with_reducible apply balloc | ((with_reducible refine bset ?_ ?_ _); rotate_left; (first | omega | (simp <;> omega)))))).box2, (HM5.out.below (by repeat (first | with_reducible exact E6 | with_reducible apply bdrew | with_reducible apply bdrewN | with_reducible apply balloc | ((with_reducible refine bset ?_ ?_ _); rotate_left; (first | omega | (simp <;> omega)))))).out m (by omega), (HM5.out.below (by repeat (first | with_reducible exact E6 | with_reducible apply bdrew | with_reducible apply bdrewN | with_reducible apply balloc | ((with_reducible refine bset ?_ ?_ _); rotate_left; (first | omega | (simp <;> omega)))))).cellv (by omega) hi1 hv⟩
            go_wp2_with fail
            refine hK.out _ _ hSS (fun hHeld => ?_)
            clear hK K
            try simp only [Act.put, List.getElem_toArray, List.getElem_cons_succ, List.getElem_cons_zero, List.setIfInBounds_toArray, List.set_cons_zero, List.set_cons_succ]
            refine wpAnyH_take (i := 18) (v := ?vo3e218) rfl (by kernel_rfl) (by kernel_rfl) (by kernel_rfl) (fun _ _ _ h => h) (Or.inl ⟨by rfl, ?ho3e218⟩) (by assumption) ?ro3e218
            case ho3e218 => (intro w hSw; (try dsimp only at hSw); go_simp; (try with_reducible rfl))
            try simp only [Act.put, List.getElem_toArray, List.getElem_cons_succ, List.getElem_cons_zero, List.setIfInBounds_toArray, List.set_cons_zero, List.set_cons_succ]
            refine wpAnyH_take (i := 19) (v := ?vo3e319) rfl (by kernel_rfl) (by kernel_rfl) (by kernel_rfl) (fun _ _ _ h => h) (Or.inl ⟨by rfl, ?ho3e319⟩) (by assumption) ?ro3e319
            case ho3e319 => (intro w hSw; (try dsimp only at hSw); go_simp; (try with_reducible rfl))
            try simp only [Act.put, List.getElem_toArray, List.getElem_cons_succ, List.getElem_cons_zero, List.setIfInBounds_toArray, List.set_cons_zero, List.set_cons_succ]
            refine wpAnyH_take (i := 20) (v := ?vo3e420) rfl (by kernel_rfl) (by kernel_rfl) (by kernel_rfl) (fun _ _ _ h => h) (Or.inl ⟨by rfl, ?ho3e420⟩) (by assumption) ?ro3e420
            case ho3e420 => (intro w hSw; (try dsimp only at hSw); go_simp; (try with_reducible rfl))
            try simp only [Act.put, List.getElem_toArray, List.getElem_cons_succ, List.getElem_cons_zero, List.setIfInBounds_toArray, List.set_cons_zero, List.set_cons_succ]
            refine wpAnyH_ready (rs := [21, 22]) (by kernel_rfl) (by simp) ?_
            refine (AllReadyH.cons rfl (fun K hK => ?bo35x21) (AllReadyH.cons rfl (fun K hK => ?bo35x22) AllReadyH.nil))
            case bo35x21 =>
              go_simp
              have hSS : (w6.alloc (.cells #[.int .i64 0, .int .i64 0] 28)).cell? ⟨Lb, 0, none⟩ = some (.slice (some ⟨LgR, 0, none⟩) (m + 2) LcR) ∧ (w6.alloc (.cells #[.int .i64 0, .int .i64 0] 28)).cell? ⟨Lb, 2, none⟩ = some (.int .i64 den) ∧ (w6.alloc (.cells #[.int .i64 0, .int .i64 0] 28)).cell? ⟨LgR, m, none⟩ = some (.slice (some ⟨Lblk m, 0, none⟩) N N) ∧ (w6.alloc (.cells #[.int .i64 0, .int .i64 0] 28)).cell? ⟨Lblk m, n + m + 1, none⟩ = some (.int .i64 v) := ⟨(HM5.out.below (by repeat (first | with_reducible exact E6 | with_reducible apply bdrew | with_reducible apply bdrewN | with_reducible apply balloc | ((with_reducible refine bset ?_ ?_ _); rotate_left; (first | omega | (simp <;> omega)))))).box0, (HM5.out.below (by repeat (first | with_reducible exact E6 | with_reducible apply bdrew | with_reducible apply bdrewN | with_reducible apply balloc | ((with_reducible refine bset ?_ ?_ _); rotate_left; (first | omega | (simp <;> omega)))))).box2, (HM5.out.below (by repeat (first | with_reducible exact E6 | with_reducible apply bdrew | with_reducible apply bdrewN | with_reducible apply balloc | ((with_reducible refine bset ?_ ?_ _); rotate_left; (first | omega | (simp <;> omega)))))).out m (by omega), (HM5.out.below (by repeat (first | with_reducible exact E6 | with_reducible apply bdrew | with_reducible apply bdrewN | with_reducible apply balloc | ((with_reducible refine bset ?_ ?_ _); rotate_left; (first | omega | (simp <;> omega)))))).cellv (by omega) hi1 hv⟩
              go_wp2_with fail
              refine hK.out _ _ hSS (fun hHeld => ?_)
              clear hK K
              try simp only [Act.put, List.getElem_toArray, List.getElem_cons_succ, List.getElem_cons_zero, List.setIfInBounds_toArray, List.set_cons_zero, List.set_cons_succ]
              refine wpAnyH_ready (rs := [22]) (by kernel_rfl) (by simp) ?_
              refine (AllReadyH.cons rfl (fun K hK => ?bo36x22) AllReadyH.nil)
              case bo36x22 =>
                go_simp
                have hSS : ((w6.alloc (.cells #[.int .i64 0, .int .i64 0] 28)).alloc (.cells #[.int .i64 0, .int .i64 0] 34)).cell? ⟨Lb, 0, none⟩ = some (.slice (some ⟨LgR, 0, none⟩) (m + 2) LcR) ∧ ((w6.alloc (.cells #[.int .i64 0, .int .i64 0] 28)).alloc (.cells #[.int .i64 0, .int .i64 0] 34)).cell? ⟨Lb, 2, none⟩ = some (.int .i64 den) ∧ ((w6.alloc (.cells #[.int .i64 0, .int .i64 0] 28)).alloc (.cells #[.int .i64 0, .int .i64 0] 34)).cell? ⟨LgR, m, none⟩ = some (.slice (some ⟨Lblk m, 0, none⟩) N N) ∧ ((w6.alloc (.cells #[.int .i64 0, .int .i64 0] 28)).alloc (.cells #[.int .i64 0, .int .i64 0] 34)).cell? ⟨Lblk m, n + m + 1, none⟩ = some (.int .i64 v) := ⟨(HM5.out.below (by repeat (first | with_reducible exact E6 | with_reducible apply bdrew | with_reducible apply bdrewN | with_reducible apply balloc | ((with_reducible refine bset ?_ ?_ _); rotate_left; (first | omega | (simp <;> omega)))))).box0, (HM5.out.below (by repeat (first | with_reducible exact E6 | with_reducible apply bdrew | with_reducible apply bdrewN | with_reducible apply balloc | ((with_reducible refine bset ?_ ?_ _); rotate_left; (first | omega | (simp <;> omega)))))).box2, (HM5.out.below (by repeat (first | with_reducible exact E6 | with_reducible apply bdrew | with_reducible apply bdrewN | with_reducible apply balloc | ((with_reducible refine bset ?_ ?_ _); rotate_left; (first | omega | (simp <;> omega)))))).out m (by omega), (HM5.out.below (by repeat (first | with_reducible exact E6 | with_reducible apply bdrew | with_reducible apply bdrewN | with_reducible apply balloc | ((with_reducible refine bset ?_ ?_ _); rotate_left; (first | omega | (simp <;> omega)))))).cellv (by omega) hi1 hv⟩
                go_wp2_with fail
                refine hK.out _ _ hSS (fun hHeld => ?_)
                clear hK K
                try simp only [Act.put, List.getElem_toArray, List.getElem_cons_succ, List.getElem_cons_zero, List.setIfInBounds_toArray, List.set_cons_zero, List.set_cons_succ]
                refine wpAnyH_ready (rs := [23]) (by kernel_rfl) (by simp) ?_
                refine AllReadyH.cons rfl (fun K hK => ?_) AllReadyH.nil
                go_simp
                have hne15 : ¬ w6.heap.size = w6.heap.size + 1 := (by omega)
                have hne16 : ¬ w6.heap.size + 1 = w6.heap.size := (by omega)
                go_wp2_with fail
                refine hK.out _ _ ⟨(HM5.out.below (by repeat (first | with_reducible exact E6 | with_reducible apply bdrew | with_reducible apply bdrewN | with_reducible apply balloc | ((with_reducible refine bset ?_ ?_ _); rotate_left; (first | omega | (simp <;> omega)))))).box0, (HM5.out.below (by repeat (first | with_reducible exact E6 | with_reducible apply bdrew | with_reducible apply bdrewN | with_reducible apply balloc | ((with_reducible refine bset ?_ ?_ _); rotate_left; (first | omega | (simp <;> omega)))))).box2, (HM5.out.below (by repeat (first | with_reducible exact E6 | with_reducible apply bdrew | with_reducible apply bdrewN | with_reducible apply balloc | ((with_reducible refine bset ?_ ?_ _); rotate_left; (first | omega | (simp <;> omega)))))).out m (by omega), (HM5.out.below (by repeat (first | with_reducible exact E6 | with_reducible apply bdrew | with_reducible apply bdrewN | with_reducible apply balloc | ((with_reducible refine bset ?_ ?_ _); rotate_left; (first | omega | (simp <;> omega)))))).cellv (by omega) hi1 hv⟩ (fun hHeld => ?_)
                clear hK K
                try simp only [Act.put, List.getElem_toArray, List.getElem_cons_succ, List.getElem_cons_zero, List.setIfInBounds_toArray, List.set_cons_zero, List.set_cons_succ]
                refine wpAnyH_ready (rs := [24]) (by kernel_rfl) (by simp) ?_
                refine AllReadyH.cons rfl (fun K hK => ?_) AllReadyH.nil
                go_simp
                go_wp2_with fail
                refine hK.out _ _ ⟨(HM5.out.below (by repeat (first | with_reducible exact E6 | with_reducible apply bdrew | with_reducible apply bdrewN | with_reducible apply balloc | ((with_reducible refine bset ?_ ?_ _); rotate_left; (first | omega | (simp <;> omega)))))).box0, (HM5.out.below (by repeat (first | with_reducible exact E6 | with_reducible apply bdrew | with_reducible apply bdrewN | with_reducible apply balloc | ((with_reducible refine bset ?_ ?_ _); rotate_left; (first | omega | (simp <;> omega)))))).box2, (HM5.out.below (by repeat (first | with_reducible exact E6 | with_reducible apply bdrew | with_reducible apply bdrewN | with_reducible apply balloc | ((with_reducible refine bset ?_ ?_ _); rotate_left; (first | omega | (simp <;> omega)))))).out m (by omega), (HM5.out.below (by repeat (first | with_reducible exact E6 | with_reducible apply bdrew | with_reducible apply bdrewN | with_reducible apply balloc | ((with_reducible refine bset ?_ ?_ _); rotate_left; (first | omega | (simp <;> omega)))))).cellv (by omega) hi1 hv⟩ (fun hHeld => ?_)
                clear hK K
                try simp only [Act.put, List.getElem_toArray, List.getElem_cons_succ, List.getElem_cons_zero, List.setIfInBounds_toArray, List.set_cons_zero, List.set_cons_succ]
                refine wpAnyH_done (by kernel_rfl) ?_ _
                go_wp2_with fail
                go_meet
                exact ⟨w6.heap.size, w6.heap.size + 1, a6, d6, rfl, rfl, (by omega), (by omega), hne15, HA6, (by repeat (first | with_reducible exact E6 | with_reducible apply bdrew | with_reducible apply bdrewN | with_reducible apply balloc | ((with_reducible refine bset ?_ ?_ _); rotate_left; (first | omega | (simp <;> omega))))), (by simp [Cls, go_sem, hne15, hne16])⟩
            case bo35x22 =>
              go_simp
              have hSS : (w6.alloc (.cells #[.int .i64 0, .int .i64 0] 34)).cell? ⟨Lb, 0, none⟩ = some (.slice (some ⟨LgR, 0, none⟩) (m + 2) LcR) ∧ (w6.alloc (.cells #[.int .i64 0, .int .i64 0] 34)).cell? ⟨Lb, 2, none⟩ = some (.int .i64 den) ∧ (w6.alloc (.cells #[.int .i64 0, .int .i64 0] 34)).cell? ⟨LgR, m, none⟩ = some (.slice (some ⟨Lblk m, 0, none⟩) N N) ∧ (w6.alloc (.cells #[.int .i64 0, .int .i64 0] 34)).cell? ⟨Lblk m, n + m + 1, none⟩ = some (.int .i64 v) := ⟨(HM5.out.below (by repeat (first | with_reducible exact E6 | with_reducible apply bdrew | with_reducible apply bdrewN | with_reducible apply balloc | ((with_reducible refine bset ?_ ?_ _); rotate_left; (first | omega | (simp <;> omega)))))).box0, (HM5.out.below (by repeat (first | with_reducible exact E6 | with_reducible apply bdrew | with_reducible apply bdrewN | with_reducible apply balloc | ((with_reducible refine bset ?_ ?_ _); rotate_left; (first | omega | (simp <;> omega)))))).box2, (HM5.out.below (by repeat (first | with_reducible exact E6 | with_reducible apply bdrew | with_reducible apply bdrewN | with_reducible apply balloc | ((with_reducible refine bset ?_ ?_ _); rotate_left; (first | omega | (simp <;> omega)))))).out m (by omega), (HM5.out.below (by repeat (first | with_reducible exact E6 | with_reducible apply bdrew | with_reducible apply bdrewN | with_reducible apply balloc | ((with_reducible refine bset ?_ ?_ _); rotate_left; (first | omega | (simp <;> omega)))))).cellv (by omega) hi1 hv⟩
              go_wp2_with fail
              refine hK.out _ _ hSS (fun hHeld => ?_)
              clear hK K
              try simp only [Act.put, List.getElem_toArray, List.getElem_cons_succ, List.getElem_cons_zero, List.setIfInBounds_toArray, List.set_cons_zero, List.set_cons_succ]
              refine wpAnyH_ready (rs := [21]) (by kernel_rfl) (by simp) ?_
              refine (AllReadyH.cons rfl (fun K hK => ?bo39x21) AllReadyH.nil)
              case bo39x21 =>
                go_simp
                have hSS : ((w6.alloc (.cells #[.int .i64 0, .int .i64 0] 34)).alloc (.cells #[.int .i64 0, .int .i64 0] 28)).cell? ⟨Lb, 0, none⟩ = some (.slice (some ⟨LgR, 0, none⟩) (m + 2) LcR) ∧ ((w6.alloc (.cells #[.int .i64 0, .int .i64 0] 34)).alloc (.cells #[.int .i64 0, .int .i64 0] 28)).cell? ⟨Lb, 2, none⟩ = some (.int .i64 den) ∧ ((w6.alloc (.cells #[.int .i64 0, .int .i64 0] 34)).alloc (.cells #[.int .i64 0, .int .i64 0] 28)).cell? ⟨LgR, m, none⟩ = some (.slice (some ⟨Lblk m, 0, none⟩) N N) ∧ ((w6.alloc (.cells #[.int .i64 0, .int .i64 0] 34)).alloc (.cells #[.int .i64 0, .int .i64 0] 28)).cell? ⟨Lblk m, n + m + 1, none⟩ = some (.int .i64 v) := ⟨(HM5.out.below (by repeat (first | with_reducible exact E6 | with_reducible apply bdrew | with_reducible apply bdrewN | with_reducible apply balloc | ((with_reducible refine bset ?_ ?_ _); rotate_left; (first | omega | (simp <;> omega)))))).box0, (HM5.out.below (by repeat (first | with_reducible exact E6 | with_reducible apply bdrew | with_reducible apply bdrewN | with_reducible apply balloc | ((with_reducible refine bset ?_ ?_ _); rotate_left; (first | omega | (simp <;> omega)))))).box2, (HM5.out.below (by repeat (first | with_reducible exact E6 | with_reducible apply bdrew | with_reducible apply bdrewN | with_reducible apply balloc | ((with_reducible refine bset ?_ ?_ _); rotate_left; (first | omega | (simp <;> omega)))))).out m (by omega), (HM5.out.below (by repeat (first | with_reducible exact E6 | with_reducible apply bdrew | with_reducible apply bdrewN | with_reducible apply balloc | ((with_reducible refine bset ?_ ?_ _); rotate_left; (first | omega | (simp <;> omega)))))).cellv (by omega) hi1 hv⟩
                go_wp2_with fail
                refine hK.out _ _ hSS (fun hHeld => ?_)
                clear hK K
                try simp only [Act.put, List.getElem_toArray, List.getElem_cons_succ, List.getElem_cons_zero, List.setIfInBounds_toArray, List.set_cons_zero, List.set_cons_succ]
                refine wpAnyH_ready (rs := [23]) (by kernel_rfl) (by simp) ?_
                refine AllReadyH.cons rfl (fun K hK => ?_) AllReadyH.nil
                go_simp
                have hne15 : ¬ w6.heap.size + 1 = w6.heap.size := (by omega)
                have hne16 : ¬ w6.heap.size = w6.heap.size + 1 := (by omega)
                go_wp2_with fail
                refine hK.out _ _ ⟨(HM5.out.below (by repeat (first | with_reducible exact E6 | with_reducible apply bdrew | with_reducible apply bdrewN | with_reducible apply balloc | ((with_reducible refine bset ?_ ?_ _); rotate_left; (first | omega | (simp <;> omega)))))).box0, (HM5.out.below (by repeat (first | with_reducible exact E6 | with_reducible apply bdrew | with_reducible apply bdrewN | with_reducible apply balloc | ((with_reducible refine bset ?_ ?_ _); rotate_left; (first | omega | (simp <;> omega)))))).box2, (HM5.out.below (by repeat (first | with_reducible exact E6 | with_reducible apply bdrew | with_reducible apply bdrewN | with_reducible apply balloc | ((with_reducible refine bset ?_ ?_ _); rotate_left; (first | omega | (simp <;> omega)))))).out m (by omega), (HM5.out.below (by repeat (first | with_reducible exact E6 | with_reducible apply bdrew | with_reducible apply bdrewN | with_reducible apply balloc | ((with_reducible refine bset ?_ ?_ _); rotate_left; (first | omega | (simp <;> omega)))))).cellv (by omega) hi1 hv⟩ (fun hHeld => ?_)
                clear hK K
                try simp only [Act.put, List.getElem_toArray, List.getElem_cons_succ, List.getElem_cons_zero, List.setIfInBounds_toArray, List.set_cons_zero, List.set_cons_succ]
                refine wpAnyH_ready (rs := [24]) (by kernel_rfl) (by simp) ?_
                refine AllReadyH.cons rfl (fun K hK => ?_) AllReadyH.nil
                go_simp
                go_wp2_with fail
                refine hK.out _ _ ⟨(HM5.out.below (by repeat (first | with_reducible exact E6 | with_reducible apply bdrew | with_reducible apply bdrewN | with_reducible apply balloc | ((with_reducible refine bset ?_ ?_ _); rotate_left; (first | omega | (simp <;> omega)))))).box0, (HM5.out.below (by repeat (first | with_reducible exact E6 | with_reducible apply bdrew | with_reducible apply bdrewN | with_reducible apply balloc | ((with_reducible refine bset ?_ ?_ _); rotate_left; (first | omega | (simp <;> omega)))))).box2, (HM5.out.below (by repeat (first | with_reducible exact E6 | with_reducible apply bdrew | with_reducible apply bdrewN | with_reducible apply balloc | ((with_reducible refine bset ?_ ?_ _); rotate_left; (first | omega | (simp <;> omega)))))).out m (by omega), (HM5.out.below (by repeat (first | with_reducible exact E6 | with_reducible apply bdrew | with_reducible apply bdrewN | with_reducible apply balloc | ((with_reducible refine bset ?_ ?_ _); rotate_left; (first | omega | (simp <;> omega)))))).cellv (by omega) hi1 hv⟩ (fun hHeld => ?_)
                clear hK K
                try simp only [Act.put, List.getElem_toArray, List.getElem_cons_succ, List.getElem_cons_zero, List.setIfInBounds_toArray, List.set_cons_zero, List.set_cons_succ]
                refine wpAnyH_done (by kernel_rfl) ?_ _
                go_wp2_with fail
                go_meet
                exact ⟨w6.heap.size + 1, w6.heap.size, a6, d6, rfl, rfl, (by omega), (by omega), hne15, HA6, (by repeat (first | with_reducible exact E6 | with_reducible apply bdrew | with_reducible apply bdrewN | with_reducible apply balloc | ((with_reducible refine bset ?_ ?_ _); rotate_left; (first | omega | (simp <;> omega))))), (by simp [Cls, go_sem, hne15, hne16])⟩
          case bo31x21 =>
            go_simp
            have hSS : (w5.alloc (.cells #[.int .i64 0, .int .i64 0] 28)).cell? ⟨Lb, 0, none⟩ = some (.slice (some ⟨LgR, 0, none⟩) (m + 2) LcR) ∧ (w5.alloc (.cells #[.int .i64 0, .int .i64 0] 28)).cell? ⟨Lb, 2, none⟩ = some (.int .i64 den) ∧ (w5.alloc (.cells #[.int .i64 0, .int .i64 0] 28)).cell? ⟨LgR, m, none⟩ = some (.slice (some ⟨Lblk m, 0, none⟩) N N) ∧ (w5.alloc (.cells #[.int .i64 0, .int .i64 0] 28)).cell? ⟨Lblk m, n + m + 1, none⟩ = some (.int .i64 v) := ⟨(HM5.out.below (by repeat (first | with_reducible exact Below.refl w5.heap.size w5 | with_reducible apply bdrew | with_reducible apply bdrewN | with_reducible apply balloc | ((with_reducible refine bset ?_ ?_ _); rotate_left; (first | omega | (simp <;> omega)))))).box0, (HM5.out.below (by repeat (first | with_reducible exact Below.refl w5.heap.size w5 | with_reducible apply bdrew | with_reducible apply bdrewN | with_reducible apply balloc | ((with_reducible refine bset ?_ ?_ _); rotate_left; (first | omega | (simp <;> omega)))))).box2, (HM5.out.below (by repeat (first | with_reducible exact Below.refl w5.heap.size w5 | with_reducible apply bdrew | with_reducible apply bdrewN | with_reducible apply balloc | ((with_reducible refine bset ?_ ?_ _); rotate_left; (first | omega | (simp <;> omega)))))).out m (by omega), (HM5.out.below (by repeat (first | with_reducible exact Below.refl w5.heap.size w5 | with_reducible apply bdrew | with_reducible apply bdrewN | with_reducible apply balloc | ((with_reducible refine bset ?_ ?_ _); rotate_left; (first | omega | (simp <;> omega)))))).cellv (by omega) hi1 hv⟩
            go_wp2_with fail
            refine hK.out _ _ hSS (fun hHeld => ?_)
            clear hK K
            try simp only [Act.put, List.getElem_toArray, List.getElem_cons_succ, List.getElem_cons_zero, List.setIfInBounds_toArray, List.set_cons_zero, List.set_cons_succ]
            refine wpAnyH_ready (rs := [17, 22]) (by kernel_rfl) (by simp) ?_
            refine (AllReadyH.cons rfl (fun K hK => ?bo312x17) (AllReadyH.cons rfl (fun K hK => ?bo312x22) AllReadyH.nil))
            case bo312x17 =>
              go_simp
              go_at_call 38
              refine (make_sol _ v den (by omega) (by omega) (by omega) (by omega) (by omega) HRC.out.1 HRC.out.2).mono ?_
              rintro e w6 ⟨a6, d6, rfl, HA6, hB6⟩
              have E6 := dstep w5 hB6 (by repeat (first | with_reducible exact Below.refl w5.heap.size w5 | with_reducible apply bdrew | with_reducible apply bdrewN | with_reducible apply balloc | ((with_reducible refine bset ?_ ?_ _); rotate_left; (first | omega | (simp <;> omega)))))
              have e6s := E6.size
              have CV6 := Cls.below (l := [(w5.heap.size, 0, .int .i64 0), (w5.heap.size, 1, .int .i64 0)]) hB6 (by simp [Cls, go_sem])
              have Fv6 := CV6
              simp only [Cls, and_true] at Fv6
              have yv6w50 : w5.heap.size < w6.heap.size := CV6.blk (b := w5.heap.size) (k := 0) (v := .int .i64 0) (by simp)
              have yv6w5p1 : w5.heap.size < w6.heap.size + 1 := (by omega)
              have yv6w5p2 : w5.heap.size < w6.heap.size + 1 + 1 := (by omega)
              have hSS : w6.cell? ⟨Lb, 0, none⟩ = some (.slice (some ⟨LgR, 0, none⟩) (m + 2) LcR) ∧ w6.cell? ⟨Lb, 2, none⟩ = some (.int .i64 den) ∧ w6.cell? ⟨LgR, m, none⟩ = some (.slice (some ⟨Lblk m, 0, none⟩) N N) ∧ w6.cell? ⟨Lblk m, n + m + 1, none⟩ = some (.int .i64 v) := ⟨(HM5.out.below (by repeat (first | with_reducible exact E6 | with_reducible apply bdrew | with_reducible apply bdrewN | with_reducible apply balloc | ((with_reducible refine bset ?_ ?_ _); rotate_left; (first | omega | (simp <;> omega)))))).box0, (HM5.out.below (by repeat (first | with_reducible exact E6 | with_reducible apply bdrew | with_reducible apply bdrewN | with_reducible apply balloc | ((with_reducible refine bset ?_ ?_ _); rotate_left; (first | omega | (simp <;> omega)))))).box2, (HM5.out.below (by repeat (first | with_reducible exact E6 | with_reducible apply bdrew | with_reducible apply bdrewN | with_reducible apply balloc | ((with_reducible refine bset ?_ ?_ _); rotate_left; (first | omega | (simp <;> omega)))))).out m (by omega), (HM5.out.below (by repeat (first | with_reducible exact E6 | with_reducible apply bdrew | with_reducible apply bdrewN | with_reducible apply balloc | ((with_reducible refine bset ?_ ?_ _); rotate_left; (first | omega | (simp <;> omega)))))).cellv (by omega) hi1 hv⟩
              go_wp2_with fail
              refine hK.out _ _ hSS (fun hHeld => ?_)
              clear hK K
              try simp only [Act.put, List.getElem_toArray, List.getElem_cons_succ, List.getElem_cons_zero, List.setIfInBounds_toArray, List.set_cons_zero, List.set_cons_succ]
              refine wpAnyH_take (i := 18) (v := ?vo3e1318) rfl (by kernel_rfl) (by kernel_rfl) (by kernel_rfl) (fun _ _ _ h => h) (Or.inl ⟨by rfl, ?ho3e1318⟩) (by assumption) ?ro3e1318
              case ho3e1318 => (intro w hSw; (try dsimp only at hSw); go_simp; (try with_reducible rfl))
              try simp only [Act.put, List.getElem_toArray, List.getElem_cons_succ, List.getElem_cons_zero, List.setIfInBounds_toArray, List.set_cons_zero, List.set_cons_succ]
              refine wpAnyH_take (i := 19) (v := ?vo3e1419) rfl (by kernel_rfl) (by kernel_rfl) (by kernel_rfl) (fun _ _ _ h => h) (Or.inl ⟨by rfl, ?ho3e1419⟩) (by assumption) ?ro3e1419
              case ho3e1419 => (intro w hSw; (try dsimp only at hSw); go_simp; (try with_reducible rfl))
              try simp only [Act.put, List.getElem_toArray, List.getElem_cons_succ, List.getElem_cons_zero, List.setIfInBounds_toArray, List.set_cons_zero, List.set_cons_succ]
              refine wpAnyH_take (i := 20) (v := ?vo3e1520) rfl (by kernel_rfl) (by kernel_rfl) (by kernel_rfl) (fun _ _ _ h => h) (Or.inl ⟨by rfl, ?ho3e1520⟩) (by assumption) ?ro3e1520
              case ho3e1520 => (intro w hSw; (try dsimp only at hSw); go_simp; (try with_reducible rfl))
              try simp only [Act.put, List.getElem_toArray, List.getElem_cons_succ, List.getElem_cons_zero, List.setIfInBounds_toArray, List.set_cons_zero, List.set_cons_succ]
              refine wpAnyH_ready (rs := [22]) (by kernel_rfl) (by simp) ?_
              refine (AllReadyH.cons rfl (fun K hK => ?bo316x22) AllReadyH.nil)
              case bo316x22 =>
                go_simp
                have hSS : (w6.alloc (.cells #[.int .i64 0, .int .i64 0] 34)).cell? ⟨Lb, 0, none⟩ = some (.slice (some ⟨LgR, 0, none⟩) (m + 2) LcR) ∧ (w6.alloc (.cells #[.int .i64 0, .int .i64 0] 34)).cell? ⟨Lb, 2, none⟩ = some (.int .i64 den) ∧ (w6.alloc (.cells #[.int .i64 0, .int .i64 0] 34)).cell? ⟨LgR, m, none⟩ = some (.slice (some ⟨Lblk m, 0, none⟩) N N) ∧ (w6.alloc (.cells #[.int .i64 0, .int .i64 0] 34)).cell? ⟨Lblk m, n + m + 1, none⟩ = some (.int .i64 v) := ⟨(HM5.out.below (by repeat (first | with_reducible exact E6 | with_reducible apply bdrew | with_reducible apply bdrewN | with_reducible apply balloc | ((with_reducible refine bset ?_ ?_ _); rotate_left; (first | omega | (simp <;> omega)))))).box0, (HM5.out.below (by repeat (first | with_reducible exact E6 | with_reducible apply bdrew | with_reducible apply bdrewN | with_reducible apply balloc | ((with_reducible refine bset ?_ ?_ _); rotate_left; (first | omega | (simp <;> omega)))))).box2, (HM5.out.below (by repeat (first | with_reducible exact E6 | with_reducible apply bdrew | with_reducible apply bdrewN | with_reducible apply balloc | ((with_reducible refine bset ?_ ?_ _); rotate_left; (first | omega | (simp <;> omega)))))).out m (by omega), (HM5.out.below (by repeat (first | with_reducible exact E6 | with_reducible apply bdrew | with_reducible apply bdrewN | with_reducible apply balloc | ((with_reducible refine bset ?_ ?_ _); rotate_left; (first | omega | (simp <;> omega)))))).cellv (by omega) hi1 hv⟩
                go_wp2_with fail
                refine hK.out _ _ hSS (fun hHeld => ?_)
                clear hK K
                try simp only [Act.put, List.getElem_toArray, List.getElem_cons_succ, List.getElem_cons_zero, List.setIfInBounds_toArray, List.set_cons_zero, List.set_cons_succ]
                refine wpAnyH_ready (rs := [23]) (by kernel_rfl) (by simp) ?_
                refine AllReadyH.cons rfl (fun K hK => ?_) AllReadyH.nil
                go_simp
                have hne15 : ¬ w5.heap.size = w6.heap.size := (by omega)
                have hne16 : ¬ w6.heap.size = w5.heap.size := (by omega)
                go_wp2_with fail
                refine hK.out _ _ ⟨(HM5.out.below (by repeat (first | with_reducible exact E6 | with_reducible apply bdrew | with_reducible apply bdrewN | with_reducible apply balloc | ((with_reducible refine bset ?_ ?_ _); rotate_left; (first | omega | (simp <;> omega)))))).box0, (HM5.out.below (by repeat (first | with_reducible exact E6 | with_reducible apply bdrew | with_reducible apply bdrewN | with_reducible apply balloc | ((with_reducible refine bset ?_ ?_ _); rotate_left; (first | omega | (simp <;> omega)))))).box2, (HM5.out.below (by repeat (first | with_reducible exact E6 | with_reducible apply bdrew | with_reducible apply bdrewN | with_reducible apply balloc | ((with_reducible refine bset ?_ ?_ _); rotate_left; (first | omega | (simp <;> omega)))))).out m (by omega), (HM5.out.below (by repeat (first | with_reducible exact E6 | with_reducible apply bdrew | with_reducible apply bdrewN | with_reducible apply balloc | ((with_reducible refine bset ?_ ?_ _); rotate_left; (first | omega | (simp <;> omega)))))).cellv (by omega) hi1 hv⟩ (fun hHeld => ?_)
                clear hK K
                try simp only [Act.put, List.getElem_toArray, List.getElem_cons_succ, List.getElem_cons_zero, List.setIfInBounds_toArray, List.set_cons_zero, List.set_cons_succ]
                refine wpAnyH_ready (rs := [24]) (by kernel_rfl) (by simp) ?_
                refine AllReadyH.cons rfl (fun K hK => ?_) AllReadyH.nil
                go_simp
                go_wp2_with fail
                refine hK.out _ _ ⟨(HM5.out.below (by repeat (first | with_reducible exact E6 | with_reducible apply bdrew | with_reducible apply bdrewN | with_reducible apply balloc | ((with_reducible refine bset ?_ ?_ _); rotate_left; (first | omega | (simp <;> omega)))))).box0, (HM5.out.below (by repeat (first | with_reducible exact E6 | with_reducible apply bdrew | with_reducible apply bdrewN | with_reducible apply balloc | ((with_reducible refine bset ?_ ?_ _); rotate_left; (first | omega | (simp <;> omega)))))).box2, (HM5.out.below (by repeat (first | with_reducible exact E6 | with_reducible apply bdrew | with_reducible apply bdrewN | with_reducible apply balloc | ((with_reducible refine bset ?_ ?_ _); rotate_left; (first | omega | (simp <;> omega)))))).out m (by omega), (HM5.out.below (by repeat (first | with_reducible exact E6 | with_reducible apply bdrew | with_reducible apply bdrewN | with_reducible apply balloc | ((with_reducible refine bset ?_ ?_ _); rotate_left; (first | omega | (simp <;> omega)))))).cellv (by omega) hi1 hv⟩ (fun hHeld => ?_)
                clear hK K
                try simp only [Act.put, List.getElem_toArray, List.getElem_cons_succ, List.getElem_cons_zero, List.setIfInBounds_toArray, List.set_cons_zero, List.set_cons_succ]
                refine wpAnyH_done (by kernel_rfl) ?_ _
                go_wp2_with fail
                go_meet
                exact ⟨w5.heap.size, w6.heap.size, a6, d6, rfl, rfl, (by omega), (by omega), hne15, HA6, (by repeat (first | with_reducible exact E6 | with_reducible apply bdrew | with_reducible apply bdrewN | with_reducible apply balloc | ((with_reducible refine bset ?_ ?_ _); rotate_left; (first | omega | (simp <;> omega))))), (by simp [Cls, go_sem, hne15, hne16, Fv6, yv6w50, yv6w5p1, yv6w5p2])⟩
            case bo312x22 =>
              go_simp
              have hSS : ((w5.alloc (.cells #[.int .i64 0, .int .i64 0] 28)).alloc (.cells #[.int .i64 0, .int .i64 0] 34)).cell? ⟨Lb, 0, none⟩ = some (.slice (some ⟨LgR, 0, none⟩) (m + 2) LcR) ∧ ((w5.alloc (.cells #[.int .i64 0, .int .i64 0] 28)).alloc (.cells #[.int .i64 0, .int .i64 0] 34)).cell? ⟨Lb, 2, none⟩ = some (.int .i64 den) ∧ ((w5.alloc (.cells #[.int .i64 0, .int .i64 0] 28)).alloc (.cells #[.int .i64 0, .int .i64 0] 34)).cell? ⟨LgR, m, none⟩ = some (.slice (some ⟨Lblk m, 0, none⟩) N N) ∧ ((w5.alloc (.cells #[.int .i64 0, .int .i64 0] 28)).alloc (.cells #[.int .i64 0, .int .i64 0] 34)).cell? ⟨Lblk m, n + m + 1, none⟩ = some (.int .i64 v) := ⟨(HM5.out.below (by repeat (first | with_reducible exact Below.refl w5.heap.size w5 | with_reducible apply bdrew | with_reducible apply bdrewN | with_reducible apply balloc | ((with_reducible refine bset ?_ ?_ _); rotate_left; (first | omega | (simp <;> omega)))))).box0, (HM5.out.below (by repeat (first | with_reducible exact Below.refl w5.heap.size w5 | with_reducible apply bdrew | with_reducible apply bdrewN | with_reducible apply balloc | ((with_reducible refine bset ?_ ?_ _); rotate_left; (first | omega | (simp <;> omega)))))).box2, (HM5.out.below (by repeat (first | with_reducible exact Below.refl w5.heap.size w5 | with_reducible apply bdrew | with_reducible apply bdrewN | with_reducible apply balloc | ((with_reducible refine bset ?_ ?_ _); rotate_left; (first | omega | (simp <;> omega)))))).out m (by omega), (HM5.out.below (by repeat (first | with_reducible exact Below.refl w5.heap.size w5 | with_reducible apply bdrew | with_reducible apply bdrewN | with_reducible apply balloc | ((with_reducible refine bset ?_ ?_ _); rotate_left; (first | omega | (simp <;> omega)))))).cellv (by omega) hi1 hv⟩
              go_wp2_with fail
              refine hK.out _ _ hSS (fun hHeld => ?_)
              clear hK K
              try simp only [Act.put, List.getElem_toArray, List.getElem_cons_succ, List.getElem_cons_zero, List.setIfInBounds_toArray, List.set_cons_zero, List.set_cons_succ]
              refine wpAnyH_ready (rs := [17]) (by kernel_rfl) (by simp) ?_
              refine (AllReadyH.cons rfl (fun K hK => ?bo319x17) AllReadyH.nil)
              case bo319x17 =>
                go_simp
                go_at_call 38
                refine (make_sol _ v den (by omega) (by omega) (by omega) (by omega) (by omega) HRC.out.1 HRC.out.2).mono ?_
                rintro e w6 ⟨a6, d6, rfl, HA6, hB6⟩
                have E6 := dstep w5 hB6 (by repeat (first | with_reducible exact Below.refl w5.heap.size w5 | with_reducible apply bdrew | with_reducible apply bdrewN | with_reducible apply balloc | ((with_reducible refine bset ?_ ?_ _); rotate_left; (first | omega | (simp <;> omega)))))
                have e6s := E6.size
                have CV6 := Cls.below (l := [(w5.heap.size, 0, .int .i64 0), (w5.heap.size, 1, .int .i64 0), (w5.heap.size + 1, 0, .int .i64 0), (w5.heap.size + 1, 1, .int .i64 0)]) hB6 (by simp [Cls, go_sem])
                have Fv6 := CV6
                simp only [Cls, and_true] at Fv6
                have yv6w51 : w5.heap.size + 1 < w6.heap.size := CV6.blk (b := w5.heap.size + 1) (k := 0) (v := .int .i64 0) (by simp)
                have yv6w50 : w5.heap.size < w6.heap.size := (by omega)
                have yv6w5p1 : w5.heap.size < w6.heap.size + 1 := (by omega)
                have yv6w5p2 : w5.heap.size < w6.heap.size + 1 + 1 := (by omega)
                have hSS : w6.cell? ⟨Lb, 0, none⟩ = some (.slice (some ⟨LgR, 0, none⟩) (m + 2) LcR) ∧ w6.cell? ⟨Lb, 2, none⟩ = some (.int .i64 den) ∧ w6.cell? ⟨LgR, m, none⟩ = some (.slice (some ⟨Lblk m, 0, none⟩) N N) ∧ w6.cell? ⟨Lblk m, n + m + 1, none⟩ = some (.int .i64 v) := ⟨(HM5.out.below (by repeat (first | with_reducible exact E6 | with_reducible apply bdrew | with_reducible apply bdrewN | with_reducible apply balloc | ((with_reducible refine bset ?_ ?_ _); rotate_left; (first | omega | (simp <;> omega)))))).box0, (HM5.out.below (by repeat (first | with_reducible exact E6 | with_reducible apply bdrew | with_reducible apply bdrewN | with_reducible apply balloc | ((with_reducible refine bset ?_ ?_ _); rotate_left; (first | omega | (simp <;> omega)))))).box2, (HM5.out.below (by repeat (first | with_reducible exact E6 | with_reducible apply bdrew | with_reducible apply bdrewN | with_reducible apply balloc | ((with_reducible refine bset ?_ ?_ _); rotate_left; (first | omega | (simp <;> omega)))))).out m (by omega), (HM5.out.below (by repeat (first | with_reducible exact E6 | with_reducible apply bdrew | with_reducible apply bdrewN | with_reducible apply balloc | ((with_reducible refine bset ?_ ?_ _); rotate_left; (first | omega | (simp <;> omega)))))).cellv (by omega) hi1 hv⟩
                go_wp2_with fail
                refine hK.out _ _ hSS (fun hHeld => ?_)
                clear hK K
                try simp only [Act.put, List.getElem_toArray, List.getElem_cons_succ, List.getElem_cons_zero, List.setIfInBounds_toArray, List.set_cons_zero, List.set_cons_succ]
                refine wpAnyH_take (i := 18) (v := ?vo3e2018) rfl (by kernel_rfl) (by kernel_rfl) (by kernel_rfl) (fun _ _ _ h => h) (Or.inl ⟨by rfl, ?ho3e2018⟩) (by assumption) ?ro3e2018
                case ho3e2018 => (intro w hSw; (try dsimp only at hSw); go_simp; (try with_reducible rfl))
                try simp only [Act.put, List.getElem_toArray, List.getElem_cons_succ, List.getElem_cons_zero, List.setIfInBounds_toArray, List.set_cons_zero, List.set_cons_succ]
                refine wpAnyH_take (i := 19) (v := ?vo3e2119) rfl (by kernel_rfl) (by kernel_rfl) (by kernel_rfl) (fun _ _ _ h => h) (Or.inl ⟨by rfl, ?ho3e2119⟩) (by assumption) ?ro3e2119
                case ho3e2119 => (intro w hSw; (try dsimp only at hSw); go_simp; (try with_reducible rfl))
                try simp only [Act.put, List.getElem_toArray, List.getElem_cons_succ, List.getElem_cons_zero, List.setIfInBounds_toArray, List.set_cons_zero, List.set_cons_succ]
                refine wpAnyH_take (i := 20) (v := ?vo3e2220) rfl (by kernel_rfl) (by kernel_rfl) (by kernel_rfl) (fun _ _ _ h => h) (Or.inl ⟨by rfl, ?ho3e2220⟩) (by assumption) ?ro3e2220
                case ho3e2220 => (intro w hSw; (try dsimp only at hSw); go_simp; (try with_reducible rfl))
                try simp only [Act.put, List.getElem_toArray, List.getElem_cons_succ, List.getElem_cons_zero, List.setIfInBounds_toArray, List.set_cons_zero, List.set_cons_succ]
                refine wpAnyH_ready (rs := [23]) (by kernel_rfl) (by simp) ?_
                refine AllReadyH.cons rfl (fun K hK => ?_) AllReadyH.nil
                go_simp
                have hne15 : ¬ w5.heap.size = w5.heap.size + 1 := (by omega)
                have hne16 : ¬ w5.heap.size + 1 = w5.heap.size := (by omega)
                go_wp2_with fail
                refine hK.out _ _ ⟨(HM5.out.below (by repeat (first | with_reducible exact E6 | with_reducible apply bdrew | with_reducible apply bdrewN | with_reducible apply balloc | ((with_reducible refine bset ?_ ?_ _); rotate_left; (first | omega | (simp <;> omega)))))).box0, (HM5.out.below (by repeat (first | with_reducible exact E6 | with_reducible apply bdrew | with_reducible apply bdrewN | with_reducible apply balloc | ((with_reducible refine bset ?_ ?_ _); rotate_left; (first | omega | (simp <;> omega)))))).box2, (HM5.out.below (by repeat (first | with_reducible exact E6 | with_reducible apply bdrew | with_reducible apply bdrewN | with_reducible apply balloc | ((with_reducible refine bset ?_ ?_ _); rotate_left; (first | omega | (simp <;> omega)))))).out m (by omega), (HM5.out.below (by repeat (first | with_reducible exact E6 | with_reducible apply bdrew | with_reducible apply bdrewN | with_reducible apply balloc | ((with_reducible refine bset ?_ ?_ _); rotate_left; (first | omega | (simp <;> omega)))))).cellv (by omega) hi1 hv⟩ (fun hHeld => ?_)
                clear hK K
                try simp only [Act.put, List.getElem_toArray, List.getElem_cons_succ, List.getElem_cons_zero, List.setIfInBounds_toArray, List.set_cons_zero, List.set_cons_succ]
                refine wpAnyH_ready (rs := [24]) (by kernel_rfl) (by simp) ?_
                refine AllReadyH.cons rfl (fun K hK => ?_) AllReadyH.nil
                go_simp
                go_wp2_with fail
                refine hK.out _ _ ⟨(HM5.out.below (by repeat (first | with_reducible exact E6 | with_reducible apply bdrew | with_reducible apply bdrewN | with_reducible apply balloc | ((with_reducible refine bset ?_ ?_ _); rotate_left; (first | omega | (simp <;> omega)))))).box0, (HM5.out.below (by repeat (first | with_reducible exact E6 | with_reducible apply bdrew | with_reducible apply bdrewN | with_reducible apply balloc | ((with_reducible refine bset ?_ ?_ _); rotate_left; (first | omega | (simp <;> omega)))))).box2, (HM5.out.below (by repeat (first | with_reducible exact E6 | with_reducible apply bdrew | with_reducible apply bdrewN | with_reducible apply balloc | ((with_reducible refine bset ?_ ?_ _); rotate_left; (first | omega | (simp <;> omega)))))).out m (by omega), (HM5.out.below (by repeat (first | with_reducible exact E6 | with_reducible apply bdrew | with_reducible apply bdrewN | with_reducible apply balloc | ((with_reducible refine bset ?_ ?_ _); rotate_left; (first | omega | (simp <;> omega)))))).cellv (by omega) hi1 hv⟩ (fun hHeld => ?_)
                clear hK K
                try simp only [Act.put, List.getElem_toArray, List.getElem_cons_succ, List.getElem_cons_zero, List.setIfInBounds_toArray, List.set_cons_zero, List.set_cons_succ]
                refine wpAnyH_done (by kernel_rfl) ?_ _
                go_wp2_with fail
                go_meet
                exact ⟨w5.heap.size, w5.heap.size + 1, a6, d6, rfl, rfl, (by omega), (by omega), hne15, HA6, (by repeat (first | with_reducible exact E6 | with_reducible apply bdrew | with_reducible apply bdrewN | with_reducible apply balloc | ((with_reducible refine bset ?_ ?_ _); rotate_left; (first | omega | (simp <;> omega))))), (by simp [Cls, go_sem, hne15, hne16, Fv6, yv6w51, yv6w50, yv6w5p1, yv6w5p2])⟩
          case bo31x22 =>
            go_simp
            have hSS : (w5.alloc (.cells #[.int .i64 0, .int .i64 0] 34)).cell? ⟨Lb, 0, none⟩ = some (.slice (some ⟨LgR, 0, none⟩) (m + 2) LcR) ∧ (w5.alloc (.cells #[.int .i64 0, .int .i64 0] 34)).cell? ⟨Lb, 2, none⟩ = some (.int .i64 den) ∧ (w5.alloc (.cells #[.int .i64 0, .int .i64 0] 34)).cell? ⟨LgR, m, none⟩ = some (.slice (some ⟨Lblk m, 0, none⟩) N N) ∧ (w5.alloc (.cells #[.int .i64 0, .int .i64 0] 34)).cell? ⟨Lblk m, n + m + 1, none⟩ = some (.int .i64 v) := ⟨(HM5.out.below (by repeat (first | with_reducible exact Below.refl w5.heap.size w5 | with_reducible apply bdrew | with_reducible apply bdrewN | with_reducible apply balloc | ((with_reducible refine bset ?_ ?_ _); rotate_left; (first | omega | (simp <;> omega)))))).box0, (HM5.out.below (by repeat (first | with_reducible exact Below.refl w5.heap.size w5 | with_reducible apply bdrew | with_reducible apply bdrewN | with_reducible apply balloc | ((with_reducible refine bset ?_ ?_ _); rotate_left; (first | omega | (simp <;> omega)))))).box2, (HM5.out.below (by repeat (first | with_reducible exact Below.refl w5.heap.size w5 | with_reducible apply bdrew | with_reducible apply bdrewN | with_reducible apply balloc | ((with_reducible refine bset ?_ ?_ _); rotate_left; (first | omega | (simp <;> omega)))))).out m (by omega), (HM5.out.below (by repeat (first | with_reducible exact Below.refl w5.heap.size w5 | with_reducible apply bdrew | with_reducible apply bdrewN | with_reducible apply balloc | ((with_reducible refine bset ?_ ?_ _); rotate_left; (first | omega | (simp <;> omega)))))).cellv (by omega) hi1 hv⟩
            go_wp2_with fail
            refine hK.out _ _ hSS (fun hHeld => ?_)
            clear hK K
            try simp only [Act.put, List.getElem_toArray, List.getElem_cons_succ, List.getElem_cons_zero, List.setIfInBounds_toArray, List.set_cons_zero, List.set_cons_succ]
            refine wpAnyH_ready (rs := [17, 21]) (by kernel_rfl) (by simp) ?_
            refine (AllReadyH.cons rfl (fun K hK => ?bo325x17) (AllReadyH.cons rfl (fun K hK => ?bo325x21) AllReadyH.nil))
            case bo325x17 =>
              go_simp
              go_at_call 38
              refine (make_sol _ v den (by omega) (by omega) (by omega) (by omega) (by omega) HRC.out.1 HRC.out.2).mono ?_
              rintro e w6 ⟨a6, d6, rfl, HA6, hB6⟩
              have E6 := dstep w5 hB6 (by repeat (first | with_reducible exact Below.refl w5.heap.size w5 | with_reducible apply bdrew | with_reducible apply bdrewN | with_reducible apply balloc | ((with_reducible refine bset ?_ ?_ _); rotate_left; (first | omega | (simp <;> omega)))))
              have e6s := E6.size
              have CV6 := Cls.below (l := [(w5.heap.size, 0, .int .i64 0), (w5.heap.size, 1, .int .i64 0)]) hB6 (by simp [Cls, go_sem])
              have Fv6 := CV6
              simp only [Cls, and_true] at Fv6
              have yv6w50 : w5.heap.size < w6.heap.size := CV6.blk (b := w5.heap.size) (k := 0) (v := .int .i64 0) (by simp)
              have yv6w5p1 : w5.heap.size < w6.heap.size + 1 := (by omega)
              have yv6w5p2 : w5.heap.size < w6.heap.size + 1 + 1 := (by omega)
              have hSS : w6.cell? ⟨Lb, 0, none⟩ = some (.slice (some ⟨LgR, 0, none⟩) (m + 2) LcR) ∧ w6.cell? ⟨Lb, 2, none⟩ = some (.int .i64 den) ∧ w6.cell? ⟨LgR, m, none⟩ = some (.slice (some ⟨Lblk m, 0, none⟩) N N) ∧ w6.cell? ⟨Lblk m, n + m + 1, none⟩ = some (.int .i64 v) := ⟨(HM5.out.below (by repeat (first | with_reducible exact E6 | with_reducible apply bdrew | with_reducible apply bdrewN | with_reducible apply balloc | ((with_reducible refine bset ?_ ?_ _); rotate_left; (first | omega | (simp <;> omega)))))).box0, (HM5.out.below (by repeat (first | with_reducible exact E6 | with_reducible apply bdrew | with_reducible apply bdrewN | with_reducible apply balloc | ((with_reducible refine bset ?_ ?_ _); rotate_left; (first | omega | (simp <;> omega)))))).box2, (HM5.out.below (by repeat (first | with_reducible exact E6 | with_reducible apply bdrew | with_reducible apply bdrewN | with_reducible apply balloc | ((with_reducible refine bset ?_ ?_ _); rotate_left; (first | omega | (simp <;> omega)))))).out m (by omega), (HM5.out.below (by repeat (first | with_reducible exact E6 | with_reducible apply bdrew | with_reducible apply bdrewN | with_reducible apply balloc | ((with_reducible refine bset ?_ ?_ _); rotate_left; (first | omega | (simp <;> omega)))))).cellv (by omega) hi1 hv⟩
              go_wp2_with fail
              refine hK.out _ _ hSS (fun hHeld => ?_)
              clear hK K
              try simp only [Act.put, List.getElem_toArray, List.getElem_cons_succ, List.getElem_cons_zero, List.setIfInBounds_toArray, List.set_cons_zero, List.set_cons_succ]
              refine wpAnyH_take (i := 18) (v := ?vo3e2618) rfl (by kernel_rfl) (by kernel_rfl) (by kernel_rfl) (fun _ _ _ h => h) (Or.inl ⟨by rfl, ?ho3e2618⟩) (by assumption) ?ro3e2618
              case ho3e2618 => (intro w hSw; (try dsimp only at hSw); go_simp; (try with_reducible rfl))
              try simp only [Act.put, List.getElem_toArray, List.getElem_cons_succ, List.getElem_cons_zero, List.setIfInBounds_toArray, List.set_cons_zero, List.set_cons_succ]
              refine wpAnyH_take (i := 19) (v := ?vo3e2719) rfl (by kernel_rfl) (by kernel_rfl) (by kernel_rfl) (fun _ _ _ h => h) (Or.inl ⟨by rfl, ?ho3e2719⟩) (by assumption) ?ro3e2719
              case ho3e2719 => (intro w hSw; (try dsimp only at hSw); go_simp; (try with_reducible rfl))
              try simp only [Act.put, List.getElem_toArray, List.getElem_cons_succ, List.getElem_cons_zero, List.setIfInBounds_toArray, List.set_cons_zero, List.set_cons_succ]
              refine wpAnyH_take (i := 20) (v := ?vo3e2820) rfl (by kernel_rfl) (by kernel_rfl) (by kernel_rfl) (fun _ _ _ h => h) (Or.inl ⟨by rfl, ?ho3e2820⟩) (by assumption) ?ro3e2820
              case ho3e2820 => (intro w hSw; (try dsimp only at hSw); go_simp; (try with_reducible rfl))
              try simp only [Act.put, List.getElem_toArray, List.getElem_cons_succ, List.getElem_cons_zero, List.setIfInBounds_toArray, List.set_cons_zero, List.set_cons_succ]
              refine wpAnyH_ready (rs := [21]) (by kernel_rfl) (by simp) ?_
              refine (AllReadyH.cons rfl (fun K hK => ?bo329x21) AllReadyH.nil)
              case bo329x21 =>
                go_simp
                have hSS : (w6.alloc (.cells #[.int .i64 0, .int .i64 0] 28)).cell? ⟨Lb, 0, none⟩ = some (.slice (some ⟨LgR, 0, none⟩) (m + 2) LcR) ∧ (w6.alloc (.cells #[.int .i64 0, .int .i64 0] 28)).cell? ⟨Lb, 2, none⟩ = some (.int .i64 den) ∧ (w6.alloc (.cells #[.int .i64 0, .int .i64 0] 28)).cell? ⟨LgR, m, none⟩ = some (.slice (some ⟨Lblk m, 0, none⟩) N N) ∧ (w6.alloc (.cells #[.int .i64 0, .int .i64 0] 28)).cell? ⟨Lblk m, n + m + 1, none⟩ = some (.int .i64 v) := ⟨(HM5.out.below (by repeat (first | with_reducible exact E6 | with_reducible apply bdrew | with_reducible apply bdrewN | with_reducible apply balloc | ((with_reducible refine bset ?_ ?_ _); rotate_left; (first | omega | (simp <;> omega)))))).box0, (HM5.out.below (by repeat (first | with_reducible exact E6 | with_reducible apply bdrew | with_reducible apply bdrewN | with_reducible apply balloc | ((with_reducible refine bset ?_ ?_ _); rotate_left; (first | omega | (simp <;> omega)))))).box2, (HM5.out.below (by repeat (first | with_reducible exact E6 | with_reducible apply bdrew | with_reducible apply bdrewN | with_reducible apply balloc | ((with_reducible refine bset ?_ ?_ _); rotate_left; (first | omega | (simp <;> omega)))))).out m (by omega), (HM5.out.below (by repeat (first | with_reducible exact E6 | with_reducible apply bdrew | with_reducible apply bdrewN | with_reducible apply balloc | ((with_reducible refine bset ?_ ?_ _); rotate_left; (first | omega | (simp <;> omega)))))).cellv (by omega) hi1 hv⟩
                go_wp2_with fail
                refine hK.out _ _ hSS (fun hHeld => ?_)
                clear hK K
                try simp only [Act.put, List.getElem_toArray, List.getElem_cons_succ, List.getElem_cons_zero, List.setIfInBounds_toArray, List.set_cons_zero, List.set_cons_succ]
                refine wpAnyH_ready (rs := [23]) (by kernel_rfl) (by simp) ?_
                refine AllReadyH.cons rfl (fun K hK => ?_) AllReadyH.nil
                go_simp
                have hne15 : ¬ w6.heap.size = w5.heap.size := (by omega)
                have hne16 : ¬ w5.heap.size = w6.heap.size := (by omega)
                go_wp2_with fail
                refine hK.out _ _ ⟨(HM5.out.below (by repeat (first | with_reducible exact E6 | with_reducible apply bdrew | with_reducible apply bdrewN | with_reducible apply balloc | ((with_reducible refine bset ?_ ?_ _); rotate_left; (first | omega | (simp <;> omega)))))).box0, (HM5.out.below (by repeat (first | with_reducible exact E6 | with_reducible apply bdrew | with_reducible apply bdrewN | with_reducible apply balloc | ((with_reducible refine bset ?_ ?_ _); rotate_left; (first | omega | (simp <;> omega)))))).box2, (HM5.out.below (by repeat (first | with_reducible exact E6 | with_reducible apply bdrew | with_reducible apply bdrewN | with_reducible apply balloc | ((with_reducible refine bset ?_ ?_ _); rotate_left; (first | omega | (simp <;> omega)))))).out m (by omega), (HM5.out.below (by repeat (first | with_reducible exact E6 | with_reducible apply bdrew | with_reducible apply bdrewN | with_reducible apply balloc | ((with_reducible refine bset ?_ ?_ _); rotate_left; (first | omega | (simp <;> omega)))))).cellv (by omega) hi1 hv⟩ (fun hHeld => ?_)
                clear hK K
                try simp only [Act.put, List.getElem_toArray, List.getElem_cons_succ, List.getElem_cons_zero, List.setIfInBounds_toArray, List.set_cons_zero, List.set_cons_succ]
                refine wpAnyH_ready (rs := [24]) (by kernel_rfl) (by simp) ?_
                refine AllReadyH.cons rfl (fun K hK => ?_) AllReadyH.nil
                go_simp
                go_wp2_with fail
                refine hK.out _ _ ⟨(HM5.out.below (by repeat (first | with_reducible exact E6 | with_reducible apply bdrew | with_reducible apply bdrewN | with_reducible apply balloc | ((with_reducible refine bset ?_ ?_ _); rotate_left; (first | omega | (simp <;> omega)))))).box0, (HM5.out.below (by repeat (first | with_reducible exact E6 | with_reducible apply bdrew | with_reducible apply bdrewN | with_reducible apply balloc | ((with_reducible refine bset ?_ ?_ _); rotate_left; (first | omega | (simp <;> omega)))))).box2, (HM5.out.below (by repeat (first | with_reducible exact E6 | with_reducible apply bdrew | with_reducible apply bdrewN | with_reducible apply balloc | ((with_reducible refine bset ?_ ?_ _); rotate_left; (first | omega | (simp <;> omega)))))).out m (by omega), (HM5.out.below (by repeat (first | with_reducible exact E6 | with_reducible apply bdrew | with_reducible apply bdrewN | with_reducible apply balloc | ((with_reducible refine bset ?_ ?_ _); rotate_left; (first | omega | (simp <;> omega)))))).cellv (by omega) hi1 hv⟩ (fun hHeld => ?_)
                clear hK K
                try simp only [Act.put, List.getElem_toArray, List.getElem_cons_succ, List.getElem_cons_zero, List.setIfInBounds_toArray, List.set_cons_zero, List.set_cons_succ]
                refine wpAnyH_done (by kernel_rfl) ?_ _
                go_wp2_with fail
                go_meet
                exact ⟨w6.heap.size, w5.heap.size, a6, d6, rfl, rfl, (by omega), (by omega), hne15, HA6, (by repeat (first | with_reducible exact E6 | with_reducible apply bdrew | with_reducible apply bdrewN | with_reducible apply balloc | ((with_reducible refine bset ?_ ?_ _); rotate_left; (first | omega | (simp <;> omega))))), (by simp [Cls, go_sem, hne15, hne16, Fv6, yv6w50, yv6w5p1, yv6w5p2])⟩
            case bo325x21 =>
              go_simp
              have hSS : ((w5.alloc (.cells #[.int .i64 0, .int .i64 0] 34)).alloc (.cells #[.int .i64 0, .int .i64 0] 28)).cell? ⟨Lb, 0, none⟩ = some (.slice (some ⟨LgR, 0, none⟩) (m + 2) LcR) ∧ ((w5.alloc (.cells #[.int .i64 0, .int .i64 0] 34)).alloc (.cells #[.int .i64 0, .int .i64 0] 28)).cell? ⟨Lb, 2, none⟩ = some (.int .i64 den) ∧ ((w5.alloc (.cells #[.int .i64 0, .int .i64 0] 34)).alloc (.cells #[.int .i64 0, .int .i64 0] 28)).cell? ⟨LgR, m, none⟩ = some (.slice (some ⟨Lblk m, 0, none⟩) N N) ∧ ((w5.alloc (.cells #[.int .i64 0, .int .i64 0] 34)).alloc (.cells #[.int .i64 0, .int .i64 0] 28)).cell? ⟨Lblk m, n + m + 1, none⟩ = some (.int .i64 v) := ⟨(HM5.out.below (by repeat (first | with_reducible exact Below.refl w5.heap.size w5 | with_reducible apply bdrew | with_reducible apply bdrewN | with_reducible apply balloc | ((with_reducible refine bset ?_ ?_ _); rotate_left; (first | omega | (simp <;> omega)))))).box0, (HM5.out.below (by repeat (first | with_reducible exact Below.refl w5.heap.size w5 | with_reducible apply bdrew | with_reducible apply bdrewN | with_reducible apply balloc | ((with_reducible refine bset ?_ ?_ _); rotate_left; (first | omega | (simp <;> omega)))))).box2, (HM5.out.below (by repeat (first | with_reducible exact Below.refl w5.heap.size w5 | with_reducible apply bdrew | with_reducible apply bdrewN | with_reducible apply balloc | ((with_reducible refine bset ?_ ?_ _); rotate_left; (first | omega | (simp <;> omega)))))).out m (by omega), (HM5.out.below (by repeat (first | with_reducible exact Below.refl w5.heap.size w5 | with_reducible apply bdrew | with_reducible apply bdrewN | with_reducible apply balloc | ((with_reducible refine bset ?_ ?_ _); rotate_left; (first | omega | (simp <;> omega)))))).cellv (by omega) hi1 hv⟩
              go_wp2_with fail
              refine hK.out _ _ hSS (fun hHeld => ?_)
              clear hK K
              try simp only [Act.put, List.getElem_toArray, List.getElem_cons_succ, List.getElem_cons_zero, List.setIfInBounds_toArray, List.set_cons_zero, List.set_cons_succ]
              refine wpAnyH_ready (rs := [17]) (by kernel_rfl) (by simp) ?_
              refine (AllReadyH.cons rfl (fun K hK => ?bo332x17) AllReadyH.nil)
              case bo332x17 =>
                go_simp
                go_at_call 38
                refine (make_sol _ v den (by omega) (by omega) (by omega) (by omega) (by omega) HRC.out.1 HRC.out.2).mono ?_
                rintro e w6 ⟨a6, d6, rfl, HA6, hB6⟩
                have E6 := dstep w5 hB6 (by repeat (first | with_reducible exact Below.refl w5.heap.size w5 | with_reducible apply bdrew | with_reducible apply bdrewN | with_reducible apply balloc | ((with_reducible refine bset ?_ ?_ _); rotate_left; (first | omega | (simp <;> omega)))))
                have e6s := E6.size
                have CV6 := Cls.below (l := [(w5.heap.size, 0, .int .i64 0), (w5.heap.size, 1, .int .i64 0), (w5.heap.size + 1, 0, .int .i64 0), (w5.heap.size + 1, 1, .int .i64 0)]) hB6 (by simp [Cls, go_sem])
                have Fv6 := CV6
                simp only [Cls, and_true] at Fv6
                have yv6w51 : w5.heap.size + 1 < w6.heap.size := CV6.blk (b := w5.heap.size + 1) (k := 0) (v := .int .i64 0) (by simp)
                have yv6w50 : w5.heap.size < w6.heap.size := (by omega)
                have yv6w5p1 : w5.heap.size < w6.heap.size + 1 := (by omega)
                have yv6w5p2 : w5.heap.size < w6.heap.size + 1 + 1 := (by omega)
                have hSS : w6.cell? ⟨Lb, 0, none⟩ = some (.slice (some ⟨LgR, 0, none⟩) (m + 2) LcR) ∧ w6.cell? ⟨Lb, 2, none⟩ = some (.int .i64 den) ∧ w6.cell? ⟨LgR, m, none⟩ = some (.slice (some ⟨Lblk m, 0, none⟩) N N) ∧ w6.cell? ⟨Lblk m, n + m + 1, none⟩ = some (.int .i64 v) := ⟨(HM5.out.below (by repeat (first | with_reducible exact E6 | with_reducible apply bdrew | with_reducible apply bdrewN | with_reducible apply balloc | ((with_reducible refine bset ?_ ?_ _); rotate_left; (first | omega | (simp <;> omega)))))).box0, (HM5.out.below (by repeat (first | with_reducible exact E6 | with_reducible apply bdrew | with_reducible apply bdrewN | with_reducible apply balloc | ((with_reducible refine bset ?_ ?_ _); rotate_left; (first | omega | (simp <;> omega)))))).box2, (HM5.out.below (by repeat (first | with_reducible exact E6 | with_reducible apply bdrew | with_reducible apply bdrewN | with_reducible apply balloc | ((with_reducible refine bset ?_ ?_ _); rotate_left; (first | omega | (simp <;> omega)))))).out m (by omega), (HM5.out.below (by repeat (first | with_reducible exact E6 | with_reducible apply bdrew | with_reducible apply bdrewN | with_reducible apply balloc | ((with_reducible refine bset ?_ ?_ _); rotate_left; (first | omega | (simp <;> omega)))))).cellv (by omega) hi1 hv⟩
                go_wp2_with fail
                refine hK.out _ _ hSS (fun hHeld => ?_)
                clear hK K
                try simp only [Act.put, List.getElem_toArray, List.getElem_cons_succ, List.getElem_cons_zero, List.setIfInBounds_toArray, List.set_cons_zero, List.set_cons_succ]
                refine wpAnyH_take (i := 18) (v := ?vo3e3318) rfl (by kernel_rfl) (by kernel_rfl) (by kernel_rfl) (fun _ _ _ h => h) (Or.inl ⟨by rfl, ?ho3e3318⟩) (by assumption) ?ro3e3318
                case ho3e3318 => (intro w hSw; (try dsimp only at hSw); go_simp; (try with_reducible rfl))
                try simp only [Act.put, List.getElem_toArray, List.getElem_cons_succ, List.getElem_cons_zero, List.setIfInBounds_toArray, List.set_cons_zero, List.set_cons_succ]
                refine wpAnyH_take (i := 19) (v := ?vo3e3419) rfl (by kernel_rfl) (by kernel_rfl) (by kernel_rfl) (fun _ _ _ h => h) (Or.inl ⟨by rfl, ?ho3e3419⟩) (by assumption) ?ro3e3419
                case ho3e3419 => (intro w hSw; (try dsimp only at hSw); go_simp; (try with_reducible rfl))
                try simp only [Act.put, List.getElem_toArray, List.getElem_cons_succ, List.getElem_cons_zero, List.setIfInBounds_toArray, List.set_cons_zero, List.set_cons_succ]
                refine wpAnyH_take (i := 20) (v := ?vo3e3520) rfl (by kernel_rfl) (by kernel_rfl) (by kernel_rfl) (fun _ _ _ h => h) (Or.inl ⟨by rfl, ?ho3e3520⟩) (by assumption) ?ro3e3520
                case ho3e3520 => (intro w hSw; (try dsimp only at hSw); go_simp; (try with_reducible rfl))
                try simp only [Act.put, List.getElem_toArray, List.getElem_cons_succ, List.getElem_cons_zero, List.setIfInBounds_toArray, List.set_cons_zero, List.set_cons_succ]
                refine wpAnyH_ready (rs := [23]) (by kernel_rfl) (by simp) ?_
                refine AllReadyH.cons rfl (fun K hK => ?_) AllReadyH.nil
                go_simp
                have hne15 : ¬ w5.heap.size + 1 = w5.heap.size := (by omega)
                have hne16 : ¬ w5.heap.size = w5.heap.size + 1 := (by omega)
                go_wp2_with fail
                refine hK.out _ _ ⟨(HM5.out.below (by repeat (first | with_reducible exact E6 | with_reducible apply bdrew | with_reducible apply bdrewN | with_reducible apply balloc | ((with_reducible refine bset ?_ ?_ _); rotate_left; (first | omega | (simp <;> omega)))))).box0, (HM5.out.below (by repeat (first | with_reducible exact E6 | with_reducible apply bdrew | with_reducible apply bdrewN | with_reducible apply balloc | ((with_reducible refine bset ?_ ?_ _); rotate_left; (first | omega | (simp <;> omega)))))).box2, (HM5.out.below (by repeat (first | with_reducible exact E6 | with_reducible apply bdrew | with_reducible apply bdrewN | with_reducible apply balloc | ((with_reducible refine bset ?_ ?_ _); rotate_left; (first | omega | (simp <;> omega)))))).out m (by omega), (HM5.out.below (by repeat (first | with_reducible exact E6 | with_reducible apply bdrew | with_reducible apply bdrewN | with_reducible apply balloc | ((with_reducible refine bset ?_ ?_ _); rotate_left; (first | omega | (simp <;> omega)))))).cellv (by omega) hi1 hv⟩ (fun hHeld => ?_)
                clear hK K
                try simp only [Act.put, List.getElem_toArray, List.getElem_cons_succ, List.getElem_cons_zero, List.setIfInBounds_toArray, List.set_cons_zero, List.set_cons_succ]
                refine wpAnyH_ready (rs := [24]) (by kernel_rfl) (by simp) ?_
                refine AllReadyH.cons rfl (fun K hK => ?_) AllReadyH.nil
                go_simp
                go_wp2_with fail
                refine hK.out _ _ ⟨(HM5.out.below (by repeat (first | with_reducible exact E6 | with_reducible apply bdrew | with_reducible apply bdrewN | with_reducible apply balloc | ((with_reducible refine bset ?_ ?_ _); rotate_left; (first | omega | (simp <;> omega)))))).box0, (HM5.out.below (by repeat (first | with_reducible exact E6 | with_reducible apply bdrew | with_reducible apply bdrewN | with_reducible apply balloc | ((with_reducible refine bset ?_ ?_ _); rotate_left; (first | omega | (simp <;> omega)))))).box2, (HM5.out.below (by repeat (first | with_reducible exact E6 | with_reducible apply bdrew | with_reducible apply bdrewN | with_reducible apply balloc | ((with_reducible refine bset ?_ ?_ _); rotate_left; (first | omega | (simp <;> omega)))))).out m (by omega), (HM5.out.below (by repeat (first | with_reducible exact E6 | with_reducible apply bdrew | with_reducible apply bdrewN | with_reducible apply balloc | ((with_reducible refine bset ?_ ?_ _); rotate_left; (first | omega | (simp <;> omega)))))).cellv (by omega) hi1 hv⟩ (fun hHeld => ?_)
                clear hK K
                try simp only [Act.put, List.getElem_toArray, List.getElem_cons_succ, List.getElem_cons_zero, List.setIfInBounds_toArray, List.set_cons_zero, List.set_cons_succ]
                refine wpAnyH_done (by kernel_rfl) ?_ _
                go_wp2_with fail
                go_meet
                exact ⟨w5.heap.size + 1, w5.heap.size, a6, d6, rfl, rfl, (by omega), (by omega), hne15, HA6, (by repeat (first | with_reducible exact E6 | with_reducible apply bdrew | with_reducible apply bdrewN | with_reducible apply balloc | ((with_reducible refine bset ?_ ?_ _); rotate_left; (first | omega | (simp <;> omega))))), (by simp [Cls, go_sem, hne15, hne16, Fv6, yv6w51, yv6w50, yv6w5p1, yv6w5p2])⟩
        case rest =>
          obtain ⟨w6, rfl⟩ : ∃ wo : World, wo = wc := ⟨_, rfl⟩
          obtain ⟨ga, gb, a, d, rfl, rfl, hga, hgb, hgab, HAD, hB6, CF6⟩ := hcut
          have D6 := D5.trans (hB6.mono d5s)
          have d6s := D6.size
          have e6s := hB6.size
          have C6 := Cls.below (w := w5) hB6 C5
          have F6 := C6
          simp only [Cls, and_true] at F6
          have y6w2 : w.heap.size + 1 + 1 < w6.heap.size := C6.blk (b := w.heap.size + 1 + 1) (k := 0) (v := .int .i64 0) (by simp)
          have y6w1 : w.heap.size + 1 < w6.heap.size := (by omega)
          have y6w0 : w.heap.size < w6.heap.size := (by omega)
          have y6wp1 : w.heap.size < w6.heap.size + 1 := (by omega)
          have y6wp2 : w.heap.size < w6.heap.size + 1 + 1 := (by omega)
          have y6w10 : w1.heap.size < w6.heap.size := C6.blk (b := w1.heap.size) (k := 0) (v := .int .i64 0) (by simp)
          have y6w1p1 : w1.heap.size < w6.heap.size + 1 := (by omega)
          have y6w1p2 : w1.heap.size < w6.heap.size + 1 + 1 := (by omega)
          have HM6 := Lib.hid (HM5.out.below hB6)
          have hM60 := HM6.out.box0
          have hM62 := HM6.out.box2
          dsimp only at hM60 hM62
          have hM6o := HM6.out.out m (by omega)
          dsimp only at hM6o
          have CV6 := Cls.below (w := w5) hB6 CV5
          have HX6 := Lib.hid (HX5.out.below hB6)
          have FV6 := CV6
          simp only [Cls, and_true] at FV6
          have FF6 := CF6
          simp only [Cls, and_true] at FF6
          obtain ⟨A', hA', hcut2⟩ := cut_part (Lblk m) N n m (by omega) (by omega)
          have hrun := hcut2 (n : Int) ((n : Int) + (m : Int)) rfl rfl
          have HA' := Lib.hid hA'
          have HYL : Hid ((tbRow m fun k => s4.T m (n + k)).length = m) := Lib.hid (tbRow_len _ _)
          have HYE : Hid (solY P s4 P.m = tbRow m fun k => s4.T m (n + k)) := Lib.hid (by unfold solY; rw [HPm.out, HPn.out])
          have HYB : Hid (∀ x ∈ tbRow m (fun k => s4.T m (n + k)), -1000000000 ≤ x ∧ x ≤ 1000000000) := Lib.hid (fun x hx => by rw [← HYE.out] at hx; have := solY_le HPI.out HO4.out x hx; omega)
          have HMR := Lib.hid (HM6.out.row m (by omega))
          clear hA' hcut2
          have hnb0 : ¬ w.heap.size + 1 = Lb := by omega
          have hnb1 : ¬ w.heap.size + 1 = LgR := by omega
          have hnb2 : ¬ w.heap.size + 1 = ga := by omega
          have hnb3 : ¬ w.heap.size + 1 = gb := by omega
          have hnb4 : ¬ w.heap.size + 1 = gv := by omega
          have hnb5 : ¬ w.heap.size + 1 + 1 = Lb := by omega
          have hnb6 : ¬ w.heap.size + 1 + 1 = LgR := by omega
          have hnb7 : ¬ w.heap.size + 1 + 1 = ga := by omega
          have hnb8 : ¬ w.heap.size + 1 + 1 = gb := by omega
          have hnb9 : ¬ w.heap.size + 1 + 1 = gv := by omega
          go_wp2_with fail
          refine wp_region_held_drew (S := fun W => W.cell? ⟨Lb, 0, none⟩ = some (.slice (some ⟨LgR, 0, none⟩) (m + 2) LcR) ∧ W.cell? ⟨Lb, 2, none⟩ = some (.int .i64 den) ∧ W.cell? ⟨LgR, m, none⟩ = some (.slice (some ⟨Lblk m, 0, none⟩) N N) ∧ W.cell? ⟨ga, 0, none⟩ = some (.int .i64 a) ∧ W.cell? ⟨ga, 1, none⟩ = some (.int .i64 d) ∧ W.cell? ⟨gv, 0, none⟩ = some (.slice (some ⟨gx, 0, none⟩) n n) ∧ W.cell? ⟨gv, 1, none⟩ = some (.int .i64 q) ∧ W.cell? ⟨gb, 0, none⟩ = some (.int .i64 0) ∧ W.cell? ⟨gb, 1, none⟩ = some (.int .i64 0)) (by kernel_rfl) (by exact ⟨hM60, hM62, hM6o, FF6.1.1, FF6.2.1.1, FV6.1.1, FV6.2.1, FF6.2.2.1.1, FF6.2.2.2.1⟩) (fun hHeld => ?_)
          refine wpAnyH_take (i := 0) (v := ?vo40) rfl (by kernel_rfl) (by kernel_rfl) (by kernel_rfl) (fun _ _ _ h => h) (Or.inl ⟨by rfl, ?ho40⟩) (by assumption) ?ro40
          case ho40 => (intro w hSw; (try dsimp only at hSw); go_simp; (try with_reducible rfl))
          try simp only [Act.put, List.getElem_toArray, List.getElem_cons_succ, List.getElem_cons_zero, List.setIfInBounds_toArray, List.set_cons_zero, List.set_cons_succ]
          refine wpAnyH_take (i := 1) (v := ?vo41) rfl (by kernel_rfl) (by kernel_rfl) (by kernel_rfl) (fun _ _ _ h => h) (Or.inl ⟨by rfl, ?ho41⟩) (by assumption) ?ro41
          case ho41 => (intro w hSw; (try dsimp only at hSw); go_simp; (try with_reducible rfl))
          try simp only [Act.put, List.getElem_toArray, List.getElem_cons_succ, List.getElem_cons_zero, List.setIfInBounds_toArray, List.set_cons_zero, List.set_cons_succ]
          refine wpAnyH_take (i := 2) (v := ?vo42) rfl (by kernel_rfl) (by kernel_rfl) (by kernel_rfl) (fun _ _ _ h => h) (Or.inl ⟨by rfl, ?ho42⟩) (by assumption) ?ro42
          case ho42 => (intro w hSw; (try dsimp only at hSw); go_simp; (try with_reducible rfl))
          try simp only [Act.put, List.getElem_toArray, List.getElem_cons_succ, List.getElem_cons_zero, List.setIfInBounds_toArray, List.set_cons_zero, List.set_cons_succ]
          refine wpAnyH_take (i := 3) (v := ?vo43) rfl (by kernel_rfl) (by kernel_rfl) (by kernel_rfl) (fun _ _ _ h => h) (Or.inl ⟨by rfl, ?ho43⟩) (by assumption) ?ro43
          case ho43 => (intro w hSw; (try dsimp only at hSw); go_simp; (try with_reducible rfl))
          try simp only [Act.put, List.getElem_toArray, List.getElem_cons_succ, List.getElem_cons_zero, List.setIfInBounds_toArray, List.set_cons_zero, List.set_cons_succ]
          refine wpAnyH_take (i := 4) (v := ?vo44) rfl (by kernel_rfl) (by kernel_rfl) (by kernel_rfl) (fun _ _ _ h => h) (Or.inl ⟨by rfl, ?ho44⟩) (by assumption) ?ro44
          case ho44 => (intro w hSw; (try dsimp only at hSw); go_simp; (try with_reducible rfl))
          try simp only [Act.put, List.getElem_toArray, List.getElem_cons_succ, List.getElem_cons_zero, List.setIfInBounds_toArray, List.set_cons_zero, List.set_cons_succ]
          refine wpAnyH_take (i := 5) (v := ?vo45) rfl (by kernel_rfl) (by kernel_rfl) (by kernel_rfl) (fun _ _ _ h => h) (Or.inl ⟨by rfl, ?ho45⟩) (by assumption) ?ro45
          case ho45 => (intro w hSw; (try dsimp only at hSw); go_simp; (try with_reducible rfl))
          try simp only [Act.put, List.getElem_toArray, List.getElem_cons_succ, List.getElem_cons_zero, List.setIfInBounds_toArray, List.set_cons_zero, List.set_cons_succ]
          refine wpAnyH_take (i := 6) (v := ?vo46) rfl (by kernel_rfl) (by kernel_rfl) (by kernel_rfl) (fun _ _ _ h => h) (Or.inl ⟨by rfl, ?ho46⟩) (by assumption) ?ro46
          case ho46 => (intro w hSw; (try dsimp only at hSw); go_simp; (try with_reducible rfl))
          try simp only [Act.put, List.getElem_toArray, List.getElem_cons_succ, List.getElem_cons_zero, List.setIfInBounds_toArray, List.set_cons_zero, List.set_cons_succ]
          refine wpAnyH_take (i := 7) (v := ?vo47) rfl (by kernel_rfl) (by kernel_rfl) (by kernel_rfl) (fun _ _ _ h => h) (Or.inl ⟨by rfl, ?ho47⟩) (by assumption) ?ro47
          case ho47 => (intro w hSw; (try dsimp only at hSw); go_simp; (try with_reducible rfl))
          try simp only [Act.put, List.getElem_toArray, List.getElem_cons_succ, List.getElem_cons_zero, List.setIfInBounds_toArray, List.set_cons_zero, List.set_cons_succ]
          refine wpAnyH_take (i := 8) (v := ?vo48) rfl (by kernel_rfl) (by kernel_rfl) (by kernel_rfl) (fun _ _ _ h => h) (Or.inl ⟨by rfl, ?ho48⟩) (by assumption) ?ro48
          case ho48 => (intro w hSw; (try dsimp only at hSw); go_simp; (try with_reducible rfl))
          try simp only [Act.put, List.getElem_toArray, List.getElem_cons_succ, List.getElem_cons_zero, List.setIfInBounds_toArray, List.set_cons_zero, List.set_cons_succ]
          refine wpAnyH_take (i := 9) (v := ?vo49) rfl (by kernel_rfl) (by kernel_rfl) (by kernel_rfl) (fun _ _ _ h => h) (Or.inl ⟨by rfl, ?ho49⟩) (by assumption) ?ro49
          case ho49 => (intro w hSw; (try dsimp only at hSw); go_simp; (try with_reducible rfl))
          try simp only [Act.put, List.getElem_toArray, List.getElem_cons_succ, List.getElem_cons_zero, List.setIfInBounds_toArray, List.set_cons_zero, List.set_cons_succ]
          refine wpAnyH_take (i := 10) (v := ?vo410) rfl (by kernel_rfl) (by kernel_rfl) (by kernel_rfl) (fun _ _ _ h => h) (Or.inl ⟨by rfl, ?ho410⟩) (by assumption) ?ro410
          case ho410 => (intro w hSw; (try dsimp only at hSw); go_simp; (try with_reducible rfl))
          try simp only [Act.put, List.getElem_toArray, List.getElem_cons_succ, List.getElem_cons_zero, List.setIfInBounds_toArray, List.set_cons_zero, List.set_cons_succ]
          refine wpAnyH_take (i := 11) (v := ?vo411) rfl (by kernel_rfl) (by kernel_rfl) (by kernel_rfl) (fun _ _ _ h => h) (Or.inl ⟨by rfl, ?ho411⟩) (by assumption) ?ro411
          case ho411 => (intro w hSw; (try dsimp only at hSw); go_simp; (try with_reducible rfl))
          try simp only [Act.put, List.getElem_toArray, List.getElem_cons_succ, List.getElem_cons_zero, List.setIfInBounds_toArray, List.set_cons_zero, List.set_cons_succ]
          refine wpAnyH_take (i := 12) (v := ?vo412) rfl (by kernel_rfl) (by kernel_rfl) (by kernel_rfl) (fun _ _ _ h => h) (Or.inl ⟨by rfl, ?ho412⟩) (by assumption) ?ro412
          case ho412 => (intro w hSw; (try dsimp only at hSw); go_simp; (try with_reducible rfl))
          try simp only [Act.put, List.getElem_toArray, List.getElem_cons_succ, List.getElem_cons_zero, List.setIfInBounds_toArray, List.set_cons_zero, List.set_cons_succ]
          refine wpAnyH_take (i := 13) (v := ?vo413) rfl (by kernel_rfl) (by kernel_rfl) (by kernel_rfl) (fun _ _ _ h => h) (Or.inl ⟨by rfl, ?ho413⟩) (by assumption) ?ro413
          case ho413 => (intro w hSw; (try dsimp only at hSw); go_simp; (try with_reducible rfl))
          try simp only [Act.put, List.getElem_toArray, List.getElem_cons_succ, List.getElem_cons_zero, List.setIfInBounds_toArray, List.set_cons_zero, List.set_cons_succ]
          refine wpAnyH_take (i := 14) (v := ?vo414) rfl (by kernel_rfl) (by kernel_rfl) (by kernel_rfl) (fun _ _ _ h => h) (Or.inl ⟨by rfl, ?ho414⟩) (by assumption) ?ro414
          case ho414 => (intro w hSw; (try dsimp only at hSw); go_simp; (try with_reducible rfl))
          try simp only [Act.put, List.getElem_toArray, List.getElem_cons_succ, List.getElem_cons_zero, List.setIfInBounds_toArray, List.set_cons_zero, List.set_cons_succ]
          refine wpAnyH_take (i := 15) (v := ?vo415) rfl (by kernel_rfl) (by kernel_rfl) (by kernel_rfl) (fun _ _ _ h => h) (Or.inl ⟨by rfl, ?ho415⟩) (by assumption) ?ro415
          case ho415 => (intro w hSw; (try dsimp only at hSw); go_simp; (try with_reducible rfl))
          try simp only [Act.put, List.getElem_toArray, List.getElem_cons_succ, List.getElem_cons_zero, List.setIfInBounds_toArray, List.set_cons_zero, List.set_cons_succ]
          refine wpAnyH_take (i := 16) (v := ?vo416) rfl (by kernel_rfl) (by kernel_rfl) (by kernel_rfl) (fun _ _ _ h => h) (Or.inl ⟨by rfl, ?ho416⟩) (by assumption) ?ro416
          case ho416 => (intro w hSw; (try dsimp only at hSw); go_simp; (try with_reducible rfl))
          try simp only [Act.put, List.getElem_toArray, List.getElem_cons_succ, List.getElem_cons_zero, List.setIfInBounds_toArray, List.set_cons_zero, List.set_cons_succ]
          refine wpAnyH_take (i := 17) (v := ?vo417) rfl (by kernel_rfl) (by kernel_rfl) (by kernel_rfl) (fun _ _ _ h => h) (Or.inl ⟨by rfl, ?ho417⟩) (by assumption) ?ro417
          case ho417 => (intro w hSw; (try dsimp only at hSw); go_simp; (try with_reducible rfl))
          try simp only [Act.put, List.getElem_toArray, List.getElem_cons_succ, List.getElem_cons_zero, List.setIfInBounds_toArray, List.set_cons_zero, List.set_cons_succ]
          refine wpAnyH_take (i := 20) (v := ?vo420) rfl (by kernel_rfl) (by kernel_rfl) (by kernel_rfl) (fun _ _ _ h => h) (Or.inl ⟨by rfl, ?ho420⟩) (by assumption) ?ro420
          case ho420 => (intro w hSw; (try dsimp only at hSw); go_simp; (try with_reducible rfl))
          try simp only [Act.put, List.getElem_toArray, List.getElem_cons_succ, List.getElem_cons_zero, List.setIfInBounds_toArray, List.set_cons_zero, List.set_cons_succ]
          refine wpAnyH_ready (rs := [18]) (by kernel_rfl) (by simp) ?_
          refine (AllReadyH.cons rfl (fun K hK => ?bo41x18) AllReadyH.nil)
          case bo41x18 =>
            go_simp
            go_at_call 35
            refine (vector_at _ A' (N - n) m (tbRow m fun k => s4.T m (n + k)) den HYL.out ((HA'.out _ _ HMR.out).below (by repeat (first | with_reducible exact Below.refl _ _ | with_reducible apply bdrew | with_reducible apply bdrewN | with_reducible apply balloc | ((with_reducible refine bset ?_ ?_ _); rotate_left; (first | omega | (simp <;> omega)))))) (by omega) HYB.out hden (by omega)).mono ?_
            rintro e w7 ⟨g7, q7, rfl, HQ7, hg7, HA7, hB7⟩
            have E7 := dstep w6 hB7 (by repeat (first | with_reducible exact Below.refl w6.heap.size w6 | with_reducible apply bdrew | with_reducible apply bdrewN | with_reducible apply balloc | ((with_reducible refine bset ?_ ?_ _); rotate_left; (first | omega | (simp <;> omega)))))
            have e7s := E7.size
            (try simp at hg7)
            have hl7 := HA7.out.lt
            have CV7 := Cls.below (l := [(w.heap.size, 0, .slice AR m cr), (w.heap.size, 1, .slice AB m cb), (w.heap.size, 2, .slice AO n co), (w.heap.size + 1, 0, .int .i64 0), (w.heap.size + 1, 1, .int .i64 0), (w.heap.size + 1, 2, .int .i64 0), (w.heap.size + 1, 3, .slice none 0 0), (w.heap.size + 1, 4, .int .i64 0), (w.heap.size + 1, 5, .slice none 0 0), (w.heap.size + 1, 6, .int .i64 0), (w.heap.size + 1, 7, .slice none 0 0), (w.heap.size + 1, 8, .int .i64 0), (w.heap.size + 1 + 1, 0, .int .i64 0), (w.heap.size + 1 + 1, 1, .int .i64 0), (w1.heap.size, 0, .int .i64 0), (w1.heap.size, 1, .int .i64 0)]) hB7 (by simp [Cls, go_sem, F6, y6w2, y6w1, y6w0, y6wp1, y6wp2, y6w10, y6w1p1, y6w1p2])
            have Fv7 := CV7
            simp only [Cls, and_true] at Fv7
            have yv7w2 : w.heap.size + 1 + 1 < w7.heap.size := CV7.blk (b := w.heap.size + 1 + 1) (k := 0) (v := .int .i64 0) (by simp)
            have yv7w1 : w.heap.size + 1 < w7.heap.size := (by omega)
            have yv7w0 : w.heap.size < w7.heap.size := (by omega)
            have yv7wp1 : w.heap.size < w7.heap.size + 1 := (by omega)
            have yv7wp2 : w.heap.size < w7.heap.size + 1 + 1 := (by omega)
            have yv7w10 : w1.heap.size < w7.heap.size := CV7.blk (b := w1.heap.size) (k := 0) (v := .int .i64 0) (by simp)
            have yv7w1p1 : w1.heap.size < w7.heap.size + 1 := (by omega)
            have yv7w1p2 : w1.heap.size < w7.heap.size + 1 + 1 := (by omega)
            have hSS : w7.cell? ⟨Lb, 0, none⟩ = some (.slice (some ⟨LgR, 0, none⟩) (m + 2) LcR) ∧ w7.cell? ⟨Lb, 2, none⟩ = some (.int .i64 den) ∧ w7.cell? ⟨LgR, m, none⟩ = some (.slice (some ⟨Lblk m, 0, none⟩) N N) ∧ w7.cell? ⟨ga, 0, none⟩ = some (.int .i64 a) ∧ w7.cell? ⟨ga, 1, none⟩ = some (.int .i64 d) ∧ w7.cell? ⟨gv, 0, none⟩ = some (.slice (some ⟨gx, 0, none⟩) n n) ∧ w7.cell? ⟨gv, 1, none⟩ = some (.int .i64 q) ∧ w7.cell? ⟨gb, 0, none⟩ = some (.int .i64 0) ∧ w7.cell? ⟨gb, 1, none⟩ = some (.int .i64 0) := ⟨(Below.cell (by repeat (first | with_reducible exact E7 | with_reducible apply bdrew | with_reducible apply bdrewN | with_reducible apply balloc | ((with_reducible refine bset ?_ ?_ _); rotate_left; (first | omega | (simp <;> omega))))) (World.block_lt_of_cell? _ _ hM60)).trans hM60, (Below.cell (by repeat (first | with_reducible exact E7 | with_reducible apply bdrew | with_reducible apply bdrewN | with_reducible apply balloc | ((with_reducible refine bset ?_ ?_ _); rotate_left; (first | omega | (simp <;> omega))))) (World.block_lt_of_cell? _ _ hM62)).trans hM62, (Below.cell (by repeat (first | with_reducible exact E7 | with_reducible apply bdrew | with_reducible apply bdrewN | with_reducible apply balloc | ((with_reducible refine bset ?_ ?_ _); rotate_left; (first | omega | (simp <;> omega))))) (World.block_lt_of_cell? _ _ hM6o)).trans hM6o, (Below.cell (by repeat (first | with_reducible exact E7 | with_reducible apply bdrew | with_reducible apply bdrewN | with_reducible apply balloc | ((with_reducible refine bset ?_ ?_ _); rotate_left; (first | omega | (simp <;> omega))))) (World.block_lt_of_cell? _ _ FF6.1.1)).trans FF6.1.1, (Below.cell (by repeat (first | with_reducible exact E7 | with_reducible apply bdrew | with_reducible apply bdrewN | with_reducible apply balloc | ((with_reducible refine bset ?_ ?_ _); rotate_left; (first | omega | (simp <;> omega))))) (World.block_lt_of_cell? _ _ FF6.2.1.1)).trans FF6.2.1.1, (Below.cell (by repeat (first | with_reducible exact E7 | with_reducible apply bdrew | with_reducible apply bdrewN | with_reducible apply balloc | ((with_reducible refine bset ?_ ?_ _); rotate_left; (first | omega | (simp <;> omega))))) (World.block_lt_of_cell? _ _ FV6.1.1)).trans FV6.1.1, (Below.cell (by repeat (first | with_reducible exact E7 | with_reducible apply bdrew | with_reducible apply bdrewN | with_reducible apply balloc | ((with_reducible refine bset ?_ ?_ _); rotate_left; (first | omega | (simp <;> omega))))) (World.block_lt_of_cell? _ _ FV6.2.1)).trans FV6.2.1, (Below.cell (by repeat (first | with_reducible exact E7 | with_reducible apply bdrew | with_reducible apply bdrewN | with_reducible apply balloc | ((with_reducible refine bset ?_ ?_ _); rotate_left; (first | omega | (simp <;> omega))))) (World.block_lt_of_cell? _ _ FF6.2.2.1.1)).trans FF6.2.2.1.1, (Below.cell (by repeat (first | with_reducible exact E7 | with_reducible apply bdrew | with_reducible apply bdrewN | with_reducible apply balloc | ((with_reducible refine bset ?_ ?_ _); rotate_left; (first | omega | (simp <;> omega))))) (World.block_lt_of_cell? _ _ FF6.2.2.2.1)).trans FF6.2.2.2.1⟩
            go_wp2_with fail
            refine hK.out _ _ hSS (fun hHeld => ?_)
            clear hK K
            try simp only [Act.put, List.getElem_toArray, List.getElem_cons_succ, List.getElem_cons_zero, List.setIfInBounds_toArray, List.set_cons_zero, List.set_cons_succ]
            refine wpAnyH_take (i := 19) (v := ?vo4l219) rfl (by kernel_rfl) (by kernel_rfl) (by kernel_rfl) (fun _ _ _ h => h) (Or.inl ⟨by rfl, ?ho4l219⟩) (by assumption) ?ro4l219
            case ho4l219 => (intro w hSw; (try dsimp only at hSw); go_simp; (try with_reducible rfl))
            try simp only [Act.put, List.getElem_toArray, List.getElem_cons_succ, List.getElem_cons_zero, List.setIfInBounds_toArray, List.set_cons_zero, List.set_cons_succ]
            refine wpAnyH_ready (rs := [21]) (by kernel_rfl) (by simp) ?_
            refine AllReadyH.cons rfl (fun K hK => ?_) AllReadyH.nil
            go_simp
            have hSK : w7.cell? ⟨Lb, 0, none⟩ = some (.slice (some ⟨LgR, 0, none⟩) (m + 2) LcR) ∧ w7.cell? ⟨Lb, 2, none⟩ = some (.int .i64 den) ∧ w7.cell? ⟨LgR, m, none⟩ = some (.slice (some ⟨Lblk m, 0, none⟩) N N) ∧ w7.cell? ⟨ga, 0, none⟩ = some (.int .i64 a) ∧ w7.cell? ⟨ga, 1, none⟩ = some (.int .i64 d) ∧ w7.cell? ⟨gv, 0, none⟩ = some (.slice (some ⟨gx, 0, none⟩) n n) ∧ w7.cell? ⟨gv, 1, none⟩ = some (.int .i64 q) ∧ w7.cell? ⟨gb, 0, none⟩ = some (.int .i64 0) ∧ w7.cell? ⟨gb, 1, none⟩ = some (.int .i64 0) := ⟨(Below.cell (by repeat (first | with_reducible exact E7 | with_reducible apply bdrew | with_reducible apply bdrewN | with_reducible apply balloc | ((with_reducible refine bset ?_ ?_ _); rotate_left; (first | omega | (simp <;> omega))))) (World.block_lt_of_cell? _ _ hM60)).trans hM60, (Below.cell (by repeat (first | with_reducible exact E7 | with_reducible apply bdrew | with_reducible apply bdrewN | with_reducible apply balloc | ((with_reducible refine bset ?_ ?_ _); rotate_left; (first | omega | (simp <;> omega))))) (World.block_lt_of_cell? _ _ hM62)).trans hM62, (Below.cell (by repeat (first | with_reducible exact E7 | with_reducible apply bdrew | with_reducible apply bdrewN | with_reducible apply balloc | ((with_reducible refine bset ?_ ?_ _); rotate_left; (first | omega | (simp <;> omega))))) (World.block_lt_of_cell? _ _ hM6o)).trans hM6o, (Below.cell (by repeat (first | with_reducible exact E7 | with_reducible apply bdrew | with_reducible apply bdrewN | with_reducible apply balloc | ((with_reducible refine bset ?_ ?_ _); rotate_left; (first | omega | (simp <;> omega))))) (World.block_lt_of_cell? _ _ FF6.1.1)).trans FF6.1.1, (Below.cell (by repeat (first | with_reducible exact E7 | with_reducible apply bdrew | with_reducible apply bdrewN | with_reducible apply balloc | ((with_reducible refine bset ?_ ?_ _); rotate_left; (first | omega | (simp <;> omega))))) (World.block_lt_of_cell? _ _ FF6.2.1.1)).trans FF6.2.1.1, (Below.cell (by repeat (first | with_reducible exact E7 | with_reducible apply bdrew | with_reducible apply bdrewN | with_reducible apply balloc | ((with_reducible refine bset ?_ ?_ _); rotate_left; (first | omega | (simp <;> omega))))) (World.block_lt_of_cell? _ _ FV6.1.1)).trans FV6.1.1, (Below.cell (by repeat (first | with_reducible exact E7 | with_reducible apply bdrew | with_reducible apply bdrewN | with_reducible apply balloc | ((with_reducible refine bset ?_ ?_ _); rotate_left; (first | omega | (simp <;> omega))))) (World.block_lt_of_cell? _ _ FV6.2.1)).trans FV6.2.1, (Below.cell (by repeat (first | with_reducible exact E7 | with_reducible apply bdrew | with_reducible apply bdrewN | with_reducible apply balloc | ((with_reducible refine bset ?_ ?_ _); rotate_left; (first | omega | (simp <;> omega))))) (World.block_lt_of_cell? _ _ FF6.2.2.1.1)).trans FF6.2.2.1.1, (Below.cell (by repeat (first | with_reducible exact E7 | with_reducible apply bdrew | with_reducible apply bdrewN | with_reducible apply balloc | ((with_reducible refine bset ?_ ?_ _); rotate_left; (first | omega | (simp <;> omega))))) (World.block_lt_of_cell? _ _ FF6.2.2.2.1)).trans FF6.2.2.2.1⟩
            obtain ⟨hk0, hk1, hk2, hk3, hk4, hk5, hk6, hk7, hk8⟩ := hSK
            go_wp2_with fail
            refine hK.out _ _ (by simp [go_sem, hnb0, hnb1, hnb2, hnb3, hnb4, hnb5, hnb6, hnb7, hnb8, hnb9, hk0, hk1, hk2, hk3, hk4, hk5, hk6, hk7, hk8, Fv7, yv7w2, yv7w1, yv7w0, yv7wp1, yv7wp2, yv7w10, yv7w1p1, yv7w1p2]) (fun hHeld => ?_)
            clear hK K
            try simp only [Act.put, List.getElem_toArray, List.getElem_cons_succ, List.getElem_cons_zero, List.setIfInBounds_toArray, List.set_cons_zero, List.set_cons_succ]
            refine wpAnyH_ready (rs := [22]) (by kernel_rfl) (by simp) ?_
            refine AllReadyH.cons rfl (fun K hK => ?_) AllReadyH.nil
            go_simp
            go_wp2_with fail
            refine hK.out _ _ (by simp [go_sem, hnb0, hnb1, hnb2, hnb3, hnb4, hnb5, hnb6, hnb7, hnb8, hnb9, hk0, hk1, hk2, hk3, hk4, hk5, hk6, hk7, hk8, Fv7, yv7w2, yv7w1, yv7w0, yv7wp1, yv7wp2, yv7w10, yv7w1p1, yv7w1p2]) (fun hHeld => ?_)
            clear hK K
            try simp only [Act.put, List.getElem_toArray, List.getElem_cons_succ, List.getElem_cons_zero, List.setIfInBounds_toArray, List.set_cons_zero, List.set_cons_succ]
            refine wpAnyH_done (by kernel_rfl) ?_ _
            go_wp2
            refine bodyPost_ret (v := .tuple #[.agg #[.int .i64 1, .int .i64 a, .int .i64 d, .slice (some ⟨gx, 0, none⟩) n n, .int .i64 q, .slice (some ⟨g7, 0, none⟩) m m, .int .i64 q7, .slice none 0 0, .int .i64 0], .agg #[.int .i64 0, .int .i64 0]]) ?_ rfl (solved_mk 1 a d q q7 0 (some ⟨gx, 0, none⟩) (some ⟨g7, 0, none⟩) none (vdiv den (solX P s4)) (vdiv den (solY P s4 P.m)) [] n m 0 ?_ ?_ rfl ?_ ?_ (Ints.nil _ _) ?_ (by repeat (first | with_reducible exact (D6.trans (E7.mono d6s)) | with_reducible apply bdrew | with_reducible apply bdrewN | with_reducible apply balloc | ((with_reducible refine bset ?_ ?_ _); rotate_left; (first | omega | (simp <;> omega))))))
            · simp [results, Try.results11, go_sem, Fv7, yv7w2, yv7w1, yv7w0, yv7wp1, yv7wp2, yv7w10, yv7w1p1, yv7w1p2]
            · rw [vdiv_len, HXE.out, HXL.out]
            · rw [vdiv_len, HYE.out, HYL.out]
            · refine IArr.ints ?_
              have hx := HX6.out.below E7
              repeat (first | with_reducible exact hx | (with_reducible refine IArr.far ?_ ?_ _; rotate_left; (first | omega | (simp <;> omega))))
            · rw [HYE.out]
              refine IArr.ints ?_
              repeat (first | with_reducible exact HA7.out | (with_reducible refine IArr.far ?_ ?_ _; rotate_left; (first | omega | (simp <;> omega))))
            · rw [HAD.out.1, HAD.out.2, HQ.out, HQ7.out, ← HYE.out, ← HVE.out, ← hde.out]
              exact HSO.out.2.2
      · subst hb'
        have HEN := Lib.hid hent
        have HLE := Lib.hid hle
        have hcl : c < n + m := by have h := HEN.out.1; rw [HPm.out, HPn.out] at h; exact h
        have hcN : c < N := by omega
        have HTC : Hid (∀ i, i < m → -1000000000 ≤ s4.T i c ∧ s4.T i c ≤ 1000000000) := Lib.hid (fun i hi => by
          have h := HO4.out.le_col HPI.out (i := i) (j := c) (by rw [HPm.out]; exact hi) (by rw [HPm.out, HPn.out]; omega)
          omega)
        have hc0 : (0 : Int) ≤ (c : Int) := by omega
        have hc1 : decide ((c : Int) ≥ 0) = true := decide_eq_true (by omega)
        clear hent hle
        go_wp2_with fail
        refine (point_at _ base ⟨Lb, LgR, LcR, Lblk, LAB, LcB⟩ m N n s4.bs s4.T den c _ rfl (-1) (HM5.out.below (by repeat (first | with_reducible exact Below.refl _ _ | with_reducible apply bdrew | with_reducible apply bdrewN | with_reducible apply balloc | ((with_reducible refine bset ?_ ?_ _); rotate_left; (first | omega | (simp <;> omega)))))) hcN (.inr rfl) HTC.out HIJ.out hm6 (by omega)).mono ?_
        rintro e w6 ⟨g6, rfl, hg6, hA6, hB6⟩
        (try simp at hg6)
        have hB6 := (by repeat (first | with_reducible exact Below.refl _ _ | with_reducible apply bdrew | with_reducible apply bdrewN | with_reducible apply balloc | ((with_reducible refine bset ?_ ?_ _); rotate_left; (first | omega | (simp <;> omega)))) : Below w5.heap.size w5 _).trans (hB6.mono (by (try simp)))
        have HR6 := Lib.hid hA6
        have hl6 := hA6.lt
        have D6 := D5.trans (hB6.mono d5s)
        have d6s := D6.size
        have e6s := hB6.size
        have C6 := Cls.below (w := w5) hB6 C5
        have F6 := C6
        simp only [Cls, and_true] at F6
        have y6w2 : w.heap.size + 1 + 1 < w6.heap.size := C6.blk (b := w.heap.size + 1 + 1) (k := 0) (v := .int .i64 0) (by simp)
        have y6w1 : w.heap.size + 1 < w6.heap.size := (by omega)
        have y6w0 : w.heap.size < w6.heap.size := (by omega)
        have y6wp1 : w.heap.size < w6.heap.size + 1 := (by omega)
        have y6wp2 : w.heap.size < w6.heap.size + 1 + 1 := (by omega)
        have y6w10 : w1.heap.size < w6.heap.size := C6.blk (b := w1.heap.size) (k := 0) (v := .int .i64 0) (by simp)
        have y6w1p1 : w1.heap.size < w6.heap.size + 1 := (by omega)
        have y6w1p2 : w1.heap.size < w6.heap.size + 1 + 1 := (by omega)
        have HM6 := Lib.hid (HM5.out.below hB6)
        have hM60 := HM6.out.box0
        have hM62 := HM6.out.box2
        dsimp only at hM60 hM62
        have CV6 := Cls.below (w := w5) hB6 CV5
        have HX6 := Lib.hid (HX5.out.below hB6)
        have FV6 := CV6
        simp only [Cls, and_true] at FV6
        have HRE : Hid (solR P s4 c = tbRow n fun j => if j = c then den else -1 * ptTo s4.bs s4.T c m j) := Lib.hid (by unfold solR; rw [HPm.out, HPn.out, hde.out])
        have HRL : Hid ((tbRow n fun j => if j = c then den else -1 * ptTo s4.bs s4.T c m j).length = n) := Lib.hid (tbRow_len _ _)
        have HRB : Hid (∀ x ∈ tbRow n (fun j => if j = c then den else -1 * ptTo s4.bs s4.T c m j), -1000000000 ≤ x ∧ x ≤ 1000000000) := Lib.hid (fun x hx => by rw [← HRE.out] at hx; have := solR_le HPI.out HO4.out (c := c) (by rw [HPm.out, HPn.out]; omega) x hx; omega)
        have HSO : Hid (SolOut P 3 0 0 (vdiv s4.den (solX P s4)) (s4.den.tdiv (vgcd s4.den (solX P s4))) [] 0 (vdiv s4.den (solR P s4 c)) (s4.den.tdiv (vgcd s4.den (solR P s4 c)))) := Lib.hid (sol_inf HPI.out HO4.out HN4.out HEN.out.1 HEN.out.2.1 HLE.out)
        clear hA6
        have hnc0 : ¬ w.heap.size + 1 = Lb := by omega
        have hnc1 : ¬ w.heap.size + 1 = gv := by omega
        have hnc2 : ¬ w.heap.size + 1 + 1 = Lb := by omega
        have hnc3 : ¬ w.heap.size + 1 + 1 = gv := by omega
        by_cases hcn : c < n
        · have hcd : decide ((c : Int) < (n : Int)) = true := decide_eq_true (by omega)
          obtain ⟨z, _, hzc, hzf⟩ := HR6.out.cell (i := c) (by rw [tbRow_len]; exact hcn)
          have hB7 : Below w5.heap.size w5 (w6.setCell ⟨g6, c, none⟩ (.int .i64 den)) := by repeat (first | with_reducible exact hB6 | with_reducible apply bdrew | with_reducible apply bdrewN | with_reducible apply balloc | ((with_reducible refine bset ?_ ?_ _); rotate_left; (first | omega | (simp <;> omega))))
          have hC7 : Cls (w6.setCell ⟨g6, c, none⟩ (.int .i64 den)) [(w.heap.size, 0, .slice AR m cr), (w.heap.size, 1, .slice AB m cb), (w.heap.size, 2, .slice AO n co), (w.heap.size + 1, 0, .int .i64 0), (w.heap.size + 1, 1, .int .i64 0), (w.heap.size + 1, 2, .int .i64 0), (w.heap.size + 1, 3, .slice none 0 0), (w.heap.size + 1, 4, .int .i64 0), (w.heap.size + 1, 5, .slice none 0 0), (w.heap.size + 1, 6, .int .i64 0), (w.heap.size + 1, 7, .slice none 0 0), (w.heap.size + 1, 8, .int .i64 0), (w.heap.size + 1 + 1, 0, .int .i64 0), (w.heap.size + 1 + 1, 1, .int .i64 0), (w1.heap.size, 0, .int .i64 0), (w1.heap.size, 1, .int .i64 0)] := Cls.below (w := w5) hB7 C5
          have hV7 : Cls (w6.setCell ⟨g6, c, none⟩ (.int .i64 den)) [(gv, 0, .slice (some ⟨gx, 0, none⟩) n n), (gv, 1, .int .i64 q)] := Cls.below (w := w5) hB7 CV5
          have HX7 : Hid (IArr (w6.setCell ⟨g6, c, none⟩ (.int .i64 den)) gx (vdiv den (solX P s4))) := Lib.hid (HX5.out.below hB7)
          have HR7' : Hid (IArr (w6.setCell ⟨g6, c, none⟩ (.int .i64 den)) g6 (tbRow n fun j => if j = c then den else -1 * ptTo s4.bs s4.T c m j)) := Lib.hid (by
            have h := HR6.out.set_ c den
            rw [tbRow_set] at h
            exact h)
          go_wp2_with fail
          go_upto_region 14 with fail
          obtain ⟨w7, hw7⟩ : ∃ x, x = (w6.setCell ⟨g6, c, none⟩ (.int .i64 den)) := ⟨_, rfl⟩
          rw [← hw7] at hB7 hC7 hV7 HX7 HR7' ⊢
          clear hw7 hzc hzf
          have D7 := D5.trans (hB7.mono d5s)
          have d7s := D7.size
          have C7 := hC7
          have FV7 := hV7
          simp only [Cls, and_true] at FV7
          have hM72 := (HM5.out.below hB7).box2
          dsimp only at hM72
          have F7 := C7
          simp only [Cls, and_true] at F7
          have y7w2 : w.heap.size + 1 + 1 < w7.heap.size := C7.blk (b := w.heap.size + 1 + 1) (k := 0) (v := .int .i64 0) (by simp)
          have y7w1 : w.heap.size + 1 < w7.heap.size := (by omega)
          have y7w0 : w.heap.size < w7.heap.size := (by omega)
          have y7wp1 : w.heap.size < w7.heap.size + 1 := (by omega)
          have y7wp2 : w.heap.size < w7.heap.size + 1 + 1 := (by omega)
          have y7w10 : w1.heap.size < w7.heap.size := C7.blk (b := w1.heap.size) (k := 0) (v := .int .i64 0) (by simp)
          have y7w1p1 : w1.heap.size < w7.heap.size + 1 := (by omega)
          have y7w1p2 : w1.heap.size < w7.heap.size + 1 + 1 := (by omega)
          refine wp_region_held_drew (S := fun W => W.cell? ⟨Lb, 2, none⟩ = some (.int .i64 den) ∧ W.cell? ⟨gv, 0, none⟩ = some (.slice (some ⟨gx, 0, none⟩) n n) ∧ W.cell? ⟨gv, 1, none⟩ = some (.int .i64 q)) (by kernel_rfl) (by exact ⟨hM72, FV7.1.1, FV7.2.1⟩) (fun hHeld => ?_)
          refine wpAnyH_take (i := 0) (v := ?vo50) rfl (by kernel_rfl) (by kernel_rfl) (by kernel_rfl) (fun _ _ _ h => h) (Or.inl ⟨by rfl, ?ho50⟩) (by assumption) ?ro50
          case ho50 => (intro w hSw; (try dsimp only at hSw); go_simp; (try with_reducible rfl))
          try simp only [Act.put, List.getElem_toArray, List.getElem_cons_succ, List.getElem_cons_zero, List.setIfInBounds_toArray, List.set_cons_zero, List.set_cons_succ]
          refine wpAnyH_take (i := 1) (v := ?vo51) rfl (by kernel_rfl) (by kernel_rfl) (by kernel_rfl) (fun _ _ _ h => h) (Or.inl ⟨by rfl, ?ho51⟩) (by assumption) ?ro51
          case ho51 => (intro w hSw; (try dsimp only at hSw); go_simp; (try with_reducible rfl))
          try simp only [Act.put, List.getElem_toArray, List.getElem_cons_succ, List.getElem_cons_zero, List.setIfInBounds_toArray, List.set_cons_zero, List.set_cons_succ]
          refine wpAnyH_take (i := 2) (v := ?vo52) rfl (by kernel_rfl) (by kernel_rfl) (by kernel_rfl) (fun _ _ _ h => h) (Or.inl ⟨by rfl, ?ho52⟩) (by assumption) ?ro52
          case ho52 => (intro w hSw; (try dsimp only at hSw); go_simp; (try with_reducible rfl))
          try simp only [Act.put, List.getElem_toArray, List.getElem_cons_succ, List.getElem_cons_zero, List.setIfInBounds_toArray, List.set_cons_zero, List.set_cons_succ]
          refine wpAnyH_take (i := 3) (v := ?vo53) rfl (by kernel_rfl) (by kernel_rfl) (by kernel_rfl) (fun _ _ _ h => h) (Or.inl ⟨by rfl, ?ho53⟩) (by assumption) ?ro53
          case ho53 => (intro w hSw; (try dsimp only at hSw); go_simp; (try with_reducible rfl))
          try simp only [Act.put, List.getElem_toArray, List.getElem_cons_succ, List.getElem_cons_zero, List.setIfInBounds_toArray, List.set_cons_zero, List.set_cons_succ]
          refine wpAnyH_take (i := 4) (v := ?vo54) rfl (by kernel_rfl) (by kernel_rfl) (by kernel_rfl) (fun _ _ _ h => h) (Or.inl ⟨by rfl, ?ho54⟩) (by assumption) ?ro54
          case ho54 => (intro w hSw; (try dsimp only at hSw); go_simp; (try with_reducible rfl))
          try simp only [Act.put, List.getElem_toArray, List.getElem_cons_succ, List.getElem_cons_zero, List.setIfInBounds_toArray, List.set_cons_zero, List.set_cons_succ]
          refine wpAnyH_take (i := 5) (v := ?vo55) rfl (by kernel_rfl) (by kernel_rfl) (by kernel_rfl) (fun _ _ _ h => h) (Or.inl ⟨by rfl, ?ho55⟩) (by assumption) ?ro55
          case ho55 => (intro w hSw; (try dsimp only at hSw); go_simp; (try with_reducible rfl))
          try simp only [Act.put, List.getElem_toArray, List.getElem_cons_succ, List.getElem_cons_zero, List.setIfInBounds_toArray, List.set_cons_zero, List.set_cons_succ]
          refine wpAnyH_take (i := 8) (v := ?vo58) rfl (by kernel_rfl) (by kernel_rfl) (by kernel_rfl) (fun _ _ _ h => h) (Or.inl ⟨by rfl, ?ho58⟩) (by assumption) ?ro58
          case ho58 => (intro w hSw; (try dsimp only at hSw); go_simp; (try with_reducible rfl))
          try simp only [Act.put, List.getElem_toArray, List.getElem_cons_succ, List.getElem_cons_zero, List.setIfInBounds_toArray, List.set_cons_zero, List.set_cons_succ]
          refine wpAnyH_ready (rs := [6]) (by kernel_rfl) (by simp) ?_
          refine (AllReadyH.cons rfl (fun K hK => ?bo51x6) AllReadyH.nil)
          case bo51x6 =>
            go_simp
            go_at_call 35
            refine (vector_at _ (some ⟨g6, 0, none⟩) n n (tbRow n fun j => if j = c then den else -1 * ptTo s4.bs s4.T c m j) den HRL.out ((HR7'.out.ints).below (by repeat (first | with_reducible exact Below.refl _ _ | with_reducible apply bdrew | with_reducible apply bdrewN | with_reducible apply balloc | ((with_reducible refine bset ?_ ?_ _); rotate_left; (first | omega | (simp <;> omega)))))) (by omega) HRB.out hden (by omega)).mono ?_
            rintro e w8 ⟨g8, q8, rfl, HQ8, hg8, HA8, hB8⟩
            have E8 := dstep w7 hB8 (by repeat (first | with_reducible exact Below.refl w7.heap.size w7 | with_reducible apply bdrew | with_reducible apply bdrewN | with_reducible apply balloc | ((with_reducible refine bset ?_ ?_ _); rotate_left; (first | omega | (simp <;> omega)))))
            have e8s := E8.size
            (try simp at hg8)
            have hl8 := HA8.out.lt
            have CV8 := Cls.below (l := [(w.heap.size, 0, .slice AR m cr), (w.heap.size, 1, .slice AB m cb), (w.heap.size, 2, .slice AO n co), (w.heap.size + 1, 0, .int .i64 0), (w.heap.size + 1, 1, .int .i64 0), (w.heap.size + 1, 2, .int .i64 0), (w.heap.size + 1, 3, .slice none 0 0), (w.heap.size + 1, 4, .int .i64 0), (w.heap.size + 1, 5, .slice none 0 0), (w.heap.size + 1, 6, .int .i64 0), (w.heap.size + 1, 7, .slice none 0 0), (w.heap.size + 1, 8, .int .i64 0), (w.heap.size + 1 + 1, 0, .int .i64 0), (w.heap.size + 1 + 1, 1, .int .i64 0), (w1.heap.size, 0, .int .i64 0), (w1.heap.size, 1, .int .i64 0)]) hB8 (by simp [Cls, go_sem, F7, y7w2, y7w1, y7w0, y7wp1, y7wp2, y7w10, y7w1p1, y7w1p2])
            have Fv8 := CV8
            simp only [Cls, and_true] at Fv8
            have yv8w2 : w.heap.size + 1 + 1 < w8.heap.size := CV8.blk (b := w.heap.size + 1 + 1) (k := 0) (v := .int .i64 0) (by simp)
            have yv8w1 : w.heap.size + 1 < w8.heap.size := (by omega)
            have yv8w0 : w.heap.size < w8.heap.size := (by omega)
            have yv8wp1 : w.heap.size < w8.heap.size + 1 := (by omega)
            have yv8wp2 : w.heap.size < w8.heap.size + 1 + 1 := (by omega)
            have yv8w10 : w1.heap.size < w8.heap.size := CV8.blk (b := w1.heap.size) (k := 0) (v := .int .i64 0) (by simp)
            have yv8w1p1 : w1.heap.size < w8.heap.size + 1 := (by omega)
            have yv8w1p2 : w1.heap.size < w8.heap.size + 1 + 1 := (by omega)
            have hSS : w8.cell? ⟨Lb, 2, none⟩ = some (.int .i64 den) ∧ w8.cell? ⟨gv, 0, none⟩ = some (.slice (some ⟨gx, 0, none⟩) n n) ∧ w8.cell? ⟨gv, 1, none⟩ = some (.int .i64 q) := ⟨(Below.cell (by repeat (first | with_reducible exact E8 | with_reducible apply bdrew | with_reducible apply bdrewN | with_reducible apply balloc | ((with_reducible refine bset ?_ ?_ _); rotate_left; (first | omega | (simp <;> omega))))) (World.block_lt_of_cell? _ _ hM72)).trans hM72, (Below.cell (by repeat (first | with_reducible exact E8 | with_reducible apply bdrew | with_reducible apply bdrewN | with_reducible apply balloc | ((with_reducible refine bset ?_ ?_ _); rotate_left; (first | omega | (simp <;> omega))))) (World.block_lt_of_cell? _ _ FV7.1.1)).trans FV7.1.1, (Below.cell (by repeat (first | with_reducible exact E8 | with_reducible apply bdrew | with_reducible apply bdrewN | with_reducible apply balloc | ((with_reducible refine bset ?_ ?_ _); rotate_left; (first | omega | (simp <;> omega))))) (World.block_lt_of_cell? _ _ FV7.2.1)).trans FV7.2.1⟩
            go_wp2_with fail
            refine hK.out _ _ hSS (fun hHeld => ?_)
            clear hK K
            try simp only [Act.put, List.getElem_toArray, List.getElem_cons_succ, List.getElem_cons_zero, List.setIfInBounds_toArray, List.set_cons_zero, List.set_cons_succ]
            refine wpAnyH_take (i := 7) (v := ?vo5l27) rfl (by kernel_rfl) (by kernel_rfl) (by kernel_rfl) (fun _ _ _ h => h) (Or.inl ⟨by rfl, ?ho5l27⟩) (by assumption) ?ro5l27
            case ho5l27 => (intro w hSw; (try dsimp only at hSw); go_simp; (try with_reducible rfl))
            try simp only [Act.put, List.getElem_toArray, List.getElem_cons_succ, List.getElem_cons_zero, List.setIfInBounds_toArray, List.set_cons_zero, List.set_cons_succ]
            refine wpAnyH_ready (rs := [9]) (by kernel_rfl) (by simp) ?_
            refine AllReadyH.cons rfl (fun K hK => ?_) AllReadyH.nil
            go_simp
            have hSK : w8.cell? ⟨Lb, 2, none⟩ = some (.int .i64 den) ∧ w8.cell? ⟨gv, 0, none⟩ = some (.slice (some ⟨gx, 0, none⟩) n n) ∧ w8.cell? ⟨gv, 1, none⟩ = some (.int .i64 q) := ⟨(Below.cell (by repeat (first | with_reducible exact E8 | with_reducible apply bdrew | with_reducible apply bdrewN | with_reducible apply balloc | ((with_reducible refine bset ?_ ?_ _); rotate_left; (first | omega | (simp <;> omega))))) (World.block_lt_of_cell? _ _ hM72)).trans hM72, (Below.cell (by repeat (first | with_reducible exact E8 | with_reducible apply bdrew | with_reducible apply bdrewN | with_reducible apply balloc | ((with_reducible refine bset ?_ ?_ _); rotate_left; (first | omega | (simp <;> omega))))) (World.block_lt_of_cell? _ _ FV7.1.1)).trans FV7.1.1, (Below.cell (by repeat (first | with_reducible exact E8 | with_reducible apply bdrew | with_reducible apply bdrewN | with_reducible apply balloc | ((with_reducible refine bset ?_ ?_ _); rotate_left; (first | omega | (simp <;> omega))))) (World.block_lt_of_cell? _ _ FV7.2.1)).trans FV7.2.1⟩
            obtain ⟨hk0, hk1, hk2⟩ := hSK
            go_wp2_with fail
            refine hK.out _ _ (by simp [go_sem, hnc0, hnc1, hnc2, hnc3, hk0, hk1, hk2, Fv8, yv8w2, yv8w1, yv8w0, yv8wp1, yv8wp2, yv8w10, yv8w1p1, yv8w1p2]) (fun hHeld => ?_)
            clear hK K
            try simp only [Act.put, List.getElem_toArray, List.getElem_cons_succ, List.getElem_cons_zero, List.setIfInBounds_toArray, List.set_cons_zero, List.set_cons_succ]
            refine wpAnyH_ready (rs := [10]) (by kernel_rfl) (by simp) ?_
            refine AllReadyH.cons rfl (fun K hK => ?_) AllReadyH.nil
            go_simp
            go_wp2_with fail
            refine hK.out _ _ (by simp [go_sem, hnc0, hnc1, hnc2, hnc3, hk0, hk1, hk2, Fv8, yv8w2, yv8w1, yv8w0, yv8wp1, yv8wp2, yv8w10, yv8w1p1, yv8w1p2]) (fun hHeld => ?_)
            clear hK K
            try simp only [Act.put, List.getElem_toArray, List.getElem_cons_succ, List.getElem_cons_zero, List.setIfInBounds_toArray, List.set_cons_zero, List.set_cons_succ]
            refine wpAnyH_done (by kernel_rfl) ?_ _
            go_wp2
            refine bodyPost_ret (v := .tuple #[.agg #[.int .i64 3, .int .i64 0, .int .i64 0, .slice (some ⟨gx, 0, none⟩) n n, .int .i64 q, .slice none 0 0, .int .i64 0, .slice (some ⟨g8, 0, none⟩) n n, .int .i64 q8], .agg #[.int .i64 0, .int .i64 0]]) ?_ rfl (solved_mk 3 0 0 q 0 q8 (some ⟨gx, 0, none⟩) none (some ⟨g8, 0, none⟩) (vdiv den (solX P s4)) [] (vdiv den (solR P s4 c)) n 0 n ?_ rfl ?_ ?_ (Ints.nil _ _) ?_ ?_ (by repeat (first | with_reducible exact (D7.trans (E8.mono d7s)) | with_reducible apply bdrew | with_reducible apply bdrewN | with_reducible apply balloc | ((with_reducible refine bset ?_ ?_ _); rotate_left; (first | omega | (simp <;> omega))))))
            · simp [results, Try.results11, go_sem, Fv8, yv8w2, yv8w1, yv8w0, yv8wp1, yv8wp2, yv8w10, yv8w1p1, yv8w1p2]
            · rw [vdiv_len, HXE.out, HXL.out]
            · rw [vdiv_len, HRE.out, HRL.out]
            · refine IArr.ints ?_
              have hx := HX7.out.below E8
              repeat (first | with_reducible exact hx | (with_reducible refine IArr.far ?_ ?_ _; rotate_left; (first | omega | (simp <;> omega))))
            · rw [HRE.out]
              refine IArr.ints ?_
              repeat (first | with_reducible exact HA8.out | (with_reducible refine IArr.far ?_ ?_ _; rotate_left; (first | omega | (simp <;> omega))))
            · rw [HQ.out, HQ8.out, ← HRE.out, ← hde.out]
              exact HSO.out
        · have hcd : decide ((c : Int) < (n : Int)) = false := decide_eq_false (by omega)
          have HR6' : Hid (IArr w6 g6 (tbRow n fun j => if j = c then den else -1 * ptTo s4.bs s4.T c m j)) := Lib.hid (by
            rw [tbRow_congr (g := fun j => -1 * ptTo s4.bs s4.T c m j) fun j hj => if_neg (by omega)]
            exact HR6.out)
          go_wp2_with fail
          refine wp_region_held_drew (S := fun W => W.cell? ⟨Lb, 2, none⟩ = some (.int .i64 den) ∧ W.cell? ⟨gv, 0, none⟩ = some (.slice (some ⟨gx, 0, none⟩) n n) ∧ W.cell? ⟨gv, 1, none⟩ = some (.int .i64 q)) (by kernel_rfl) (by exact ⟨hM62, FV6.1.1, FV6.2.1⟩) (fun hHeld => ?_)
          refine wpAnyH_take (i := 0) (v := ?vo60) rfl (by kernel_rfl) (by kernel_rfl) (by kernel_rfl) (fun _ _ _ h => h) (Or.inl ⟨by rfl, ?ho60⟩) (by assumption) ?ro60
          case ho60 => (intro w hSw; (try dsimp only at hSw); go_simp; (try with_reducible rfl))
          try simp only [Act.put, List.getElem_toArray, List.getElem_cons_succ, List.getElem_cons_zero, List.setIfInBounds_toArray, List.set_cons_zero, List.set_cons_succ]
          refine wpAnyH_take (i := 1) (v := ?vo61) rfl (by kernel_rfl) (by kernel_rfl) (by kernel_rfl) (fun _ _ _ h => h) (Or.inl ⟨by rfl, ?ho61⟩) (by assumption) ?ro61
          case ho61 => (intro w hSw; (try dsimp only at hSw); go_simp; (try with_reducible rfl))
          try simp only [Act.put, List.getElem_toArray, List.getElem_cons_succ, List.getElem_cons_zero, List.setIfInBounds_toArray, List.set_cons_zero, List.set_cons_succ]
          refine wpAnyH_take (i := 2) (v := ?vo62) rfl (by kernel_rfl) (by kernel_rfl) (by kernel_rfl) (fun _ _ _ h => h) (Or.inl ⟨by rfl, ?ho62⟩) (by assumption) ?ro62
          case ho62 => (intro w hSw; (try dsimp only at hSw); go_simp; (try with_reducible rfl))
          try simp only [Act.put, List.getElem_toArray, List.getElem_cons_succ, List.getElem_cons_zero, List.setIfInBounds_toArray, List.set_cons_zero, List.set_cons_succ]
          refine wpAnyH_take (i := 3) (v := ?vo63) rfl (by kernel_rfl) (by kernel_rfl) (by kernel_rfl) (fun _ _ _ h => h) (Or.inl ⟨by rfl, ?ho63⟩) (by assumption) ?ro63
          case ho63 => (intro w hSw; (try dsimp only at hSw); go_simp; (try with_reducible rfl))
          try simp only [Act.put, List.getElem_toArray, List.getElem_cons_succ, List.getElem_cons_zero, List.setIfInBounds_toArray, List.set_cons_zero, List.set_cons_succ]
          refine wpAnyH_take (i := 4) (v := ?vo64) rfl (by kernel_rfl) (by kernel_rfl) (by kernel_rfl) (fun _ _ _ h => h) (Or.inl ⟨by rfl, ?ho64⟩) (by assumption) ?ro64
          case ho64 => (intro w hSw; (try dsimp only at hSw); go_simp; (try with_reducible rfl))
          try simp only [Act.put, List.getElem_toArray, List.getElem_cons_succ, List.getElem_cons_zero, List.setIfInBounds_toArray, List.set_cons_zero, List.set_cons_succ]
          refine wpAnyH_take (i := 5) (v := ?vo65) rfl (by kernel_rfl) (by kernel_rfl) (by kernel_rfl) (fun _ _ _ h => h) (Or.inl ⟨by rfl, ?ho65⟩) (by assumption) ?ro65
          case ho65 => (intro w hSw; (try dsimp only at hSw); go_simp; (try with_reducible rfl))
          try simp only [Act.put, List.getElem_toArray, List.getElem_cons_succ, List.getElem_cons_zero, List.setIfInBounds_toArray, List.set_cons_zero, List.set_cons_succ]
          refine wpAnyH_take (i := 8) (v := ?vo68) rfl (by kernel_rfl) (by kernel_rfl) (by kernel_rfl) (fun _ _ _ h => h) (Or.inl ⟨by rfl, ?ho68⟩) (by assumption) ?ro68
          case ho68 => (intro w hSw; (try dsimp only at hSw); go_simp; (try with_reducible rfl))
          try simp only [Act.put, List.getElem_toArray, List.getElem_cons_succ, List.getElem_cons_zero, List.setIfInBounds_toArray, List.set_cons_zero, List.set_cons_succ]
          refine wpAnyH_ready (rs := [6]) (by kernel_rfl) (by simp) ?_
          refine (AllReadyH.cons rfl (fun K hK => ?bo61x6) AllReadyH.nil)
          case bo61x6 =>
            go_simp
            go_at_call 35
            refine (vector_at _ (some ⟨g6, 0, none⟩) n n (tbRow n fun j => if j = c then den else -1 * ptTo s4.bs s4.T c m j) den HRL.out ((HR6'.out.ints).below (by repeat (first | with_reducible exact Below.refl _ _ | with_reducible apply bdrew | with_reducible apply bdrewN | with_reducible apply balloc | ((with_reducible refine bset ?_ ?_ _); rotate_left; (first | omega | (simp <;> omega)))))) (by omega) HRB.out hden (by omega)).mono ?_
            rintro e w7 ⟨g7, q7, rfl, HQ7, hg7, HA7, hB7⟩
            have E7 := dstep w6 hB7 (by repeat (first | with_reducible exact Below.refl w6.heap.size w6 | with_reducible apply bdrew | with_reducible apply bdrewN | with_reducible apply balloc | ((with_reducible refine bset ?_ ?_ _); rotate_left; (first | omega | (simp <;> omega)))))
            have e7s := E7.size
            (try simp at hg7)
            have hl7 := HA7.out.lt
            have CV7 := Cls.below (l := [(w.heap.size, 0, .slice AR m cr), (w.heap.size, 1, .slice AB m cb), (w.heap.size, 2, .slice AO n co), (w.heap.size + 1, 0, .int .i64 0), (w.heap.size + 1, 1, .int .i64 0), (w.heap.size + 1, 2, .int .i64 0), (w.heap.size + 1, 3, .slice none 0 0), (w.heap.size + 1, 4, .int .i64 0), (w.heap.size + 1, 5, .slice none 0 0), (w.heap.size + 1, 6, .int .i64 0), (w.heap.size + 1, 7, .slice none 0 0), (w.heap.size + 1, 8, .int .i64 0), (w.heap.size + 1 + 1, 0, .int .i64 0), (w.heap.size + 1 + 1, 1, .int .i64 0), (w1.heap.size, 0, .int .i64 0), (w1.heap.size, 1, .int .i64 0)]) hB7 (by simp [Cls, go_sem, F6, y6w2, y6w1, y6w0, y6wp1, y6wp2, y6w10, y6w1p1, y6w1p2])
            have Fv7 := CV7
            simp only [Cls, and_true] at Fv7
            have yv7w2 : w.heap.size + 1 + 1 < w7.heap.size := CV7.blk (b := w.heap.size + 1 + 1) (k := 0) (v := .int .i64 0) (by simp)
            have yv7w1 : w.heap.size + 1 < w7.heap.size := (by omega)
            have yv7w0 : w.heap.size < w7.heap.size := (by omega)
            have yv7wp1 : w.heap.size < w7.heap.size + 1 := (by omega)
            have yv7wp2 : w.heap.size < w7.heap.size + 1 + 1 := (by omega)
            have yv7w10 : w1.heap.size < w7.heap.size := CV7.blk (b := w1.heap.size) (k := 0) (v := .int .i64 0) (by simp)
            have yv7w1p1 : w1.heap.size < w7.heap.size + 1 := (by omega)
            have yv7w1p2 : w1.heap.size < w7.heap.size + 1 + 1 := (by omega)
            have hSS : w7.cell? ⟨Lb, 2, none⟩ = some (.int .i64 den) ∧ w7.cell? ⟨gv, 0, none⟩ = some (.slice (some ⟨gx, 0, none⟩) n n) ∧ w7.cell? ⟨gv, 1, none⟩ = some (.int .i64 q) := ⟨(Below.cell (by repeat (first | with_reducible exact E7 | with_reducible apply bdrew | with_reducible apply bdrewN | with_reducible apply balloc | ((with_reducible refine bset ?_ ?_ _); rotate_left; (first | omega | (simp <;> omega))))) (World.block_lt_of_cell? _ _ hM62)).trans hM62, (Below.cell (by repeat (first | with_reducible exact E7 | with_reducible apply bdrew | with_reducible apply bdrewN | with_reducible apply balloc | ((with_reducible refine bset ?_ ?_ _); rotate_left; (first | omega | (simp <;> omega))))) (World.block_lt_of_cell? _ _ FV6.1.1)).trans FV6.1.1, (Below.cell (by repeat (first | with_reducible exact E7 | with_reducible apply bdrew | with_reducible apply bdrewN | with_reducible apply balloc | ((with_reducible refine bset ?_ ?_ _); rotate_left; (first | omega | (simp <;> omega))))) (World.block_lt_of_cell? _ _ FV6.2.1)).trans FV6.2.1⟩
            go_wp2_with fail
            refine hK.out _ _ hSS (fun hHeld => ?_)
            clear hK K
            try simp only [Act.put, List.getElem_toArray, List.getElem_cons_succ, List.getElem_cons_zero, List.setIfInBounds_toArray, List.set_cons_zero, List.set_cons_succ]
            refine wpAnyH_take (i := 7) (v := ?vo6l27) rfl (by kernel_rfl) (by kernel_rfl) (by kernel_rfl) (fun _ _ _ h => h) (Or.inl ⟨by rfl, ?ho6l27⟩) (by assumption) ?ro6l27
            case ho6l27 => (intro w hSw; (try dsimp only at hSw); go_simp; (try with_reducible rfl))
            try simp only [Act.put, List.getElem_toArray, List.getElem_cons_succ, List.getElem_cons_zero, List.setIfInBounds_toArray, List.set_cons_zero, List.set_cons_succ]
            refine wpAnyH_ready (rs := [9]) (by kernel_rfl) (by simp) ?_
            refine AllReadyH.cons rfl (fun K hK => ?_) AllReadyH.nil
            go_simp
            have hSK : w7.cell? ⟨Lb, 2, none⟩ = some (.int .i64 den) ∧ w7.cell? ⟨gv, 0, none⟩ = some (.slice (some ⟨gx, 0, none⟩) n n) ∧ w7.cell? ⟨gv, 1, none⟩ = some (.int .i64 q) := ⟨(Below.cell (by repeat (first | with_reducible exact E7 | with_reducible apply bdrew | with_reducible apply bdrewN | with_reducible apply balloc | ((with_reducible refine bset ?_ ?_ _); rotate_left; (first | omega | (simp <;> omega))))) (World.block_lt_of_cell? _ _ hM62)).trans hM62, (Below.cell (by repeat (first | with_reducible exact E7 | with_reducible apply bdrew | with_reducible apply bdrewN | with_reducible apply balloc | ((with_reducible refine bset ?_ ?_ _); rotate_left; (first | omega | (simp <;> omega))))) (World.block_lt_of_cell? _ _ FV6.1.1)).trans FV6.1.1, (Below.cell (by repeat (first | with_reducible exact E7 | with_reducible apply bdrew | with_reducible apply bdrewN | with_reducible apply balloc | ((with_reducible refine bset ?_ ?_ _); rotate_left; (first | omega | (simp <;> omega))))) (World.block_lt_of_cell? _ _ FV6.2.1)).trans FV6.2.1⟩
            obtain ⟨hk0, hk1, hk2⟩ := hSK
            go_wp2_with fail
            refine hK.out _ _ (by simp [go_sem, hnc0, hnc1, hnc2, hnc3, hk0, hk1, hk2, Fv7, yv7w2, yv7w1, yv7w0, yv7wp1, yv7wp2, yv7w10, yv7w1p1, yv7w1p2]) (fun hHeld => ?_)
            clear hK K
            try simp only [Act.put, List.getElem_toArray, List.getElem_cons_succ, List.getElem_cons_zero, List.setIfInBounds_toArray, List.set_cons_zero, List.set_cons_succ]
            refine wpAnyH_ready (rs := [10]) (by kernel_rfl) (by simp) ?_
            refine AllReadyH.cons rfl (fun K hK => ?_) AllReadyH.nil
            go_simp
            go_wp2_with fail
            refine hK.out _ _ (by simp [go_sem, hnc0, hnc1, hnc2, hnc3, hk0, hk1, hk2, Fv7, yv7w2, yv7w1, yv7w0, yv7wp1, yv7wp2, yv7w10, yv7w1p1, yv7w1p2]) (fun hHeld => ?_)
            clear hK K
            try simp only [Act.put, List.getElem_toArray, List.getElem_cons_succ, List.getElem_cons_zero, List.setIfInBounds_toArray, List.set_cons_zero, List.set_cons_succ]
            refine wpAnyH_done (by kernel_rfl) ?_ _
            go_wp2
            refine bodyPost_ret (v := .tuple #[.agg #[.int .i64 3, .int .i64 0, .int .i64 0, .slice (some ⟨gx, 0, none⟩) n n, .int .i64 q, .slice none 0 0, .int .i64 0, .slice (some ⟨g7, 0, none⟩) n n, .int .i64 q7], .agg #[.int .i64 0, .int .i64 0]]) ?_ rfl (solved_mk 3 0 0 q 0 q7 (some ⟨gx, 0, none⟩) none (some ⟨g7, 0, none⟩) (vdiv den (solX P s4)) [] (vdiv den (solR P s4 c)) n 0 n ?_ rfl ?_ ?_ (Ints.nil _ _) ?_ ?_ (by repeat (first | with_reducible exact (D6.trans (E7.mono d6s)) | with_reducible apply bdrew | with_reducible apply bdrewN | with_reducible apply balloc | ((with_reducible refine bset ?_ ?_ _); rotate_left; (first | omega | (simp <;> omega))))))
            · simp [results, Try.results11, go_sem, Fv7, yv7w2, yv7w1, yv7w0, yv7wp1, yv7wp2, yv7w10, yv7w1p1, yv7w1p2]
            · rw [vdiv_len, HXE.out, HXL.out]
            · rw [vdiv_len, HRE.out, HRL.out]
            · refine IArr.ints ?_
              have hx := HX6.out.below E7
              repeat (first | with_reducible exact hx | (with_reducible refine IArr.far ?_ ?_ _; rotate_left; (first | omega | (simp <;> omega))))
            · rw [HRE.out]
              refine IArr.ints ?_
              repeat (first | with_reducible exact HA7.out | (with_reducible refine IArr.far ?_ ?_ _; rotate_left; (first | omega | (simp <;> omega))))
            · rw [HQ.out, HQ7.out, ← HRE.out, ← hde.out]
              exact HSO.out


end Go.Proofs.Ytkepfmglljkjhaa
