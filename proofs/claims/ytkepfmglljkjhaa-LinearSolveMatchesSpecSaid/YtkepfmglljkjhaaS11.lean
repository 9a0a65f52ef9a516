/-
  linear.Solve for every program.
  linearExample: what it returns.
-/
import Derived.Test.YtkepfmglljkjhaaS10
import Derived.Test.YtkepfmglljkjhaaS6
import Derived.Test.YtkepfmglljkjhaaS7
namespace Go.Proofs.Ytkepfmglljkjhaa
open Go.RowKit
set_option linter.unusedVariables false
set_option linter.unusedSimpArgs false

/-- What Solve returns. -/
def SolvedA (p : LpV) (w w' : World) (e : Ending) : Prop := ∃ (c c2 st num den dx dy dr : Int) (Ax Ay Ar : Option Addr) (lx ly lr : Nat) (x y r : List Int),
  e = .returned (.tuple #[.agg #[.int .i64 st, .int .i64 num, .int .i64 den, .slice Ax lx lx, .int .i64 dx, .slice Ay ly ly, .int .i64 dy, .slice Ar lr lr, .int .i64 dr], .agg #[.int .i64 c, .int .i64 c2]]) ∧
  Hid (lpF p = (c, c2)) ∧ Hid (x.length = lx ∧ y.length = ly ∧ r.length = lr) ∧ Hid (¬ c = 0 → st = 0 ∧ num = 0 ∧ den = 0 ∧ lx = 0 ∧ ly = 0 ∧ lr = 0 ∧ dx = 0 ∧ dy = 0 ∧ dr = 0) ∧ Hid (c = 0 → SolOut p.lp st num den x dx y dy r dr) ∧
  Hid (Ints w' Ax x ∧ Ints w' Ay y ∧ Ints w' Ar r) ∧ Below w.heap.size w w'
theorem solve_any (w : World) (AR AB AO : Option Addr) (cr cb co : Nat) (p : LpV) (hM : LpMem w AR AB AO p) (m mb n : Nat) (hrl : Hid (p.rows.length = m)) (hbl : Hid (p.bounds.length = mb)) (hol : Hid (p.obj.length = n)) :
    Calls Try.prog 11 #[.agg #[.slice AR m cr, .slice AB mb cb, .slice AO n co]] w fun e w' => SolvedA p w w' e := by
  by_cases h : (lpF p).1 = 0
  · have hok := lpF_zero h
    have hmb : mb = m := by rw [← hbl.out, ← hrl.out]; exact hok.b
    subst hmb
    refine (solve_2 w AR AB AO cr cb co p hM hok mb n hrl hbl hol p.lp (Lib.hid rfl)).mono ?_
    rintro e w' ⟨st, num, den, dx, dy, dr, Ax, Ay, Ar, x, y, r, rfl, hI, hS, hB⟩
    exact ⟨0, 0, st, num, den, dx, dy, dr, Ax, Ay, Ar, _, _, _, x, y, r, rfl, Lib.hid (lpF_ok hok), Lib.hid ⟨rfl, rfl, rfl⟩, Lib.hid (fun h => absurd rfl h), Lib.hid (fun _ => hS), Lib.hid hI, hB⟩
  · have e := solve_1 w AR AB AO cr cb co p hM h
    rw [hrl.out, hbl.out, hol.out] at e
    refine e.mono ?_
    rintro e w' ⟨rfl, hB⟩
    exact ⟨(lpF p).1, (lpF p).2, 0, 0, 0, 0, 0, 0, none, none, none, 0, 0, 0, [], [], [], rfl, Lib.hid rfl, Lib.hid ⟨rfl, rfl, rfl⟩, Lib.hid (fun _ => ⟨rfl, rfl, rfl, rfl, rfl, rfl, rfl, rfl, rfl⟩), Lib.hid (fun h2 => absurd h2 h), Lib.hid ⟨Ints.nil _ _, Ints.nil _ _, Ints.nil _ _⟩, hB⟩

end Go.Proofs.Ytkepfmglljkjhaa

namespace Go.Proofs.Ytkepfmglljkjhaa
open Go.RowKit
set_option linter.unusedVariables false
set_option linter.unusedSimpArgs false

/-- The program of the example. -/
def p0 : LpV := ⟨[[2]], [5], [3]⟩
theorem p0_f : lpF p0 = (0, 0) := by decide
theorem p0_ok : LpOk p0 := lpF_zero (by rw [p0_f])
theorem one_lt {P : Nat → Prop} (h : P 0) : ∀ k, k < 1 → P k := fun k hk => by
  have : k = 0 := by omega
  rw [this]; exact h
theorem p0_cert : CertP p0 [5] 2 [3] 2 := ⟨⟨one_lt (by decide), one_lt (by decide)⟩, ⟨one_lt (by decide), one_lt (by decide)⟩, by decide⟩
theorem p0_flt : fltPD p0 [5] 2 [3] 2 = (0, 0) := by decide
theorem part_refl (P : LA.LP) : LA.Part P P := ⟨rfl, fun _ _ => rfl, fun _ _ h => h, fun _ h => h⟩
theorem p0_out : LA.Outcome p0.lp 1 15 2 := .inl ⟨rfl, by decide, ⟨atL [5], 2, by decide, p0_cert.1, by decide⟩, atL [3], 2, by decide, p0_cert.2.1, by decide⟩
theorem dvd_cop {a b d : Int} (h : b ∣ a * d) (hg : Int.gcd a b = 1) : b ∣ d := by
  rw [← Int.natAbs_dvd_natAbs] at h ⊢
  rw [Int.natAbs_mul] at h
  have hc : Nat.Coprime b.natAbs a.natAbs := by rw [Nat.coprime_comm]; exact hg
  exact hc.dvd_of_dvd_mul_left h
theorem lowest_uniq {a b c d : Int} (hb : 0 < b) (hd : 0 < d) (h1 : Int.gcd a b = 1) (h2 : Int.gcd c d = 1) (h : a * d = c * b) : a = c ∧ b = d := by
  have e1 : b ∣ d := by
    have h3 : b ∣ a * d := ⟨c, by rw [h, Int.mul_comm]⟩
    exact dvd_cop h3 h1
  have e2 : d ∣ b := by
    have h3 : d ∣ c * b := ⟨a, by rw [← h, Int.mul_comm]⟩
    exact dvd_cop h3 h2
  have e3 : b ≤ d := Int.le_of_dvd hd e1
  have e4 : d ≤ b := Int.le_of_dvd hb e2
  have e5 : b = d := by omega
  subst e5
  exact ⟨Int.eq_of_mul_eq_mul_right (show b ≠ 0 by omega) h, rfl⟩
theorem p0_sol {st num den dx dy dr : Int} {x y r : List Int} (h : SolOut p0.lp st num den x dx y dy r dr) : st = 1 ∧ num = 15 ∧ den = 2 := by
  obtain ⟨h1, h2⟩ := LA.same_outcome (part_refl _) (part_refl _) p0_out h.out
  subst h1
  rcases h with ⟨_, h, _⟩ | ⟨e, _⟩ | ⟨e, _⟩
  · obtain ⟨a, b⟩ := lowest_uniq (a := num) (b := den) (c := 15) (d := 2) h.dpos (by decide) h.cop (by decide) h2
    exact ⟨rfl, a, b⟩
  · omega
  · omega
theorem p0_mem {w : World} {g g1 g2 g3 : Nat} (h0 : w.cell? ⟨g, 0, none⟩ = some (.int .i64 2)) (h1 : w.cell? ⟨g1, 0, none⟩ = some (.slice (some ⟨g, 0, none⟩) 1 1)) (h2 : w.cell? ⟨g2, 0, none⟩ = some (.int .i64 5)) (h3 : w.cell? ⟨g3, 0, none⟩ = some (.int .i64 3)) : LpMem w (some ⟨g1, 0, none⟩) (some ⟨g2, 0, none⟩) (some ⟨g3, 0, none⟩) p0 :=
  ⟨rows_one (r := [2]) h1 (ints_one h0) (by simp [NilOk]), ints_one h2, ints_one h3, by decide, by decide, by decide⟩
set_option maxRecDepth 100000 in
set_option maxHeartbeats 4000000 in
theorem lnexample_any (w : World)  :
    Calls Try.prog 10 #[] w fun e w' => e = .returned (.bool true) ∧ Below w.heap.size w w' := by
  go_enter Try.func10, Try.ntmps10
  go_wp2_with fail
  refine (solve_2 _ _ _ _ 1 1 1 p0 (p0_mem (g := w.heap.size) (by simp [go_sem]) (by simp [go_sem]) (by simp [go_sem]) (by simp [go_sem])) p0_ok 1 1 (Lib.hid rfl) (Lib.hid rfl) (Lib.hid rfl) p0.lp (Lib.hid rfl)).mono ?_
  rintro e w1 ⟨st, num, den, dx, dy, dr, Ax, Ay, Ar, x, y, r, rfl, hI, hSO, hB1⟩
  obtain ⟨rfl, rfl, rfl⟩ := p0_sol hSO
  have D1 := dstep w hB1 (by repeat (first | with_reducible exact Below.refl _ _ | with_reducible apply bdrew | with_reducible apply bdrewN | with_reducible apply balloc | ((with_reducible refine bset ?_ ?_ _); rotate_left; (first | omega | (simp <;> omega)))))
  have d1s := D1.size
  have C1 := Cls.below (l := [(w.heap.size, 0, .int .i64 2), (w.heap.size + 1, 0, .slice (some ⟨w.heap.size, 0, none⟩) 1 1), (w.heap.size + 1 + 1, 0, .int .i64 5), (w.heap.size + 1 + 1 + 1, 0, .int .i64 3), (w.heap.size + 1 + 1 + 1 + 1, 0, .slice (some ⟨w.heap.size + 1, 0, none⟩) 1 1), (w.heap.size + 1 + 1 + 1 + 1, 1, .slice (some ⟨w.heap.size + 1 + 1, 0, none⟩) 1 1), (w.heap.size + 1 + 1 + 1 + 1, 2, .slice (some ⟨w.heap.size + 1 + 1 + 1, 0, none⟩) 1 1)]) hB1 (by simp [Cls, go_sem])
  have F1 := C1
  simp only [Cls, and_true] at F1
  have y1w4 : w.heap.size + 1 + 1 + 1 + 1 < w1.heap.size := C1.blk (b := w.heap.size + 1 + 1 + 1 + 1) (k := 0) (v := .slice (some ⟨w.heap.size + 1, 0, none⟩) 1 1) (by simp)
  have y1w3 : w.heap.size + 1 + 1 + 1 < w1.heap.size := (by omega)
  have y1w2 : w.heap.size + 1 + 1 < w1.heap.size := (by omega)
  have y1w1 : w.heap.size + 1 < w1.heap.size := (by omega)
  have y1w0 : w.heap.size < w1.heap.size := (by omega)
  have y1wp1 : w.heap.size < w1.heap.size + 1 := (by omega)
  have y1wp2 : w.heap.size < w1.heap.size + 1 + 1 := (by omega)
  obtain ⟨lx, hlx⟩ : ∃ l, Hid (x.length = l) := ⟨_, Lib.hid rfl⟩
  obtain ⟨ly, hly⟩ : ∃ l, Hid (y.length = l) := ⟨_, Lib.hid rfl⟩
  obtain ⟨lr, hlr⟩ : ∃ l, Hid (r.length = l) := ⟨_, Lib.hid rfl⟩
  rw [hlx.out, hly.out, hlr.out]
  clear hI hSO
  go_wp2_with fail
  refine (certified_any _ _ _ _ 1 1 1 p0 (p0_mem (g := w.heap.size) (by simp [go_sem, F1, y1w4, y1w3, y1w2, y1w1, y1w0, y1wp1, y1wp2]) (by simp [go_sem, F1, y1w4, y1w3, y1w2, y1w1, y1w0, y1wp1, y1wp2]) (by simp [go_sem, F1, y1w4, y1w3, y1w2, y1w1, y1w0, y1wp1, y1wp2]) (by simp [go_sem, F1, y1w4, y1w3, y1w2, y1w1, y1w0, y1wp1, y1wp2])) 1 1 1 (Lib.hid rfl) (Lib.hid rfl) (Lib.hid rfl) _ 1 1 [5] 2 (Lib.hid rfl) (ints_one (by simp [go_sem, F1, y1w4, y1w3, y1w2, y1w1, y1w0, y1wp1, y1wp2])) (by decide) _ 1 1 [3] 2 (Lib.hid rfl) (ints_one (by simp [go_sem, F1, y1w4, y1w3, y1w2, y1w1, y1w0, y1wp1, y1wp2])) (by decide) 0 0 (Lib.hid p0_flt)).mono ?_
  rintro e w2 ⟨ok, rfl, hok, hB2⟩
  obtain rfl : ok = true := (hok.out.2 rfl).2 p0_cert
  have D2 := dstep w hB2 (by repeat (first | with_reducible exact D1 | with_reducible apply bdrew | with_reducible apply bdrewN | with_reducible apply balloc | ((with_reducible refine bset ?_ ?_ _); rotate_left; (first | omega | (simp <;> omega)))))
  have d2s := D2.size
  have C2 := Cls.below (l := [(w.heap.size, 0, .int .i64 2), (w.heap.size + 1, 0, .slice (some ⟨w.heap.size, 0, none⟩) 1 1), (w.heap.size + 1 + 1, 0, .int .i64 5), (w.heap.size + 1 + 1 + 1, 0, .int .i64 3), (w.heap.size + 1 + 1 + 1 + 1, 0, .slice (some ⟨w.heap.size + 1, 0, none⟩) 1 1), (w.heap.size + 1 + 1 + 1 + 1, 1, .slice (some ⟨w.heap.size + 1 + 1, 0, none⟩) 1 1), (w.heap.size + 1 + 1 + 1 + 1, 2, .slice (some ⟨w.heap.size + 1 + 1 + 1, 0, none⟩) 1 1), (w1.heap.size, 0, .int .i64 1), (w1.heap.size, 1, .int .i64 15), (w1.heap.size, 2, .int .i64 2), (w1.heap.size, 3, .slice Ax lx lx), (w1.heap.size, 4, .int .i64 dx), (w1.heap.size, 5, .slice Ay ly ly), (w1.heap.size, 6, .int .i64 dy), (w1.heap.size, 7, .slice Ar lr lr), (w1.heap.size, 8, .int .i64 dr), (w1.heap.size + 1, 0, .int .i64 0), (w1.heap.size + 1, 1, .int .i64 0), (w1.heap.size + 1 + 1, 0, .int .i64 5), (w1.heap.size + 1 + 1 + 1, 0, .int .i64 3)]) hB2 (by simp [Cls, go_sem, F1, y1w4, y1w3, y1w2, y1w1, y1w0, y1wp1, y1wp2])
  have F2 := C2
  simp only [Cls, and_true] at F2
  have y2w4 : w.heap.size + 1 + 1 + 1 + 1 < w2.heap.size := C2.blk (b := w.heap.size + 1 + 1 + 1 + 1) (k := 0) (v := .slice (some ⟨w.heap.size + 1, 0, none⟩) 1 1) (by simp)
  have y2w3 : w.heap.size + 1 + 1 + 1 < w2.heap.size := (by omega)
  have y2w2 : w.heap.size + 1 + 1 < w2.heap.size := (by omega)
  have y2w1 : w.heap.size + 1 < w2.heap.size := (by omega)
  have y2w0 : w.heap.size < w2.heap.size := (by omega)
  have y2wp1 : w.heap.size < w2.heap.size + 1 := (by omega)
  have y2wp2 : w.heap.size < w2.heap.size + 1 + 1 := (by omega)
  have y2w13 : w1.heap.size + 1 + 1 + 1 < w2.heap.size := C2.blk (b := w1.heap.size + 1 + 1 + 1) (k := 0) (v := .int .i64 3) (by simp)
  have y2w12 : w1.heap.size + 1 + 1 < w2.heap.size := (by omega)
  have y2w11 : w1.heap.size + 1 < w2.heap.size := (by omega)
  have y2w10 : w1.heap.size < w2.heap.size := (by omega)
  have y2w1p1 : w1.heap.size < w2.heap.size + 1 := (by omega)
  have y2w1p2 : w1.heap.size < w2.heap.size + 1 + 1 := (by omega)
  go_wp2
  refine bodyPost_ret (v := .bool true) ?_ rfl ⟨rfl, by repeat (first | with_reducible exact D2 | with_reducible apply bdrew | with_reducible apply bdrewN | with_reducible apply balloc | ((with_reducible refine bset ?_ ?_ _); rotate_left; (first | omega | (simp <;> omega))))⟩
  simp [results, Try.results10, go_sem]


end Go.Proofs.Ytkepfmglljkjhaa
