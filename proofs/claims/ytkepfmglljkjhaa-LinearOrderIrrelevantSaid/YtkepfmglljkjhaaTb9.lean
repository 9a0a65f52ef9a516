/-
  linear.Solve for every program.
-/
import Derived.Test.YtkepfmglljkjhaaTb8
import Derived.Test.YtkepfmglljkjhaaLw3
namespace Go.Proofs.Ytkepfmglljkjhaa
open Go.RowKit
set_option linter.unusedVariables false
set_option linter.unusedSimpArgs false

/-- What Solve returns. -/
def SolvedA (p : LpV) (w w' : World) (e : Ending) : Prop := ∃ (c c2 st num den dx dy dr : Int) (Ax Ay Ar : Option Addr) (lx ly lr : Nat) (x y r : List Int),
  e = .returned (.tuple #[.agg #[.int .i64 st, .int .i64 num, .int .i64 den, .slice Ax lx lx, .int .i64 dx, .slice Ay ly ly, .int .i64 dy, .slice Ar lr lr, .int .i64 dr], .agg #[.int .i64 c, .int .i64 c2]]) ∧
  Hid (lpF p = (c, c2)) ∧ Hid (x.length = lx ∧ y.length = ly ∧ r.length = lr) ∧ Hid (¬ c = 0 → st = 0 ∧ num = 0 ∧ den = 0 ∧ lx = 0 ∧ ly = 0 ∧ lr = 0 ∧ dx = 0 ∧ dy = 0 ∧ dr = 0) ∧ Hid (c = 0 → SolOut p.lp st num den x dx y dy r dr) ∧
  Hid (Ints w' Ax x ∧ Ints w' Ay y ∧ Ints w' Ar r) ∧ Below w.heap.size w w'
theorem solve_any (w : World) (AR AB AO : Option Addr) (cr cb co : Nat) (p : LpV) (hM : LpMem w AR AB AO p) (m mb n : Nat) (hrl : Hid (p.rows.length = m)) (hbl : Hid (p.bounds.length = mb)) (hol : Hid (p.obj.length = n)) :
    Calls Try.prog 11 #[.agg #[.slice AR m cr, .slice AB mb cb, .slice AO n co]] w fun e w' => SolvedA p w w' e := by
  by_cases h : (lpF p).1 = 0
  · have hok := lpF_zero h
    have hmb : mb = m := by rw [← hbl.out, ← hrl.out]; exact hok.b
    subst hmb
    refine (solve_2 w AR AB AO cr cb co p hM hok mb n hrl hbl hol p.lp (Lib.hid rfl)).mono ?_
    rintro e w' ⟨st, num, den, dx, dy, dr, Ax, Ay, Ar, x, y, r, rfl, hI, hS, hB⟩
    exact ⟨0, 0, st, num, den, dx, dy, dr, Ax, Ay, Ar, _, _, _, x, y, r, rfl, Lib.hid (lpF_ok hok), Lib.hid ⟨rfl, rfl, rfl⟩, Lib.hid (fun h => absurd rfl h), Lib.hid (fun _ => hS), Lib.hid hI, hB⟩
  · have e := solve_1 w AR AB AO cr cb co p hM h
    rw [hrl.out, hbl.out, hol.out] at e
    refine e.mono ?_
    rintro e w' ⟨rfl, hB⟩
    exact ⟨(lpF p).1, (lpF p).2, 0, 0, 0, 0, 0, 0, none, none, none, 0, 0, 0, [], [], [], rfl, Lib.hid rfl, Lib.hid ⟨rfl, rfl, rfl⟩, Lib.hid (fun _ => ⟨rfl, rfl, rfl, rfl, rfl, rfl, rfl, rfl, rfl⟩), Lib.hid (fun h2 => absurd h2 h), Lib.hid ⟨Ints.nil _ _, Ints.nil _ _, Ints.nil _ _⟩, hB⟩

end Go.Proofs.Ytkepfmglljkjhaa
