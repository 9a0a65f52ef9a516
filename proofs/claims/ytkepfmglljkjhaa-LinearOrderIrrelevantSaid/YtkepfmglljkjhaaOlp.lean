/-
  Arguments that are linear programs and vectors.
-/
import Derived.Test.YtkepfmglljkjhaaNll
import Derived.Test.YtkepfmglljkjhaaMA
import Derived.Test.YtkepfmglljkjhaaLq1
namespace Go.Proofs.Ytkepfmglljkjhaa
open Go.RowKit
set_option linter.unusedVariables false
set_option linter.unusedSimpArgs false

section
open Go.Joins Go.ChangeShapes Go.WideShapes Go.RowKit Go.Deep
variable {H : Type} {enc : TypeId × Value → H} {w : World}
set_option maxRecDepth 100000 in
theorem open_lpW {r : Go.Reach} {b0 : Nat} {v : Value} {d : DataW H} {p : List MemPlace} (hv : Value.okWide Try.prog w r b0 25 v) (h : DataW.Trod enc Try.prog w 0 (fun _ => true) true 25 v d p) :
    ∃ (q : LpV) (AR AB AO : Option Addr) (cr cb co : Nat), v = .agg #[.slice AR q.rows.length cr, .slice AB q.bounds.length cb, .slice AO q.obj.length co] ∧ LpMem w AR AB AO q ∧ ((AR = none → q.rows = [] ∧ cr = 0) ∧ q.rows.length ≤ cr ∧ cr ≤ 9223372036854775807) ∧ NilOk AB q.bounds cb ∧ NilOk AO q.obj co := by
  obtain ⟨v0, v1, v2, y0, y1, y2, n, rfl, _, _, t0, t1, t2⟩ := open_agg3 Try.underlying25 (by kernel_rfl) (by kernel_rfl) hv h
  obtain ⟨A0, c0, x0, e0, q0, m0, n0, I0⟩ := read_rows t0
  obtain ⟨A1, c1, x1, e1, q1, m1, n1, I1, r1⟩ := read_ints t1
  obtain ⟨A2, c2, x2, e2, q2, m2, n2, I2, r2⟩ := read_ints t2
  injection e0 with e0
  injection e1 with e1
  injection e2 with e2
  subst e0; subst e1; subst e2
  exact ⟨⟨x0, x1, x2⟩, A0, A1, A2, c0, c1, c2, rfl, ⟨I0, I1, I2, Nat.le_trans q0 m0, Nat.le_trans q1 m1, Nat.le_trans q2 m2⟩, ⟨n0, q0, m0⟩, ⟨n1, q1, m1⟩, ⟨n2, q2, m2⟩⟩
set_option maxRecDepth 100000 in
theorem open_vecW {r : Go.Reach} {b0 : Nat} {v : Value} {d : DataW H} {p : List MemPlace} (hv : Value.okWide Try.prog w r b0 30 v) (h : DataW.Trod enc Try.prog w 0 (fun _ => true) true 30 v d p) :
    ∃ (A : Option Addr) (c : Nat) (x : List Int) (e : Int), v = .agg #[.slice A x.length c, .int .i64 e] ∧ Ints w A x ∧ x.length ≤ 9223372036854775807 ∧ In64 e := by
  obtain ⟨v0, v1, y0, y1, n, rfl, _, _, t0, t1⟩ := open_agg2 Try.underlying30 (by kernel_rfl) (by kernel_rfl) hv h
  obtain ⟨A0, c0, x0, e0, q0, m0, n0, I0, r0⟩ := read_ints t0
  obtain ⟨k, e1, _, hk⟩ := DataW.trod_int Try.underlying3 t1
  injection e0 with e0
  injection e1 with e1
  subst e0; subst e1
  exact ⟨A0, c0, x0, k, rfl, I0, Nat.le_trans q0 m0, in64_of hk⟩
end

end Go.Proofs.Ytkepfmglljkjhaa
