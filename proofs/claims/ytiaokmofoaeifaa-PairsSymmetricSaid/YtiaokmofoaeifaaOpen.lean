/-
  The arguments of a law, as the walk wants them: lists of integers, tasks.
-/
import Derived.Test.YtiaokmofoaeifaaTask
import Derived.ProofKit
import Derived.OpenShut
import Derived.Deep.Slices
import Derived.Deep.Fields
import Derived.Lib.SmallJoins
import Derived.ChangeSlices
import Derived.DataShut
namespace Go.Proofs.Ytiaokmofoaeifaa
open Go.Joins Go.ChangeShapes Go.WideShapes Go.RowKit Go.Deep
set_option linter.unusedVariables false
set_option linter.unusedSimpArgs false

section
variable {H : Type} {enc : TypeId × Value → H} {P : Program} {w : World} {base : Nat} {spare : Nat → Bool} {held : Bool}
theorem open_slice_fields {t e : TypeId} {fs : Array Field} {fuel : Nat} {cs : List Value} {x : DataW H × List MemPlace} (ht : P.underlying t = some (.slice e)) (he : P.underlying e = some (.struct fs))
    (hone : oneCellFields P fs = true) (hC : P.cellsOf e = fs.size) (h : DataW.trod enc P w base spare held fuel t cs = some x) :
    (cs = [.slice none 0 0] ∧ x = (.nil, [])) ∨
    ∃ (a : Addr) (len cap m : Nat) (D : Nat → DataW H) (Pl : Nat → List MemPlace), cs = [.slice (some a) len cap] ∧ base ≤ a.block ∧ len ≤ cap ∧ cap ≤ maxLen ∧ m = (if spare a.block then cap else len) ∧
      x = (.slice ((List.range len).map D) ((List.range (m - len)).map fun j => D (len + j)), MemPlace.row a (m * fs.size) ++ (List.range m).flatMap Pl) ∧
      ∀ i, i < m → ∃ (ys : List (DataW H × List MemPlace)) (n : Nat), D i = .agg (ys.map (·.1)) ∧ Pl i = ys.flatMap (·.2) ∧ ys.length = fs.size ∧
        ∀ (j : Nat) (f : Field), fs[j]? = some f → ∃ (v : Value) (y : DataW H × List MemPlace), w.cell? (a.add (i * fs.size + j)) = some v ∧ ys[j]? = some y ∧ DataW.trod enc P w base spare held n f.type [v] = some y := by
  rcases open_slice ht h with h0 | ⟨a, len, cap, m, n, D, Pl, hcs, hb, hl, hm, hmm, hx, hi⟩
  · exact .inl h0
  · refine .inr ⟨a, len, cap, m, D, Pl, hcs, hb, hl, hm, hmm, by rw [hC] at hx; exact hx, fun i him => ?_⟩
    obtain ⟨cs', hc, ht'⟩ := hi i him
    rw [hC] at hc
    obtain ⟨ys, n', hn', hy, hlen, hyl, hf⟩ := DataW.trod_struct he ht'
    obtain ⟨_, hcl, hat⟩ := World.cells?_some hc
    simp only [Prod.mk.injEq] at hy
    refine ⟨ys, n', hy.1, hy.2, hyl, fun j f hj => ?_⟩
    obtain ⟨ho, hk⟩ := hone_of hone j f hj
    have hjl : j < fs.size := (Array.getElem?_eq_some_iff.1 hj).1
    have hcell := hat j hjl
    have hv : cs'[j]? = some (cs'[j]'(by omega)) := List.getElem?_eq_getElem (by omega)
    have h1 := hf j f hj
    rw [ho, hk] at h1
    have hone' : (cs'.drop j).take 1 = [cs'[j]'(by omega)] := by
      rw [List.drop_eq_getElem_cons (by omega)]
      rfl
    rw [hone'] at h1
    have hys : ys[j]? = some (ys[j]'(by omega)) := List.getElem?_eq_getElem (by omega)
    refine ⟨_, _, ?_, hys, h1.trans hys⟩
    rw [← Go.Deep.add_add, hcell, hv]
end

section
variable {H : Type} {enc : TypeId × Value → H} {w : World}
def In64 (n : Int) : Prop := -9223372036854775808 ≤ n ∧ n ≤ 9223372036854775807
theorem in64_of {n : Int} (h : (Lit.int .i64 n).wf = true) : In64 n := by
  have h2 := (Lit.wf_int_iff .i64 n).1 h
  have e1 : IntKind.i64.min = -9223372036854775808 := by decide
  have e2 : IntKind.i64.max = 9223372036854775807 := by decide
  rw [e1, e2] at h2
  exact h2
theorem read_ints {fuel : Nat} {cs : List Value} {x : DataW H × List MemPlace} (h : DataW.trod enc Try.prog w 0 (fun _ => true) true fuel 22 cs = some x) :
    ∃ A c xs, cs = [.slice A xs.length c] ∧ xs.length ≤ c ∧ lenOk c ∧ (A = none → xs = [] ∧ c = 0) ∧ Ints w A xs ∧ ∀ n ∈ xs, In64 n := by
  rcases open_ints Try.underlying22 Try.underlying3 (by kernel_rfl) h with ⟨rfl, rfl⟩ | ⟨a, len, cap, zs, rfl, hb, hl, hm, hz, hx, hc, hw⟩
  · exact ⟨none, 0, [], rfl, Nat.le_refl _, by unfold lenOk; omega, fun _ => ⟨rfl, rfl⟩, Ints.nil _ _, by simp⟩
  · simp only [if_true] at hz
    have hl' : (zs.take len).length = len := by rw [List.length_take]; omega
    refine ⟨some a, cap, zs.take len, by rw [hl'], by omega, by unfold lenOk; simp only [maxLen] at hm; omega, (fun h => by cases h), fun j u hu => ⟨a, rfl, ?_⟩, fun n hn => in64_of (hw n (List.mem_of_mem_take hn))⟩
    obtain ⟨hj, rfl⟩ := List.getElem?_eq_some_iff.1 hu
    rw [List.length_map, hl'] at hj
    rw [hc j (by omega)]
    simp [List.getD_eq_getElem?_getD, show j < zs.length by omega]
set_option maxRecDepth 100000 in
theorem open_intsW {r : Reach} {b0 : Nat} {v : Value} {d : DataW H} {p : List MemPlace} (hv : Value.okWide Try.prog w r b0 22 v) (h : DataW.Trod enc Try.prog w 0 (fun _ => true) true 22 v d p) :
    ∃ A c xs, v = .slice A xs.length c ∧ xs.length ≤ c ∧ lenOk c ∧ (A = none → xs = [] ∧ c = 0) ∧ Ints w A xs ∧ ∀ n ∈ xs, In64 n := by
  obtain ⟨a0, len, cap, rfl⟩ := okWide_slice Try.underlying22 hv
  obtain ⟨fuel, hf⟩ := h
  obtain ⟨A, c, xs, e, r⟩ := read_ints hf
  refine ⟨A, c, xs, ?_, r⟩
  simpa [Value.cells] using e

/-- Where the lists of an operator are nil, they have no room. -/
def NilOk (A : Option Addr) (xs : List Int) (c : Nat) : Prop := (A = none → xs = [] ∧ c = 0) ∧ xs.length ≤ c ∧ c ≤ 9223372036854775807
/-- All that is read of the operators. -/
def OpsRead (w : World) (A : Option Addr) (ops : List OpV) : Prop :=
  ∀ (k : Nat) (o : OpV), ops[k]? = some o → ∃ ad A0 c0 A1 c1 A2 c2, A = some ad ∧ w.cell? (ad.add (k * 4)) = some (.slice A0 o.pre.length c0) ∧ w.cell? ⟨(ad.add (k * 4)).block, (ad.add (k * 4)).off + 1, none⟩ = some (.slice A1 o.add.length c1) ∧
    w.cell? ⟨(ad.add (k * 4)).block, (ad.add (k * 4)).off + 2, none⟩ = some (.slice A2 o.del.length c2) ∧ w.cell? ⟨(ad.add (k * 4)).block, (ad.add (k * 4)).off + 3, none⟩ = some (.int .i64 o.cost) ∧ OpMem w A0 A1 A2 o ∧
    NilOk A0 o.pre c0 ∧ NilOk A1 o.add c1 ∧ NilOk A2 o.del c2 ∧ In64 o.cost
theorem OpsRead.at_ {A : Option Addr} {ops : List OpV} (h : OpsRead w A ops) : OpsAt w A ops := fun k o hk => by
  obtain ⟨ad, A0, c0, A1, c1, A2, c2, e, h0, h1, h2, h3, hm, _⟩ := h k o hk
  exact ⟨ad, A0, c0, A1, c1, A2, c2, e, h0, h1, h2, h3, hm⟩
theorem read_ops {fuel : Nat} {cs : List Value} {x : DataW H × List MemPlace} (h : DataW.trod enc Try.prog w 0 (fun _ => true) true fuel 23 cs = some x) :
    ∃ A c ops, cs = [.slice A ops.length c] ∧ ops.length ≤ c ∧ lenOk c ∧ (A = none → ops = [] ∧ c = 0) ∧ OpsRead w A ops := by
  rcases open_slice_fields Try.underlying23 Try.underlying61 (by kernel_rfl) (by kernel_rfl) h with ⟨rfl, rfl⟩ | ⟨a, len, cap, m, D, Pl, rfl, hb, hl, hm, hmm, hx, hi⟩
  · exact ⟨none, 0, [], rfl, Nat.le_refl _, by unfold lenOk; omega, fun _ => ⟨rfl, rfl⟩, fun k o hk => by simp at hk⟩
  · simp only [if_true] at hmm
    subst hmm
    have each : ∀ i : Nat, ∃ o : OpV, i < m → ∃ A0 c0 A1 c1 A2 c2, w.cell? (a.add (i * 4)) = some (.slice A0 o.pre.length c0) ∧ w.cell? ⟨(a.add (i * 4)).block, (a.add (i * 4)).off + 1, none⟩ = some (.slice A1 o.add.length c1) ∧
        w.cell? ⟨(a.add (i * 4)).block, (a.add (i * 4)).off + 2, none⟩ = some (.slice A2 o.del.length c2) ∧ w.cell? ⟨(a.add (i * 4)).block, (a.add (i * 4)).off + 3, none⟩ = some (.int .i64 o.cost) ∧ OpMem w A0 A1 A2 o ∧
        NilOk A0 o.pre c0 ∧ NilOk A1 o.add c1 ∧ NilOk A2 o.del c2 ∧ In64 o.cost := by
      intro i
      by_cases him : i < m
      · obtain ⟨ys, n, _, _, _, hf⟩ := hi i him
        obtain ⟨v0, y0, hc0, _, t0⟩ := hf 0 _ rfl
        obtain ⟨v1, y1, hc1, _, t1⟩ := hf 1 _ rfl
        obtain ⟨v2, y2, hc2, _, t2⟩ := hf 2 _ rfl
        obtain ⟨v3, y3, hc3, _, t3⟩ := hf 3 _ rfl
        obtain ⟨A0, c0, x0, e0, q0, m0, n0, I0, r0⟩ := read_ints t0
        obtain ⟨A1, c1, x1, e1, q1, m1, n1, I1, r1⟩ := read_ints t1
        obtain ⟨A2, c2, x2, e2, q2, m2, n2, I2, r2⟩ := read_ints t2
        obtain ⟨k, e3, _, hk⟩ := DataW.trod_int Try.underlying3 t3
        injection e0 with e0
        injection e1 with e1
        injection e2 with e2
        injection e3 with e3
        subst e0; subst e1; subst e2; subst e3
        have hs : ∀ j : Nat, 0 < j → a.add (i * 4 + j) = ⟨(a.add (i * 4)).block, (a.add (i * 4)).off + j, none⟩ := by
          intro j hj
          rw [← Go.Deep.add_add]
          show (if j = 0 then a.add (i * 4) else _) = _
          rw [if_neg (by omega)]
        exact ⟨⟨x0, x1, x2, k⟩, fun _ => ⟨A0, c0, A1, c1, A2, c2, hc0, by rw [← hs 1 (by omega)]; exact hc1, by rw [← hs 2 (by omega)]; exact hc2, by rw [← hs 3 (by omega)]; exact hc3,
          ⟨I0, I1, I2, Nat.le_trans q0 m0, Nat.le_trans q1 m1, Nat.le_trans q2 m2⟩, ⟨n0, q0, m0⟩, ⟨n1, q1, m1⟩, ⟨n2, q2, m2⟩, in64_of hk⟩⟩
      · exact ⟨⟨[], [], [], 0⟩, fun h => absurd h him⟩
    obtain ⟨f, hf⟩ := Classical.axiomOfChoice each
    refine ⟨some a, m, (List.range len).map f, by simp, by simpa using hl, by unfold lenOk; simp only [maxLen] at hm; omega, (fun h => by cases h), fun k o hk => ?_⟩
    obtain ⟨hk1, rfl⟩ := List.getElem?_eq_some_iff.1 hk
    rw [List.length_map, List.length_range] at hk1
    obtain ⟨A0, c0, A1, c1, A2, c2, r⟩ := hf k (by omega)
    refine ⟨a, A0, c0, A1, c1, A2, c2, rfl, ?_⟩
    simpa using r

/-- All that is read of a task. -/
structure TaskRead (w : World) (Ai Ag Ao : Option Addr) (ci cg co : Nat) (t : TaskV) : Prop where
  mem : TaskMem w Ai Ag Ao t
  ops : OpsRead w Ao t.ops
  ninit : NilOk Ai t.init ci
  ngoal : NilOk Ag t.goal cg
  nops : (Ao = none → t.ops = [] ∧ co = 0) ∧ t.ops.length ≤ co ∧ co ≤ 9223372036854775807
  facts : In64 t.facts
set_option maxRecDepth 100000 in
theorem open_taskW {r : Reach} {b0 : Nat} {v : Value} {d : DataW H} {p : List MemPlace} (hv : Value.okWide Try.prog w r b0 25 v) (h : DataW.Trod enc Try.prog w 0 (fun _ => true) true 25 v d p) :
    ∃ (t : TaskV) (Ai Ag Ao : Option Addr) (ci cg co : Nat), v = .agg #[.int .i64 t.facts, .slice Ai t.init.length ci, .slice Ag t.goal.length cg, .slice Ao t.ops.length co] ∧ TaskRead w Ai Ag Ao ci cg co t := by
  obtain ⟨v0, v1, v2, v3, y0, y1, y2, y3, n, rfl, _, _, t0, t1, t2, t3⟩ := open_agg4 Try.underlying25 (by kernel_rfl) (by kernel_rfl) hv h
  obtain ⟨k, e0, _, hk⟩ := DataW.trod_int Try.underlying3 t0
  obtain ⟨A1, c1, x1, e1, q1, m1, n1, I1, r1⟩ := read_ints t1
  obtain ⟨A2, c2, x2, e2, q2, m2, n2, I2, r2⟩ := read_ints t2
  obtain ⟨A3, c3, x3, e3, q3, m3, n3, I3⟩ := read_ops t3
  injection e0 with e0
  injection e1 with e1
  injection e2 with e2
  injection e3 with e3
  subst e0; subst e1; subst e2; subst e3
  exact ⟨⟨k, x1, x2, x3⟩, A1, A2, A3, c1, c2, c3, rfl, ⟨I1, I2, I3.at_, Nat.le_trans q1 m1, Nat.le_trans q2 m2, Nat.le_trans q3 m3⟩, I3, ⟨n1, q1, m1⟩, ⟨n2, q2, m2⟩, ⟨n3, q3, m3⟩, in64_of hk⟩
end

end Go.Proofs.Ytiaokmofoaeifaa
