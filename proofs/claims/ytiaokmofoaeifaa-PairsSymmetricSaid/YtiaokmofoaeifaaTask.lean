/-
  A task in memory: what its value and the cells that it leads to hold.
-/
import Derived.Test.YtiaokmofoaeifaaMem
namespace Go.Proofs.Ytiaokmofoaeifaa
open Go.RowKit
set_option linter.unusedVariables false
set_option linter.unusedSimpArgs false

/-- An operator, as lists. -/
structure OpV where
  pre : List Int
  add : List Int
  del : List Int
  cost : Int
/-- A task, as lists. -/
structure TaskV where
  facts : Int
  init : List Int
  goal : List Int
  ops : List OpV

/-- The greatest length of a slice that was read. -/
def lenOk (n : Nat) : Prop := n ≤ 9223372036854775807
theorem lenOk.le {n : Nat} (h : lenOk n) : n ≤ 9223372036854775807 := by unfold lenOk at h; omega
theorem lenOk.le2 {n : Nat} (h : lenOk n) : n ≤ 9223372036854775807 := h

/-- The lists of an operator lie at three addresses. -/
structure OpMem (w : World) (A0 A1 A2 : Option Addr) (o : OpV) : Prop where
  pre : Ints w A0 o.pre
  add : Ints w A1 o.add
  del : Ints w A2 o.del
  lpre : lenOk o.pre.length
  ladd : lenOk o.add.length
  ldel : lenOk o.del.length
theorem OpMem.below {w w' : World} {A0 A1 A2 : Option Addr} {o : OpV} (h : OpMem w A0 A1 A2 o) (hb : Below w.heap.size w w') : OpMem w' A0 A1 A2 o :=
  ⟨h.pre.below hb, h.add.below hb, h.del.below hb, h.lpre, h.ladd, h.ldel⟩

/-- The operators lie one behind the other. -/
def OpsAt (w : World) (A : Option Addr) (ops : List OpV) : Prop :=
  ∀ (k : Nat) (o : OpV), ops[k]? = some o → ∃ ad A0 c0 A1 c1 A2 c2, A = some ad ∧ w.cell? (ad.add (k * 4)) = some (.slice A0 o.pre.length c0) ∧ w.cell? ⟨(ad.add (k * 4)).block, (ad.add (k * 4)).off + 1, none⟩ = some (.slice A1 o.add.length c1) ∧
    w.cell? ⟨(ad.add (k * 4)).block, (ad.add (k * 4)).off + 2, none⟩ = some (.slice A2 o.del.length c2) ∧ w.cell? ⟨(ad.add (k * 4)).block, (ad.add (k * 4)).off + 3, none⟩ = some (.int .i64 o.cost) ∧ OpMem w A0 A1 A2 o
theorem OpsAt.below {w w' : World} {A : Option Addr} {ops : List OpV} (h : OpsAt w A ops) (hb : Below w.heap.size w w') : OpsAt w' A ops := fun k o hk => by
  obtain ⟨ad, A0, c0, A1, c1, A2, c2, e, h0, h1, h2, h3, hm⟩ := h k o hk
  exact ⟨ad, A0, c0, A1, c1, A2, c2, e, (hb.cell (World.block_lt_of_cell? w _ h0)).trans h0, (hb.cell (World.block_lt_of_cell? w _ h1)).trans h1, (hb.cell (World.block_lt_of_cell? w _ h2)).trans h2, (hb.cell (World.block_lt_of_cell? w _ h3)).trans h3, hm.below hb⟩
theorem OpsAt.at_ {w : World} {A : Option Addr} {ops : List OpV} {k : Nat} (h : OpsAt w A ops) (hk : k < ops.length) : ∃ ad o A0 c0 A1 c1 A2 c2, A = some ad ∧ Hid (ops[k]? = some o) ∧ w.cell? (ad.add (k * 4)) = some (.slice A0 o.pre.length c0) ∧ w.cell? ⟨(ad.add (k * 4)).block, (ad.add (k * 4)).off + 1, none⟩ = some (.slice A1 o.add.length c1) ∧
    w.cell? ⟨(ad.add (k * 4)).block, (ad.add (k * 4)).off + 2, none⟩ = some (.slice A2 o.del.length c2) ∧ w.cell? ⟨(ad.add (k * 4)).block, (ad.add (k * 4)).off + 3, none⟩ = some (.int .i64 o.cost) ∧ OpMem w A0 A1 A2 o := by
  obtain ⟨ad, A0, c0, A1, c1, A2, c2, r⟩ := h k _ (List.getElem?_eq_getElem hk)
  exact ⟨ad, ops[k], A0, c0, A1, c1, A2, c2, r.1, Lib.hid (List.getElem?_eq_getElem hk), r.2⟩
/-- .. the cells in a later world, the lists in the first one. -/
theorem OpsAt.at2 {w w' : World} {A : Option Addr} {ops : List OpV} {k : Nat} (h : OpsAt w A ops) (hb : Below w.heap.size w w') (hk : k < ops.length) : ∃ ad o A0 c0 A1 c1 A2 c2, A = some ad ∧ Hid (ops[k]? = some o) ∧ w'.cell? (ad.add (k * 4)) = some (.slice A0 o.pre.length c0) ∧ w'.cell? ⟨(ad.add (k * 4)).block, (ad.add (k * 4)).off + 1, none⟩ = some (.slice A1 o.add.length c1) ∧
    w'.cell? ⟨(ad.add (k * 4)).block, (ad.add (k * 4)).off + 2, none⟩ = some (.slice A2 o.del.length c2) ∧ w'.cell? ⟨(ad.add (k * 4)).block, (ad.add (k * 4)).off + 3, none⟩ = some (.int .i64 o.cost) ∧ OpMem w A0 A1 A2 o := by
  obtain ⟨ad, A0, c0, A1, c1, A2, c2, e, h0, h1, h2, h3, hm⟩ := h k _ (List.getElem?_eq_getElem hk)
  exact ⟨ad, ops[k], A0, c0, A1, c1, A2, c2, e, Lib.hid (List.getElem?_eq_getElem hk), (hb.cell (World.block_lt_of_cell? w _ h0)).trans h0, (hb.cell (World.block_lt_of_cell? w _ h1)).trans h1, (hb.cell (World.block_lt_of_cell? w _ h2)).trans h2, (hb.cell (World.block_lt_of_cell? w _ h3)).trans h3, hm⟩

/-- A task: the lists of its fields lie at three addresses. -/
structure TaskMem (w : World) (Ai Ag Ao : Option Addr) (t : TaskV) : Prop where
  init : Ints w Ai t.init
  goal : Ints w Ag t.goal
  ops : OpsAt w Ao t.ops
  linit : lenOk t.init.length
  lgoal : lenOk t.goal.length
  lops : lenOk t.ops.length
theorem TaskMem.below {w w' : World} {Ai Ag Ao : Option Addr} {t : TaskV} (h : TaskMem w Ai Ag Ao t) (hb : Below w.heap.size w w') : TaskMem w' Ai Ag Ao t :=
  ⟨h.init.below hb, h.goal.below hb, h.ops.below hb, h.linit, h.lgoal, h.lops⟩

end Go.Proofs.Ytiaokmofoaeifaa
