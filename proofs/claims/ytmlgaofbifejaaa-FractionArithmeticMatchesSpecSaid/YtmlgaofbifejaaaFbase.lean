/-
  Small words for the walks: what a call leaves of the cells that stood before it; results that lie in cells.
-/
import Derived.Test.YtmlgaofbifejaaaRows
import Derived.WalkKit
import Derived.WalkSpells
import Derived.WalkLawsBesides
import Derived.Lib.Hide
import Derived.Deep.QuietTactic
import Derived.BigQuiet
import Derived.IntWalk
import Derived.Deep.RegionWith
import Derived.StillTailTactics
namespace Go.Proofs.Ytmlgaofbifejaaa
open Go.RowKit
set_option linter.unusedVariables false
set_option linter.unusedSimpArgs false

theorem ret_int {k : IntKind} {a b : Int} (h : a = b) : Ending.returned (.int k a) = .returned (.int k b) := by rw [h]

/-- Cells that hold known values and can be written: block, place, value. -/
def Cls (w : World) : List (Nat × Nat × Value) → Prop
  | [] => True
  | (b, k, v) :: r => (w.cell? ⟨b, k, none⟩ = some v ∧ w.frozen? ⟨b, k, none⟩ = false) ∧ Cls w r
theorem Cls.below {w w' : World} {l : List (Nat × Nat × Value)} (hb : Below w.heap.size w w') (h : Cls w l) : Cls w' l := by
  induction l with
  | nil => trivial
  | cons x r ih =>
    obtain ⟨b, k, v⟩ := x
    obtain ⟨⟨h1, h2⟩, h3⟩ := h
    have hl := World.block_lt_of_cell? w ⟨b, k, none⟩ h1
    exact ⟨⟨(hb.cell hl).trans h1, (hb.frozen hl).trans h2⟩, ih h3⟩
theorem Cls.first {w w' : World} {l : List (Nat × Nat × Value)} (hb : Below w.heap.size w w') (h : Cls w l) : Cls w l ∧ Cls w' l := ⟨h, h.below hb⟩

theorem dstep {X w1 : World} (w : World) (hB : Below X.heap.size X w1) (h : Below w.heap.size w X) : Below w.heap.size w w1 := h.trans (hB.mono h.size)
theorem bstep {w0 w1 X w2 : World} (_b1 : Below w0.heap.size w0 w1) (hB : Below X.heap.size X w2) (h : Below w0.heap.size w0 X) : Below w0.heap.size w0 w2 := h.trans (hB.mono h.size)
theorem bdrew {B : Nat} {a w : World} (h : Below B a w) : Below B a w.drew := h.drew
theorem bdrewN {B : Nat} {a w : World} {n : Nat} (h : Below B a w) : Below B a (w.drewN n) := below_drewN h n
theorem balloc {a w : World} {o : Obj} (h : Below a.heap.size a w) : Below a.heap.size a (w.alloc o) := h.alloc h.size o
theorem bset {B : Nat} {a w : World} {p : Addr} (h : Below B a w) (hp : B ≤ p.block) (u : Value) : Below B a (w.setCell p u) := h.setCell hp u

/-- A store makes no cell and takes none away; a cell that was there holds what was stored. -/
theorem set_isSome (w : World) (a b : Addr) (v : Value) : ((w.setCell a v).cell? b).isSome = (w.cell? b).isSome := by
  by_cases e : a = b
  · subst e
    cases h : w.cell? a with
    | some u => rw [World.cell?_setCell_same w a v h]; rfl
    | none =>
      cases h2 : (w.setCell a v).cell? a with
      | none => rfl
      | some u =>
        exfalso
        unfold World.cell? World.setCell at h2
        unfold World.cell? at h
        simp only [Array.getElem?_modify, if_true] at h2
        cases hb : w.heap[a.block]? with
        | none => rw [hb] at h2; simp at h2
        | some o =>
          rw [hb] at h2 h
          cases o <;> simp_all
  · rw [World.cell?_setCell_other w a b v e]

theorem region_still_tail {P : Program} {id : Nat} {Q : Exit → Act → World → Prop} {a : Act} {w : World} {l : List Oper} (n : Nat) (hm : P.follows .mixedOrders = true) (hB : Region.lexTailB .any l.toArray n = true)
    (h : wpStill P l.toArray w.drew (fun a' => wpList P l.toArray Q (l.drop n) a' w.drew) (l.take n) a) : (Code.region id l.toArray true).wp P Q a w := wp_region_still_tail n hm hB h

end Go.Proofs.Ytmlgaofbifejaaa
