/-
  slices.SortFunc over an own row of words.
-/
import Derived.Test.YtihkgdlanfemcaaY1
import Derived.Shelf.SlSortCmp.NoneTotal
namespace Go.Proofs.Ytihkgdlanfemcaa
open Go.RowKit Go.Shelf Go.Sort
set_option linter.unusedVariables false
set_option linter.unusedSimpArgs false

/-! ### A row whose elements are one cell each -/
/-- The element's cell is what it is encoded as. -/
def P1 {α : Type} (enc : α → Value) (w : World) (row : Option Nat) (cs : List Value) (x : α) : Prop := cs = [enc x]
theorem p1_stable {α : Type} (enc : α → Value) : Stable (P1 enc) := ⟨fun h _ => h, fun h _ => ⟨h, h⟩⟩
def Own1 {α : Type} (enc : α → Value) (e : TypeId) (base : Nat) (w : World) (v : Value) (xs : List α) : Prop := OwnEs (P1 enc) e 1 base w v xs
section
variable {α : Type} {enc : α → Value} {e : TypeId}
variable [Inhabited α]
end

end Go.Proofs.Ytihkgdlanfemcaa
