/-
  No cell of these rows narrows 'for every input' (looked for: loops, veiled, ifaces, maps, wideKeys, modest, calm, conditions, laid).
  DERIVED. THE GIVEN ROWS OF THIS SEAT. 7 by the template 'for every input the law returns true; each argument reads behind the call as it read before'; 0 by the template 'total and deterministic' (their statements: YtmlgaofbifejaaaTotals.lean).
  GIVEN WITH THE SEED: the statements are not yours to turn. If you find one false, say at which input.
  Laid BY PROGRAM, IN A SANDBOX (cutbox-rows.mjs): the forced cells as the released guide's own fill.sh prints them over the translation 987dd32911dc6e52… (all of the seat's roots in one cut). By AI agents, Wed Nov 11 2026. No macro, syntax, notation, axiom, sorry.
-/
import Derived.Test.YtmlgaofbifejaaaChecked
import GoSem.Claim
import GoSem.ClaimJoined
import GoSem.ClaimMapViews
import Derived.JoinedTies
import Derived.KernelRfl
namespace Go.Proofs.Ytmlgaofbifejaaa
/- THE CELL 'sum', in the pinned program and in every row, IS THE sha256 OF THE DUMP (.gsa) THAT YtmlgaofbifejaaaProg.lean LOADS. Nothing in Lean hashes anything: it is a label: what it is worth is what the hold of that sum in a sandbox is worth. -/
noncomputable def Try.pinned : Pinned := { name := "ytmlgaofbifejaaa", sum := "987dd32911dc6e52686456cd51613d70608c31626b20be7198406f0d31ebb250", checked := Try.checked }
namespace Rows
def none {H : Type} : Left H := { results := [], args := [] }

/-- 'helmsmanlaw3.FractionCancels': WHATEVER THE INPUT: true; the input reads as it did. -/
def fractionCancelsSpec : ChangeSpec := { name := "fractionCancels", fn := fun _ => fun
  | [d1, d2, d3] => { results := [.lit (.bool true)], args := [d1, d2, d3] }
  | _ => none }
def fractionCancelsRow : OpenClaim := { program := "ytmlgaofbifejaaa", sum := "987dd32911dc6e52686456cd51613d70608c31626b20be7198406f0d31ebb250", func := "helmsman/helmsmanlaw3.FractionCancels", spec := "fractionCancels", apart := false }
def FractionCancelsSaid : Prop := fractionCancelsRow.holds Try.pinned (OpenSpec.ofChange fractionCancelsSpec)

/-- ITS FALSE NEIGHBOUR: 'it returns false'. Refute it at one input. -/
def fractionCancelsWrong : ChangeSpec := { name := "fractionCancels", fn := fun _ => fun
  | [d1, d2, d3] => { results := [.lit (.bool false)], args := [d1, d2, d3] }
  | _ => none }
def FractionCancelsWrongFalsely : Prop := fractionCancelsRow.holds Try.pinned (OpenSpec.ofChange fractionCancelsWrong)

/-- 'helmsmanlaw3.FractionMakeMatchesSpec': WHATEVER THE INPUT: true; the input reads as it did. -/
def fractionMakeMatchesSpecSpec : ChangeSpec := { name := "fractionMakeMatchesSpec", fn := fun _ => fun
  | [d1, d2] => { results := [.lit (.bool true)], args := [d1, d2] }
  | _ => none }
def fractionMakeMatchesSpecRow : OpenClaim := { program := "ytmlgaofbifejaaa", sum := "987dd32911dc6e52686456cd51613d70608c31626b20be7198406f0d31ebb250", func := "helmsman/helmsmanlaw3.FractionMakeMatchesSpec", spec := "fractionMakeMatchesSpec", apart := false }
def FractionMakeMatchesSpecSaid : Prop := fractionMakeMatchesSpecRow.holds Try.pinned (OpenSpec.ofChange fractionMakeMatchesSpecSpec)

/-- ITS FALSE NEIGHBOUR: 'it returns false'. Refute it at one input. -/
def fractionMakeMatchesSpecWrong : ChangeSpec := { name := "fractionMakeMatchesSpec", fn := fun _ => fun
  | [d1, d2] => { results := [.lit (.bool false)], args := [d1, d2] }
  | _ => none }
def FractionMakeMatchesSpecWrongFalsely : Prop := fractionMakeMatchesSpecRow.holds Try.pinned (OpenSpec.ofChange fractionMakeMatchesSpecWrong)

/-- 'helmsmanlaw3.FractionRing': WHATEVER THE INPUT: true; the input reads as it did. -/
def fractionRingSpec : ChangeSpec := { name := "fractionRing", fn := fun _ => fun
  | [d1, d2, d3] => { results := [.lit (.bool true)], args := [d1, d2, d3] }
  | _ => none }
def fractionRingRow : OpenClaim := { program := "ytmlgaofbifejaaa", sum := "987dd32911dc6e52686456cd51613d70608c31626b20be7198406f0d31ebb250", func := "helmsman/helmsmanlaw3.FractionRing", spec := "fractionRing", apart := false }
def FractionRingSaid : Prop := fractionRingRow.holds Try.pinned (OpenSpec.ofChange fractionRingSpec)

/-- ITS FALSE NEIGHBOUR: 'it returns false'. Refute it at one input. -/
def fractionRingWrong : ChangeSpec := { name := "fractionRing", fn := fun _ => fun
  | [d1, d2, d3] => { results := [.lit (.bool false)], args := [d1, d2, d3] }
  | _ => none }
def FractionRingWrongFalsely : Prop := fractionRingRow.holds Try.pinned (OpenSpec.ofChange fractionRingWrong)

/-- 'helmsmanlaw3.FractionInverse': WHATEVER THE INPUT: true; the input reads as it did. -/
def fractionInverseSpec : ChangeSpec := { name := "fractionInverse", fn := fun _ => fun
  | [d1, d2] => { results := [.lit (.bool true)], args := [d1, d2] }
  | _ => none }
def fractionInverseRow : OpenClaim := { program := "ytmlgaofbifejaaa", sum := "987dd32911dc6e52686456cd51613d70608c31626b20be7198406f0d31ebb250", func := "helmsman/helmsmanlaw3.FractionInverse", spec := "fractionInverse", apart := false }
def FractionInverseSaid : Prop := fractionInverseRow.holds Try.pinned (OpenSpec.ofChange fractionInverseSpec)

/-- ITS FALSE NEIGHBOUR: 'it returns false'. Refute it at one input. -/
def fractionInverseWrong : ChangeSpec := { name := "fractionInverse", fn := fun _ => fun
  | [d1, d2] => { results := [.lit (.bool false)], args := [d1, d2] }
  | _ => none }
def FractionInverseWrongFalsely : Prop := fractionInverseRow.holds Try.pinned (OpenSpec.ofChange fractionInverseWrong)

/-- 'helmsmanlaw3.FractionOrder': WHATEVER THE INPUT: true; the input reads as it did. -/
def fractionOrderSpec : ChangeSpec := { name := "fractionOrder", fn := fun _ => fun
  | [d1, d2, d3] => { results := [.lit (.bool true)], args := [d1, d2, d3] }
  | _ => none }
def fractionOrderRow : OpenClaim := { program := "ytmlgaofbifejaaa", sum := "987dd32911dc6e52686456cd51613d70608c31626b20be7198406f0d31ebb250", func := "helmsman/helmsmanlaw3.FractionOrder", spec := "fractionOrder", apart := false }
def FractionOrderSaid : Prop := fractionOrderRow.holds Try.pinned (OpenSpec.ofChange fractionOrderSpec)

/-- ITS FALSE NEIGHBOUR: 'it returns false'. Refute it at one input. -/
def fractionOrderWrong : ChangeSpec := { name := "fractionOrder", fn := fun _ => fun
  | [d1, d2, d3] => { results := [.lit (.bool false)], args := [d1, d2, d3] }
  | _ => none }
def FractionOrderWrongFalsely : Prop := fractionOrderRow.holds Try.pinned (OpenSpec.ofChange fractionOrderWrong)

/-- 'helmsmanlaw3.FractionFloorBounds': WHATEVER THE INPUT: true; the input reads as it did. -/
def fractionFloorBoundsSpec : ChangeSpec := { name := "fractionFloorBounds", fn := fun _ => fun
  | [d] => { results := [.lit (.bool true)], args := [d] }
  | _ => none }
def fractionFloorBoundsRow : OpenClaim := { program := "ytmlgaofbifejaaa", sum := "987dd32911dc6e52686456cd51613d70608c31626b20be7198406f0d31ebb250", func := "helmsman/helmsmanlaw3.FractionFloorBounds", spec := "fractionFloorBounds", apart := false }
def FractionFloorBoundsSaid : Prop := fractionFloorBoundsRow.holds Try.pinned (OpenSpec.ofChange fractionFloorBoundsSpec)

/-- ITS FALSE NEIGHBOUR: 'it returns false'. Refute it at one input. -/
def fractionFloorBoundsWrong : ChangeSpec := { name := "fractionFloorBounds", fn := fun _ => fun
  | [d] => { results := [.lit (.bool false)], args := [d] }
  | _ => none }
def FractionFloorBoundsWrongFalsely : Prop := fractionFloorBoundsRow.holds Try.pinned (OpenSpec.ofChange fractionFloorBoundsWrong)

/-- 'helmsmanlaw3.FractionArithmeticMatchesSpec': WHATEVER THE INPUT: true; the input reads as it did. -/
def fractionArithmeticMatchesSpecSpec : ChangeSpec := { name := "fractionArithmeticMatchesSpec", fn := fun _ => fun
  | [d1, d2] => { results := [.lit (.bool true)], args := [d1, d2] }
  | _ => none }
def fractionArithmeticMatchesSpecRow : OpenClaim := { program := "ytmlgaofbifejaaa", sum := "987dd32911dc6e52686456cd51613d70608c31626b20be7198406f0d31ebb250", func := "helmsman/helmsmanlaw3.FractionArithmeticMatchesSpec", spec := "fractionArithmeticMatchesSpec", recurses := true, apart := false }
def FractionArithmeticMatchesSpecSaid : Prop := fractionArithmeticMatchesSpecRow.holds Try.pinned (OpenSpec.ofChange fractionArithmeticMatchesSpecSpec)

/-- ITS FALSE NEIGHBOUR: 'it returns false'. Refute it at one input. -/
def fractionArithmeticMatchesSpecWrong : ChangeSpec := { name := "fractionArithmeticMatchesSpec", fn := fun _ => fun
  | [d1, d2] => { results := [.lit (.bool false)], args := [d1, d2] }
  | _ => none }
def FractionArithmeticMatchesSpecWrongFalsely : Prop := fractionArithmeticMatchesSpecRow.holds Try.pinned (OpenSpec.ofChange fractionArithmeticMatchesSpecWrong)

/- THE SECOND FORM. 'bulk': how many values and letters a reading holds, each counted each time it is reached (what is shared counts as often as it is met; a slice's spare places count too). A statement '..UptoSaid' is the law's where the arguments, and the package variables that the reading takes, are together of bulk at most 1048576: NARROWER than '..Said'. Prove '..Said' where nothing that the law and all that it calls make is longer than what came in: it says more and counts as full. Else prove '..UptoSaid'. A law counts once. -/
mutual
def uptoBulk {H : Type} : DataW H → Nat
  | .lit (.string bytes) => bytes.length + 1
  | .lit _ => 1
  | .nil => 1
  | .ptr d => uptoBulk d + 1
  | .slice elems spare => uptoBulkAll elems + uptoBulkAll spare + 1
  | .agg parts => uptoBulkAll parts + 1
  | .iface _ d => uptoBulk d + 1
  | .map entries => uptoBulkEntries entries + 1
  | .held _ => 1
def uptoBulkAll {H : Type} : List (DataW H) → Nat
  | [] => 0
  | d :: r => uptoBulk d + uptoBulkAll r
def uptoBulkEntries {H : Type} : List (Lit × DataW H) → Nat
  | [] => 0
  | x :: r => uptoBulkEntry x + uptoBulkEntries r
def uptoBulkEntry {H : Type} : Lit × DataW H → Nat
  | (.string bytes, d) => bytes.length + uptoBulk d + 1
  | (_, d) => uptoBulk d + 1
 end
def uptoSmall : (H : Type) → List (DataW H) → Bool := fun _ ds => decide (uptoBulkAll ds ≤ 1048576)
def OpenSpec.upto (s : _root_.Go.ChangeSpec) : _root_.Go.OpenSpec := { _root_.Go.OpenSpec.ofChange s with cond := some uptoSmall }

/-- 'helmsmanlaw3.FractionCancels', WHERE WHAT IT READS IS OF BULK AT MOST 1048576: true; the input reads as it did. -/
def fractionCancelsUptoRow : OpenClaim := { program := "ytmlgaofbifejaaa", sum := "987dd32911dc6e52686456cd51613d70608c31626b20be7198406f0d31ebb250", func := "helmsman/helmsmanlaw3.FractionCancels", spec := "fractionCancels", apart := false, narrowed := true }
def FractionCancelsUptoSaid : Prop := fractionCancelsUptoRow.holds Try.pinned (OpenSpec.upto fractionCancelsSpec)

/-- 'helmsmanlaw3.FractionMakeMatchesSpec', WHERE WHAT IT READS IS OF BULK AT MOST 1048576: true; the input reads as it did. -/
def fractionMakeMatchesSpecUptoRow : OpenClaim := { program := "ytmlgaofbifejaaa", sum := "987dd32911dc6e52686456cd51613d70608c31626b20be7198406f0d31ebb250", func := "helmsman/helmsmanlaw3.FractionMakeMatchesSpec", spec := "fractionMakeMatchesSpec", apart := false, narrowed := true }
def FractionMakeMatchesSpecUptoSaid : Prop := fractionMakeMatchesSpecUptoRow.holds Try.pinned (OpenSpec.upto fractionMakeMatchesSpecSpec)

/-- 'helmsmanlaw3.FractionRing', WHERE WHAT IT READS IS OF BULK AT MOST 1048576: true; the input reads as it did. -/
def fractionRingUptoRow : OpenClaim := { program := "ytmlgaofbifejaaa", sum := "987dd32911dc6e52686456cd51613d70608c31626b20be7198406f0d31ebb250", func := "helmsman/helmsmanlaw3.FractionRing", spec := "fractionRing", apart := false, narrowed := true }
def FractionRingUptoSaid : Prop := fractionRingUptoRow.holds Try.pinned (OpenSpec.upto fractionRingSpec)

/-- 'helmsmanlaw3.FractionInverse', WHERE WHAT IT READS IS OF BULK AT MOST 1048576: true; the input reads as it did. -/
def fractionInverseUptoRow : OpenClaim := { program := "ytmlgaofbifejaaa", sum := "987dd32911dc6e52686456cd51613d70608c31626b20be7198406f0d31ebb250", func := "helmsman/helmsmanlaw3.FractionInverse", spec := "fractionInverse", apart := false, narrowed := true }
def FractionInverseUptoSaid : Prop := fractionInverseUptoRow.holds Try.pinned (OpenSpec.upto fractionInverseSpec)

/-- 'helmsmanlaw3.FractionOrder', WHERE WHAT IT READS IS OF BULK AT MOST 1048576: true; the input reads as it did. -/
def fractionOrderUptoRow : OpenClaim := { program := "ytmlgaofbifejaaa", sum := "987dd32911dc6e52686456cd51613d70608c31626b20be7198406f0d31ebb250", func := "helmsman/helmsmanlaw3.FractionOrder", spec := "fractionOrder", apart := false, narrowed := true }
def FractionOrderUptoSaid : Prop := fractionOrderUptoRow.holds Try.pinned (OpenSpec.upto fractionOrderSpec)

/-- 'helmsmanlaw3.FractionFloorBounds', WHERE WHAT IT READS IS OF BULK AT MOST 1048576: true; the input reads as it did. -/
def fractionFloorBoundsUptoRow : OpenClaim := { program := "ytmlgaofbifejaaa", sum := "987dd32911dc6e52686456cd51613d70608c31626b20be7198406f0d31ebb250", func := "helmsman/helmsmanlaw3.FractionFloorBounds", spec := "fractionFloorBounds", apart := false, narrowed := true }
def FractionFloorBoundsUptoSaid : Prop := fractionFloorBoundsUptoRow.holds Try.pinned (OpenSpec.upto fractionFloorBoundsSpec)

/-- 'helmsmanlaw3.FractionArithmeticMatchesSpec', WHERE WHAT IT READS IS OF BULK AT MOST 1048576: true; the input reads as it did. -/
def fractionArithmeticMatchesSpecUptoRow : OpenClaim := { program := "ytmlgaofbifejaaa", sum := "987dd32911dc6e52686456cd51613d70608c31626b20be7198406f0d31ebb250", func := "helmsman/helmsmanlaw3.FractionArithmeticMatchesSpec", spec := "fractionArithmeticMatchesSpec", recurses := true, apart := false, narrowed := true }
def FractionArithmeticMatchesSpecUptoSaid : Prop := fractionArithmeticMatchesSpecUptoRow.holds Try.pinned (OpenSpec.upto fractionArithmeticMatchesSpecSpec)

end Rows
end Go.Proofs.Ytmlgaofbifejaaa
