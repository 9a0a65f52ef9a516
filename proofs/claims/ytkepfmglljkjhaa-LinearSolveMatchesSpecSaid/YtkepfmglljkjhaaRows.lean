/-
  No cell of these rows narrows 'for every input' (looked for: loops, veiled, ifaces, maps, wideKeys, modest, calm, conditions, laid).
  DERIVED. THE GIVEN ROWS OF THIS SEAT. 7 by the template 'for every input the law returns true; each argument reads behind the call as it read before'; 0 by the template 'total and deterministic' (their statements: YtkepfmglljkjhaaTotals.lean).
  GIVEN WITH THE SEED: the statements are not yours to turn. If you find one false, say at which input.
  Laid BY PROGRAM, IN A SANDBOX (cutbox-rows.mjs): the forced cells as the released guide's own fill.sh prints them over the translation c56b6aa3bba1b0b8… (all of the seat's roots in one cut). By AI agents, Wed Nov 11 2026. No macro, syntax, notation, axiom, sorry.
-/
import Derived.Test.YtkepfmglljkjhaaChecked
import GoSem.Claim
import GoSem.ClaimJoined
import GoSem.ClaimMapViews
import Derived.JoinedTies
import Derived.KernelRfl
namespace Go.Proofs.Ytkepfmglljkjhaa
/- THE CELL 'sum', in the pinned program and in every row, IS THE sha256 OF THE DUMP (.gsa) THAT YtkepfmglljkjhaaProg.lean LOADS. Nothing in Lean hashes anything: it is a label: what it is worth is what the hold of that sum in a sandbox is worth. -/
noncomputable def Try.pinned : Pinned := { name := "ytkepfmglljkjhaa", sum := "c56b6aa3bba1b0b820b6e223d01044138eece234b72e3f09c97a441e6cc6cb48", checked := Try.checked }
namespace Rows
def none {H : Type} : Left H := { results := [], args := [] }

/-- 'helmsmanlaw3.LinearOrderIrrelevant': WHATEVER THE INPUT: true; the input reads as it did. -/
def linearOrderIrrelevantSpec : ChangeSpec := { name := "linearOrderIrrelevant", fn := fun _ => fun
  | [d1, d2, d3] => { results := [.lit (.bool true)], args := [d1, d2, d3] }
  | _ => none }
def linearOrderIrrelevantRow : OpenClaim := { program := "ytkepfmglljkjhaa", sum := "c56b6aa3bba1b0b820b6e223d01044138eece234b72e3f09c97a441e6cc6cb48", func := "helmsman/helmsmanlaw3.LinearOrderIrrelevant", spec := "linearOrderIrrelevant", apart := false }
def LinearOrderIrrelevantSaid : Prop := linearOrderIrrelevantRow.holds Try.pinned (OpenSpec.ofChange linearOrderIrrelevantSpec)

/-- ITS FALSE NEIGHBOUR: 'it returns false'. Refute it at one input. -/
def linearOrderIrrelevantWrong : ChangeSpec := { name := "linearOrderIrrelevant", fn := fun _ => fun
  | [d1, d2, d3] => { results := [.lit (.bool false)], args := [d1, d2, d3] }
  | _ => none }
def LinearOrderIrrelevantWrongFalsely : Prop := linearOrderIrrelevantRow.holds Try.pinned (OpenSpec.ofChange linearOrderIrrelevantWrong)

/-- 'helmsmanlaw3.LinearSolveMatchesSpec': WHATEVER THE INPUT: true; the input reads as it did. -/
def linearSolveMatchesSpecSpec : ChangeSpec := { name := "linearSolveMatchesSpec", fn := fun _ => fun
  | [d] => { results := [.lit (.bool true)], args := [d] }
  | _ => none }
def linearSolveMatchesSpecRow : OpenClaim := { program := "ytkepfmglljkjhaa", sum := "c56b6aa3bba1b0b820b6e223d01044138eece234b72e3f09c97a441e6cc6cb48", func := "helmsman/helmsmanlaw3.LinearSolveMatchesSpec", spec := "linearSolveMatchesSpec", apart := false }
def LinearSolveMatchesSpecSaid : Prop := linearSolveMatchesSpecRow.holds Try.pinned (OpenSpec.ofChange linearSolveMatchesSpecSpec)

/-- ITS FALSE NEIGHBOUR: 'it returns false'. Refute it at one input. -/
def linearSolveMatchesSpecWrong : ChangeSpec := { name := "linearSolveMatchesSpec", fn := fun _ => fun
  | [d] => { results := [.lit (.bool false)], args := [d] }
  | _ => none }
def LinearSolveMatchesSpecWrongFalsely : Prop := linearSolveMatchesSpecRow.holds Try.pinned (OpenSpec.ofChange linearSolveMatchesSpecWrong)

/-- 'helmsmanlaw3.LinearDualProgram': WHATEVER THE INPUT: true; the input reads as it did. -/
def linearDualProgramSpec : ChangeSpec := { name := "linearDualProgram", fn := fun _ => fun
  | [d] => { results := [.lit (.bool true)], args := [d] }
  | _ => none }
def linearDualProgramRow : OpenClaim := { program := "ytkepfmglljkjhaa", sum := "c56b6aa3bba1b0b820b6e223d01044138eece234b72e3f09c97a441e6cc6cb48", func := "helmsman/helmsmanlaw3.LinearDualProgram", spec := "linearDualProgram", apart := false }
def LinearDualProgramSaid : Prop := linearDualProgramRow.holds Try.pinned (OpenSpec.ofChange linearDualProgramSpec)

/-- ITS FALSE NEIGHBOUR: 'it returns false'. Refute it at one input. -/
def linearDualProgramWrong : ChangeSpec := { name := "linearDualProgram", fn := fun _ => fun
  | [d] => { results := [.lit (.bool false)], args := [d] }
  | _ => none }
def LinearDualProgramWrongFalsely : Prop := linearDualProgramRow.holds Try.pinned (OpenSpec.ofChange linearDualProgramWrong)

/-- 'helmsmanlaw3.LinearMoreRows': WHATEVER THE INPUT: true; the input reads as it did. -/
def linearMoreRowsSpec : ChangeSpec := { name := "linearMoreRows", fn := fun _ => fun
  | [d1, d2, d3] => { results := [.lit (.bool true)], args := [d1, d2, d3] }
  | _ => none }
def linearMoreRowsRow : OpenClaim := { program := "ytkepfmglljkjhaa", sum := "c56b6aa3bba1b0b820b6e223d01044138eece234b72e3f09c97a441e6cc6cb48", func := "helmsman/helmsmanlaw3.LinearMoreRows", spec := "linearMoreRows", apart := false }
def LinearMoreRowsSaid : Prop := linearMoreRowsRow.holds Try.pinned (OpenSpec.ofChange linearMoreRowsSpec)

/-- ITS FALSE NEIGHBOUR: 'it returns false'. Refute it at one input. -/
def linearMoreRowsWrong : ChangeSpec := { name := "linearMoreRows", fn := fun _ => fun
  | [d1, d2, d3] => { results := [.lit (.bool false)], args := [d1, d2, d3] }
  | _ => none }
def LinearMoreRowsWrongFalsely : Prop := linearMoreRowsRow.holds Try.pinned (OpenSpec.ofChange linearMoreRowsWrong)

/-- 'helmsmanlaw3.LinearNoBetterPoint': WHATEVER THE INPUT: true; the input reads as it did. -/
def linearNoBetterPointSpec : ChangeSpec := { name := "linearNoBetterPoint", fn := fun _ => fun
  | [d1, d2] => { results := [.lit (.bool true)], args := [d1, d2] }
  | _ => none }
def linearNoBetterPointRow : OpenClaim := { program := "ytkepfmglljkjhaa", sum := "c56b6aa3bba1b0b820b6e223d01044138eece234b72e3f09c97a441e6cc6cb48", func := "helmsman/helmsmanlaw3.LinearNoBetterPoint", spec := "linearNoBetterPoint", apart := false }
def LinearNoBetterPointSaid : Prop := linearNoBetterPointRow.holds Try.pinned (OpenSpec.ofChange linearNoBetterPointSpec)

/-- ITS FALSE NEIGHBOUR: 'it returns false'. Refute it at one input. -/
def linearNoBetterPointWrong : ChangeSpec := { name := "linearNoBetterPoint", fn := fun _ => fun
  | [d1, d2] => { results := [.lit (.bool false)], args := [d1, d2] }
  | _ => none }
def LinearNoBetterPointWrongFalsely : Prop := linearNoBetterPointRow.holds Try.pinned (OpenSpec.ofChange linearNoBetterPointWrong)

/-- 'helmsmanlaw3.LinearWeakDuality': WHATEVER THE INPUT: true; the input reads as it did. -/
def linearWeakDualitySpec : ChangeSpec := { name := "linearWeakDuality", fn := fun _ => fun
  | [d1, d2, d3] => { results := [.lit (.bool true)], args := [d1, d2, d3] }
  | _ => none }
def linearWeakDualityRow : OpenClaim := { program := "ytkepfmglljkjhaa", sum := "c56b6aa3bba1b0b820b6e223d01044138eece234b72e3f09c97a441e6cc6cb48", func := "helmsman/helmsmanlaw3.LinearWeakDuality", spec := "linearWeakDuality", apart := false }
def LinearWeakDualitySaid : Prop := linearWeakDualityRow.holds Try.pinned (OpenSpec.ofChange linearWeakDualitySpec)

/-- ITS FALSE NEIGHBOUR: 'it returns false'. Refute it at one input. -/
def linearWeakDualityWrong : ChangeSpec := { name := "linearWeakDuality", fn := fun _ => fun
  | [d1, d2, d3] => { results := [.lit (.bool false)], args := [d1, d2, d3] }
  | _ => none }
def LinearWeakDualityWrongFalsely : Prop := linearWeakDualityRow.holds Try.pinned (OpenSpec.ofChange linearWeakDualityWrong)

/-- 'helmsmanlaw3.LinearFeasibleMatchesSpec': WHATEVER THE INPUT: true; the input reads as it did. -/
def linearFeasibleMatchesSpecSpec : ChangeSpec := { name := "linearFeasibleMatchesSpec", fn := fun _ => fun
  | [d1, d2, d3] => { results := [.lit (.bool true)], args := [d1, d2, d3] }
  | _ => none }
def linearFeasibleMatchesSpecRow : OpenClaim := { program := "ytkepfmglljkjhaa", sum := "c56b6aa3bba1b0b820b6e223d01044138eece234b72e3f09c97a441e6cc6cb48", func := "helmsman/helmsmanlaw3.LinearFeasibleMatchesSpec", spec := "linearFeasibleMatchesSpec", apart := false }
def LinearFeasibleMatchesSpecSaid : Prop := linearFeasibleMatchesSpecRow.holds Try.pinned (OpenSpec.ofChange linearFeasibleMatchesSpecSpec)

/-- ITS FALSE NEIGHBOUR: 'it returns false'. Refute it at one input. -/
def linearFeasibleMatchesSpecWrong : ChangeSpec := { name := "linearFeasibleMatchesSpec", fn := fun _ => fun
  | [d1, d2, d3] => { results := [.lit (.bool false)], args := [d1, d2, d3] }
  | _ => none }
def LinearFeasibleMatchesSpecWrongFalsely : Prop := linearFeasibleMatchesSpecRow.holds Try.pinned (OpenSpec.ofChange linearFeasibleMatchesSpecWrong)

/- THE SECOND FORM. 'bulk': how many values and letters a reading holds, each counted each time it is reached (what is shared counts as often as it is met; a slice's spare places count too). A statement '..UptoSaid' is the law's where the arguments, and the package variables that the reading takes, are together of bulk at most 1048576: NARROWER than '..Said'. Prove '..Said' where nothing that the law and all that it calls make is longer than what came in: it says more and counts as full. Else prove '..UptoSaid'. A law counts once. -/
mutual
def uptoBulk {H : Type} : DataW H → Nat
  | .lit (.string bytes) => bytes.length + 1
  | .lit _ => 1
  | .nil => 1
  | .ptr d => uptoBulk d + 1
  | .slice elems spare => uptoBulkAll elems + uptoBulkAll spare + 1
  | .agg parts => uptoBulkAll parts + 1
  | .iface _ d => uptoBulk d + 1
  | .map entries => uptoBulkEntries entries + 1
  | .held _ => 1
def uptoBulkAll {H : Type} : List (DataW H) → Nat
  | [] => 0
  | d :: r => uptoBulk d + uptoBulkAll r
def uptoBulkEntries {H : Type} : List (Lit × DataW H) → Nat
  | [] => 0
  | x :: r => uptoBulkEntry x + uptoBulkEntries r
def uptoBulkEntry {H : Type} : Lit × DataW H → Nat
  | (.string bytes, d) => bytes.length + uptoBulk d + 1
  | (_, d) => uptoBulk d + 1
 end
def uptoSmall : (H : Type) → List (DataW H) → Bool := fun _ ds => decide (uptoBulkAll ds ≤ 1048576)
def OpenSpec.upto (s : _root_.Go.ChangeSpec) : _root_.Go.OpenSpec := { _root_.Go.OpenSpec.ofChange s with cond := some uptoSmall }

/-- 'helmsmanlaw3.LinearOrderIrrelevant', WHERE WHAT IT READS IS OF BULK AT MOST 1048576: true; the input reads as it did. -/
def linearOrderIrrelevantUptoRow : OpenClaim := { program := "ytkepfmglljkjhaa", sum := "c56b6aa3bba1b0b820b6e223d01044138eece234b72e3f09c97a441e6cc6cb48", func := "helmsman/helmsmanlaw3.LinearOrderIrrelevant", spec := "linearOrderIrrelevant", apart := false, narrowed := true }
def LinearOrderIrrelevantUptoSaid : Prop := linearOrderIrrelevantUptoRow.holds Try.pinned (OpenSpec.upto linearOrderIrrelevantSpec)

/-- 'helmsmanlaw3.LinearSolveMatchesSpec', WHERE WHAT IT READS IS OF BULK AT MOST 1048576: true; the input reads as it did. -/
def linearSolveMatchesSpecUptoRow : OpenClaim := { program := "ytkepfmglljkjhaa", sum := "c56b6aa3bba1b0b820b6e223d01044138eece234b72e3f09c97a441e6cc6cb48", func := "helmsman/helmsmanlaw3.LinearSolveMatchesSpec", spec := "linearSolveMatchesSpec", apart := false, narrowed := true }
def LinearSolveMatchesSpecUptoSaid : Prop := linearSolveMatchesSpecUptoRow.holds Try.pinned (OpenSpec.upto linearSolveMatchesSpecSpec)

/-- 'helmsmanlaw3.LinearDualProgram', WHERE WHAT IT READS IS OF BULK AT MOST 1048576: true; the input reads as it did. -/
def linearDualProgramUptoRow : OpenClaim := { program := "ytkepfmglljkjhaa", sum := "c56b6aa3bba1b0b820b6e223d01044138eece234b72e3f09c97a441e6cc6cb48", func := "helmsman/helmsmanlaw3.LinearDualProgram", spec := "linearDualProgram", apart := false, narrowed := true }
def LinearDualProgramUptoSaid : Prop := linearDualProgramUptoRow.holds Try.pinned (OpenSpec.upto linearDualProgramSpec)

/-- 'helmsmanlaw3.LinearMoreRows', WHERE WHAT IT READS IS OF BULK AT MOST 1048576: true; the input reads as it did. -/
def linearMoreRowsUptoRow : OpenClaim := { program := "ytkepfmglljkjhaa", sum := "c56b6aa3bba1b0b820b6e223d01044138eece234b72e3f09c97a441e6cc6cb48", func := "helmsman/helmsmanlaw3.LinearMoreRows", spec := "linearMoreRows", apart := false, narrowed := true }
def LinearMoreRowsUptoSaid : Prop := linearMoreRowsUptoRow.holds Try.pinned (OpenSpec.upto linearMoreRowsSpec)

/-- 'helmsmanlaw3.LinearNoBetterPoint', WHERE WHAT IT READS IS OF BULK AT MOST 1048576: true; the input reads as it did. -/
def linearNoBetterPointUptoRow : OpenClaim := { program := "ytkepfmglljkjhaa", sum := "c56b6aa3bba1b0b820b6e223d01044138eece234b72e3f09c97a441e6cc6cb48", func := "helmsman/helmsmanlaw3.LinearNoBetterPoint", spec := "linearNoBetterPoint", apart := false, narrowed := true }
def LinearNoBetterPointUptoSaid : Prop := linearNoBetterPointUptoRow.holds Try.pinned (OpenSpec.upto linearNoBetterPointSpec)

/-- 'helmsmanlaw3.LinearWeakDuality', WHERE WHAT IT READS IS OF BULK AT MOST 1048576: true; the input reads as it did. -/
def linearWeakDualityUptoRow : OpenClaim := { program := "ytkepfmglljkjhaa", sum := "c56b6aa3bba1b0b820b6e223d01044138eece234b72e3f09c97a441e6cc6cb48", func := "helmsman/helmsmanlaw3.LinearWeakDuality", spec := "linearWeakDuality", apart := false, narrowed := true }
def LinearWeakDualityUptoSaid : Prop := linearWeakDualityUptoRow.holds Try.pinned (OpenSpec.upto linearWeakDualitySpec)

/-- 'helmsmanlaw3.LinearFeasibleMatchesSpec', WHERE WHAT IT READS IS OF BULK AT MOST 1048576: true; the input reads as it did. -/
def linearFeasibleMatchesSpecUptoRow : OpenClaim := { program := "ytkepfmglljkjhaa", sum := "c56b6aa3bba1b0b820b6e223d01044138eece234b72e3f09c97a441e6cc6cb48", func := "helmsman/helmsmanlaw3.LinearFeasibleMatchesSpec", spec := "linearFeasibleMatchesSpec", apart := false, narrowed := true }
def LinearFeasibleMatchesSpecUptoSaid : Prop := linearFeasibleMatchesSpecUptoRow.holds Try.pinned (OpenSpec.upto linearFeasibleMatchesSpecSpec)

end Rows
end Go.Proofs.Ytkepfmglljkjhaa
