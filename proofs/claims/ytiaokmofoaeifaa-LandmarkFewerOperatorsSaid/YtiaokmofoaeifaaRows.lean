/-
  No cell of these rows narrows 'for every input' (looked for: loops, veiled, ifaces, maps, wideKeys, modest, calm, conditions, laid).
  DERIVED. THE GIVEN ROWS OF THIS SEAT. 14 by the template 'for every input the law returns true; each argument reads behind the call as it read before'; 0 by the template 'total and deterministic' (their statements: YtiaokmofoaeifaaTotals.lean).
  GIVEN WITH THE SEED: the statements are not yours to turn. If you find one false, say at which input.
  Laid BY PROGRAM, IN A SANDBOX (cutbox-rows.mjs): the forced cells as the released guide's own fill.sh prints them over the translation cc175e57af09d4d7… (all of the seat's roots in one cut). By AI agents, Wed Nov 11 2026. No macro, syntax, notation, axiom, sorry.
-/
import Derived.Test.YtiaokmofoaeifaaChecked
import GoSem.Claim
import GoSem.ClaimJoined
import GoSem.ClaimMapViews
import Derived.JoinedTies
import Derived.KernelRfl
namespace Go.Proofs.Ytiaokmofoaeifaa
/- THE CELL 'sum', in the pinned program and in every row, IS THE sha256 OF THE DUMP (.gsa) THAT YtiaokmofoaeifaaProg.lean LOADS. Nothing in Lean hashes anything: it is a label: what it is worth is what the hold of that sum in a sandbox is worth. -/
noncomputable def Try.pinned : Pinned := { name := "ytiaokmofoaeifaa", sum := "cc175e57af09d4d738b819b9c91f6099ddd02ea8e9d2c3c503e5f2facc415daa", checked := Try.checked }
namespace Rows
def none {H : Type} : Left H := { results := [], args := [] }

/-- 'helmsmanlaw3.RelaxedMaxAdmissible': WHATEVER THE INPUT: true; the input reads as it did. -/
def relaxedMaxAdmissibleSpec : ChangeSpec := { name := "relaxedMaxAdmissible", fn := fun _ => fun
  | [d1, d2] => { results := [.lit (.bool true)], args := [d1, d2] }
  | _ => none }
def relaxedMaxAdmissibleRow : OpenClaim := { program := "ytiaokmofoaeifaa", sum := "cc175e57af09d4d738b819b9c91f6099ddd02ea8e9d2c3c503e5f2facc415daa", func := "helmsman/helmsmanlaw3.RelaxedMaxAdmissible", spec := "relaxedMaxAdmissible", unfollowed := true, recurses := true, apart := false }
def RelaxedMaxAdmissibleSaid : Prop := relaxedMaxAdmissibleRow.holds Try.pinned (OpenSpec.ofChange relaxedMaxAdmissibleSpec)

/-- ITS FALSE NEIGHBOUR: 'it returns false'. Refute it at one input. -/
def relaxedMaxAdmissibleWrong : ChangeSpec := { name := "relaxedMaxAdmissible", fn := fun _ => fun
  | [d1, d2] => { results := [.lit (.bool false)], args := [d1, d2] }
  | _ => none }
def RelaxedMaxAdmissibleWrongFalsely : Prop := relaxedMaxAdmissibleRow.holds Try.pinned (OpenSpec.ofChange relaxedMaxAdmissibleWrong)

/-- 'helmsmanlaw3.RelaxedIgnoresDeletions': WHATEVER THE INPUT: true; the input reads as it did. -/
def relaxedIgnoresDeletionsSpec : ChangeSpec := { name := "relaxedIgnoresDeletions", fn := fun _ => fun
  | [d1, d2] => { results := [.lit (.bool true)], args := [d1, d2] }
  | _ => none }
def relaxedIgnoresDeletionsRow : OpenClaim := { program := "ytiaokmofoaeifaa", sum := "cc175e57af09d4d738b819b9c91f6099ddd02ea8e9d2c3c503e5f2facc415daa", func := "helmsman/helmsmanlaw3.RelaxedIgnoresDeletions", spec := "relaxedIgnoresDeletions", unfollowed := true, recurses := true, apart := false }
def RelaxedIgnoresDeletionsSaid : Prop := relaxedIgnoresDeletionsRow.holds Try.pinned (OpenSpec.ofChange relaxedIgnoresDeletionsSpec)

/-- ITS FALSE NEIGHBOUR: 'it returns false'. Refute it at one input. -/
def relaxedIgnoresDeletionsWrong : ChangeSpec := { name := "relaxedIgnoresDeletions", fn := fun _ => fun
  | [d1, d2] => { results := [.lit (.bool false)], args := [d1, d2] }
  | _ => none }
def RelaxedIgnoresDeletionsWrongFalsely : Prop := relaxedIgnoresDeletionsRow.holds Try.pinned (OpenSpec.ofChange relaxedIgnoresDeletionsWrong)

/-- 'helmsmanlaw3.LandmarkFewerOperators': WHATEVER THE INPUT: true; the input reads as it did. -/
def landmarkFewerOperatorsSpec : ChangeSpec := { name := "landmarkFewerOperators", fn := fun _ => fun
  | [d1, d2] => { results := [.lit (.bool true)], args := [d1, d2] }
  | _ => none }
def landmarkFewerOperatorsRow : OpenClaim := { program := "ytiaokmofoaeifaa", sum := "cc175e57af09d4d738b819b9c91f6099ddd02ea8e9d2c3c503e5f2facc415daa", func := "helmsman/helmsmanlaw3.LandmarkFewerOperators", spec := "landmarkFewerOperators", unfollowed := true, recurses := true, apart := false }
def LandmarkFewerOperatorsSaid : Prop := landmarkFewerOperatorsRow.holds Try.pinned (OpenSpec.ofChange landmarkFewerOperatorsSpec)

/-- ITS FALSE NEIGHBOUR: 'it returns false'. Refute it at one input. -/
def landmarkFewerOperatorsWrong : ChangeSpec := { name := "landmarkFewerOperators", fn := fun _ => fun
  | [d1, d2] => { results := [.lit (.bool false)], args := [d1, d2] }
  | _ => none }
def LandmarkFewerOperatorsWrongFalsely : Prop := landmarkFewerOperatorsRow.holds Try.pinned (OpenSpec.ofChange landmarkFewerOperatorsWrong)

/-- 'helmsmanlaw3.RelaxedFewerOperators': WHATEVER THE INPUT: true; the input reads as it did. -/
def relaxedFewerOperatorsSpec : ChangeSpec := { name := "relaxedFewerOperators", fn := fun _ => fun
  | [d1, d2, d3] => { results := [.lit (.bool true)], args := [d1, d2, d3] }
  | _ => none }
def relaxedFewerOperatorsRow : OpenClaim := { program := "ytiaokmofoaeifaa", sum := "cc175e57af09d4d738b819b9c91f6099ddd02ea8e9d2c3c503e5f2facc415daa", func := "helmsman/helmsmanlaw3.RelaxedFewerOperators", spec := "relaxedFewerOperators", unfollowed := true, recurses := true, apart := false }
def RelaxedFewerOperatorsSaid : Prop := relaxedFewerOperatorsRow.holds Try.pinned (OpenSpec.ofChange relaxedFewerOperatorsSpec)

/-- ITS FALSE NEIGHBOUR: 'it returns false'. Refute it at one input. -/
def relaxedFewerOperatorsWrong : ChangeSpec := { name := "relaxedFewerOperators", fn := fun _ => fun
  | [d1, d2, d3] => { results := [.lit (.bool false)], args := [d1, d2, d3] }
  | _ => none }
def RelaxedFewerOperatorsWrongFalsely : Prop := relaxedFewerOperatorsRow.holds Try.pinned (OpenSpec.ofChange relaxedFewerOperatorsWrong)

/-- 'helmsmanlaw3.PairsValuesMatchesSpec': WHATEVER THE INPUT: true; the input reads as it did. -/
def pairsValuesMatchesSpecSpec : ChangeSpec := { name := "pairsValuesMatchesSpec", fn := fun _ => fun
  | [d1, d2] => { results := [.lit (.bool true)], args := [d1, d2] }
  | _ => none }
def pairsValuesMatchesSpecRow : OpenClaim := { program := "ytiaokmofoaeifaa", sum := "cc175e57af09d4d738b819b9c91f6099ddd02ea8e9d2c3c503e5f2facc415daa", func := "helmsman/helmsmanlaw3.PairsValuesMatchesSpec", spec := "pairsValuesMatchesSpec", unfollowed := true, recurses := true, apart := false }
def PairsValuesMatchesSpecSaid : Prop := pairsValuesMatchesSpecRow.holds Try.pinned (OpenSpec.ofChange pairsValuesMatchesSpecSpec)

/-- ITS FALSE NEIGHBOUR: 'it returns false'. Refute it at one input. -/
def pairsValuesMatchesSpecWrong : ChangeSpec := { name := "pairsValuesMatchesSpec", fn := fun _ => fun
  | [d1, d2] => { results := [.lit (.bool false)], args := [d1, d2] }
  | _ => none }
def PairsValuesMatchesSpecWrongFalsely : Prop := pairsValuesMatchesSpecRow.holds Try.pinned (OpenSpec.ofChange pairsValuesMatchesSpecWrong)

/-- 'helmsmanlaw3.PairsConsistent': WHATEVER THE INPUT: true; the input reads as it did. -/
def pairsConsistentSpec : ChangeSpec := { name := "pairsConsistent", fn := fun _ => fun
  | [d1, d2, d3] => { results := [.lit (.bool true)], args := [d1, d2, d3] }
  | _ => none }
def pairsConsistentRow : OpenClaim := { program := "ytiaokmofoaeifaa", sum := "cc175e57af09d4d738b819b9c91f6099ddd02ea8e9d2c3c503e5f2facc415daa", func := "helmsman/helmsmanlaw3.PairsConsistent", spec := "pairsConsistent", unfollowed := true, recurses := true, apart := false }
def PairsConsistentSaid : Prop := pairsConsistentRow.holds Try.pinned (OpenSpec.ofChange pairsConsistentSpec)

/-- ITS FALSE NEIGHBOUR: 'it returns false'. Refute it at one input. -/
def pairsConsistentWrong : ChangeSpec := { name := "pairsConsistent", fn := fun _ => fun
  | [d1, d2, d3] => { results := [.lit (.bool false)], args := [d1, d2, d3] }
  | _ => none }
def PairsConsistentWrongFalsely : Prop := pairsConsistentRow.holds Try.pinned (OpenSpec.ofChange pairsConsistentWrong)

/-- 'helmsmanlaw3.RelaxedMaxConsistent': WHATEVER THE INPUT: true; the input reads as it did. -/
def relaxedMaxConsistentSpec : ChangeSpec := { name := "relaxedMaxConsistent", fn := fun _ => fun
  | [d1, d2, d3] => { results := [.lit (.bool true)], args := [d1, d2, d3] }
  | _ => none }
def relaxedMaxConsistentRow : OpenClaim := { program := "ytiaokmofoaeifaa", sum := "cc175e57af09d4d738b819b9c91f6099ddd02ea8e9d2c3c503e5f2facc415daa", func := "helmsman/helmsmanlaw3.RelaxedMaxConsistent", spec := "relaxedMaxConsistent", unfollowed := true, recurses := true, apart := false }
def RelaxedMaxConsistentSaid : Prop := relaxedMaxConsistentRow.holds Try.pinned (OpenSpec.ofChange relaxedMaxConsistentSpec)

/-- ITS FALSE NEIGHBOUR: 'it returns false'. Refute it at one input. -/
def relaxedMaxConsistentWrong : ChangeSpec := { name := "relaxedMaxConsistent", fn := fun _ => fun
  | [d1, d2, d3] => { results := [.lit (.bool false)], args := [d1, d2, d3] }
  | _ => none }
def RelaxedMaxConsistentWrongFalsely : Prop := relaxedMaxConsistentRow.holds Try.pinned (OpenSpec.ofChange relaxedMaxConsistentWrong)

/-- 'helmsmanlaw3.PairsUnreachable': WHATEVER THE INPUT: true; the input reads as it did. -/
def pairsUnreachableSpec : ChangeSpec := { name := "pairsUnreachable", fn := fun _ => fun
  | [d] => { results := [.lit (.bool true)], args := [d] }
  | _ => none }
def pairsUnreachableRow : OpenClaim := { program := "ytiaokmofoaeifaa", sum := "cc175e57af09d4d738b819b9c91f6099ddd02ea8e9d2c3c503e5f2facc415daa", func := "helmsman/helmsmanlaw3.PairsUnreachable", spec := "pairsUnreachable", unfollowed := true, recurses := true, apart := false }
def PairsUnreachableSaid : Prop := pairsUnreachableRow.holds Try.pinned (OpenSpec.ofChange pairsUnreachableSpec)

/-- ITS FALSE NEIGHBOUR: 'it returns false'. Refute it at one input. -/
def pairsUnreachableWrong : ChangeSpec := { name := "pairsUnreachable", fn := fun _ => fun
  | [d] => { results := [.lit (.bool false)], args := [d] }
  | _ => none }
def PairsUnreachableWrongFalsely : Prop := pairsUnreachableRow.holds Try.pinned (OpenSpec.ofChange pairsUnreachableWrong)

/-- 'helmsmanlaw3.PairsAdmissible': WHATEVER THE INPUT: true; the input reads as it did. -/
def pairsAdmissibleSpec : ChangeSpec := { name := "pairsAdmissible", fn := fun _ => fun
  | [d1, d2] => { results := [.lit (.bool true)], args := [d1, d2] }
  | _ => none }
def pairsAdmissibleRow : OpenClaim := { program := "ytiaokmofoaeifaa", sum := "cc175e57af09d4d738b819b9c91f6099ddd02ea8e9d2c3c503e5f2facc415daa", func := "helmsman/helmsmanlaw3.PairsAdmissible", spec := "pairsAdmissible", unfollowed := true, recurses := true, apart := false }
def PairsAdmissibleSaid : Prop := pairsAdmissibleRow.holds Try.pinned (OpenSpec.ofChange pairsAdmissibleSpec)

/-- ITS FALSE NEIGHBOUR: 'it returns false'. Refute it at one input. -/
def pairsAdmissibleWrong : ChangeSpec := { name := "pairsAdmissible", fn := fun _ => fun
  | [d1, d2] => { results := [.lit (.bool false)], args := [d1, d2] }
  | _ => none }
def PairsAdmissibleWrongFalsely : Prop := pairsAdmissibleRow.holds Try.pinned (OpenSpec.ofChange pairsAdmissibleWrong)

/-- 'helmsmanlaw3.PairsSymmetric': WHATEVER THE INPUT: true; the input reads as it did. -/
def pairsSymmetricSpec : ChangeSpec := { name := "pairsSymmetric", fn := fun _ => fun
  | [d1, d2] => { results := [.lit (.bool true)], args := [d1, d2] }
  | _ => none }
def pairsSymmetricRow : OpenClaim := { program := "ytiaokmofoaeifaa", sum := "cc175e57af09d4d738b819b9c91f6099ddd02ea8e9d2c3c503e5f2facc415daa", func := "helmsman/helmsmanlaw3.PairsSymmetric", spec := "pairsSymmetric", unfollowed := true, recurses := true, apart := false }
def PairsSymmetricSaid : Prop := pairsSymmetricRow.holds Try.pinned (OpenSpec.ofChange pairsSymmetricSpec)

/-- ITS FALSE NEIGHBOUR: 'it returns false'. Refute it at one input. -/
def pairsSymmetricWrong : ChangeSpec := { name := "pairsSymmetric", fn := fun _ => fun
  | [d1, d2] => { results := [.lit (.bool false)], args := [d1, d2] }
  | _ => none }
def PairsSymmetricWrongFalsely : Prop := pairsSymmetricRow.holds Try.pinned (OpenSpec.ofChange pairsSymmetricWrong)

/-- 'helmsmanlaw3.PairsNeverTogether': WHATEVER THE INPUT: true; the input reads as it did. -/
def pairsNeverTogetherSpec : ChangeSpec := { name := "pairsNeverTogether", fn := fun _ => fun
  | [d1, d2] => { results := [.lit (.bool true)], args := [d1, d2] }
  | _ => none }
def pairsNeverTogetherRow : OpenClaim := { program := "ytiaokmofoaeifaa", sum := "cc175e57af09d4d738b819b9c91f6099ddd02ea8e9d2c3c503e5f2facc415daa", func := "helmsman/helmsmanlaw3.PairsNeverTogether", spec := "pairsNeverTogether", unfollowed := true, recurses := true, apart := false }
def PairsNeverTogetherSaid : Prop := pairsNeverTogetherRow.holds Try.pinned (OpenSpec.ofChange pairsNeverTogetherSpec)

/-- ITS FALSE NEIGHBOUR: 'it returns false'. Refute it at one input. -/
def pairsNeverTogetherWrong : ChangeSpec := { name := "pairsNeverTogether", fn := fun _ => fun
  | [d1, d2] => { results := [.lit (.bool false)], args := [d1, d2] }
  | _ => none }
def PairsNeverTogetherWrongFalsely : Prop := pairsNeverTogetherRow.holds Try.pinned (OpenSpec.ofChange pairsNeverTogetherWrong)

/-- 'helmsmanlaw3.LandmarkTrueInPlans': WHATEVER THE INPUT: true; the input reads as it did. -/
def landmarkTrueInPlansSpec : ChangeSpec := { name := "landmarkTrueInPlans", fn := fun _ => fun
  | [d1, d2] => { results := [.lit (.bool true)], args := [d1, d2] }
  | _ => none }
def landmarkTrueInPlansRow : OpenClaim := { program := "ytiaokmofoaeifaa", sum := "cc175e57af09d4d738b819b9c91f6099ddd02ea8e9d2c3c503e5f2facc415daa", func := "helmsman/helmsmanlaw3.LandmarkTrueInPlans", spec := "landmarkTrueInPlans", unfollowed := true, recurses := true, apart := false }
def LandmarkTrueInPlansSaid : Prop := landmarkTrueInPlansRow.holds Try.pinned (OpenSpec.ofChange landmarkTrueInPlansSpec)

/-- ITS FALSE NEIGHBOUR: 'it returns false'. Refute it at one input. -/
def landmarkTrueInPlansWrong : ChangeSpec := { name := "landmarkTrueInPlans", fn := fun _ => fun
  | [d1, d2] => { results := [.lit (.bool false)], args := [d1, d2] }
  | _ => none }
def LandmarkTrueInPlansWrongFalsely : Prop := landmarkTrueInPlansRow.holds Try.pinned (OpenSpec.ofChange landmarkTrueInPlansWrong)

/-- 'helmsmanlaw3.LandmarkOrdersHold': WHATEVER THE INPUT: true; the input reads as it did. -/
def landmarkOrdersHoldSpec : ChangeSpec := { name := "landmarkOrdersHold", fn := fun _ => fun
  | [d1, d2] => { results := [.lit (.bool true)], args := [d1, d2] }
  | _ => none }
def landmarkOrdersHoldRow : OpenClaim := { program := "ytiaokmofoaeifaa", sum := "cc175e57af09d4d738b819b9c91f6099ddd02ea8e9d2c3c503e5f2facc415daa", func := "helmsman/helmsmanlaw3.LandmarkOrdersHold", spec := "landmarkOrdersHold", unfollowed := true, recurses := true, apart := false }
def LandmarkOrdersHoldSaid : Prop := landmarkOrdersHoldRow.holds Try.pinned (OpenSpec.ofChange landmarkOrdersHoldSpec)

/-- ITS FALSE NEIGHBOUR: 'it returns false'. Refute it at one input. -/
def landmarkOrdersHoldWrong : ChangeSpec := { name := "landmarkOrdersHold", fn := fun _ => fun
  | [d1, d2] => { results := [.lit (.bool false)], args := [d1, d2] }
  | _ => none }
def LandmarkOrdersHoldWrongFalsely : Prop := landmarkOrdersHoldRow.holds Try.pinned (OpenSpec.ofChange landmarkOrdersHoldWrong)

/-- 'helmsmanlaw3.LmcutPlansContain': WHATEVER THE INPUT: true; the input reads as it did. -/
def lmcutPlansContainSpec : ChangeSpec := { name := "lmcutPlansContain", fn := fun _ => fun
  | [d1, d2] => { results := [.lit (.bool true)], args := [d1, d2] }
  | _ => none }
def lmcutPlansContainRow : OpenClaim := { program := "ytiaokmofoaeifaa", sum := "cc175e57af09d4d738b819b9c91f6099ddd02ea8e9d2c3c503e5f2facc415daa", func := "helmsman/helmsmanlaw3.LmcutPlansContain", spec := "lmcutPlansContain", unfollowed := true, recurses := true, apart := false }
def LmcutPlansContainSaid : Prop := lmcutPlansContainRow.holds Try.pinned (OpenSpec.ofChange lmcutPlansContainSpec)

/-- ITS FALSE NEIGHBOUR: 'it returns false'. Refute it at one input. -/
def lmcutPlansContainWrong : ChangeSpec := { name := "lmcutPlansContain", fn := fun _ => fun
  | [d1, d2] => { results := [.lit (.bool false)], args := [d1, d2] }
  | _ => none }
def LmcutPlansContainWrongFalsely : Prop := lmcutPlansContainRow.holds Try.pinned (OpenSpec.ofChange lmcutPlansContainWrong)

/- THE SECOND FORM. 'bulk': how many values and letters a reading holds, each counted each time it is reached (what is shared counts as often as it is met; a slice's spare places count too). A statement '..UptoSaid' is the law's where the arguments, and the package variables that the reading takes, are together of bulk at most 1048576: NARROWER than '..Said'. Prove '..Said' where nothing that the law and all that it calls make is longer than what came in: it says more and counts as full. Else prove '..UptoSaid'. A law counts once. -/
mutual
def uptoBulk {H : Type} : DataW H → Nat
  | .lit (.string bytes) => bytes.length + 1
  | .lit _ => 1
  | .nil => 1
  | .ptr d => uptoBulk d + 1
  | .slice elems spare => uptoBulkAll elems + uptoBulkAll spare + 1
  | .agg parts => uptoBulkAll parts + 1
  | .iface _ d => uptoBulk d + 1
  | .map entries => uptoBulkEntries entries + 1
  | .held _ => 1
def uptoBulkAll {H : Type} : List (DataW H) → Nat
  | [] => 0
  | d :: r => uptoBulk d + uptoBulkAll r
def uptoBulkEntries {H : Type} : List (Lit × DataW H) → Nat
  | [] => 0
  | x :: r => uptoBulkEntry x + uptoBulkEntries r
def uptoBulkEntry {H : Type} : Lit × DataW H → Nat
  | (.string bytes, d) => bytes.length + uptoBulk d + 1
  | (_, d) => uptoBulk d + 1
 end
def uptoSmall : (H : Type) → List (DataW H) → Bool := fun _ ds => decide (uptoBulkAll ds ≤ 1048576)
def OpenSpec.upto (s : _root_.Go.ChangeSpec) : _root_.Go.OpenSpec := { _root_.Go.OpenSpec.ofChange s with cond := some uptoSmall }

/-- 'helmsmanlaw3.RelaxedMaxAdmissible', WHERE WHAT IT READS IS OF BULK AT MOST 1048576: true; the input reads as it did. -/
def relaxedMaxAdmissibleUptoRow : OpenClaim := { program := "ytiaokmofoaeifaa", sum := "cc175e57af09d4d738b819b9c91f6099ddd02ea8e9d2c3c503e5f2facc415daa", func := "helmsman/helmsmanlaw3.RelaxedMaxAdmissible", spec := "relaxedMaxAdmissible", unfollowed := true, recurses := true, apart := false, narrowed := true }
def RelaxedMaxAdmissibleUptoSaid : Prop := relaxedMaxAdmissibleUptoRow.holds Try.pinned (OpenSpec.upto relaxedMaxAdmissibleSpec)

/-- 'helmsmanlaw3.RelaxedIgnoresDeletions', WHERE WHAT IT READS IS OF BULK AT MOST 1048576: true; the input reads as it did. -/
def relaxedIgnoresDeletionsUptoRow : OpenClaim := { program := "ytiaokmofoaeifaa", sum := "cc175e57af09d4d738b819b9c91f6099ddd02ea8e9d2c3c503e5f2facc415daa", func := "helmsman/helmsmanlaw3.RelaxedIgnoresDeletions", spec := "relaxedIgnoresDeletions", unfollowed := true, recurses := true, apart := false, narrowed := true }
def RelaxedIgnoresDeletionsUptoSaid : Prop := relaxedIgnoresDeletionsUptoRow.holds Try.pinned (OpenSpec.upto relaxedIgnoresDeletionsSpec)

/-- 'helmsmanlaw3.LandmarkFewerOperators', WHERE WHAT IT READS IS OF BULK AT MOST 1048576: true; the input reads as it did. -/
def landmarkFewerOperatorsUptoRow : OpenClaim := { program := "ytiaokmofoaeifaa", sum := "cc175e57af09d4d738b819b9c91f6099ddd02ea8e9d2c3c503e5f2facc415daa", func := "helmsman/helmsmanlaw3.LandmarkFewerOperators", spec := "landmarkFewerOperators", unfollowed := true, recurses := true, apart := false, narrowed := true }
def LandmarkFewerOperatorsUptoSaid : Prop := landmarkFewerOperatorsUptoRow.holds Try.pinned (OpenSpec.upto landmarkFewerOperatorsSpec)

/-- 'helmsmanlaw3.RelaxedFewerOperators', WHERE WHAT IT READS IS OF BULK AT MOST 1048576: true; the input reads as it did. -/
def relaxedFewerOperatorsUptoRow : OpenClaim := { program := "ytiaokmofoaeifaa", sum := "cc175e57af09d4d738b819b9c91f6099ddd02ea8e9d2c3c503e5f2facc415daa", func := "helmsman/helmsmanlaw3.RelaxedFewerOperators", spec := "relaxedFewerOperators", unfollowed := true, recurses := true, apart := false, narrowed := true }
def RelaxedFewerOperatorsUptoSaid : Prop := relaxedFewerOperatorsUptoRow.holds Try.pinned (OpenSpec.upto relaxedFewerOperatorsSpec)

/-- 'helmsmanlaw3.PairsValuesMatchesSpec', WHERE WHAT IT READS IS OF BULK AT MOST 1048576: true; the input reads as it did. -/
def pairsValuesMatchesSpecUptoRow : OpenClaim := { program := "ytiaokmofoaeifaa", sum := "cc175e57af09d4d738b819b9c91f6099ddd02ea8e9d2c3c503e5f2facc415daa", func := "helmsman/helmsmanlaw3.PairsValuesMatchesSpec", spec := "pairsValuesMatchesSpec", unfollowed := true, recurses := true, apart := false, narrowed := true }
def PairsValuesMatchesSpecUptoSaid : Prop := pairsValuesMatchesSpecUptoRow.holds Try.pinned (OpenSpec.upto pairsValuesMatchesSpecSpec)

/-- 'helmsmanlaw3.PairsConsistent', WHERE WHAT IT READS IS OF BULK AT MOST 1048576: true; the input reads as it did. -/
def pairsConsistentUptoRow : OpenClaim := { program := "ytiaokmofoaeifaa", sum := "cc175e57af09d4d738b819b9c91f6099ddd02ea8e9d2c3c503e5f2facc415daa", func := "helmsman/helmsmanlaw3.PairsConsistent", spec := "pairsConsistent", unfollowed := true, recurses := true, apart := false, narrowed := true }
def PairsConsistentUptoSaid : Prop := pairsConsistentUptoRow.holds Try.pinned (OpenSpec.upto pairsConsistentSpec)

/-- 'helmsmanlaw3.RelaxedMaxConsistent', WHERE WHAT IT READS IS OF BULK AT MOST 1048576: true; the input reads as it did. -/
def relaxedMaxConsistentUptoRow : OpenClaim := { program := "ytiaokmofoaeifaa", sum := "cc175e57af09d4d738b819b9c91f6099ddd02ea8e9d2c3c503e5f2facc415daa", func := "helmsman/helmsmanlaw3.RelaxedMaxConsistent", spec := "relaxedMaxConsistent", unfollowed := true, recurses := true, apart := false, narrowed := true }
def RelaxedMaxConsistentUptoSaid : Prop := relaxedMaxConsistentUptoRow.holds Try.pinned (OpenSpec.upto relaxedMaxConsistentSpec)

/-- 'helmsmanlaw3.PairsUnreachable', WHERE WHAT IT READS IS OF BULK AT MOST 1048576: true; the input reads as it did. -/
def pairsUnreachableUptoRow : OpenClaim := { program := "ytiaokmofoaeifaa", sum := "cc175e57af09d4d738b819b9c91f6099ddd02ea8e9d2c3c503e5f2facc415daa", func := "helmsman/helmsmanlaw3.PairsUnreachable", spec := "pairsUnreachable", unfollowed := true, recurses := true, apart := false, narrowed := true }
def PairsUnreachableUptoSaid : Prop := pairsUnreachableUptoRow.holds Try.pinned (OpenSpec.upto pairsUnreachableSpec)

/-- 'helmsmanlaw3.PairsAdmissible', WHERE WHAT IT READS IS OF BULK AT MOST 1048576: true; the input reads as it did. -/
def pairsAdmissibleUptoRow : OpenClaim := { program := "ytiaokmofoaeifaa", sum := "cc175e57af09d4d738b819b9c91f6099ddd02ea8e9d2c3c503e5f2facc415daa", func := "helmsman/helmsmanlaw3.PairsAdmissible", spec := "pairsAdmissible", unfollowed := true, recurses := true, apart := false, narrowed := true }
def PairsAdmissibleUptoSaid : Prop := pairsAdmissibleUptoRow.holds Try.pinned (OpenSpec.upto pairsAdmissibleSpec)

/-- 'helmsmanlaw3.PairsSymmetric', WHERE WHAT IT READS IS OF BULK AT MOST 1048576: true; the input reads as it did. -/
def pairsSymmetricUptoRow : OpenClaim := { program := "ytiaokmofoaeifaa", sum := "cc175e57af09d4d738b819b9c91f6099ddd02ea8e9d2c3c503e5f2facc415daa", func := "helmsman/helmsmanlaw3.PairsSymmetric", spec := "pairsSymmetric", unfollowed := true, recurses := true, apart := false, narrowed := true }
def PairsSymmetricUptoSaid : Prop := pairsSymmetricUptoRow.holds Try.pinned (OpenSpec.upto pairsSymmetricSpec)

/-- 'helmsmanlaw3.PairsNeverTogether', WHERE WHAT IT READS IS OF BULK AT MOST 1048576: true; the input reads as it did. -/
def pairsNeverTogetherUptoRow : OpenClaim := { program := "ytiaokmofoaeifaa", sum := "cc175e57af09d4d738b819b9c91f6099ddd02ea8e9d2c3c503e5f2facc415daa", func := "helmsman/helmsmanlaw3.PairsNeverTogether", spec := "pairsNeverTogether", unfollowed := true, recurses := true, apart := false, narrowed := true }
def PairsNeverTogetherUptoSaid : Prop := pairsNeverTogetherUptoRow.holds Try.pinned (OpenSpec.upto pairsNeverTogetherSpec)

/-- 'helmsmanlaw3.LandmarkTrueInPlans', WHERE WHAT IT READS IS OF BULK AT MOST 1048576: true; the input reads as it did. -/
def landmarkTrueInPlansUptoRow : OpenClaim := { program := "ytiaokmofoaeifaa", sum := "cc175e57af09d4d738b819b9c91f6099ddd02ea8e9d2c3c503e5f2facc415daa", func := "helmsman/helmsmanlaw3.LandmarkTrueInPlans", spec := "landmarkTrueInPlans", unfollowed := true, recurses := true, apart := false, narrowed := true }
def LandmarkTrueInPlansUptoSaid : Prop := landmarkTrueInPlansUptoRow.holds Try.pinned (OpenSpec.upto landmarkTrueInPlansSpec)

/-- 'helmsmanlaw3.LandmarkOrdersHold', WHERE WHAT IT READS IS OF BULK AT MOST 1048576: true; the input reads as it did. -/
def landmarkOrdersHoldUptoRow : OpenClaim := { program := "ytiaokmofoaeifaa", sum := "cc175e57af09d4d738b819b9c91f6099ddd02ea8e9d2c3c503e5f2facc415daa", func := "helmsman/helmsmanlaw3.LandmarkOrdersHold", spec := "landmarkOrdersHold", unfollowed := true, recurses := true, apart := false, narrowed := true }
def LandmarkOrdersHoldUptoSaid : Prop := landmarkOrdersHoldUptoRow.holds Try.pinned (OpenSpec.upto landmarkOrdersHoldSpec)

/-- 'helmsmanlaw3.LmcutPlansContain', WHERE WHAT IT READS IS OF BULK AT MOST 1048576: true; the input reads as it did. -/
def lmcutPlansContainUptoRow : OpenClaim := { program := "ytiaokmofoaeifaa", sum := "cc175e57af09d4d738b819b9c91f6099ddd02ea8e9d2c3c503e5f2facc415daa", func := "helmsman/helmsmanlaw3.LmcutPlansContain", spec := "lmcutPlansContain", unfollowed := true, recurses := true, apart := false, narrowed := true }
def LmcutPlansContainUptoSaid : Prop := lmcutPlansContainUptoRow.holds Try.pinned (OpenSpec.upto lmcutPlansContainSpec)

end Rows
end Go.Proofs.Ytiaokmofoaeifaa
