/-
  No cell of these rows narrows 'for every input' (looked for: loops, veiled, ifaces, maps, wideKeys, modest, calm, conditions, laid).
  DERIVED. THE GIVEN ROWS OF THIS SEAT. 12 by the template 'for every input the law returns true; each argument reads behind the call as it read before'; 0 by the template 'total and deterministic' (their statements: YthnhhohnjiigcaaTotals.lean).
  GIVEN WITH THE SEED: the statements are not yours to turn. If you find one false, say at which input.
  Laid BY PROGRAM, IN A SANDBOX (cutbox-rows.mjs): the forced cells as the released guide's own fill.sh prints them over the translation 3effe1dc40ed057b… (all of the seat's roots in one cut). By AI agents, Wed Nov 11 2026. No macro, syntax, notation, axiom, sorry.
-/
import Derived.Test.YthnhhohnjiigcaaChecked
import GoSem.Claim
import GoSem.ClaimJoined
import GoSem.ClaimMapViews
import Derived.JoinedTies
import Derived.KernelRfl
namespace Go.Proofs.Ythnhhohnjiigcaa
/- THE CELL 'sum', in the pinned program and in every row, IS THE sha256 OF THE DUMP (.gsa) THAT YthnhhohnjiigcaaProg.lean LOADS. Nothing in Lean hashes anything: it is a label: what it is worth is what the hold of that sum in a sandbox is worth. -/
noncomputable def Try.pinned : Pinned := { name := "ythnhhohnjiigcaa", sum := "3effe1dc40ed057bef92cd5e444cfa614305c6311c6e6c1e629a3dde19f8885e", checked := Try.checked }
namespace Rows
def none {H : Type} : Left H := { results := [], args := [] }

/-- 'helmsmanlaw3.LandmarkFactsMatchesSpec': WHATEVER THE INPUT: true; the input reads as it did. -/
def landmarkFactsMatchesSpecSpec : ChangeSpec := { name := "landmarkFactsMatchesSpec", fn := fun _ => fun
  | [d] => { results := [.lit (.bool true)], args := [d] }
  | _ => none }
def landmarkFactsMatchesSpecRow : OpenClaim := { program := "ythnhhohnjiigcaa", sum := "3effe1dc40ed057bef92cd5e444cfa614305c6311c6e6c1e629a3dde19f8885e", func := "helmsman/helmsmanlaw3.LandmarkFactsMatchesSpec", spec := "landmarkFactsMatchesSpec", unfollowed := true, recurses := true, apart := false }
def LandmarkFactsMatchesSpecSaid : Prop := landmarkFactsMatchesSpecRow.holds Try.pinned (OpenSpec.ofChange landmarkFactsMatchesSpecSpec)

/-- ITS FALSE NEIGHBOUR: 'it returns false'. Refute it at one input. -/
def landmarkFactsMatchesSpecWrong : ChangeSpec := { name := "landmarkFactsMatchesSpec", fn := fun _ => fun
  | [d] => { results := [.lit (.bool false)], args := [d] }
  | _ => none }
def LandmarkFactsMatchesSpecWrongFalsely : Prop := landmarkFactsMatchesSpecRow.holds Try.pinned (OpenSpec.ofChange landmarkFactsMatchesSpecWrong)

/-- 'helmsmanlaw3.LandmarkEnds': WHATEVER THE INPUT: true; the input reads as it did. -/
def landmarkEndsSpec : ChangeSpec := { name := "landmarkEnds", fn := fun _ => fun
  | [d] => { results := [.lit (.bool true)], args := [d] }
  | _ => none }
def landmarkEndsRow : OpenClaim := { program := "ythnhhohnjiigcaa", sum := "3effe1dc40ed057bef92cd5e444cfa614305c6311c6e6c1e629a3dde19f8885e", func := "helmsman/helmsmanlaw3.LandmarkEnds", spec := "landmarkEnds", unfollowed := true, recurses := true, apart := false }
def LandmarkEndsSaid : Prop := landmarkEndsRow.holds Try.pinned (OpenSpec.ofChange landmarkEndsSpec)

/-- ITS FALSE NEIGHBOUR: 'it returns false'. Refute it at one input. -/
def landmarkEndsWrong : ChangeSpec := { name := "landmarkEnds", fn := fun _ => fun
  | [d] => { results := [.lit (.bool false)], args := [d] }
  | _ => none }
def LandmarkEndsWrongFalsely : Prop := landmarkEndsRow.holds Try.pinned (OpenSpec.ofChange landmarkEndsWrong)

/-- 'helmsmanlaw3.LandmarkAchieversAreCuts': WHATEVER THE INPUT: true; the input reads as it did. -/
def landmarkAchieversAreCutsSpec : ChangeSpec := { name := "landmarkAchieversAreCuts", fn := fun _ => fun
  | [d] => { results := [.lit (.bool true)], args := [d] }
  | _ => none }
def landmarkAchieversAreCutsRow : OpenClaim := { program := "ythnhhohnjiigcaa", sum := "3effe1dc40ed057bef92cd5e444cfa614305c6311c6e6c1e629a3dde19f8885e", func := "helmsman/helmsmanlaw3.LandmarkAchieversAreCuts", spec := "landmarkAchieversAreCuts", unfollowed := true, recurses := true, apart := false }
def LandmarkAchieversAreCutsSaid : Prop := landmarkAchieversAreCutsRow.holds Try.pinned (OpenSpec.ofChange landmarkAchieversAreCutsSpec)

/-- ITS FALSE NEIGHBOUR: 'it returns false'. Refute it at one input. -/
def landmarkAchieversAreCutsWrong : ChangeSpec := { name := "landmarkAchieversAreCuts", fn := fun _ => fun
  | [d] => { results := [.lit (.bool false)], args := [d] }
  | _ => none }
def LandmarkAchieversAreCutsWrongFalsely : Prop := landmarkAchieversAreCutsRow.holds Try.pinned (OpenSpec.ofChange landmarkAchieversAreCutsWrong)

/-- 'helmsmanlaw3.RelaxedMaxMatchesSpec': WHATEVER THE INPUT: true; the input reads as it did. -/
def relaxedMaxMatchesSpecSpec : ChangeSpec := { name := "relaxedMaxMatchesSpec", fn := fun _ => fun
  | [d1, d2] => { results := [.lit (.bool true)], args := [d1, d2] }
  | _ => none }
def relaxedMaxMatchesSpecRow : OpenClaim := { program := "ythnhhohnjiigcaa", sum := "3effe1dc40ed057bef92cd5e444cfa614305c6311c6e6c1e629a3dde19f8885e", func := "helmsman/helmsmanlaw3.RelaxedMaxMatchesSpec", spec := "relaxedMaxMatchesSpec", unfollowed := true, recurses := true, apart := false }
def RelaxedMaxMatchesSpecSaid : Prop := relaxedMaxMatchesSpecRow.holds Try.pinned (OpenSpec.ofChange relaxedMaxMatchesSpecSpec)

/-- ITS FALSE NEIGHBOUR: 'it returns false'. Refute it at one input. -/
def relaxedMaxMatchesSpecWrong : ChangeSpec := { name := "relaxedMaxMatchesSpec", fn := fun _ => fun
  | [d1, d2] => { results := [.lit (.bool false)], args := [d1, d2] }
  | _ => none }
def RelaxedMaxMatchesSpecWrongFalsely : Prop := relaxedMaxMatchesSpecRow.holds Try.pinned (OpenSpec.ofChange relaxedMaxMatchesSpecWrong)

/-- 'helmsmanlaw3.RelaxedMaxAdmissible': WHATEVER THE INPUT: true; the input reads as it did. -/
def relaxedMaxAdmissibleSpec : ChangeSpec := { name := "relaxedMaxAdmissible", fn := fun _ => fun
  | [d1, d2] => { results := [.lit (.bool true)], args := [d1, d2] }
  | _ => none }
def relaxedMaxAdmissibleRow : OpenClaim := { program := "ythnhhohnjiigcaa", sum := "3effe1dc40ed057bef92cd5e444cfa614305c6311c6e6c1e629a3dde19f8885e", func := "helmsman/helmsmanlaw3.RelaxedMaxAdmissible", spec := "relaxedMaxAdmissible", unfollowed := true, recurses := true, apart := false }
def RelaxedMaxAdmissibleSaid : Prop := relaxedMaxAdmissibleRow.holds Try.pinned (OpenSpec.ofChange relaxedMaxAdmissibleSpec)

/-- ITS FALSE NEIGHBOUR: 'it returns false'. Refute it at one input. -/
def relaxedMaxAdmissibleWrong : ChangeSpec := { name := "relaxedMaxAdmissible", fn := fun _ => fun
  | [d1, d2] => { results := [.lit (.bool false)], args := [d1, d2] }
  | _ => none }
def RelaxedMaxAdmissibleWrongFalsely : Prop := relaxedMaxAdmissibleRow.holds Try.pinned (OpenSpec.ofChange relaxedMaxAdmissibleWrong)

/-- 'helmsmanlaw3.RelaxedAddAtLeastMax': WHATEVER THE INPUT: true; the input reads as it did. -/
def relaxedAddAtLeastMaxSpec : ChangeSpec := { name := "relaxedAddAtLeastMax", fn := fun _ => fun
  | [d1, d2] => { results := [.lit (.bool true)], args := [d1, d2] }
  | _ => none }
def relaxedAddAtLeastMaxRow : OpenClaim := { program := "ythnhhohnjiigcaa", sum := "3effe1dc40ed057bef92cd5e444cfa614305c6311c6e6c1e629a3dde19f8885e", func := "helmsman/helmsmanlaw3.RelaxedAddAtLeastMax", spec := "relaxedAddAtLeastMax", unfollowed := true, recurses := true, apart := false }
def RelaxedAddAtLeastMaxSaid : Prop := relaxedAddAtLeastMaxRow.holds Try.pinned (OpenSpec.ofChange relaxedAddAtLeastMaxSpec)

/-- ITS FALSE NEIGHBOUR: 'it returns false'. Refute it at one input. -/
def relaxedAddAtLeastMaxWrong : ChangeSpec := { name := "relaxedAddAtLeastMax", fn := fun _ => fun
  | [d1, d2] => { results := [.lit (.bool false)], args := [d1, d2] }
  | _ => none }
def RelaxedAddAtLeastMaxWrongFalsely : Prop := relaxedAddAtLeastMaxRow.holds Try.pinned (OpenSpec.ofChange relaxedAddAtLeastMaxWrong)

/-- 'helmsmanlaw3.RelaxedMoreFacts': WHATEVER THE INPUT: true; the input reads as it did. -/
def relaxedMoreFactsSpec : ChangeSpec := { name := "relaxedMoreFacts", fn := fun _ => fun
  | [d1, d2, d3] => { results := [.lit (.bool true)], args := [d1, d2, d3] }
  | _ => none }
def relaxedMoreFactsRow : OpenClaim := { program := "ythnhhohnjiigcaa", sum := "3effe1dc40ed057bef92cd5e444cfa614305c6311c6e6c1e629a3dde19f8885e", func := "helmsman/helmsmanlaw3.RelaxedMoreFacts", spec := "relaxedMoreFacts", unfollowed := true, recurses := true, apart := false }
def RelaxedMoreFactsSaid : Prop := relaxedMoreFactsRow.holds Try.pinned (OpenSpec.ofChange relaxedMoreFactsSpec)

/-- ITS FALSE NEIGHBOUR: 'it returns false'. Refute it at one input. -/
def relaxedMoreFactsWrong : ChangeSpec := { name := "relaxedMoreFacts", fn := fun _ => fun
  | [d1, d2, d3] => { results := [.lit (.bool false)], args := [d1, d2, d3] }
  | _ => none }
def RelaxedMoreFactsWrongFalsely : Prop := relaxedMoreFactsRow.holds Try.pinned (OpenSpec.ofChange relaxedMoreFactsWrong)

/-- 'helmsmanlaw3.RelaxedIgnoresDeletions': WHATEVER THE INPUT: true; the input reads as it did. -/
def relaxedIgnoresDeletionsSpec : ChangeSpec := { name := "relaxedIgnoresDeletions", fn := fun _ => fun
  | [d1, d2] => { results := [.lit (.bool true)], args := [d1, d2] }
  | _ => none }
def relaxedIgnoresDeletionsRow : OpenClaim := { program := "ythnhhohnjiigcaa", sum := "3effe1dc40ed057bef92cd5e444cfa614305c6311c6e6c1e629a3dde19f8885e", func := "helmsman/helmsmanlaw3.RelaxedIgnoresDeletions", spec := "relaxedIgnoresDeletions", unfollowed := true, recurses := true, apart := false }
def RelaxedIgnoresDeletionsSaid : Prop := relaxedIgnoresDeletionsRow.holds Try.pinned (OpenSpec.ofChange relaxedIgnoresDeletionsSpec)

/-- ITS FALSE NEIGHBOUR: 'it returns false'. Refute it at one input. -/
def relaxedIgnoresDeletionsWrong : ChangeSpec := { name := "relaxedIgnoresDeletions", fn := fun _ => fun
  | [d1, d2] => { results := [.lit (.bool false)], args := [d1, d2] }
  | _ => none }
def RelaxedIgnoresDeletionsWrongFalsely : Prop := relaxedIgnoresDeletionsRow.holds Try.pinned (OpenSpec.ofChange relaxedIgnoresDeletionsWrong)

/-- 'helmsmanlaw3.LandmarkFewerOperators': WHATEVER THE INPUT: true; the input reads as it did. -/
def landmarkFewerOperatorsSpec : ChangeSpec := { name := "landmarkFewerOperators", fn := fun _ => fun
  | [d1, d2] => { results := [.lit (.bool true)], args := [d1, d2] }
  | _ => none }
def landmarkFewerOperatorsRow : OpenClaim := { program := "ythnhhohnjiigcaa", sum := "3effe1dc40ed057bef92cd5e444cfa614305c6311c6e6c1e629a3dde19f8885e", func := "helmsman/helmsmanlaw3.LandmarkFewerOperators", spec := "landmarkFewerOperators", unfollowed := true, recurses := true, apart := false }
def LandmarkFewerOperatorsSaid : Prop := landmarkFewerOperatorsRow.holds Try.pinned (OpenSpec.ofChange landmarkFewerOperatorsSpec)

/-- ITS FALSE NEIGHBOUR: 'it returns false'. Refute it at one input. -/
def landmarkFewerOperatorsWrong : ChangeSpec := { name := "landmarkFewerOperators", fn := fun _ => fun
  | [d1, d2] => { results := [.lit (.bool false)], args := [d1, d2] }
  | _ => none }
def LandmarkFewerOperatorsWrongFalsely : Prop := landmarkFewerOperatorsRow.holds Try.pinned (OpenSpec.ofChange landmarkFewerOperatorsWrong)

/-- 'helmsmanlaw3.LmcutCutsMatchesSpec': WHATEVER THE INPUT: true; the input reads as it did. -/
def lmcutCutsMatchesSpecSpec : ChangeSpec := { name := "lmcutCutsMatchesSpec", fn := fun _ => fun
  | [d1, d2] => { results := [.lit (.bool true)], args := [d1, d2] }
  | _ => none }
def lmcutCutsMatchesSpecRow : OpenClaim := { program := "ythnhhohnjiigcaa", sum := "3effe1dc40ed057bef92cd5e444cfa614305c6311c6e6c1e629a3dde19f8885e", func := "helmsman/helmsmanlaw3.LmcutCutsMatchesSpec", spec := "lmcutCutsMatchesSpec", unfollowed := true, recurses := true, apart := false }
def LmcutCutsMatchesSpecSaid : Prop := lmcutCutsMatchesSpecRow.holds Try.pinned (OpenSpec.ofChange lmcutCutsMatchesSpecSpec)

/-- ITS FALSE NEIGHBOUR: 'it returns false'. Refute it at one input. -/
def lmcutCutsMatchesSpecWrong : ChangeSpec := { name := "lmcutCutsMatchesSpec", fn := fun _ => fun
  | [d1, d2] => { results := [.lit (.bool false)], args := [d1, d2] }
  | _ => none }
def LmcutCutsMatchesSpecWrongFalsely : Prop := lmcutCutsMatchesSpecRow.holds Try.pinned (OpenSpec.ofChange lmcutCutsMatchesSpecWrong)

/-- 'helmsmanlaw3.RelaxedFewerOperators': WHATEVER THE INPUT: true; the input reads as it did. -/
def relaxedFewerOperatorsSpec : ChangeSpec := { name := "relaxedFewerOperators", fn := fun _ => fun
  | [d1, d2, d3] => { results := [.lit (.bool true)], args := [d1, d2, d3] }
  | _ => none }
def relaxedFewerOperatorsRow : OpenClaim := { program := "ythnhhohnjiigcaa", sum := "3effe1dc40ed057bef92cd5e444cfa614305c6311c6e6c1e629a3dde19f8885e", func := "helmsman/helmsmanlaw3.RelaxedFewerOperators", spec := "relaxedFewerOperators", unfollowed := true, recurses := true, apart := false }
def RelaxedFewerOperatorsSaid : Prop := relaxedFewerOperatorsRow.holds Try.pinned (OpenSpec.ofChange relaxedFewerOperatorsSpec)

/-- ITS FALSE NEIGHBOUR: 'it returns false'. Refute it at one input. -/
def relaxedFewerOperatorsWrong : ChangeSpec := { name := "relaxedFewerOperators", fn := fun _ => fun
  | [d1, d2, d3] => { results := [.lit (.bool false)], args := [d1, d2, d3] }
  | _ => none }
def RelaxedFewerOperatorsWrongFalsely : Prop := relaxedFewerOperatorsRow.holds Try.pinned (OpenSpec.ofChange relaxedFewerOperatorsWrong)

/-- 'helmsmanlaw3.LmcutGoalStates': WHATEVER THE INPUT: true; the input reads as it did. -/
def lmcutGoalStatesSpec : ChangeSpec := { name := "lmcutGoalStates", fn := fun _ => fun
  | [d1, d2] => { results := [.lit (.bool true)], args := [d1, d2] }
  | _ => none }
def lmcutGoalStatesRow : OpenClaim := { program := "ythnhhohnjiigcaa", sum := "3effe1dc40ed057bef92cd5e444cfa614305c6311c6e6c1e629a3dde19f8885e", func := "helmsman/helmsmanlaw3.LmcutGoalStates", spec := "lmcutGoalStates", unfollowed := true, recurses := true, apart := false }
def LmcutGoalStatesSaid : Prop := lmcutGoalStatesRow.holds Try.pinned (OpenSpec.ofChange lmcutGoalStatesSpec)

/-- ITS FALSE NEIGHBOUR: 'it returns false'. Refute it at one input. -/
def lmcutGoalStatesWrong : ChangeSpec := { name := "lmcutGoalStates", fn := fun _ => fun
  | [d1, d2] => { results := [.lit (.bool false)], args := [d1, d2] }
  | _ => none }
def LmcutGoalStatesWrongFalsely : Prop := lmcutGoalStatesRow.holds Try.pinned (OpenSpec.ofChange lmcutGoalStatesWrong)

/- THE SECOND FORM. 'bulk': how many values and letters a reading holds, each counted each time it is reached (what is shared counts as often as it is met; a slice's spare places count too). A statement '..UptoSaid' is the law's where the arguments, and the package variables that the reading takes, are together of bulk at most 1048576: NARROWER than '..Said'. Prove '..Said' where nothing that the law and all that it calls make is longer than what came in: it says more and counts as full. Else prove '..UptoSaid'. A law counts once. -/
mutual
def uptoBulk {H : Type} : DataW H → Nat
  | .lit (.string bytes) => bytes.length + 1
  | .lit _ => 1
  | .nil => 1
  | .ptr d => uptoBulk d + 1
  | .slice elems spare => uptoBulkAll elems + uptoBulkAll spare + 1
  | .agg parts => uptoBulkAll parts + 1
  | .iface _ d => uptoBulk d + 1
  | .map entries => uptoBulkEntries entries + 1
  | .held _ => 1
def uptoBulkAll {H : Type} : List (DataW H) → Nat
  | [] => 0
  | d :: r => uptoBulk d + uptoBulkAll r
def uptoBulkEntries {H : Type} : List (Lit × DataW H) → Nat
  | [] => 0
  | x :: r => uptoBulkEntry x + uptoBulkEntries r
def uptoBulkEntry {H : Type} : Lit × DataW H → Nat
  | (.string bytes, d) => bytes.length + uptoBulk d + 1
  | (_, d) => uptoBulk d + 1
 end
def uptoSmall : (H : Type) → List (DataW H) → Bool := fun _ ds => decide (uptoBulkAll ds ≤ 1048576)
def OpenSpec.upto (s : _root_.Go.ChangeSpec) : _root_.Go.OpenSpec := { _root_.Go.OpenSpec.ofChange s with cond := some uptoSmall }

/-- 'helmsmanlaw3.LandmarkFactsMatchesSpec', WHERE WHAT IT READS IS OF BULK AT MOST 1048576: true; the input reads as it did. -/
def landmarkFactsMatchesSpecUptoRow : OpenClaim := { program := "ythnhhohnjiigcaa", sum := "3effe1dc40ed057bef92cd5e444cfa614305c6311c6e6c1e629a3dde19f8885e", func := "helmsman/helmsmanlaw3.LandmarkFactsMatchesSpec", spec := "landmarkFactsMatchesSpec", unfollowed := true, recurses := true, apart := false, narrowed := true }
def LandmarkFactsMatchesSpecUptoSaid : Prop := landmarkFactsMatchesSpecUptoRow.holds Try.pinned (OpenSpec.upto landmarkFactsMatchesSpecSpec)

/-- 'helmsmanlaw3.LandmarkEnds', WHERE WHAT IT READS IS OF BULK AT MOST 1048576: true; the input reads as it did. -/
def landmarkEndsUptoRow : OpenClaim := { program := "ythnhhohnjiigcaa", sum := "3effe1dc40ed057bef92cd5e444cfa614305c6311c6e6c1e629a3dde19f8885e", func := "helmsman/helmsmanlaw3.LandmarkEnds", spec := "landmarkEnds", unfollowed := true, recurses := true, apart := false, narrowed := true }
def LandmarkEndsUptoSaid : Prop := landmarkEndsUptoRow.holds Try.pinned (OpenSpec.upto landmarkEndsSpec)

/-- 'helmsmanlaw3.LandmarkAchieversAreCuts', WHERE WHAT IT READS IS OF BULK AT MOST 1048576: true; the input reads as it did. -/
def landmarkAchieversAreCutsUptoRow : OpenClaim := { program := "ythnhhohnjiigcaa", sum := "3effe1dc40ed057bef92cd5e444cfa614305c6311c6e6c1e629a3dde19f8885e", func := "helmsman/helmsmanlaw3.LandmarkAchieversAreCuts", spec := "landmarkAchieversAreCuts", unfollowed := true, recurses := true, apart := false, narrowed := true }
def LandmarkAchieversAreCutsUptoSaid : Prop := landmarkAchieversAreCutsUptoRow.holds Try.pinned (OpenSpec.upto landmarkAchieversAreCutsSpec)

/-- 'helmsmanlaw3.RelaxedMaxMatchesSpec', WHERE WHAT IT READS IS OF BULK AT MOST 1048576: true; the input reads as it did. -/
def relaxedMaxMatchesSpecUptoRow : OpenClaim := { program := "ythnhhohnjiigcaa", sum := "3effe1dc40ed057bef92cd5e444cfa614305c6311c6e6c1e629a3dde19f8885e", func := "helmsman/helmsmanlaw3.RelaxedMaxMatchesSpec", spec := "relaxedMaxMatchesSpec", unfollowed := true, recurses := true, apart := false, narrowed := true }
def RelaxedMaxMatchesSpecUptoSaid : Prop := relaxedMaxMatchesSpecUptoRow.holds Try.pinned (OpenSpec.upto relaxedMaxMatchesSpecSpec)

/-- 'helmsmanlaw3.RelaxedMaxAdmissible', WHERE WHAT IT READS IS OF BULK AT MOST 1048576: true; the input reads as it did. -/
def relaxedMaxAdmissibleUptoRow : OpenClaim := { program := "ythnhhohnjiigcaa", sum := "3effe1dc40ed057bef92cd5e444cfa614305c6311c6e6c1e629a3dde19f8885e", func := "helmsman/helmsmanlaw3.RelaxedMaxAdmissible", spec := "relaxedMaxAdmissible", unfollowed := true, recurses := true, apart := false, narrowed := true }
def RelaxedMaxAdmissibleUptoSaid : Prop := relaxedMaxAdmissibleUptoRow.holds Try.pinned (OpenSpec.upto relaxedMaxAdmissibleSpec)

/-- 'helmsmanlaw3.RelaxedAddAtLeastMax', WHERE WHAT IT READS IS OF BULK AT MOST 1048576: true; the input reads as it did. -/
def relaxedAddAtLeastMaxUptoRow : OpenClaim := { program := "ythnhhohnjiigcaa", sum := "3effe1dc40ed057bef92cd5e444cfa614305c6311c6e6c1e629a3dde19f8885e", func := "helmsman/helmsmanlaw3.RelaxedAddAtLeastMax", spec := "relaxedAddAtLeastMax", unfollowed := true, recurses := true, apart := false, narrowed := true }
def RelaxedAddAtLeastMaxUptoSaid : Prop := relaxedAddAtLeastMaxUptoRow.holds Try.pinned (OpenSpec.upto relaxedAddAtLeastMaxSpec)

/-- 'helmsmanlaw3.RelaxedMoreFacts', WHERE WHAT IT READS IS OF BULK AT MOST 1048576: true; the input reads as it did. -/
def relaxedMoreFactsUptoRow : OpenClaim := { program := "ythnhhohnjiigcaa", sum := "3effe1dc40ed057bef92cd5e444cfa614305c6311c6e6c1e629a3dde19f8885e", func := "helmsman/helmsmanlaw3.RelaxedMoreFacts", spec := "relaxedMoreFacts", unfollowed := true, recurses := true, apart := false, narrowed := true }
def RelaxedMoreFactsUptoSaid : Prop := relaxedMoreFactsUptoRow.holds Try.pinned (OpenSpec.upto relaxedMoreFactsSpec)

/-- 'helmsmanlaw3.RelaxedIgnoresDeletions', WHERE WHAT IT READS IS OF BULK AT MOST 1048576: true; the input reads as it did. -/
def relaxedIgnoresDeletionsUptoRow : OpenClaim := { program := "ythnhhohnjiigcaa", sum := "3effe1dc40ed057bef92cd5e444cfa614305c6311c6e6c1e629a3dde19f8885e", func := "helmsman/helmsmanlaw3.RelaxedIgnoresDeletions", spec := "relaxedIgnoresDeletions", unfollowed := true, recurses := true, apart := false, narrowed := true }
def RelaxedIgnoresDeletionsUptoSaid : Prop := relaxedIgnoresDeletionsUptoRow.holds Try.pinned (OpenSpec.upto relaxedIgnoresDeletionsSpec)

/-- 'helmsmanlaw3.LandmarkFewerOperators', WHERE WHAT IT READS IS OF BULK AT MOST 1048576: true; the input reads as it did. -/
def landmarkFewerOperatorsUptoRow : OpenClaim := { program := "ythnhhohnjiigcaa", sum := "3effe1dc40ed057bef92cd5e444cfa614305c6311c6e6c1e629a3dde19f8885e", func := "helmsman/helmsmanlaw3.LandmarkFewerOperators", spec := "landmarkFewerOperators", unfollowed := true, recurses := true, apart := false, narrowed := true }
def LandmarkFewerOperatorsUptoSaid : Prop := landmarkFewerOperatorsUptoRow.holds Try.pinned (OpenSpec.upto landmarkFewerOperatorsSpec)

/-- 'helmsmanlaw3.LmcutCutsMatchesSpec', WHERE WHAT IT READS IS OF BULK AT MOST 1048576: true; the input reads as it did. -/
def lmcutCutsMatchesSpecUptoRow : OpenClaim := { program := "ythnhhohnjiigcaa", sum := "3effe1dc40ed057bef92cd5e444cfa614305c6311c6e6c1e629a3dde19f8885e", func := "helmsman/helmsmanlaw3.LmcutCutsMatchesSpec", spec := "lmcutCutsMatchesSpec", unfollowed := true, recurses := true, apart := false, narrowed := true }
def LmcutCutsMatchesSpecUptoSaid : Prop := lmcutCutsMatchesSpecUptoRow.holds Try.pinned (OpenSpec.upto lmcutCutsMatchesSpecSpec)

/-- 'helmsmanlaw3.RelaxedFewerOperators', WHERE WHAT IT READS IS OF BULK AT MOST 1048576: true; the input reads as it did. -/
def relaxedFewerOperatorsUptoRow : OpenClaim := { program := "ythnhhohnjiigcaa", sum := "3effe1dc40ed057bef92cd5e444cfa614305c6311c6e6c1e629a3dde19f8885e", func := "helmsman/helmsmanlaw3.RelaxedFewerOperators", spec := "relaxedFewerOperators", unfollowed := true, recurses := true, apart := false, narrowed := true }
def RelaxedFewerOperatorsUptoSaid : Prop := relaxedFewerOperatorsUptoRow.holds Try.pinned (OpenSpec.upto relaxedFewerOperatorsSpec)

/-- 'helmsmanlaw3.LmcutGoalStates', WHERE WHAT IT READS IS OF BULK AT MOST 1048576: true; the input reads as it did. -/
def lmcutGoalStatesUptoRow : OpenClaim := { program := "ythnhhohnjiigcaa", sum := "3effe1dc40ed057bef92cd5e444cfa614305c6311c6e6c1e629a3dde19f8885e", func := "helmsman/helmsmanlaw3.LmcutGoalStates", spec := "lmcutGoalStates", unfollowed := true, recurses := true, apart := false, narrowed := true }
def LmcutGoalStatesUptoSaid : Prop := lmcutGoalStatesUptoRow.holds Try.pinned (OpenSpec.upto lmcutGoalStatesSpec)

end Rows
end Go.Proofs.Ythnhhohnjiigcaa
