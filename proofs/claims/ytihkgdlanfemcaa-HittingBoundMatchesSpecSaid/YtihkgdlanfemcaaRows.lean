/-
  No cell of these rows narrows 'for every input' (looked for: loops, veiled, ifaces, maps, wideKeys, modest, calm, conditions, laid).
  DERIVED. THE GIVEN ROWS OF THIS SEAT. 14 by the template 'for every input the law returns true; each argument reads behind the call as it read before'; 0 by the template 'total and deterministic' (their statements: YtihkgdlanfemcaaTotals.lean).
  GIVEN WITH THE SEED: the statements are not yours to turn. If you find one false, say at which input.
  Laid BY PROGRAM, IN A SANDBOX (cutbox-rows.mjs): the forced cells as the released guide's own fill.sh prints them over the translation 2901e6fd2e92efba… (all of the seat's roots in one cut). By AI agents, Wed Nov 11 2026. No macro, syntax, notation, axiom, sorry.
-/
import Derived.Test.YtihkgdlanfemcaaChecked
import GoSem.Claim
import GoSem.ClaimJoined
import GoSem.ClaimMapViews
import Derived.JoinedTies
import Derived.KernelRfl
namespace Go.Proofs.Ytihkgdlanfemcaa
/- THE CELL 'sum', in the pinned program and in every row, IS THE sha256 OF THE DUMP (.gsa) THAT YtihkgdlanfemcaaProg.lean LOADS. Nothing in Lean hashes anything: it is a label: what it is worth is what the hold of that sum in a sandbox is worth. -/
noncomputable def Try.pinned : Pinned := { name := "ytihkgdlanfemcaa", sum := "2901e6fd2e92efba26b3e07a436a18d0bfefb99b6e7b48315866dd3ae183ae5d", checked := Try.checked }
namespace Rows
def none {H : Type} : Left H := { results := [], args := [] }

/-- 'helmsmanlaw3.PairsValuesMatchesSpec': WHATEVER THE INPUT: true; the input reads as it did. -/
def pairsValuesMatchesSpecSpec : ChangeSpec := { name := "pairsValuesMatchesSpec", fn := fun _ => fun
  | [d1, d2] => { results := [.lit (.bool true)], args := [d1, d2] }
  | _ => none }
def pairsValuesMatchesSpecRow : OpenClaim := { program := "ytihkgdlanfemcaa", sum := "2901e6fd2e92efba26b3e07a436a18d0bfefb99b6e7b48315866dd3ae183ae5d", func := "helmsman/helmsmanlaw3.PairsValuesMatchesSpec", spec := "pairsValuesMatchesSpec", unfollowed := true, recurses := true, apart := false }
def PairsValuesMatchesSpecSaid : Prop := pairsValuesMatchesSpecRow.holds Try.pinned (OpenSpec.ofChange pairsValuesMatchesSpecSpec)

/-- ITS FALSE NEIGHBOUR: 'it returns false'. Refute it at one input. -/
def pairsValuesMatchesSpecWrong : ChangeSpec := { name := "pairsValuesMatchesSpec", fn := fun _ => fun
  | [d1, d2] => { results := [.lit (.bool false)], args := [d1, d2] }
  | _ => none }
def PairsValuesMatchesSpecWrongFalsely : Prop := pairsValuesMatchesSpecRow.holds Try.pinned (OpenSpec.ofChange pairsValuesMatchesSpecWrong)

/-- 'helmsmanlaw3.RelaxplanPlanMatchesSpec': WHATEVER THE INPUT: true; the input reads as it did. -/
def relaxplanPlanMatchesSpecSpec : ChangeSpec := { name := "relaxplanPlanMatchesSpec", fn := fun _ => fun
  | [d1, d2] => { results := [.lit (.bool true)], args := [d1, d2] }
  | _ => none }
def relaxplanPlanMatchesSpecRow : OpenClaim := { program := "ytihkgdlanfemcaa", sum := "2901e6fd2e92efba26b3e07a436a18d0bfefb99b6e7b48315866dd3ae183ae5d", func := "helmsman/helmsmanlaw3.RelaxplanPlanMatchesSpec", spec := "relaxplanPlanMatchesSpec", unfollowed := true, recurses := true, apart := false }
def RelaxplanPlanMatchesSpecSaid : Prop := relaxplanPlanMatchesSpecRow.holds Try.pinned (OpenSpec.ofChange relaxplanPlanMatchesSpecSpec)

/-- ITS FALSE NEIGHBOUR: 'it returns false'. Refute it at one input. -/
def relaxplanPlanMatchesSpecWrong : ChangeSpec := { name := "relaxplanPlanMatchesSpec", fn := fun _ => fun
  | [d1, d2] => { results := [.lit (.bool false)], args := [d1, d2] }
  | _ => none }
def RelaxplanPlanMatchesSpecWrongFalsely : Prop := relaxplanPlanMatchesSpecRow.holds Try.pinned (OpenSpec.ofChange relaxplanPlanMatchesSpecWrong)

/-- 'helmsmanlaw3.RelaxplanBestMatchesSpec': WHATEVER THE INPUT: true; the input reads as it did. -/
def relaxplanBestMatchesSpecSpec : ChangeSpec := { name := "relaxplanBestMatchesSpec", fn := fun _ => fun
  | [d1, d2] => { results := [.lit (.bool true)], args := [d1, d2] }
  | _ => none }
def relaxplanBestMatchesSpecRow : OpenClaim := { program := "ytihkgdlanfemcaa", sum := "2901e6fd2e92efba26b3e07a436a18d0bfefb99b6e7b48315866dd3ae183ae5d", func := "helmsman/helmsmanlaw3.RelaxplanBestMatchesSpec", spec := "relaxplanBestMatchesSpec", unfollowed := true, recurses := true, apart := false }
def RelaxplanBestMatchesSpecSaid : Prop := relaxplanBestMatchesSpecRow.holds Try.pinned (OpenSpec.ofChange relaxplanBestMatchesSpecSpec)

/-- ITS FALSE NEIGHBOUR: 'it returns false'. Refute it at one input. -/
def relaxplanBestMatchesSpecWrong : ChangeSpec := { name := "relaxplanBestMatchesSpec", fn := fun _ => fun
  | [d1, d2] => { results := [.lit (.bool false)], args := [d1, d2] }
  | _ => none }
def RelaxplanBestMatchesSpecWrongFalsely : Prop := relaxplanBestMatchesSpecRow.holds Try.pinned (OpenSpec.ofChange relaxplanBestMatchesSpecWrong)

/-- 'helmsmanlaw3.RelaxplanSupportersAdd': WHATEVER THE INPUT: true; the input reads as it did. -/
def relaxplanSupportersAddSpec : ChangeSpec := { name := "relaxplanSupportersAdd", fn := fun _ => fun
  | [d1, d2] => { results := [.lit (.bool true)], args := [d1, d2] }
  | _ => none }
def relaxplanSupportersAddRow : OpenClaim := { program := "ytihkgdlanfemcaa", sum := "2901e6fd2e92efba26b3e07a436a18d0bfefb99b6e7b48315866dd3ae183ae5d", func := "helmsman/helmsmanlaw3.RelaxplanSupportersAdd", spec := "relaxplanSupportersAdd", unfollowed := true, recurses := true, apart := false }
def RelaxplanSupportersAddSaid : Prop := relaxplanSupportersAddRow.holds Try.pinned (OpenSpec.ofChange relaxplanSupportersAddSpec)

/-- ITS FALSE NEIGHBOUR: 'it returns false'. Refute it at one input. -/
def relaxplanSupportersAddWrong : ChangeSpec := { name := "relaxplanSupportersAdd", fn := fun _ => fun
  | [d1, d2] => { results := [.lit (.bool false)], args := [d1, d2] }
  | _ => none }
def RelaxplanSupportersAddWrongFalsely : Prop := relaxplanSupportersAddRow.holds Try.pinned (OpenSpec.ofChange relaxplanSupportersAddWrong)

/-- 'helmsmanlaw3.RelaxplanBetween': WHATEVER THE INPUT: true; the input reads as it did. -/
def relaxplanBetweenSpec : ChangeSpec := { name := "relaxplanBetween", fn := fun _ => fun
  | [d1, d2] => { results := [.lit (.bool true)], args := [d1, d2] }
  | _ => none }
def relaxplanBetweenRow : OpenClaim := { program := "ytihkgdlanfemcaa", sum := "2901e6fd2e92efba26b3e07a436a18d0bfefb99b6e7b48315866dd3ae183ae5d", func := "helmsman/helmsmanlaw3.RelaxplanBetween", spec := "relaxplanBetween", unfollowed := true, recurses := true, apart := false }
def RelaxplanBetweenSaid : Prop := relaxplanBetweenRow.holds Try.pinned (OpenSpec.ofChange relaxplanBetweenSpec)

/-- ITS FALSE NEIGHBOUR: 'it returns false'. Refute it at one input. -/
def relaxplanBetweenWrong : ChangeSpec := { name := "relaxplanBetween", fn := fun _ => fun
  | [d1, d2] => { results := [.lit (.bool false)], args := [d1, d2] }
  | _ => none }
def RelaxplanBetweenWrongFalsely : Prop := relaxplanBetweenRow.holds Try.pinned (OpenSpec.ofChange relaxplanBetweenWrong)

/-- 'helmsmanlaw3.LmcutAdmissible': WHATEVER THE INPUT: true; the input reads as it did. -/
def lmcutAdmissibleSpec : ChangeSpec := { name := "lmcutAdmissible", fn := fun _ => fun
  | [d1, d2] => { results := [.lit (.bool true)], args := [d1, d2] }
  | _ => none }
def lmcutAdmissibleRow : OpenClaim := { program := "ytihkgdlanfemcaa", sum := "2901e6fd2e92efba26b3e07a436a18d0bfefb99b6e7b48315866dd3ae183ae5d", func := "helmsman/helmsmanlaw3.LmcutAdmissible", spec := "lmcutAdmissible", unfollowed := true, recurses := true, apart := false }
def LmcutAdmissibleSaid : Prop := lmcutAdmissibleRow.holds Try.pinned (OpenSpec.ofChange lmcutAdmissibleSpec)

/-- ITS FALSE NEIGHBOUR: 'it returns false'. Refute it at one input. -/
def lmcutAdmissibleWrong : ChangeSpec := { name := "lmcutAdmissible", fn := fun _ => fun
  | [d1, d2] => { results := [.lit (.bool false)], args := [d1, d2] }
  | _ => none }
def LmcutAdmissibleWrongFalsely : Prop := lmcutAdmissibleRow.holds Try.pinned (OpenSpec.ofChange lmcutAdmissibleWrong)

/-- 'helmsmanlaw3.RelaxedScales': WHATEVER THE INPUT: true; the input reads as it did. -/
def relaxedScalesSpec : ChangeSpec := { name := "relaxedScales", fn := fun _ => fun
  | [d1, d2, d3] => { results := [.lit (.bool true)], args := [d1, d2, d3] }
  | _ => none }
def relaxedScalesRow : OpenClaim := { program := "ytihkgdlanfemcaa", sum := "2901e6fd2e92efba26b3e07a436a18d0bfefb99b6e7b48315866dd3ae183ae5d", func := "helmsman/helmsmanlaw3.RelaxedScales", spec := "relaxedScales", unfollowed := true, recurses := true, apart := false }
def RelaxedScalesSaid : Prop := relaxedScalesRow.holds Try.pinned (OpenSpec.ofChange relaxedScalesSpec)

/-- ITS FALSE NEIGHBOUR: 'it returns false'. Refute it at one input. -/
def relaxedScalesWrong : ChangeSpec := { name := "relaxedScales", fn := fun _ => fun
  | [d1, d2, d3] => { results := [.lit (.bool false)], args := [d1, d2, d3] }
  | _ => none }
def RelaxedScalesWrongFalsely : Prop := relaxedScalesRow.holds Try.pinned (OpenSpec.ofChange relaxedScalesWrong)

/-- 'helmsmanlaw3.HittingBestMatchesSpec': WHATEVER THE INPUT: true; the input reads as it did. -/
def hittingBestMatchesSpecSpec : ChangeSpec := { name := "hittingBestMatchesSpec", fn := fun _ => fun
  | [d1, d2] => { results := [.lit (.bool true)], args := [d1, d2] }
  | _ => none }
def hittingBestMatchesSpecRow : OpenClaim := { program := "ytihkgdlanfemcaa", sum := "2901e6fd2e92efba26b3e07a436a18d0bfefb99b6e7b48315866dd3ae183ae5d", func := "helmsman/helmsmanlaw3.HittingBestMatchesSpec", spec := "hittingBestMatchesSpec", unfollowed := true, recurses := true, apart := false }
def HittingBestMatchesSpecSaid : Prop := hittingBestMatchesSpecRow.holds Try.pinned (OpenSpec.ofChange hittingBestMatchesSpecSpec)

/-- ITS FALSE NEIGHBOUR: 'it returns false'. Refute it at one input. -/
def hittingBestMatchesSpecWrong : ChangeSpec := { name := "hittingBestMatchesSpec", fn := fun _ => fun
  | [d1, d2] => { results := [.lit (.bool false)], args := [d1, d2] }
  | _ => none }
def HittingBestMatchesSpecWrongFalsely : Prop := hittingBestMatchesSpecRow.holds Try.pinned (OpenSpec.ofChange hittingBestMatchesSpecWrong)

/-- 'helmsmanlaw3.HittingBoundMatchesSpec': WHATEVER THE INPUT: true; the input reads as it did. -/
def hittingBoundMatchesSpecSpec : ChangeSpec := { name := "hittingBoundMatchesSpec", fn := fun _ => fun
  | [d1, d2] => { results := [.lit (.bool true)], args := [d1, d2] }
  | _ => none }
def hittingBoundMatchesSpecRow : OpenClaim := { program := "ytihkgdlanfemcaa", sum := "2901e6fd2e92efba26b3e07a436a18d0bfefb99b6e7b48315866dd3ae183ae5d", func := "helmsman/helmsmanlaw3.HittingBoundMatchesSpec", spec := "hittingBoundMatchesSpec", unfollowed := true, recurses := true, apart := false }
def HittingBoundMatchesSpecSaid : Prop := hittingBoundMatchesSpecRow.holds Try.pinned (OpenSpec.ofChange hittingBoundMatchesSpecSpec)

/-- ITS FALSE NEIGHBOUR: 'it returns false'. Refute it at one input. -/
def hittingBoundMatchesSpecWrong : ChangeSpec := { name := "hittingBoundMatchesSpec", fn := fun _ => fun
  | [d1, d2] => { results := [.lit (.bool false)], args := [d1, d2] }
  | _ => none }
def HittingBoundMatchesSpecWrongFalsely : Prop := hittingBoundMatchesSpecRow.holds Try.pinned (OpenSpec.ofChange hittingBoundMatchesSpecWrong)

/-- 'helmsmanlaw3.HittingHits': WHATEVER THE INPUT: true; the input reads as it did. -/
def hittingHitsSpec : ChangeSpec := { name := "hittingHits", fn := fun _ => fun
  | [d1, d2] => { results := [.lit (.bool true)], args := [d1, d2] }
  | _ => none }
def hittingHitsRow : OpenClaim := { program := "ytihkgdlanfemcaa", sum := "2901e6fd2e92efba26b3e07a436a18d0bfefb99b6e7b48315866dd3ae183ae5d", func := "helmsman/helmsmanlaw3.HittingHits", spec := "hittingHits", unfollowed := true, recurses := true, apart := false }
def HittingHitsSaid : Prop := hittingHitsRow.holds Try.pinned (OpenSpec.ofChange hittingHitsSpec)

/-- ITS FALSE NEIGHBOUR: 'it returns false'. Refute it at one input. -/
def hittingHitsWrong : ChangeSpec := { name := "hittingHits", fn := fun _ => fun
  | [d1, d2] => { results := [.lit (.bool false)], args := [d1, d2] }
  | _ => none }
def HittingHitsWrongFalsely : Prop := hittingHitsRow.holds Try.pinned (OpenSpec.ofChange hittingHitsWrong)

/-- 'helmsmanlaw3.HittingMoreSets': WHATEVER THE INPUT: true; the input reads as it did. -/
def hittingMoreSetsSpec : ChangeSpec := { name := "hittingMoreSets", fn := fun _ => fun
  | [d1, d2, d3] => { results := [.lit (.bool true)], args := [d1, d2, d3] }
  | _ => none }
def hittingMoreSetsRow : OpenClaim := { program := "ytihkgdlanfemcaa", sum := "2901e6fd2e92efba26b3e07a436a18d0bfefb99b6e7b48315866dd3ae183ae5d", func := "helmsman/helmsmanlaw3.HittingMoreSets", spec := "hittingMoreSets", unfollowed := true, recurses := true, apart := false }
def HittingMoreSetsSaid : Prop := hittingMoreSetsRow.holds Try.pinned (OpenSpec.ofChange hittingMoreSetsSpec)

/-- ITS FALSE NEIGHBOUR: 'it returns false'. Refute it at one input. -/
def hittingMoreSetsWrong : ChangeSpec := { name := "hittingMoreSets", fn := fun _ => fun
  | [d1, d2, d3] => { results := [.lit (.bool false)], args := [d1, d2, d3] }
  | _ => none }
def HittingMoreSetsWrongFalsely : Prop := hittingMoreSetsRow.holds Try.pinned (OpenSpec.ofChange hittingMoreSetsWrong)

/-- 'helmsmanlaw3.HittingScales': WHATEVER THE INPUT: true; the input reads as it did. -/
def hittingScalesSpec : ChangeSpec := { name := "hittingScales", fn := fun _ => fun
  | [d1, d2, d3] => { results := [.lit (.bool true)], args := [d1, d2, d3] }
  | _ => none }
def hittingScalesRow : OpenClaim := { program := "ytihkgdlanfemcaa", sum := "2901e6fd2e92efba26b3e07a436a18d0bfefb99b6e7b48315866dd3ae183ae5d", func := "helmsman/helmsmanlaw3.HittingScales", spec := "hittingScales", unfollowed := true, recurses := true, apart := false }
def HittingScalesSaid : Prop := hittingScalesRow.holds Try.pinned (OpenSpec.ofChange hittingScalesSpec)

/-- ITS FALSE NEIGHBOUR: 'it returns false'. Refute it at one input. -/
def hittingScalesWrong : ChangeSpec := { name := "hittingScales", fn := fun _ => fun
  | [d1, d2, d3] => { results := [.lit (.bool false)], args := [d1, d2, d3] }
  | _ => none }
def HittingScalesWrongFalsely : Prop := hittingScalesRow.holds Try.pinned (OpenSpec.ofChange hittingScalesWrong)

/-- 'helmsmanlaw3.RelaxplanPlanSolves': WHATEVER THE INPUT: true; the input reads as it did. -/
def relaxplanPlanSolvesSpec : ChangeSpec := { name := "relaxplanPlanSolves", fn := fun _ => fun
  | [d] => { results := [.lit (.bool true)], args := [d] }
  | _ => none }
def relaxplanPlanSolvesRow : OpenClaim := { program := "ytihkgdlanfemcaa", sum := "2901e6fd2e92efba26b3e07a436a18d0bfefb99b6e7b48315866dd3ae183ae5d", func := "helmsman/helmsmanlaw3.RelaxplanPlanSolves", spec := "relaxplanPlanSolves", unfollowed := true, recurses := true, apart := false }
def RelaxplanPlanSolvesSaid : Prop := relaxplanPlanSolvesRow.holds Try.pinned (OpenSpec.ofChange relaxplanPlanSolvesSpec)

/-- ITS FALSE NEIGHBOUR: 'it returns false'. Refute it at one input. -/
def relaxplanPlanSolvesWrong : ChangeSpec := { name := "relaxplanPlanSolves", fn := fun _ => fun
  | [d] => { results := [.lit (.bool false)], args := [d] }
  | _ => none }
def RelaxplanPlanSolvesWrongFalsely : Prop := relaxplanPlanSolvesRow.holds Try.pinned (OpenSpec.ofChange relaxplanPlanSolvesWrong)

/-- 'helmsmanlaw3.HittingBetween': WHATEVER THE INPUT: true; the input reads as it did. -/
def hittingBetweenSpec : ChangeSpec := { name := "hittingBetween", fn := fun _ => fun
  | [d1, d2] => { results := [.lit (.bool true)], args := [d1, d2] }
  | _ => none }
def hittingBetweenRow : OpenClaim := { program := "ytihkgdlanfemcaa", sum := "2901e6fd2e92efba26b3e07a436a18d0bfefb99b6e7b48315866dd3ae183ae5d", func := "helmsman/helmsmanlaw3.HittingBetween", spec := "hittingBetween", unfollowed := true, recurses := true, apart := false }
def HittingBetweenSaid : Prop := hittingBetweenRow.holds Try.pinned (OpenSpec.ofChange hittingBetweenSpec)

/-- ITS FALSE NEIGHBOUR: 'it returns false'. Refute it at one input. -/
def hittingBetweenWrong : ChangeSpec := { name := "hittingBetween", fn := fun _ => fun
  | [d1, d2] => { results := [.lit (.bool false)], args := [d1, d2] }
  | _ => none }
def HittingBetweenWrongFalsely : Prop := hittingBetweenRow.holds Try.pinned (OpenSpec.ofChange hittingBetweenWrong)

/- THE SECOND FORM. 'bulk': how many values and letters a reading holds, each counted each time it is reached (what is shared counts as often as it is met; a slice's spare places count too). A statement '..UptoSaid' is the law's where the arguments, and the package variables that the reading takes, are together of bulk at most 1048576: NARROWER than '..Said'. Prove '..Said' where nothing that the law and all that it calls make is longer than what came in: it says more and counts as full. Else prove '..UptoSaid'. A law counts once. -/
mutual
def uptoBulk {H : Type} : DataW H → Nat
  | .lit (.string bytes) => bytes.length + 1
  | .lit _ => 1
  | .nil => 1
  | .ptr d => uptoBulk d + 1
  | .slice elems spare => uptoBulkAll elems + uptoBulkAll spare + 1
  | .agg parts => uptoBulkAll parts + 1
  | .iface _ d => uptoBulk d + 1
  | .map entries => uptoBulkEntries entries + 1
  | .held _ => 1
def uptoBulkAll {H : Type} : List (DataW H) → Nat
  | [] => 0
  | d :: r => uptoBulk d + uptoBulkAll r
def uptoBulkEntries {H : Type} : List (Lit × DataW H) → Nat
  | [] => 0
  | x :: r => uptoBulkEntry x + uptoBulkEntries r
def uptoBulkEntry {H : Type} : Lit × DataW H → Nat
  | (.string bytes, d) => bytes.length + uptoBulk d + 1
  | (_, d) => uptoBulk d + 1
 end
def uptoSmall : (H : Type) → List (DataW H) → Bool := fun _ ds => decide (uptoBulkAll ds ≤ 1048576)
def OpenSpec.upto (s : _root_.Go.ChangeSpec) : _root_.Go.OpenSpec := { _root_.Go.OpenSpec.ofChange s with cond := some uptoSmall }

/-- 'helmsmanlaw3.PairsValuesMatchesSpec', WHERE WHAT IT READS IS OF BULK AT MOST 1048576: true; the input reads as it did. -/
def pairsValuesMatchesSpecUptoRow : OpenClaim := { program := "ytihkgdlanfemcaa", sum := "2901e6fd2e92efba26b3e07a436a18d0bfefb99b6e7b48315866dd3ae183ae5d", func := "helmsman/helmsmanlaw3.PairsValuesMatchesSpec", spec := "pairsValuesMatchesSpec", unfollowed := true, recurses := true, apart := false, narrowed := true }
def PairsValuesMatchesSpecUptoSaid : Prop := pairsValuesMatchesSpecUptoRow.holds Try.pinned (OpenSpec.upto pairsValuesMatchesSpecSpec)

/-- 'helmsmanlaw3.RelaxplanPlanMatchesSpec', WHERE WHAT IT READS IS OF BULK AT MOST 1048576: true; the input reads as it did. -/
def relaxplanPlanMatchesSpecUptoRow : OpenClaim := { program := "ytihkgdlanfemcaa", sum := "2901e6fd2e92efba26b3e07a436a18d0bfefb99b6e7b48315866dd3ae183ae5d", func := "helmsman/helmsmanlaw3.RelaxplanPlanMatchesSpec", spec := "relaxplanPlanMatchesSpec", unfollowed := true, recurses := true, apart := false, narrowed := true }
def RelaxplanPlanMatchesSpecUptoSaid : Prop := relaxplanPlanMatchesSpecUptoRow.holds Try.pinned (OpenSpec.upto relaxplanPlanMatchesSpecSpec)

/-- 'helmsmanlaw3.RelaxplanBestMatchesSpec', WHERE WHAT IT READS IS OF BULK AT MOST 1048576: true; the input reads as it did. -/
def relaxplanBestMatchesSpecUptoRow : OpenClaim := { program := "ytihkgdlanfemcaa", sum := "2901e6fd2e92efba26b3e07a436a18d0bfefb99b6e7b48315866dd3ae183ae5d", func := "helmsman/helmsmanlaw3.RelaxplanBestMatchesSpec", spec := "relaxplanBestMatchesSpec", unfollowed := true, recurses := true, apart := false, narrowed := true }
def RelaxplanBestMatchesSpecUptoSaid : Prop := relaxplanBestMatchesSpecUptoRow.holds Try.pinned (OpenSpec.upto relaxplanBestMatchesSpecSpec)

/-- 'helmsmanlaw3.RelaxplanSupportersAdd', WHERE WHAT IT READS IS OF BULK AT MOST 1048576: true; the input reads as it did. -/
def relaxplanSupportersAddUptoRow : OpenClaim := { program := "ytihkgdlanfemcaa", sum := "2901e6fd2e92efba26b3e07a436a18d0bfefb99b6e7b48315866dd3ae183ae5d", func := "helmsman/helmsmanlaw3.RelaxplanSupportersAdd", spec := "relaxplanSupportersAdd", unfollowed := true, recurses := true, apart := false, narrowed := true }
def RelaxplanSupportersAddUptoSaid : Prop := relaxplanSupportersAddUptoRow.holds Try.pinned (OpenSpec.upto relaxplanSupportersAddSpec)

/-- 'helmsmanlaw3.RelaxplanBetween', WHERE WHAT IT READS IS OF BULK AT MOST 1048576: true; the input reads as it did. -/
def relaxplanBetweenUptoRow : OpenClaim := { program := "ytihkgdlanfemcaa", sum := "2901e6fd2e92efba26b3e07a436a18d0bfefb99b6e7b48315866dd3ae183ae5d", func := "helmsman/helmsmanlaw3.RelaxplanBetween", spec := "relaxplanBetween", unfollowed := true, recurses := true, apart := false, narrowed := true }
def RelaxplanBetweenUptoSaid : Prop := relaxplanBetweenUptoRow.holds Try.pinned (OpenSpec.upto relaxplanBetweenSpec)

/-- 'helmsmanlaw3.LmcutAdmissible', WHERE WHAT IT READS IS OF BULK AT MOST 1048576: true; the input reads as it did. -/
def lmcutAdmissibleUptoRow : OpenClaim := { program := "ytihkgdlanfemcaa", sum := "2901e6fd2e92efba26b3e07a436a18d0bfefb99b6e7b48315866dd3ae183ae5d", func := "helmsman/helmsmanlaw3.LmcutAdmissible", spec := "lmcutAdmissible", unfollowed := true, recurses := true, apart := false, narrowed := true }
def LmcutAdmissibleUptoSaid : Prop := lmcutAdmissibleUptoRow.holds Try.pinned (OpenSpec.upto lmcutAdmissibleSpec)

/-- 'helmsmanlaw3.RelaxedScales', WHERE WHAT IT READS IS OF BULK AT MOST 1048576: true; the input reads as it did. -/
def relaxedScalesUptoRow : OpenClaim := { program := "ytihkgdlanfemcaa", sum := "2901e6fd2e92efba26b3e07a436a18d0bfefb99b6e7b48315866dd3ae183ae5d", func := "helmsman/helmsmanlaw3.RelaxedScales", spec := "relaxedScales", unfollowed := true, recurses := true, apart := false, narrowed := true }
def RelaxedScalesUptoSaid : Prop := relaxedScalesUptoRow.holds Try.pinned (OpenSpec.upto relaxedScalesSpec)

/-- 'helmsmanlaw3.HittingBestMatchesSpec', WHERE WHAT IT READS IS OF BULK AT MOST 1048576: true; the input reads as it did. -/
def hittingBestMatchesSpecUptoRow : OpenClaim := { program := "ytihkgdlanfemcaa", sum := "2901e6fd2e92efba26b3e07a436a18d0bfefb99b6e7b48315866dd3ae183ae5d", func := "helmsman/helmsmanlaw3.HittingBestMatchesSpec", spec := "hittingBestMatchesSpec", unfollowed := true, recurses := true, apart := false, narrowed := true }
def HittingBestMatchesSpecUptoSaid : Prop := hittingBestMatchesSpecUptoRow.holds Try.pinned (OpenSpec.upto hittingBestMatchesSpecSpec)

/-- 'helmsmanlaw3.HittingBoundMatchesSpec', WHERE WHAT IT READS IS OF BULK AT MOST 1048576: true; the input reads as it did. -/
def hittingBoundMatchesSpecUptoRow : OpenClaim := { program := "ytihkgdlanfemcaa", sum := "2901e6fd2e92efba26b3e07a436a18d0bfefb99b6e7b48315866dd3ae183ae5d", func := "helmsman/helmsmanlaw3.HittingBoundMatchesSpec", spec := "hittingBoundMatchesSpec", unfollowed := true, recurses := true, apart := false, narrowed := true }
def HittingBoundMatchesSpecUptoSaid : Prop := hittingBoundMatchesSpecUptoRow.holds Try.pinned (OpenSpec.upto hittingBoundMatchesSpecSpec)

/-- 'helmsmanlaw3.HittingHits', WHERE WHAT IT READS IS OF BULK AT MOST 1048576: true; the input reads as it did. -/
def hittingHitsUptoRow : OpenClaim := { program := "ytihkgdlanfemcaa", sum := "2901e6fd2e92efba26b3e07a436a18d0bfefb99b6e7b48315866dd3ae183ae5d", func := "helmsman/helmsmanlaw3.HittingHits", spec := "hittingHits", unfollowed := true, recurses := true, apart := false, narrowed := true }
def HittingHitsUptoSaid : Prop := hittingHitsUptoRow.holds Try.pinned (OpenSpec.upto hittingHitsSpec)

/-- 'helmsmanlaw3.HittingMoreSets', WHERE WHAT IT READS IS OF BULK AT MOST 1048576: true; the input reads as it did. -/
def hittingMoreSetsUptoRow : OpenClaim := { program := "ytihkgdlanfemcaa", sum := "2901e6fd2e92efba26b3e07a436a18d0bfefb99b6e7b48315866dd3ae183ae5d", func := "helmsman/helmsmanlaw3.HittingMoreSets", spec := "hittingMoreSets", unfollowed := true, recurses := true, apart := false, narrowed := true }
def HittingMoreSetsUptoSaid : Prop := hittingMoreSetsUptoRow.holds Try.pinned (OpenSpec.upto hittingMoreSetsSpec)

/-- 'helmsmanlaw3.HittingScales', WHERE WHAT IT READS IS OF BULK AT MOST 1048576: true; the input reads as it did. -/
def hittingScalesUptoRow : OpenClaim := { program := "ytihkgdlanfemcaa", sum := "2901e6fd2e92efba26b3e07a436a18d0bfefb99b6e7b48315866dd3ae183ae5d", func := "helmsman/helmsmanlaw3.HittingScales", spec := "hittingScales", unfollowed := true, recurses := true, apart := false, narrowed := true }
def HittingScalesUptoSaid : Prop := hittingScalesUptoRow.holds Try.pinned (OpenSpec.upto hittingScalesSpec)

/-- 'helmsmanlaw3.RelaxplanPlanSolves', WHERE WHAT IT READS IS OF BULK AT MOST 1048576: true; the input reads as it did. -/
def relaxplanPlanSolvesUptoRow : OpenClaim := { program := "ytihkgdlanfemcaa", sum := "2901e6fd2e92efba26b3e07a436a18d0bfefb99b6e7b48315866dd3ae183ae5d", func := "helmsman/helmsmanlaw3.RelaxplanPlanSolves", spec := "relaxplanPlanSolves", unfollowed := true, recurses := true, apart := false, narrowed := true }
def RelaxplanPlanSolvesUptoSaid : Prop := relaxplanPlanSolvesUptoRow.holds Try.pinned (OpenSpec.upto relaxplanPlanSolvesSpec)

/-- 'helmsmanlaw3.HittingBetween', WHERE WHAT IT READS IS OF BULK AT MOST 1048576: true; the input reads as it did. -/
def hittingBetweenUptoRow : OpenClaim := { program := "ytihkgdlanfemcaa", sum := "2901e6fd2e92efba26b3e07a436a18d0bfefb99b6e7b48315866dd3ae183ae5d", func := "helmsman/helmsmanlaw3.HittingBetween", spec := "hittingBetween", unfollowed := true, recurses := true, apart := false, narrowed := true }
def HittingBetweenUptoSaid : Prop := hittingBetweenUptoRow.holds Try.pinned (OpenSpec.upto hittingBetweenSpec)

end Rows
end Go.Proofs.Ytihkgdlanfemcaa
