/-
  No cell of these rows narrows 'for every input' (looked for: loops, veiled, ifaces, maps, wideKeys, modest, calm, conditions, laid).
  DERIVED. THE GIVEN ROWS OF THIS SEAT. 3 by the template 'for every input the law returns true; each argument reads behind the call as it read before'; 0 by the template 'total and deterministic' (their statements: YtjjjeohejhmpoaaGreatTotals.lean).
  GIVEN WITH THE SEED: the statements are not yours to turn. If you find one false, say at which input.
  Laid BY PROGRAM, IN A SANDBOX (cutbox-rows.mjs): the forced cells as the released guide's own fill.sh prints them over the translation f59ca03a2d7e60c3… (all of the seat's roots in one cut). By AI agents, Wed Nov 11 2026. No macro, syntax, notation, axiom, sorry.
-/
import Derived.Test.YtjjjeohejhmpoaaGreatChecked
import GoSem.Claim
import GoSem.ClaimJoined
import GoSem.ClaimMapViews
import Derived.JoinedTies
import Derived.KernelRfl
namespace Go.Proofs.YtjjjeohejhmpoaaGreat
/- THE CELL 'sum', in the pinned program and in every row, IS THE sha256 OF THE DUMP (.gsa) THAT YtjjjeohejhmpoaaGreatProg.lean LOADS. Nothing in Lean hashes anything: it is a label: what it is worth is what the hold of that sum in a sandbox is worth. -/
noncomputable def Tryz.pinned : Pinned := { name := "ytjjjeohejhmpoaagreat", sum := "f59ca03a2d7e60c32953571244c0d8fcca062e34d58550e320973991ca53d24e", checked := Tryz.checked }
namespace Rows
def none {H : Type} : Left H := { results := [], args := [] }

/-- 'helmsmantop.TopEstimatesBelowOptimum': WHATEVER THE INPUT: true; the input reads as it did. -/
def topEstimatesBelowOptimumSpec : ChangeSpec := { name := "topEstimatesBelowOptimum", fn := fun _ => fun
  | [d] => { results := [.lit (.bool true)], args := [d] }
  | _ => none }
def topEstimatesBelowOptimumRow : OpenClaim := { program := "ytjjjeohejhmpoaagreat", sum := "f59ca03a2d7e60c32953571244c0d8fcca062e34d58550e320973991ca53d24e", func := "helmsman/helmsmantop.TopEstimatesBelowOptimum", spec := "topEstimatesBelowOptimum", unfollowed := true, recurses := true, apart := false }
def TopEstimatesBelowOptimumSaid : Prop := topEstimatesBelowOptimumRow.holds Tryz.pinned (OpenSpec.ofChange topEstimatesBelowOptimumSpec)

/-- ITS FALSE NEIGHBOUR: 'it returns false'. Refute it at one input. -/
def topEstimatesBelowOptimumWrong : ChangeSpec := { name := "topEstimatesBelowOptimum", fn := fun _ => fun
  | [d] => { results := [.lit (.bool false)], args := [d] }
  | _ => none }
def TopEstimatesBelowOptimumWrongFalsely : Prop := topEstimatesBelowOptimumRow.holds Tryz.pinned (OpenSpec.ofChange topEstimatesBelowOptimumWrong)

/-- 'helmsmantop.TopExclusiveFacts': WHATEVER THE INPUT: true; the input reads as it did. -/
def topExclusiveFactsSpec : ChangeSpec := { name := "topExclusiveFacts", fn := fun _ => fun
  | [d] => { results := [.lit (.bool true)], args := [d] }
  | _ => none }
def topExclusiveFactsRow : OpenClaim := { program := "ytjjjeohejhmpoaagreat", sum := "f59ca03a2d7e60c32953571244c0d8fcca062e34d58550e320973991ca53d24e", func := "helmsman/helmsmantop.TopExclusiveFacts", spec := "topExclusiveFacts", unfollowed := true, recurses := true, apart := false }
def TopExclusiveFactsSaid : Prop := topExclusiveFactsRow.holds Tryz.pinned (OpenSpec.ofChange topExclusiveFactsSpec)

/-- ITS FALSE NEIGHBOUR: 'it returns false'. Refute it at one input. -/
def topExclusiveFactsWrong : ChangeSpec := { name := "topExclusiveFacts", fn := fun _ => fun
  | [d] => { results := [.lit (.bool false)], args := [d] }
  | _ => none }
def TopExclusiveFactsWrongFalsely : Prop := topExclusiveFactsRow.holds Tryz.pinned (OpenSpec.ofChange topExclusiveFactsWrong)

/-- 'helmsmantop.TopPlansPassLandmarks': WHATEVER THE INPUT: true; the input reads as it did. -/
def topPlansPassLandmarksSpec : ChangeSpec := { name := "topPlansPassLandmarks", fn := fun _ => fun
  | [d] => { results := [.lit (.bool true)], args := [d] }
  | _ => none }
def topPlansPassLandmarksRow : OpenClaim := { program := "ytjjjeohejhmpoaagreat", sum := "f59ca03a2d7e60c32953571244c0d8fcca062e34d58550e320973991ca53d24e", func := "helmsman/helmsmantop.TopPlansPassLandmarks", spec := "topPlansPassLandmarks", unfollowed := true, recurses := true, apart := false }
def TopPlansPassLandmarksSaid : Prop := topPlansPassLandmarksRow.holds Tryz.pinned (OpenSpec.ofChange topPlansPassLandmarksSpec)

/-- ITS FALSE NEIGHBOUR: 'it returns false'. Refute it at one input. -/
def topPlansPassLandmarksWrong : ChangeSpec := { name := "topPlansPassLandmarks", fn := fun _ => fun
  | [d] => { results := [.lit (.bool false)], args := [d] }
  | _ => none }
def TopPlansPassLandmarksWrongFalsely : Prop := topPlansPassLandmarksRow.holds Tryz.pinned (OpenSpec.ofChange topPlansPassLandmarksWrong)

/- THE SECOND FORM. 'bulk': how many values and letters a reading holds, each counted each time it is reached (what is shared counts as often as it is met; a slice's spare places count too). A statement '..UptoSaid' is the law's where the arguments, and the package variables that the reading takes, are together of bulk at most 1048576: NARROWER than '..Said'. Prove '..Said' where nothing that the law and all that it calls make is longer than what came in: it says more and counts as full. Else prove '..UptoSaid'. A law counts once. -/
mutual
def uptoBulk {H : Type} : DataW H → Nat
  | .lit (.string bytes) => bytes.length + 1
  | .lit _ => 1
  | .nil => 1
  | .ptr d => uptoBulk d + 1
  | .slice elems spare => uptoBulkAll elems + uptoBulkAll spare + 1
  | .agg parts => uptoBulkAll parts + 1
  | .iface _ d => uptoBulk d + 1
  | .map entries => uptoBulkEntries entries + 1
  | .held _ => 1
def uptoBulkAll {H : Type} : List (DataW H) → Nat
  | [] => 0
  | d :: r => uptoBulk d + uptoBulkAll r
def uptoBulkEntries {H : Type} : List (Lit × DataW H) → Nat
  | [] => 0
  | x :: r => uptoBulkEntry x + uptoBulkEntries r
def uptoBulkEntry {H : Type} : Lit × DataW H → Nat
  | (.string bytes, d) => bytes.length + uptoBulk d + 1
  | (_, d) => uptoBulk d + 1
 end
def uptoSmall : (H : Type) → List (DataW H) → Bool := fun _ ds => decide (uptoBulkAll ds ≤ 1048576)
def OpenSpec.upto (s : _root_.Go.ChangeSpec) : _root_.Go.OpenSpec := { _root_.Go.OpenSpec.ofChange s with cond := some uptoSmall }

/-- 'helmsmantop.TopEstimatesBelowOptimum', WHERE WHAT IT READS IS OF BULK AT MOST 1048576: true; the input reads as it did. -/
def topEstimatesBelowOptimumUptoRow : OpenClaim := { program := "ytjjjeohejhmpoaagreat", sum := "f59ca03a2d7e60c32953571244c0d8fcca062e34d58550e320973991ca53d24e", func := "helmsman/helmsmantop.TopEstimatesBelowOptimum", spec := "topEstimatesBelowOptimum", unfollowed := true, recurses := true, apart := false, narrowed := true }
def TopEstimatesBelowOptimumUptoSaid : Prop := topEstimatesBelowOptimumUptoRow.holds Tryz.pinned (OpenSpec.upto topEstimatesBelowOptimumSpec)

/-- 'helmsmantop.TopExclusiveFacts', WHERE WHAT IT READS IS OF BULK AT MOST 1048576: true; the input reads as it did. -/
def topExclusiveFactsUptoRow : OpenClaim := { program := "ytjjjeohejhmpoaagreat", sum := "f59ca03a2d7e60c32953571244c0d8fcca062e34d58550e320973991ca53d24e", func := "helmsman/helmsmantop.TopExclusiveFacts", spec := "topExclusiveFacts", unfollowed := true, recurses := true, apart := false, narrowed := true }
def TopExclusiveFactsUptoSaid : Prop := topExclusiveFactsUptoRow.holds Tryz.pinned (OpenSpec.upto topExclusiveFactsSpec)

/-- 'helmsmantop.TopPlansPassLandmarks', WHERE WHAT IT READS IS OF BULK AT MOST 1048576: true; the input reads as it did. -/
def topPlansPassLandmarksUptoRow : OpenClaim := { program := "ytjjjeohejhmpoaagreat", sum := "f59ca03a2d7e60c32953571244c0d8fcca062e34d58550e320973991ca53d24e", func := "helmsman/helmsmantop.TopPlansPassLandmarks", spec := "topPlansPassLandmarks", unfollowed := true, recurses := true, apart := false, narrowed := true }
def TopPlansPassLandmarksUptoSaid : Prop := topPlansPassLandmarksUptoRow.holds Tryz.pinned (OpenSpec.upto topPlansPassLandmarksSpec)

end Rows
end Go.Proofs.YtjjjeohejhmpoaaGreat
