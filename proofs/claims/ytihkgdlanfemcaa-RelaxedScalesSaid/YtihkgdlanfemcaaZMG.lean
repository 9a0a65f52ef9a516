/-
  landmark.without, facts, Facts: what they return.
  S.IsCut: what it returns.
  landmark.facts, Facts: what they return.
  landmark.Facts: what it returns.
-/
import Derived.Test.YtihkgdlanfemcaaZME
import Derived.Test.YtihkgdlanfemcaaZMF
import Derived.Test.YtihkgdlanfemcaaZMB
namespace Go.Proofs.Ytihkgdlanfemcaa
open Go.RowKit
set_option linter.unusedVariables false
set_option linter.unusedSimpArgs false
end Go.Proofs.Ytihkgdlanfemcaa

namespace Go.Proofs.Ytihkgdlanfemcaa
open Go.RowKit
set_option linter.unusedVariables false
set_option linter.unusedSimpArgs false

/-- The operators that are no elements of a list. -/
def useOut (l : List Int) (k : Nat) : Bool := !decide ((k : Int) ∈ l)
end Go.Proofs.Ytihkgdlanfemcaa

namespace Go.Proofs.Ytihkgdlanfemcaa
open Go.RowKit
end Go.Proofs.Ytihkgdlanfemcaa

namespace Go.Proofs.Ytihkgdlanfemcaa
open Go.RowKit
end Go.Proofs.Ytihkgdlanfemcaa
