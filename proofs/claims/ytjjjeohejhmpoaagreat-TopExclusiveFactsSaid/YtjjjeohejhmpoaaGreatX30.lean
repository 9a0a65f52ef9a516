/-
  Lemmas.
-/
import Derived.Test.YtjjjeohejhmpoaaGreatX29
import Derived.Test.YtjjjeohejhmpoaaGreatX6
import Derived.Lib.RabinKarpLaws
set_option linter.unusedVariables false
set_option linter.unusedSimpArgs false
set_option maxRecDepth 100000
set_option maxHeartbeats 4000000
namespace Go.Proofs.YtjjjeohejhmpoaaGreat
open Go.RowKit Go.Proofs.Tryz
def zJe(sets:List (List Int))(n:Nat)(w:Nat):Prop:=w<n/\∀s∈sets,yYn s w
