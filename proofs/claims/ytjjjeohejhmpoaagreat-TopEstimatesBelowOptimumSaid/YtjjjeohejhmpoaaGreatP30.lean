/-
  Lemmas for the law: Hl2.
-/
import Derived.Test.YtjjjeohejhmpoaaGreatP29
import Derived.Test.YtjjjeohejhmpoaaGreatP20
import Derived.Test.YtjjjeohejhmpoaaGreatP6
import Derived.Lib.RabinKarpLaws
set_option linter.unusedVariables false
set_option linter.unusedSimpArgs false
set_option maxRecDepth 100000
set_option maxHeartbeats 4000000
namespace Go.Proofs.YtjjjeohejhmpoaaGreat
open Go.RowKit
def zJe(sets:List (List Int))(n:Nat)(w:Nat):Prop:=w < n/\∀ s∈sets,yYn s w
end Go.Proofs.YtjjjeohejhmpoaaGreat
