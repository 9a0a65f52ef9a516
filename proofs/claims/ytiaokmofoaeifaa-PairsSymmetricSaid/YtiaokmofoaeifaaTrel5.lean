/-
  OwnCosts, GoalValue; estimate, Max, Add: what they return.
-/
import Derived.Test.YtiaokmofoaeifaaTrel4
namespace Go.Proofs.Ytiaokmofoaeifaa
open Go.RowKit
end Go.Proofs.Ytiaokmofoaeifaa
