/-
  S.Within: what it returns.
-/
import Derived.Test.YtiaokmofoaeifaaTrel9
import Derived.Test.YtiaokmofoaeifaaTrel7
import Derived.Test.YtiaokmofoaeifaaTmeet
namespace Go.Proofs.Ytiaokmofoaeifaa
open Go.RowKit
end Go.Proofs.Ytiaokmofoaeifaa
