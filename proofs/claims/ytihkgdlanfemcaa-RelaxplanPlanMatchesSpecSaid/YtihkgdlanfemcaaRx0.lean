/-
  A task without deletions: plain.
-/
import Derived.Test.YtihkgdlanfemcaaMA
namespace Go.Proofs.Ytihkgdlanfemcaa
open Go.RowKit
set_option linter.unusedVariables false
set_option linter.unusedSimpArgs false

def rxO (o : OpV) : OpV := { o with del := [] }
def rxT (t : TaskV) : TaskV := { t with ops := t.ops.map rxO }

end Go.Proofs.Ytihkgdlanfemcaa
