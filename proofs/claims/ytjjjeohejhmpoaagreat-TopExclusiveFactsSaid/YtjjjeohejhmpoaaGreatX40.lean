/-
  Lemmas.
-/
import Derived.Test.YtjjjeohejhmpoaaGreatChecked
import Derived.JoinedOf
set_option linter.unusedVariables false
set_option linter.unusedSimpArgs false
set_option maxRecDepth 100000
set_option maxHeartbeats 4000000
namespace Go.Proofs.YtjjjeohejhmpoaaGreat
open Go.Proofs.Tryz
section
theorem yVg:checked.prog.mayEnter=true:=by kernel_rfl
theorem yVh:checked.prog.liftsFinal=false:=by kernel_rfl
theorem yWc:checked.prog.make=some .cut:=by kernel_rfl
end
