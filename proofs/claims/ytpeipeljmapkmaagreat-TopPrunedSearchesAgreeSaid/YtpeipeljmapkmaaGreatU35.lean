/-
  Lemmas for the law: Pfacts.
-/
import Derived.Test.YtpeipeljmapkmaaGreatChecked
import Derived.JoinedOf
set_option linter.unusedVariables false
set_option linter.unusedSimpArgs false
set_option maxRecDepth 100000
set_option maxHeartbeats 4000000
namespace Go.Proofs.YtpeipeljmapkmaaGreat
section
theorem vQh:Tryz.checked.prog.mayEnter=true:=by kernel_rfl
theorem vQi:Tryz.checked.prog.liftsFinal=false:=by kernel_rfl
theorem vYd:Tryz.checked.prog.make=some .cut:=by kernel_rfl
end
end Go.Proofs.YtpeipeljmapkmaaGreat
