/-
  Three facts of the whole program, each by itself (together they need more memory than one process has).
-/
import Derived.Test.YtkepfmglljkjhaaChecked
import Derived.JoinedOf
namespace Go.Proofs.Ytkepfmglljkjhaa

set_option maxRecDepth 100000 in
theorem pf_enter : Try.checked.prog.mayEnter = true := by kernel_rfl
set_option maxRecDepth 100000 in
theorem pf_lifts : Try.checked.prog.liftsFinal = false := by kernel_rfl
set_option maxRecDepth 100000 in
theorem pf_make : Try.checked.prog.make = some .cut := by kernel_rfl

end Go.Proofs.Ytkepfmglljkjhaa
