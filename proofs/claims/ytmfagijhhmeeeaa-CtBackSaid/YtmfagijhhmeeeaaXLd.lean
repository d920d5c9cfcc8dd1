/-
  What must come of every program comes of this one.
-/
import Derived.Test.YtmfagijhhmeeeaaXPd
set_option linter.unusedVariables false
set_option linter.unusedSimpArgs false
set_option maxRecDepth 100000
set_option maxHeartbeats 1000000
namespace Go.Proofs.Ytmfagijhhmeeeaa
open Go Go.SL Go.Proofs
theorem w_lives : Spec0 Try.prog 12 [] (B true) := sx0 hm hF 1000 20 [] [] (by kernel_rfl) trivial
end Go.Proofs.Ytmfagijhhmeeeaa
