/-
  What must come of every program comes of this one.
-/
import Derived.Test.YtcedoopcjlekcaaXPq3
set_option linter.unusedVariables false
set_option linter.unusedSimpArgs false
set_option maxRecDepth 100000
set_option maxHeartbeats 1000000
namespace Go.Proofs.Ytcedoopcjlekcaa
open Go Go.SL Go.Proofs
theorem w_lives : Spec0 Try.prog 9 [] (B true) := sx0 hm hF 1000 20 [] [] (by kernel_rfl) trivial
end Go.Proofs.Ytcedoopcjlekcaa
