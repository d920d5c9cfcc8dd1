/-
  The law GeneveLonger, out of its parts.
-/
import Derived.Test.YtkhpligflffamaaXOq3
set_option linter.unusedVariables false
set_option linter.unusedSimpArgs false
set_option maxRecDepth 100000
set_option maxHeartbeats 1000000
namespace Go.Proofs.Ytkhpligflffamaa
open Go Go.SL Go.Proofs
end Go.Proofs.Ytkhpligflffamaa
