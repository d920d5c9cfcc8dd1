/-
  Tunnels that are the same.
-/
import Derived.Test.YtkhpligflffamaaXOq2
import Derived.Test.YtkhpligflffamaaSeq2
set_option linter.unusedVariables false
set_option linter.unusedSimpArgs false
set_option maxRecDepth 100000
set_option maxHeartbeats 1000000
namespace Go.Proofs.Ytkhpligflffamaa
open Go Go.SL Go.Proofs

end Go.Proofs.Ytkhpligflffamaa
