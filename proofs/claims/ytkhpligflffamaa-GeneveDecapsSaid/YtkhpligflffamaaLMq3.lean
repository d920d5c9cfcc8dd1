/-
  The law GeneveLonger.
-/
import Derived.Test.YtkhpligflffamaaLEq3
import Derived.Test.YtkhpligflffamaaDEq3
import Derived.Test.YtkhpligflffamaaLNq3
set_option linter.unusedVariables false
set_option linter.unusedSimpArgs false
set_option maxRecDepth 100000
set_option maxHeartbeats 1000000
namespace Go.Proofs.Ytkhpligflffamaa
open Go Go.SL Go.Proofs

end Go.Proofs.Ytkhpligflffamaa
