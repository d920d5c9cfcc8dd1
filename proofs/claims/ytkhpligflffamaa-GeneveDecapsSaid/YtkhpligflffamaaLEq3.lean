/-
  The law GeneveEncaps.
-/
import Derived.Test.YtkhpligflffamaaLGq3
set_option linter.unusedVariables false
set_option linter.unusedSimpArgs false
set_option maxRecDepth 100000
set_option maxHeartbeats 1000000
namespace Go.Proofs.Ytkhpligflffamaa
open Go Go.SL Go.Proofs
theorem w_lives : Spec0 Try.prog 9 [] (B true) := sx0 hm hF 1000 20 [] [22 ≤ 9223372036854775807, 8 ≤ 9223372036854775807, 22 ≤ 9223372036854775807, 8 ≤ 9223372036854775807] (by kernel_rfl) ⟨by decide, by decide, by decide, by decide, trivial⟩

end Go.Proofs.Ytkhpligflffamaa
