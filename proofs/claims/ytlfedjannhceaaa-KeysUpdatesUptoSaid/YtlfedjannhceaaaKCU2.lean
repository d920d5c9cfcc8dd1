/-
  What the functions given to IndexFunc answer.
-/
import Derived.Test.YtlfedjannhceaaaXKU2
set_option linter.unusedVariables false
set_option linter.unusedSimpArgs false
set_option maxRecDepth 100000
set_option maxHeartbeats 1000000
namespace Go.Proofs.Ytlfedjannhceaaa
open Go Go.SL Go.Proofs
theorem w_c26 (a : Key) (x : ByteArray) : Spec0 Try.prog 26 [.agg (keyC a), .ip [S x] 0] (B (ByteArray.toList a.name == ByteArray.toList x)) := sx0 hm hF 1000 20 [] [] (by kernel_rfl) trivial
end Go.Proofs.Ytlfedjannhceaaa
