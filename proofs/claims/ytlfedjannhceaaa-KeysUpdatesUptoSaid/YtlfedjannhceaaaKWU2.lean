/-
  What the function given to ContainsFunc answers.
-/
import Derived.Test.YtlfedjannhceaaaKRU2
set_option linter.unusedVariables false
set_option linter.unusedSimpArgs false
set_option maxRecDepth 100000
set_option maxHeartbeats 1000000
namespace Go.Proofs.Ytlfedjannhceaaa
open Go Go.SL Go.Proofs
theorem w_c30 (a : Key) (r : Rw) : Spec0 Try.prog 30 [.agg (keyC a), .ip (rowC r) 0] (B (ByteArray.toList a.name == ByteArray.toList r.name)) := sx0 hm hF 1000 20 [] [] (by kernel_rfl) trivial
end Go.Proofs.Ytlfedjannhceaaa
