/-
  What an argument holds when a law is called.
-/
import Derived.Test.YtmihiknppifkdaaGreatRows
import Derived.Test.YtmihiknppifkdaaGreatACa
set_option linter.unusedVariables false
set_option linter.unusedSimpArgs false
set_option maxRecDepth 100000
set_option maxHeartbeats 1000000
namespace Go.Proofs.YtmihiknppifkdaaGreat
open Go Go.SL Go.Proofs
open Go.ChangeShapes Go.WideShapes Go.ChangeAt Go.RowKit
theorem Tryz.own : ownKnob Tryz.prog.godebug = none := by kernel_rfl
theorem Tryz.laidOut : laidOutB Tryz.prog = true := by kernel_rfl
def isK (k : IntKind) (x : AV) : Prop := ∃ n : Int, x = .sc (.int k n) ∧ k.min ≤ n ∧ n ≤ k.max
theorem rv_I64 (W : World) : RdV Tryz.prog W 3 (isK .i64) := rv_int Tryz.underlying3

end Go.Proofs.YtmihiknppifkdaaGreat
