/-
  Loops whose rounds may end by any change of what is told; some rows frozen; what a contract hands back frozen.
-/
import Derived.Test.YthppdlmildfnnaaGreatDoorSgN1
set_option linter.unusedVariables false
set_option linter.unusedSimpArgs false
set_option linter.unusedSectionVars false
namespace Go.SL
open Go
variable [Tabs]
variable {P : Program} {n : Nat} {F : Nat → Prop} {μ μ' μ0 μ1 μ2 : List Nm} {w w' w0 w1 w2 : World}

end Go.SL
