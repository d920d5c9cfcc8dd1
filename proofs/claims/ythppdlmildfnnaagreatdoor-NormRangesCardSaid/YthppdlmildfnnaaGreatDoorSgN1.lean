/-
  A contract over few own rows used where there are more: the rows named are turned as the contract says, the others stay, new ones stand behind.
-/
import Derived.Test.YthppdlmildfnnaaGreatDoorSdN1
set_option linter.unusedVariables false
set_option linter.unusedSimpArgs false
set_option linter.unusedSectionVars false
namespace Go.SL
open Go
variable [Tabs]
variable {P : Program} {F : Nat → Prop} {μ μ' : List Nm} {w w' : World}

end Go.SL
