/-
  A number of three bytes.
-/
import Derived.Test.YtkhpligflffamaaXOq3
set_option linter.unusedVariables false
set_option linter.unusedSimpArgs false
set_option maxRecDepth 100000
set_option maxHeartbeats 1000000
namespace Go.Proofs.Ytkhpligflffamaa
open Go Go.SL Go.Proofs
theorem w_Num3 {l : List UInt8} : Spec0 Try.prog 30 [.im 1 ((l.take 3).map byteAV)] (.sc (.int .u64 ((be (l.take 3) : Nat) : Int))) := by
  have h := w_Num (l := l.take 3) (by rw [List.length_take]; omega)
  rwa [Nat.mod_eq_of_lt (by have := be_take l (n := 3) (k := 3) (by decide); omega)] at h
theorem wrap_be3 (l : List UInt8) : IntKind.i64.wrap ((be (l.take 3) : Nat) : Int) = ((be (l.take 3) : Nat) : Int) := by
  have := be_take l (n := 3) (k := 3) (by decide)
  rw [IntWalk.i64_in _ (by omega)]
theorem gmd {l : List UInt8} {i : Nat} (h : i < l.length) : (l.map byteAV)[i]? = some (byteAV (l.getD i 0)) := by rw [List.getElem?_map, getD_nth h]; rfl

end Go.Proofs.Ytkhpligflffamaa
