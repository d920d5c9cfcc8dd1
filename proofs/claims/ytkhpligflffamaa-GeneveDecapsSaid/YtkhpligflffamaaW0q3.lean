/-
  Short names of values.
-/
import Derived.Test.YtkhpligflffamaaWaq3
namespace Go.Proofs.Ytkhpligflffamaa
open Go Go.SL Go.Proofs
@[reducible] def I (k : IntKind) (n : Int) : AV := .sc (.int k n)
@[reducible] def B (b : Bool) : AV := .sc (.bool b)
@[reducible] def S (b : ByteArray) : AV := .sc (.string b)
end Go.Proofs.Ytkhpligflffamaa
