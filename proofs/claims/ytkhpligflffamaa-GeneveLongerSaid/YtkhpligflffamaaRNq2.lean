/-
  The bytes of a tunnel, the reference's.
-/
import Derived.Test.YtkhpligflffamaaO1q2
import Derived.Test.YtkhpligflffamaaSeq2
set_option linter.unusedVariables false
set_option linter.unusedSimpArgs false
set_option maxRecDepth 100000
set_option maxHeartbeats 1000000
namespace Go.Proofs.Ytkhpligflffamaa
open Go Go.SL Go.Proofs
def fl : Bool → Bool → UInt8
  | true, true => 192
  | true, false => 128
  | false, true => 64
  | false, false => 0
/-- A tunnel's data. -/
def hdrL (O : List UInt8) (vn : Nat) (oam cr : Bool) (fr : ByteArray) : List UInt8 := [UInt8.ofNat (O.length / 4), fl oam cr, 101, 88, UInt8.ofNat (vn / 65536), UInt8.ofNat (vn / 256), UInt8.ofNat vn, 0] ++ O ++ fr.data.toList
end Go.Proofs.Ytkhpligflffamaa
