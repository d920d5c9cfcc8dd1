/-
  Trailing zeros.
-/
import Derived.Test.YthppdlmildfnnaaGreatDoorXJN1
import Derived.Lib.TrailingZeros
set_option linter.unusedVariables false
set_option linter.unusedSimpArgs false
set_option maxRecDepth 100000
set_option maxHeartbeats 1000000
namespace Go.Proofs.YthppdlmildfnnaaGreatDoor
open Go Go.SL Go.Proofs
/-- The lowest bit, as the code computes it. -/
@[reducible] def TZ (x : Nat) : Int := IntKind.u64.wrap ((BitVec.ofInt 64 (x : Int) &&& BitVec.ofInt 64 (IntKind.u64.wrap (0 - (x : Int)))).toNat : Int)
theorem tz0 (x : Nat) (h0 : ((x : Int) == 0) = false) (h : TZ x = 1) : Spec0 Tryz.prog 26 [I .u64 (x : Nat)] (I .i64 0) := sx0 hm hF 1000 20 [.b 26 1 1 false, .z 26 3 3 1] [IntKind.wrap IntKind.u64 (↑(BitVec.toNat (BitVec.ofInt 64 (↑x : Int) &&& BitVec.ofInt 64 (IntKind.wrap IntKind.u64 (0 - (↑x : Int))))) : Int) = 1, ((↑x : Int) == 0) = false] (by kernel_rfl) ⟨(by assumption), (by assumption), trivial⟩
theorem tz1 (x : Nat) (h0 : ((x : Int) == 0) = false) (h : TZ x = 2) : Spec0 Tryz.prog 26 [I .u64 (x : Nat)] (I .i64 1) := sx0 hm hF 1000 20 [.b 26 1 1 false, .z 26 3 3 2] [IntKind.wrap IntKind.u64 (↑(BitVec.toNat (BitVec.ofInt 64 (↑x : Int) &&& BitVec.ofInt 64 (IntKind.wrap IntKind.u64 (0 - (↑x : Int))))) : Int) = 2, ((↑x : Int) == 0) = false] (by kernel_rfl) ⟨(by assumption), (by assumption), trivial⟩
theorem tz2 (x : Nat) (h0 : ((x : Int) == 0) = false) (h : TZ x = 4) : Spec0 Tryz.prog 26 [I .u64 (x : Nat)] (I .i64 2) := sx0 hm hF 1000 20 [.b 26 1 1 false, .z 26 3 3 4] [IntKind.wrap IntKind.u64 (↑(BitVec.toNat (BitVec.ofInt 64 (↑x : Int) &&& BitVec.ofInt 64 (IntKind.wrap IntKind.u64 (0 - (↑x : Int))))) : Int) = 4, ((↑x : Int) == 0) = false] (by kernel_rfl) ⟨(by assumption), (by assumption), trivial⟩
theorem tz3 (x : Nat) (h0 : ((x : Int) == 0) = false) (h : TZ x = 8) : Spec0 Tryz.prog 26 [I .u64 (x : Nat)] (I .i64 3) := sx0 hm hF 1000 20 [.b 26 1 1 false, .z 26 3 3 8] [IntKind.wrap IntKind.u64 (↑(BitVec.toNat (BitVec.ofInt 64 (↑x : Int) &&& BitVec.ofInt 64 (IntKind.wrap IntKind.u64 (0 - (↑x : Int))))) : Int) = 8, ((↑x : Int) == 0) = false] (by kernel_rfl) ⟨(by assumption), (by assumption), trivial⟩
theorem tz4 (x : Nat) (h0 : ((x : Int) == 0) = false) (h : TZ x = 16) : Spec0 Tryz.prog 26 [I .u64 (x : Nat)] (I .i64 4) := sx0 hm hF 1000 20 [.b 26 1 1 false, .z 26 3 3 16] [IntKind.wrap IntKind.u64 (↑(BitVec.toNat (BitVec.ofInt 64 (↑x : Int) &&& BitVec.ofInt 64 (IntKind.wrap IntKind.u64 (0 - (↑x : Int))))) : Int) = 16, ((↑x : Int) == 0) = false] (by kernel_rfl) ⟨(by assumption), (by assumption), trivial⟩
theorem tz5 (x : Nat) (h0 : ((x : Int) == 0) = false) (h : TZ x = 32) : Spec0 Tryz.prog 26 [I .u64 (x : Nat)] (I .i64 5) := sx0 hm hF 1000 20 [.b 26 1 1 false, .z 26 3 3 32] [IntKind.wrap IntKind.u64 (↑(BitVec.toNat (BitVec.ofInt 64 (↑x : Int) &&& BitVec.ofInt 64 (IntKind.wrap IntKind.u64 (0 - (↑x : Int))))) : Int) = 32, ((↑x : Int) == 0) = false] (by kernel_rfl) ⟨(by assumption), (by assumption), trivial⟩
theorem tz6 (x : Nat) (h0 : ((x : Int) == 0) = false) (h : TZ x = 64) : Spec0 Tryz.prog 26 [I .u64 (x : Nat)] (I .i64 6) := sx0 hm hF 1000 20 [.b 26 1 1 false, .z 26 3 3 64] [IntKind.wrap IntKind.u64 (↑(BitVec.toNat (BitVec.ofInt 64 (↑x : Int) &&& BitVec.ofInt 64 (IntKind.wrap IntKind.u64 (0 - (↑x : Int))))) : Int) = 64, ((↑x : Int) == 0) = false] (by kernel_rfl) ⟨(by assumption), (by assumption), trivial⟩
theorem tz7 (x : Nat) (h0 : ((x : Int) == 0) = false) (h : TZ x = 128) : Spec0 Tryz.prog 26 [I .u64 (x : Nat)] (I .i64 7) := sx0 hm hF 1000 20 [.b 26 1 1 false, .z 26 3 3 128] [IntKind.wrap IntKind.u64 (↑(BitVec.toNat (BitVec.ofInt 64 (↑x : Int) &&& BitVec.ofInt 64 (IntKind.wrap IntKind.u64 (0 - (↑x : Int))))) : Int) = 128, ((↑x : Int) == 0) = false] (by kernel_rfl) ⟨(by assumption), (by assumption), trivial⟩
theorem tz8 (x : Nat) (h0 : ((x : Int) == 0) = false) (h : TZ x = 256) : Spec0 Tryz.prog 26 [I .u64 (x : Nat)] (I .i64 8) := sx0 hm hF 1000 20 [.b 26 1 1 false, .z 26 3 3 256] [IntKind.wrap IntKind.u64 (↑(BitVec.toNat (BitVec.ofInt 64 (↑x : Int) &&& BitVec.ofInt 64 (IntKind.wrap IntKind.u64 (0 - (↑x : Int))))) : Int) = 256, ((↑x : Int) == 0) = false] (by kernel_rfl) ⟨(by assumption), (by assumption), trivial⟩
theorem tz9 (x : Nat) (h0 : ((x : Int) == 0) = false) (h : TZ x = 512) : Spec0 Tryz.prog 26 [I .u64 (x : Nat)] (I .i64 9) := sx0 hm hF 1000 20 [.b 26 1 1 false, .z 26 3 3 512] [IntKind.wrap IntKind.u64 (↑(BitVec.toNat (BitVec.ofInt 64 (↑x : Int) &&& BitVec.ofInt 64 (IntKind.wrap IntKind.u64 (0 - (↑x : Int))))) : Int) = 512, ((↑x : Int) == 0) = false] (by kernel_rfl) ⟨(by assumption), (by assumption), trivial⟩
theorem tz10 (x : Nat) (h0 : ((x : Int) == 0) = false) (h : TZ x = 1024) : Spec0 Tryz.prog 26 [I .u64 (x : Nat)] (I .i64 10) := sx0 hm hF 1000 20 [.b 26 1 1 false, .z 26 3 3 1024] [IntKind.wrap IntKind.u64 (↑(BitVec.toNat (BitVec.ofInt 64 (↑x : Int) &&& BitVec.ofInt 64 (IntKind.wrap IntKind.u64 (0 - (↑x : Int))))) : Int) = 1024, ((↑x : Int) == 0) = false] (by kernel_rfl) ⟨(by assumption), (by assumption), trivial⟩
theorem tz11 (x : Nat) (h0 : ((x : Int) == 0) = false) (h : TZ x = 2048) : Spec0 Tryz.prog 26 [I .u64 (x : Nat)] (I .i64 11) := sx0 hm hF 1000 20 [.b 26 1 1 false, .z 26 3 3 2048] [IntKind.wrap IntKind.u64 (↑(BitVec.toNat (BitVec.ofInt 64 (↑x : Int) &&& BitVec.ofInt 64 (IntKind.wrap IntKind.u64 (0 - (↑x : Int))))) : Int) = 2048, ((↑x : Int) == 0) = false] (by kernel_rfl) ⟨(by assumption), (by assumption), trivial⟩
theorem tz12 (x : Nat) (h0 : ((x : Int) == 0) = false) (h : TZ x = 4096) : Spec0 Tryz.prog 26 [I .u64 (x : Nat)] (I .i64 12) := sx0 hm hF 1000 20 [.b 26 1 1 false, .z 26 3 3 4096] [IntKind.wrap IntKind.u64 (↑(BitVec.toNat (BitVec.ofInt 64 (↑x : Int) &&& BitVec.ofInt 64 (IntKind.wrap IntKind.u64 (0 - (↑x : Int))))) : Int) = 4096, ((↑x : Int) == 0) = false] (by kernel_rfl) ⟨(by assumption), (by assumption), trivial⟩
theorem tz13 (x : Nat) (h0 : ((x : Int) == 0) = false) (h : TZ x = 8192) : Spec0 Tryz.prog 26 [I .u64 (x : Nat)] (I .i64 13) := sx0 hm hF 1000 20 [.b 26 1 1 false, .z 26 3 3 8192] [IntKind.wrap IntKind.u64 (↑(BitVec.toNat (BitVec.ofInt 64 (↑x : Int) &&& BitVec.ofInt 64 (IntKind.wrap IntKind.u64 (0 - (↑x : Int))))) : Int) = 8192, ((↑x : Int) == 0) = false] (by kernel_rfl) ⟨(by assumption), (by assumption), trivial⟩
theorem tz14 (x : Nat) (h0 : ((x : Int) == 0) = false) (h : TZ x = 16384) : Spec0 Tryz.prog 26 [I .u64 (x : Nat)] (I .i64 14) := sx0 hm hF 1000 20 [.b 26 1 1 false, .z 26 3 3 16384] [IntKind.wrap IntKind.u64 (↑(BitVec.toNat (BitVec.ofInt 64 (↑x : Int) &&& BitVec.ofInt 64 (IntKind.wrap IntKind.u64 (0 - (↑x : Int))))) : Int) = 16384, ((↑x : Int) == 0) = false] (by kernel_rfl) ⟨(by assumption), (by assumption), trivial⟩
theorem tz15 (x : Nat) (h0 : ((x : Int) == 0) = false) (h : TZ x = 32768) : Spec0 Tryz.prog 26 [I .u64 (x : Nat)] (I .i64 15) := sx0 hm hF 1000 20 [.b 26 1 1 false, .z 26 3 3 32768] [IntKind.wrap IntKind.u64 (↑(BitVec.toNat (BitVec.ofInt 64 (↑x : Int) &&& BitVec.ofInt 64 (IntKind.wrap IntKind.u64 (0 - (↑x : Int))))) : Int) = 32768, ((↑x : Int) == 0) = false] (by kernel_rfl) ⟨(by assumption), (by assumption), trivial⟩
theorem tz16 (x : Nat) (h0 : ((x : Int) == 0) = false) (h : TZ x = 65536) : Spec0 Tryz.prog 26 [I .u64 (x : Nat)] (I .i64 16) := sx0 hm hF 1000 20 [.b 26 1 1 false, .z 26 3 3 65536] [IntKind.wrap IntKind.u64 (↑(BitVec.toNat (BitVec.ofInt 64 (↑x : Int) &&& BitVec.ofInt 64 (IntKind.wrap IntKind.u64 (0 - (↑x : Int))))) : Int) = 65536, ((↑x : Int) == 0) = false] (by kernel_rfl) ⟨(by assumption), (by assumption), trivial⟩
theorem tz17 (x : Nat) (h0 : ((x : Int) == 0) = false) (h : TZ x = 131072) : Spec0 Tryz.prog 26 [I .u64 (x : Nat)] (I .i64 17) := sx0 hm hF 1000 20 [.b 26 1 1 false, .z 26 3 3 131072] [IntKind.wrap IntKind.u64 (↑(BitVec.toNat (BitVec.ofInt 64 (↑x : Int) &&& BitVec.ofInt 64 (IntKind.wrap IntKind.u64 (0 - (↑x : Int))))) : Int) = 131072, ((↑x : Int) == 0) = false] (by kernel_rfl) ⟨(by assumption), (by assumption), trivial⟩
theorem tz18 (x : Nat) (h0 : ((x : Int) == 0) = false) (h : TZ x = 262144) : Spec0 Tryz.prog 26 [I .u64 (x : Nat)] (I .i64 18) := sx0 hm hF 1000 20 [.b 26 1 1 false, .z 26 3 3 262144] [IntKind.wrap IntKind.u64 (↑(BitVec.toNat (BitVec.ofInt 64 (↑x : Int) &&& BitVec.ofInt 64 (IntKind.wrap IntKind.u64 (0 - (↑x : Int))))) : Int) = 262144, ((↑x : Int) == 0) = false] (by kernel_rfl) ⟨(by assumption), (by assumption), trivial⟩
theorem tz19 (x : Nat) (h0 : ((x : Int) == 0) = false) (h : TZ x = 524288) : Spec0 Tryz.prog 26 [I .u64 (x : Nat)] (I .i64 19) := sx0 hm hF 1000 20 [.b 26 1 1 false, .z 26 3 3 524288] [IntKind.wrap IntKind.u64 (↑(BitVec.toNat (BitVec.ofInt 64 (↑x : Int) &&& BitVec.ofInt 64 (IntKind.wrap IntKind.u64 (0 - (↑x : Int))))) : Int) = 524288, ((↑x : Int) == 0) = false] (by kernel_rfl) ⟨(by assumption), (by assumption), trivial⟩
theorem tz20 (x : Nat) (h0 : ((x : Int) == 0) = false) (h : TZ x = 1048576) : Spec0 Tryz.prog 26 [I .u64 (x : Nat)] (I .i64 20) := sx0 hm hF 1000 20 [.b 26 1 1 false, .z 26 3 3 1048576] [IntKind.wrap IntKind.u64 (↑(BitVec.toNat (BitVec.ofInt 64 (↑x : Int) &&& BitVec.ofInt 64 (IntKind.wrap IntKind.u64 (0 - (↑x : Int))))) : Int) = 1048576, ((↑x : Int) == 0) = false] (by kernel_rfl) ⟨(by assumption), (by assumption), trivial⟩
theorem tz21 (x : Nat) (h0 : ((x : Int) == 0) = false) (h : TZ x = 2097152) : Spec0 Tryz.prog 26 [I .u64 (x : Nat)] (I .i64 21) := sx0 hm hF 1000 20 [.b 26 1 1 false, .z 26 3 3 2097152] [IntKind.wrap IntKind.u64 (↑(BitVec.toNat (BitVec.ofInt 64 (↑x : Int) &&& BitVec.ofInt 64 (IntKind.wrap IntKind.u64 (0 - (↑x : Int))))) : Int) = 2097152, ((↑x : Int) == 0) = false] (by kernel_rfl) ⟨(by assumption), (by assumption), trivial⟩
theorem tz22 (x : Nat) (h0 : ((x : Int) == 0) = false) (h : TZ x = 4194304) : Spec0 Tryz.prog 26 [I .u64 (x : Nat)] (I .i64 22) := sx0 hm hF 1000 20 [.b 26 1 1 false, .z 26 3 3 4194304] [IntKind.wrap IntKind.u64 (↑(BitVec.toNat (BitVec.ofInt 64 (↑x : Int) &&& BitVec.ofInt 64 (IntKind.wrap IntKind.u64 (0 - (↑x : Int))))) : Int) = 4194304, ((↑x : Int) == 0) = false] (by kernel_rfl) ⟨(by assumption), (by assumption), trivial⟩
theorem tz23 (x : Nat) (h0 : ((x : Int) == 0) = false) (h : TZ x = 8388608) : Spec0 Tryz.prog 26 [I .u64 (x : Nat)] (I .i64 23) := sx0 hm hF 1000 20 [.b 26 1 1 false, .z 26 3 3 8388608] [IntKind.wrap IntKind.u64 (↑(BitVec.toNat (BitVec.ofInt 64 (↑x : Int) &&& BitVec.ofInt 64 (IntKind.wrap IntKind.u64 (0 - (↑x : Int))))) : Int) = 8388608, ((↑x : Int) == 0) = false] (by kernel_rfl) ⟨(by assumption), (by assumption), trivial⟩
theorem tz24 (x : Nat) (h0 : ((x : Int) == 0) = false) (h : TZ x = 16777216) : Spec0 Tryz.prog 26 [I .u64 (x : Nat)] (I .i64 24) := sx0 hm hF 1000 20 [.b 26 1 1 false, .z 26 3 3 16777216] [IntKind.wrap IntKind.u64 (↑(BitVec.toNat (BitVec.ofInt 64 (↑x : Int) &&& BitVec.ofInt 64 (IntKind.wrap IntKind.u64 (0 - (↑x : Int))))) : Int) = 16777216, ((↑x : Int) == 0) = false] (by kernel_rfl) ⟨(by assumption), (by assumption), trivial⟩
theorem tz25 (x : Nat) (h0 : ((x : Int) == 0) = false) (h : TZ x = 33554432) : Spec0 Tryz.prog 26 [I .u64 (x : Nat)] (I .i64 25) := sx0 hm hF 1000 20 [.b 26 1 1 false, .z 26 3 3 33554432] [IntKind.wrap IntKind.u64 (↑(BitVec.toNat (BitVec.ofInt 64 (↑x : Int) &&& BitVec.ofInt 64 (IntKind.wrap IntKind.u64 (0 - (↑x : Int))))) : Int) = 33554432, ((↑x : Int) == 0) = false] (by kernel_rfl) ⟨(by assumption), (by assumption), trivial⟩
theorem tz26 (x : Nat) (h0 : ((x : Int) == 0) = false) (h : TZ x = 67108864) : Spec0 Tryz.prog 26 [I .u64 (x : Nat)] (I .i64 26) := sx0 hm hF 1000 20 [.b 26 1 1 false, .z 26 3 3 67108864] [IntKind.wrap IntKind.u64 (↑(BitVec.toNat (BitVec.ofInt 64 (↑x : Int) &&& BitVec.ofInt 64 (IntKind.wrap IntKind.u64 (0 - (↑x : Int))))) : Int) = 67108864, ((↑x : Int) == 0) = false] (by kernel_rfl) ⟨(by assumption), (by assumption), trivial⟩
theorem tz27 (x : Nat) (h0 : ((x : Int) == 0) = false) (h : TZ x = 134217728) : Spec0 Tryz.prog 26 [I .u64 (x : Nat)] (I .i64 27) := sx0 hm hF 1000 20 [.b 26 1 1 false, .z 26 3 3 134217728] [IntKind.wrap IntKind.u64 (↑(BitVec.toNat (BitVec.ofInt 64 (↑x : Int) &&& BitVec.ofInt 64 (IntKind.wrap IntKind.u64 (0 - (↑x : Int))))) : Int) = 134217728, ((↑x : Int) == 0) = false] (by kernel_rfl) ⟨(by assumption), (by assumption), trivial⟩
theorem tz28 (x : Nat) (h0 : ((x : Int) == 0) = false) (h : TZ x = 268435456) : Spec0 Tryz.prog 26 [I .u64 (x : Nat)] (I .i64 28) := sx0 hm hF 1000 20 [.b 26 1 1 false, .z 26 3 3 268435456] [IntKind.wrap IntKind.u64 (↑(BitVec.toNat (BitVec.ofInt 64 (↑x : Int) &&& BitVec.ofInt 64 (IntKind.wrap IntKind.u64 (0 - (↑x : Int))))) : Int) = 268435456, ((↑x : Int) == 0) = false] (by kernel_rfl) ⟨(by assumption), (by assumption), trivial⟩
theorem tz29 (x : Nat) (h0 : ((x : Int) == 0) = false) (h : TZ x = 536870912) : Spec0 Tryz.prog 26 [I .u64 (x : Nat)] (I .i64 29) := sx0 hm hF 1000 20 [.b 26 1 1 false, .z 26 3 3 536870912] [IntKind.wrap IntKind.u64 (↑(BitVec.toNat (BitVec.ofInt 64 (↑x : Int) &&& BitVec.ofInt 64 (IntKind.wrap IntKind.u64 (0 - (↑x : Int))))) : Int) = 536870912, ((↑x : Int) == 0) = false] (by kernel_rfl) ⟨(by assumption), (by assumption), trivial⟩
theorem tz30 (x : Nat) (h0 : ((x : Int) == 0) = false) (h : TZ x = 1073741824) : Spec0 Tryz.prog 26 [I .u64 (x : Nat)] (I .i64 30) := sx0 hm hF 1000 20 [.b 26 1 1 false, .z 26 3 3 1073741824] [IntKind.wrap IntKind.u64 (↑(BitVec.toNat (BitVec.ofInt 64 (↑x : Int) &&& BitVec.ofInt 64 (IntKind.wrap IntKind.u64 (0 - (↑x : Int))))) : Int) = 1073741824, ((↑x : Int) == 0) = false] (by kernel_rfl) ⟨(by assumption), (by assumption), trivial⟩
theorem tz31 (x : Nat) (h0 : ((x : Int) == 0) = false) (h : TZ x = 2147483648) : Spec0 Tryz.prog 26 [I .u64 (x : Nat)] (I .i64 31) := sx0 hm hF 1000 20 [.b 26 1 1 false, .z 26 3 3 2147483648] [IntKind.wrap IntKind.u64 (↑(BitVec.toNat (BitVec.ofInt 64 (↑x : Int) &&& BitVec.ofInt 64 (IntKind.wrap IntKind.u64 (0 - (↑x : Int))))) : Int) = 2147483648, ((↑x : Int) == 0) = false] (by kernel_rfl) ⟨(by assumption), (by assumption), trivial⟩
theorem tz32 (x : Nat) (h0 : ((x : Int) == 0) = false) (h : TZ x = 4294967296) : Spec0 Tryz.prog 26 [I .u64 (x : Nat)] (I .i64 32) := sx0 hm hF 1000 20 [.b 26 1 1 false, .z 26 3 3 4294967296] [IntKind.wrap IntKind.u64 (↑(BitVec.toNat (BitVec.ofInt 64 (↑x : Int) &&& BitVec.ofInt 64 (IntKind.wrap IntKind.u64 (0 - (↑x : Int))))) : Int) = 4294967296, ((↑x : Int) == 0) = false] (by kernel_rfl) ⟨(by assumption), (by assumption), trivial⟩
theorem tz33 (x : Nat) (h0 : ((x : Int) == 0) = false) (h : TZ x = 8589934592) : Spec0 Tryz.prog 26 [I .u64 (x : Nat)] (I .i64 33) := sx0 hm hF 1000 20 [.b 26 1 1 false, .z 26 3 3 8589934592] [IntKind.wrap IntKind.u64 (↑(BitVec.toNat (BitVec.ofInt 64 (↑x : Int) &&& BitVec.ofInt 64 (IntKind.wrap IntKind.u64 (0 - (↑x : Int))))) : Int) = 8589934592, ((↑x : Int) == 0) = false] (by kernel_rfl) ⟨(by assumption), (by assumption), trivial⟩
theorem tz34 (x : Nat) (h0 : ((x : Int) == 0) = false) (h : TZ x = 17179869184) : Spec0 Tryz.prog 26 [I .u64 (x : Nat)] (I .i64 34) := sx0 hm hF 1000 20 [.b 26 1 1 false, .z 26 3 3 17179869184] [IntKind.wrap IntKind.u64 (↑(BitVec.toNat (BitVec.ofInt 64 (↑x : Int) &&& BitVec.ofInt 64 (IntKind.wrap IntKind.u64 (0 - (↑x : Int))))) : Int) = 17179869184, ((↑x : Int) == 0) = false] (by kernel_rfl) ⟨(by assumption), (by assumption), trivial⟩
theorem tz35 (x : Nat) (h0 : ((x : Int) == 0) = false) (h : TZ x = 34359738368) : Spec0 Tryz.prog 26 [I .u64 (x : Nat)] (I .i64 35) := sx0 hm hF 1000 20 [.b 26 1 1 false, .z 26 3 3 34359738368] [IntKind.wrap IntKind.u64 (↑(BitVec.toNat (BitVec.ofInt 64 (↑x : Int) &&& BitVec.ofInt 64 (IntKind.wrap IntKind.u64 (0 - (↑x : Int))))) : Int) = 34359738368, ((↑x : Int) == 0) = false] (by kernel_rfl) ⟨(by assumption), (by assumption), trivial⟩
theorem tz36 (x : Nat) (h0 : ((x : Int) == 0) = false) (h : TZ x = 68719476736) : Spec0 Tryz.prog 26 [I .u64 (x : Nat)] (I .i64 36) := sx0 hm hF 1000 20 [.b 26 1 1 false, .z 26 3 3 68719476736] [IntKind.wrap IntKind.u64 (↑(BitVec.toNat (BitVec.ofInt 64 (↑x : Int) &&& BitVec.ofInt 64 (IntKind.wrap IntKind.u64 (0 - (↑x : Int))))) : Int) = 68719476736, ((↑x : Int) == 0) = false] (by kernel_rfl) ⟨(by assumption), (by assumption), trivial⟩
theorem tz37 (x : Nat) (h0 : ((x : Int) == 0) = false) (h : TZ x = 137438953472) : Spec0 Tryz.prog 26 [I .u64 (x : Nat)] (I .i64 37) := sx0 hm hF 1000 20 [.b 26 1 1 false, .z 26 3 3 137438953472] [IntKind.wrap IntKind.u64 (↑(BitVec.toNat (BitVec.ofInt 64 (↑x : Int) &&& BitVec.ofInt 64 (IntKind.wrap IntKind.u64 (0 - (↑x : Int))))) : Int) = 137438953472, ((↑x : Int) == 0) = false] (by kernel_rfl) ⟨(by assumption), (by assumption), trivial⟩
theorem tz38 (x : Nat) (h0 : ((x : Int) == 0) = false) (h : TZ x = 274877906944) : Spec0 Tryz.prog 26 [I .u64 (x : Nat)] (I .i64 38) := sx0 hm hF 1000 20 [.b 26 1 1 false, .z 26 3 3 274877906944] [IntKind.wrap IntKind.u64 (↑(BitVec.toNat (BitVec.ofInt 64 (↑x : Int) &&& BitVec.ofInt 64 (IntKind.wrap IntKind.u64 (0 - (↑x : Int))))) : Int) = 274877906944, ((↑x : Int) == 0) = false] (by kernel_rfl) ⟨(by assumption), (by assumption), trivial⟩
theorem tz39 (x : Nat) (h0 : ((x : Int) == 0) = false) (h : TZ x = 549755813888) : Spec0 Tryz.prog 26 [I .u64 (x : Nat)] (I .i64 39) := sx0 hm hF 1000 20 [.b 26 1 1 false, .z 26 3 3 549755813888] [IntKind.wrap IntKind.u64 (↑(BitVec.toNat (BitVec.ofInt 64 (↑x : Int) &&& BitVec.ofInt 64 (IntKind.wrap IntKind.u64 (0 - (↑x : Int))))) : Int) = 549755813888, ((↑x : Int) == 0) = false] (by kernel_rfl) ⟨(by assumption), (by assumption), trivial⟩
theorem tz40 (x : Nat) (h0 : ((x : Int) == 0) = false) (h : TZ x = 1099511627776) : Spec0 Tryz.prog 26 [I .u64 (x : Nat)] (I .i64 40) := sx0 hm hF 1000 20 [.b 26 1 1 false, .z 26 3 3 1099511627776] [IntKind.wrap IntKind.u64 (↑(BitVec.toNat (BitVec.ofInt 64 (↑x : Int) &&& BitVec.ofInt 64 (IntKind.wrap IntKind.u64 (0 - (↑x : Int))))) : Int) = 1099511627776, ((↑x : Int) == 0) = false] (by kernel_rfl) ⟨(by assumption), (by assumption), trivial⟩
theorem tz41 (x : Nat) (h0 : ((x : Int) == 0) = false) (h : TZ x = 2199023255552) : Spec0 Tryz.prog 26 [I .u64 (x : Nat)] (I .i64 41) := sx0 hm hF 1000 20 [.b 26 1 1 false, .z 26 3 3 2199023255552] [IntKind.wrap IntKind.u64 (↑(BitVec.toNat (BitVec.ofInt 64 (↑x : Int) &&& BitVec.ofInt 64 (IntKind.wrap IntKind.u64 (0 - (↑x : Int))))) : Int) = 2199023255552, ((↑x : Int) == 0) = false] (by kernel_rfl) ⟨(by assumption), (by assumption), trivial⟩
theorem tz42 (x : Nat) (h0 : ((x : Int) == 0) = false) (h : TZ x = 4398046511104) : Spec0 Tryz.prog 26 [I .u64 (x : Nat)] (I .i64 42) := sx0 hm hF 1000 20 [.b 26 1 1 false, .z 26 3 3 4398046511104] [IntKind.wrap IntKind.u64 (↑(BitVec.toNat (BitVec.ofInt 64 (↑x : Int) &&& BitVec.ofInt 64 (IntKind.wrap IntKind.u64 (0 - (↑x : Int))))) : Int) = 4398046511104, ((↑x : Int) == 0) = false] (by kernel_rfl) ⟨(by assumption), (by assumption), trivial⟩
theorem tz43 (x : Nat) (h0 : ((x : Int) == 0) = false) (h : TZ x = 8796093022208) : Spec0 Tryz.prog 26 [I .u64 (x : Nat)] (I .i64 43) := sx0 hm hF 1000 20 [.b 26 1 1 false, .z 26 3 3 8796093022208] [IntKind.wrap IntKind.u64 (↑(BitVec.toNat (BitVec.ofInt 64 (↑x : Int) &&& BitVec.ofInt 64 (IntKind.wrap IntKind.u64 (0 - (↑x : Int))))) : Int) = 8796093022208, ((↑x : Int) == 0) = false] (by kernel_rfl) ⟨(by assumption), (by assumption), trivial⟩
theorem tz44 (x : Nat) (h0 : ((x : Int) == 0) = false) (h : TZ x = 17592186044416) : Spec0 Tryz.prog 26 [I .u64 (x : Nat)] (I .i64 44) := sx0 hm hF 1000 20 [.b 26 1 1 false, .z 26 3 3 17592186044416] [IntKind.wrap IntKind.u64 (↑(BitVec.toNat (BitVec.ofInt 64 (↑x : Int) &&& BitVec.ofInt 64 (IntKind.wrap IntKind.u64 (0 - (↑x : Int))))) : Int) = 17592186044416, ((↑x : Int) == 0) = false] (by kernel_rfl) ⟨(by assumption), (by assumption), trivial⟩
theorem tz45 (x : Nat) (h0 : ((x : Int) == 0) = false) (h : TZ x = 35184372088832) : Spec0 Tryz.prog 26 [I .u64 (x : Nat)] (I .i64 45) := sx0 hm hF 1000 20 [.b 26 1 1 false, .z 26 3 3 35184372088832] [IntKind.wrap IntKind.u64 (↑(BitVec.toNat (BitVec.ofInt 64 (↑x : Int) &&& BitVec.ofInt 64 (IntKind.wrap IntKind.u64 (0 - (↑x : Int))))) : Int) = 35184372088832, ((↑x : Int) == 0) = false] (by kernel_rfl) ⟨(by assumption), (by assumption), trivial⟩
theorem tz46 (x : Nat) (h0 : ((x : Int) == 0) = false) (h : TZ x = 70368744177664) : Spec0 Tryz.prog 26 [I .u64 (x : Nat)] (I .i64 46) := sx0 hm hF 1000 20 [.b 26 1 1 false, .z 26 3 3 70368744177664] [IntKind.wrap IntKind.u64 (↑(BitVec.toNat (BitVec.ofInt 64 (↑x : Int) &&& BitVec.ofInt 64 (IntKind.wrap IntKind.u64 (0 - (↑x : Int))))) : Int) = 70368744177664, ((↑x : Int) == 0) = false] (by kernel_rfl) ⟨(by assumption), (by assumption), trivial⟩
theorem tz47 (x : Nat) (h0 : ((x : Int) == 0) = false) (h : TZ x = 140737488355328) : Spec0 Tryz.prog 26 [I .u64 (x : Nat)] (I .i64 47) := sx0 hm hF 1000 20 [.b 26 1 1 false, .z 26 3 3 140737488355328] [IntKind.wrap IntKind.u64 (↑(BitVec.toNat (BitVec.ofInt 64 (↑x : Int) &&& BitVec.ofInt 64 (IntKind.wrap IntKind.u64 (0 - (↑x : Int))))) : Int) = 140737488355328, ((↑x : Int) == 0) = false] (by kernel_rfl) ⟨(by assumption), (by assumption), trivial⟩
theorem tz48 (x : Nat) (h0 : ((x : Int) == 0) = false) (h : TZ x = 281474976710656) : Spec0 Tryz.prog 26 [I .u64 (x : Nat)] (I .i64 48) := sx0 hm hF 1000 20 [.b 26 1 1 false, .z 26 3 3 281474976710656] [IntKind.wrap IntKind.u64 (↑(BitVec.toNat (BitVec.ofInt 64 (↑x : Int) &&& BitVec.ofInt 64 (IntKind.wrap IntKind.u64 (0 - (↑x : Int))))) : Int) = 281474976710656, ((↑x : Int) == 0) = false] (by kernel_rfl) ⟨(by assumption), (by assumption), trivial⟩
theorem tz49 (x : Nat) (h0 : ((x : Int) == 0) = false) (h : TZ x = 562949953421312) : Spec0 Tryz.prog 26 [I .u64 (x : Nat)] (I .i64 49) := sx0 hm hF 1000 20 [.b 26 1 1 false, .z 26 3 3 562949953421312] [IntKind.wrap IntKind.u64 (↑(BitVec.toNat (BitVec.ofInt 64 (↑x : Int) &&& BitVec.ofInt 64 (IntKind.wrap IntKind.u64 (0 - (↑x : Int))))) : Int) = 562949953421312, ((↑x : Int) == 0) = false] (by kernel_rfl) ⟨(by assumption), (by assumption), trivial⟩
theorem tz50 (x : Nat) (h0 : ((x : Int) == 0) = false) (h : TZ x = 1125899906842624) : Spec0 Tryz.prog 26 [I .u64 (x : Nat)] (I .i64 50) := sx0 hm hF 1000 20 [.b 26 1 1 false, .z 26 3 3 1125899906842624] [IntKind.wrap IntKind.u64 (↑(BitVec.toNat (BitVec.ofInt 64 (↑x : Int) &&& BitVec.ofInt 64 (IntKind.wrap IntKind.u64 (0 - (↑x : Int))))) : Int) = 1125899906842624, ((↑x : Int) == 0) = false] (by kernel_rfl) ⟨(by assumption), (by assumption), trivial⟩
theorem tz51 (x : Nat) (h0 : ((x : Int) == 0) = false) (h : TZ x = 2251799813685248) : Spec0 Tryz.prog 26 [I .u64 (x : Nat)] (I .i64 51) := sx0 hm hF 1000 20 [.b 26 1 1 false, .z 26 3 3 2251799813685248] [IntKind.wrap IntKind.u64 (↑(BitVec.toNat (BitVec.ofInt 64 (↑x : Int) &&& BitVec.ofInt 64 (IntKind.wrap IntKind.u64 (0 - (↑x : Int))))) : Int) = 2251799813685248, ((↑x : Int) == 0) = false] (by kernel_rfl) ⟨(by assumption), (by assumption), trivial⟩
theorem tz52 (x : Nat) (h0 : ((x : Int) == 0) = false) (h : TZ x = 4503599627370496) : Spec0 Tryz.prog 26 [I .u64 (x : Nat)] (I .i64 52) := sx0 hm hF 1000 20 [.b 26 1 1 false, .z 26 3 3 4503599627370496] [IntKind.wrap IntKind.u64 (↑(BitVec.toNat (BitVec.ofInt 64 (↑x : Int) &&& BitVec.ofInt 64 (IntKind.wrap IntKind.u64 (0 - (↑x : Int))))) : Int) = 4503599627370496, ((↑x : Int) == 0) = false] (by kernel_rfl) ⟨(by assumption), (by assumption), trivial⟩
theorem tz53 (x : Nat) (h0 : ((x : Int) == 0) = false) (h : TZ x = 9007199254740992) : Spec0 Tryz.prog 26 [I .u64 (x : Nat)] (I .i64 53) := sx0 hm hF 1000 20 [.b 26 1 1 false, .z 26 3 3 9007199254740992] [IntKind.wrap IntKind.u64 (↑(BitVec.toNat (BitVec.ofInt 64 (↑x : Int) &&& BitVec.ofInt 64 (IntKind.wrap IntKind.u64 (0 - (↑x : Int))))) : Int) = 9007199254740992, ((↑x : Int) == 0) = false] (by kernel_rfl) ⟨(by assumption), (by assumption), trivial⟩
theorem tz54 (x : Nat) (h0 : ((x : Int) == 0) = false) (h : TZ x = 18014398509481984) : Spec0 Tryz.prog 26 [I .u64 (x : Nat)] (I .i64 54) := sx0 hm hF 1000 20 [.b 26 1 1 false, .z 26 3 3 18014398509481984] [IntKind.wrap IntKind.u64 (↑(BitVec.toNat (BitVec.ofInt 64 (↑x : Int) &&& BitVec.ofInt 64 (IntKind.wrap IntKind.u64 (0 - (↑x : Int))))) : Int) = 18014398509481984, ((↑x : Int) == 0) = false] (by kernel_rfl) ⟨(by assumption), (by assumption), trivial⟩
theorem tz55 (x : Nat) (h0 : ((x : Int) == 0) = false) (h : TZ x = 36028797018963968) : Spec0 Tryz.prog 26 [I .u64 (x : Nat)] (I .i64 55) := sx0 hm hF 1000 20 [.b 26 1 1 false, .z 26 3 3 36028797018963968] [IntKind.wrap IntKind.u64 (↑(BitVec.toNat (BitVec.ofInt 64 (↑x : Int) &&& BitVec.ofInt 64 (IntKind.wrap IntKind.u64 (0 - (↑x : Int))))) : Int) = 36028797018963968, ((↑x : Int) == 0) = false] (by kernel_rfl) ⟨(by assumption), (by assumption), trivial⟩
theorem tz56 (x : Nat) (h0 : ((x : Int) == 0) = false) (h : TZ x = 72057594037927936) : Spec0 Tryz.prog 26 [I .u64 (x : Nat)] (I .i64 56) := sx0 hm hF 1000 20 [.b 26 1 1 false, .z 26 3 3 72057594037927936] [IntKind.wrap IntKind.u64 (↑(BitVec.toNat (BitVec.ofInt 64 (↑x : Int) &&& BitVec.ofInt 64 (IntKind.wrap IntKind.u64 (0 - (↑x : Int))))) : Int) = 72057594037927936, ((↑x : Int) == 0) = false] (by kernel_rfl) ⟨(by assumption), (by assumption), trivial⟩
theorem tz57 (x : Nat) (h0 : ((x : Int) == 0) = false) (h : TZ x = 144115188075855872) : Spec0 Tryz.prog 26 [I .u64 (x : Nat)] (I .i64 57) := sx0 hm hF 1000 20 [.b 26 1 1 false, .z 26 3 3 144115188075855872] [IntKind.wrap IntKind.u64 (↑(BitVec.toNat (BitVec.ofInt 64 (↑x : Int) &&& BitVec.ofInt 64 (IntKind.wrap IntKind.u64 (0 - (↑x : Int))))) : Int) = 144115188075855872, ((↑x : Int) == 0) = false] (by kernel_rfl) ⟨(by assumption), (by assumption), trivial⟩
theorem tz58 (x : Nat) (h0 : ((x : Int) == 0) = false) (h : TZ x = 288230376151711744) : Spec0 Tryz.prog 26 [I .u64 (x : Nat)] (I .i64 58) := sx0 hm hF 1000 20 [.b 26 1 1 false, .z 26 3 3 288230376151711744] [IntKind.wrap IntKind.u64 (↑(BitVec.toNat (BitVec.ofInt 64 (↑x : Int) &&& BitVec.ofInt 64 (IntKind.wrap IntKind.u64 (0 - (↑x : Int))))) : Int) = 288230376151711744, ((↑x : Int) == 0) = false] (by kernel_rfl) ⟨(by assumption), (by assumption), trivial⟩
theorem tz59 (x : Nat) (h0 : ((x : Int) == 0) = false) (h : TZ x = 576460752303423488) : Spec0 Tryz.prog 26 [I .u64 (x : Nat)] (I .i64 59) := sx0 hm hF 1000 20 [.b 26 1 1 false, .z 26 3 3 576460752303423488] [IntKind.wrap IntKind.u64 (↑(BitVec.toNat (BitVec.ofInt 64 (↑x : Int) &&& BitVec.ofInt 64 (IntKind.wrap IntKind.u64 (0 - (↑x : Int))))) : Int) = 576460752303423488, ((↑x : Int) == 0) = false] (by kernel_rfl) ⟨(by assumption), (by assumption), trivial⟩
theorem tz60 (x : Nat) (h0 : ((x : Int) == 0) = false) (h : TZ x = 1152921504606846976) : Spec0 Tryz.prog 26 [I .u64 (x : Nat)] (I .i64 60) := sx0 hm hF 1000 20 [.b 26 1 1 false, .z 26 3 3 1152921504606846976] [IntKind.wrap IntKind.u64 (↑(BitVec.toNat (BitVec.ofInt 64 (↑x : Int) &&& BitVec.ofInt 64 (IntKind.wrap IntKind.u64 (0 - (↑x : Int))))) : Int) = 1152921504606846976, ((↑x : Int) == 0) = false] (by kernel_rfl) ⟨(by assumption), (by assumption), trivial⟩
theorem tz61 (x : Nat) (h0 : ((x : Int) == 0) = false) (h : TZ x = 2305843009213693952) : Spec0 Tryz.prog 26 [I .u64 (x : Nat)] (I .i64 61) := sx0 hm hF 1000 20 [.b 26 1 1 false, .z 26 3 3 2305843009213693952] [IntKind.wrap IntKind.u64 (↑(BitVec.toNat (BitVec.ofInt 64 (↑x : Int) &&& BitVec.ofInt 64 (IntKind.wrap IntKind.u64 (0 - (↑x : Int))))) : Int) = 2305843009213693952, ((↑x : Int) == 0) = false] (by kernel_rfl) ⟨(by assumption), (by assumption), trivial⟩
theorem tz62 (x : Nat) (h0 : ((x : Int) == 0) = false) (h : TZ x = 4611686018427387904) : Spec0 Tryz.prog 26 [I .u64 (x : Nat)] (I .i64 62) := sx0 hm hF 1000 20 [.b 26 1 1 false, .z 26 3 3 4611686018427387904] [IntKind.wrap IntKind.u64 (↑(BitVec.toNat (BitVec.ofInt 64 (↑x : Int) &&& BitVec.ofInt 64 (IntKind.wrap IntKind.u64 (0 - (↑x : Int))))) : Int) = 4611686018427387904, ((↑x : Int) == 0) = false] (by kernel_rfl) ⟨(by assumption), (by assumption), trivial⟩
theorem tz63 (x : Nat) (h0 : ((x : Int) == 0) = false) (h : TZ x = 9223372036854775808) : Spec0 Tryz.prog 26 [I .u64 (x : Nat)] (I .i64 63) := sx0 hm hF 1000 20 [.b 26 1 1 false, .z 26 3 3 9223372036854775808] [IntKind.wrap IntKind.u64 (↑(BitVec.toNat (BitVec.ofInt 64 (↑x : Int) &&& BitVec.ofInt 64 (IntKind.wrap IntKind.u64 (0 - (↑x : Int))))) : Int) = 9223372036854775808, ((↑x : Int) == 0) = false] (by kernel_rfl) ⟨(by assumption), (by assumption), trivial⟩
theorem TZ_is (x : Nat) (h0 : x ≠ 0) (hx : x < 18446744073709551616) : TZ x = ((2 ^ Lib.ctz 64 x : Nat) : Int) ∧ Lib.ctz 64 x < 64 := by
  obtain ⟨h1, h2⟩ := Lib.lowest_bit 64 x h0 hx
  refine ⟨?_, h2⟩
  have e1 : IntKind.u64.wrap (0 - (x : Int)) = ((18446744073709551616 - x : Nat) : Int) := by rw [Int.zero_sub, IntKind.wrap_u64]; omega
  have b1 : (BitVec.ofInt 64 (x : Int)).toNat = x := by rw [BitVec.ofInt_natCast, BitVec.toNat_ofNat]; exact Nat.mod_eq_of_lt (by omega)
  have b2 : (BitVec.ofInt 64 ((18446744073709551616 - x : Nat) : Int)).toNat = 18446744073709551616 - x := by rw [BitVec.ofInt_natCast, BitVec.toNat_ofNat]; exact Nat.mod_eq_of_lt (by omega)
  have hl : 2 ^ Lib.ctz 64 x < 18446744073709551616 := by
    have : 2 ^ Lib.ctz 64 x < 2 ^ 64 := Nat.pow_lt_pow_right (by decide) h2
    simpa using this
  unfold TZ
  rw [e1, BitVec.toNat_and, b1, b2]
  have h3 : x &&& (18446744073709551616 - x) = 2 ^ Lib.ctz 64 x := h1
  rw [h3, IntKind.wrap_u64]
  omega
theorem tzc0 (x : Nat) (hz : ((x : Int) == 0) = false) : ∀ r : Nat, r < 8 → TZ x = ((2 ^ (0 + r) : Nat) : Int) → Spec0 Tryz.prog 26 [I .u64 (x : Nat)] (I .i64 ((0 + r : Nat) : Int))
  | 0, _, h => tz0 x hz (h.trans (by decide))
  | 1, _, h => tz1 x hz (h.trans (by decide))
  | 2, _, h => tz2 x hz (h.trans (by decide))
  | 3, _, h => tz3 x hz (h.trans (by decide))
  | 4, _, h => tz4 x hz (h.trans (by decide))
  | 5, _, h => tz5 x hz (h.trans (by decide))
  | 6, _, h => tz6 x hz (h.trans (by decide))
  | 7, _, h => tz7 x hz (h.trans (by decide))
  | r + 8, h, _ => absurd h (by omega)
theorem tzc1 (x : Nat) (hz : ((x : Int) == 0) = false) : ∀ r : Nat, r < 8 → TZ x = ((2 ^ (8 + r) : Nat) : Int) → Spec0 Tryz.prog 26 [I .u64 (x : Nat)] (I .i64 ((8 + r : Nat) : Int))
  | 0, _, h => tz8 x hz (h.trans (by decide))
  | 1, _, h => tz9 x hz (h.trans (by decide))
  | 2, _, h => tz10 x hz (h.trans (by decide))
  | 3, _, h => tz11 x hz (h.trans (by decide))
  | 4, _, h => tz12 x hz (h.trans (by decide))
  | 5, _, h => tz13 x hz (h.trans (by decide))
  | 6, _, h => tz14 x hz (h.trans (by decide))
  | 7, _, h => tz15 x hz (h.trans (by decide))
  | r + 8, h, _ => absurd h (by omega)
theorem tzc2 (x : Nat) (hz : ((x : Int) == 0) = false) : ∀ r : Nat, r < 8 → TZ x = ((2 ^ (16 + r) : Nat) : Int) → Spec0 Tryz.prog 26 [I .u64 (x : Nat)] (I .i64 ((16 + r : Nat) : Int))
  | 0, _, h => tz16 x hz (h.trans (by decide))
  | 1, _, h => tz17 x hz (h.trans (by decide))
  | 2, _, h => tz18 x hz (h.trans (by decide))
  | 3, _, h => tz19 x hz (h.trans (by decide))
  | 4, _, h => tz20 x hz (h.trans (by decide))
  | 5, _, h => tz21 x hz (h.trans (by decide))
  | 6, _, h => tz22 x hz (h.trans (by decide))
  | 7, _, h => tz23 x hz (h.trans (by decide))
  | r + 8, h, _ => absurd h (by omega)
theorem tzc3 (x : Nat) (hz : ((x : Int) == 0) = false) : ∀ r : Nat, r < 8 → TZ x = ((2 ^ (24 + r) : Nat) : Int) → Spec0 Tryz.prog 26 [I .u64 (x : Nat)] (I .i64 ((24 + r : Nat) : Int))
  | 0, _, h => tz24 x hz (h.trans (by decide))
  | 1, _, h => tz25 x hz (h.trans (by decide))
  | 2, _, h => tz26 x hz (h.trans (by decide))
  | 3, _, h => tz27 x hz (h.trans (by decide))
  | 4, _, h => tz28 x hz (h.trans (by decide))
  | 5, _, h => tz29 x hz (h.trans (by decide))
  | 6, _, h => tz30 x hz (h.trans (by decide))
  | 7, _, h => tz31 x hz (h.trans (by decide))
  | r + 8, h, _ => absurd h (by omega)
theorem tzc4 (x : Nat) (hz : ((x : Int) == 0) = false) : ∀ r : Nat, r < 8 → TZ x = ((2 ^ (32 + r) : Nat) : Int) → Spec0 Tryz.prog 26 [I .u64 (x : Nat)] (I .i64 ((32 + r : Nat) : Int))
  | 0, _, h => tz32 x hz (h.trans (by decide))
  | 1, _, h => tz33 x hz (h.trans (by decide))
  | 2, _, h => tz34 x hz (h.trans (by decide))
  | 3, _, h => tz35 x hz (h.trans (by decide))
  | 4, _, h => tz36 x hz (h.trans (by decide))
  | 5, _, h => tz37 x hz (h.trans (by decide))
  | 6, _, h => tz38 x hz (h.trans (by decide))
  | 7, _, h => tz39 x hz (h.trans (by decide))
  | r + 8, h, _ => absurd h (by omega)
theorem tzc5 (x : Nat) (hz : ((x : Int) == 0) = false) : ∀ r : Nat, r < 8 → TZ x = ((2 ^ (40 + r) : Nat) : Int) → Spec0 Tryz.prog 26 [I .u64 (x : Nat)] (I .i64 ((40 + r : Nat) : Int))
  | 0, _, h => tz40 x hz (h.trans (by decide))
  | 1, _, h => tz41 x hz (h.trans (by decide))
  | 2, _, h => tz42 x hz (h.trans (by decide))
  | 3, _, h => tz43 x hz (h.trans (by decide))
  | 4, _, h => tz44 x hz (h.trans (by decide))
  | 5, _, h => tz45 x hz (h.trans (by decide))
  | 6, _, h => tz46 x hz (h.trans (by decide))
  | 7, _, h => tz47 x hz (h.trans (by decide))
  | r + 8, h, _ => absurd h (by omega)
theorem tzc6 (x : Nat) (hz : ((x : Int) == 0) = false) : ∀ r : Nat, r < 8 → TZ x = ((2 ^ (48 + r) : Nat) : Int) → Spec0 Tryz.prog 26 [I .u64 (x : Nat)] (I .i64 ((48 + r : Nat) : Int))
  | 0, _, h => tz48 x hz (h.trans (by decide))
  | 1, _, h => tz49 x hz (h.trans (by decide))
  | 2, _, h => tz50 x hz (h.trans (by decide))
  | 3, _, h => tz51 x hz (h.trans (by decide))
  | 4, _, h => tz52 x hz (h.trans (by decide))
  | 5, _, h => tz53 x hz (h.trans (by decide))
  | 6, _, h => tz54 x hz (h.trans (by decide))
  | 7, _, h => tz55 x hz (h.trans (by decide))
  | r + 8, h, _ => absurd h (by omega)
theorem tzc7 (x : Nat) (hz : ((x : Int) == 0) = false) : ∀ r : Nat, r < 8 → TZ x = ((2 ^ (56 + r) : Nat) : Int) → Spec0 Tryz.prog 26 [I .u64 (x : Nat)] (I .i64 ((56 + r : Nat) : Int))
  | 0, _, h => tz56 x hz (h.trans (by decide))
  | 1, _, h => tz57 x hz (h.trans (by decide))
  | 2, _, h => tz58 x hz (h.trans (by decide))
  | 3, _, h => tz59 x hz (h.trans (by decide))
  | 4, _, h => tz60 x hz (h.trans (by decide))
  | 5, _, h => tz61 x hz (h.trans (by decide))
  | 6, _, h => tz62 x hz (h.trans (by decide))
  | 7, _, h => tz63 x hz (h.trans (by decide))
  | r + 8, h, _ => absurd h (by omega)
theorem w_tzk (x : Nat) (hz : ((x : Int) == 0) = false) (k : Nat) (hk : k < 64) (h : TZ x = ((2 ^ k : Nat) : Int)) : Spec0 Tryz.prog 26 [I .u64 (x : Nat)] (I .i64 ((k : Nat) : Int)) := by
  have hr : k % 8 < 8 := Nat.mod_lt _ (by decide)
  have hq : k / 8 < 8 := by omega
  have e : k = 8 * (k / 8) + k % 8 := by omega
  generalize k / 8 = q at hq e
  generalize k % 8 = r at hr e
  subst e
  match q, hq, h with
  | 0, _, h => exact tzc0 x hz r hr h
  | 1, _, h => exact tzc1 x hz r hr h
  | 2, _, h => exact tzc2 x hz r hr h
  | 3, _, h => exact tzc3 x hz r hr h
  | 4, _, h => exact tzc4 x hz r hr h
  | 5, _, h => exact tzc5 x hz r hr h
  | 6, _, h => exact tzc6 x hz r hr h
  | 7, _, h => exact tzc7 x hz r hr h
  | q + 8, h, _ => exact absurd h (by omega)
theorem w_tz (x : Nat) (h0 : x ≠ 0) (hx : x < 18446744073709551616) : Spec0 Tryz.prog 26 [I .u64 (x : Nat)] (I .i64 ((Lib.ctz 64 x : Nat) : Int)) := by
  obtain ⟨h1, h2⟩ := TZ_is x h0 hx
  have hz : ((x : Int) == 0) = false := by
    have : (x : Int) ≠ 0 := by omega
    simpa using this
  exact w_tzk x hz _ h2 h1

end Go.Proofs.YthppdlmildfnnaaGreatDoor
