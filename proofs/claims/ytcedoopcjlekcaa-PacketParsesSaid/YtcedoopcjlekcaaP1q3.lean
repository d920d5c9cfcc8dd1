/-
  Kinds.
-/
import Derived.Test.YtcedoopcjlekcaaXPq3
set_option linter.unusedVariables false
set_option linter.unusedSimpArgs false
set_option maxRecDepth 100000
set_option maxHeartbeats 1000000
namespace Go.Proofs.Ytcedoopcjlekcaa
open Go Go.SL Go.Proofs
theorem w_kind_1 (tos id frag ttl src dst : Int) (opt : ByteArray) (hW : whB frag = true) : Spec0 Try.prog 48 [.agg [I .i64 tos, I .i64 id, I .i64 frag, I .i64 ttl, I .i64 1, I .u32 src, I .u32 dst, S opt]] (I .i64 (Int.ofNat 1)) := sx0 hm hF 1000 20 [.b 18 1 3 true] [(IntKind.wrap IntKind.i64 (↑(BitVec.toNat (BitVec.ofInt (IntKind.bits IntKind.i64) frag &&& BitVec.ofInt (IntKind.bits IntKind.i64) 16383)) : Int) == 0) = true] (by kernel_rfl) ⟨(by assumption), trivial⟩
theorem w_kind_17 (tos id frag ttl src dst : Int) (opt : ByteArray) (hW : whB frag = true) : Spec0 Try.prog 48 [.agg [I .i64 tos, I .i64 id, I .i64 frag, I .i64 ttl, I .i64 17, I .u32 src, I .u32 dst, S opt]] (I .i64 (Int.ofNat 2)) := sx0 hm hF 1000 20 [.b 18 1 3 true] [(IntKind.wrap IntKind.i64 (↑(BitVec.toNat (BitVec.ofInt (IntKind.bits IntKind.i64) frag &&& BitVec.ofInt (IntKind.bits IntKind.i64) 16383)) : Int) == 0) = true] (by kernel_rfl) ⟨(by assumption), trivial⟩
theorem w_kind_6 (tos id frag ttl src dst : Int) (opt : ByteArray) (hW : whB frag = true) : Spec0 Try.prog 48 [.agg [I .i64 tos, I .i64 id, I .i64 frag, I .i64 ttl, I .i64 6, I .u32 src, I .u32 dst, S opt]] (I .i64 (Int.ofNat 3)) := sx0 hm hF 1000 20 [.b 18 1 3 true] [(IntKind.wrap IntKind.i64 (↑(BitVec.toNat (BitVec.ofInt (IntKind.bits IntKind.i64) frag &&& BitVec.ofInt (IntKind.bits IntKind.i64) 16383)) : Int) == 0) = true] (by kernel_rfl) ⟨(by assumption), trivial⟩
theorem w_kind_o (tos id frag ttl proto src dst : Int) (opt : ByteArray) (hW : whB frag = true) (h1 : proto ≠ 1) (h2 : proto ≠ 17) (h3 : proto ≠ 6) : Spec0 Try.prog 48 [.agg [I .i64 tos, I .i64 id, I .i64 frag, I .i64 ttl, I .i64 proto, I .u32 src, I .u32 dst, S opt]] (I .i64 (Int.ofNat 0)) := sx0 hm hF 1000 20 [.b 18 1 3 true, .b 48 7 3 false, .b 48 7 3 false, .b 48 7 3 false] [(Int.ofNat 6 == proto) = false, (Int.ofNat 17 == proto) = false, (Int.ofNat 1 == proto) = false, (IntKind.wrap IntKind.i64 (↑(BitVec.toNat (BitVec.ofInt (IntKind.bits IntKind.i64) frag &&& BitVec.ofInt (IntKind.bits IntKind.i64) 16383)) : Int) == 0) = true] (by kernel_rfl) ⟨(by first | omega | simp <;> omega), (by first | omega | simp <;> omega), (by first | omega | simp <;> omega), (by assumption), trivial⟩
theorem w_kind_w (tos id frag ttl proto src dst : Int) (opt : ByteArray) (hW : whB frag = false) : Spec0 Try.prog 48 [.agg [I .i64 tos, I .i64 id, I .i64 frag, I .i64 ttl, I .i64 proto, I .u32 src, I .u32 dst, S opt]] (I .i64 (Int.ofNat 0)) := sx0 hm hF 1000 20 [.b 18 1 3 false] [(IntKind.wrap IntKind.i64 (↑(BitVec.toNat (BitVec.ofInt (IntKind.bits IntKind.i64) frag &&& BitVec.ofInt (IntKind.bits IntKind.i64) 16383)) : Int) == 0) = false] (by kernel_rfl) ⟨(by assumption), trivial⟩
theorem w_rkind_1 : Spec0 Try.prog 54 [I .i64 1] (I .i64 (Int.ofNat 1)) := sx0 hm hF 1000 20 [] [] (by kernel_rfl) trivial
theorem w_rkind_17 : Spec0 Try.prog 54 [I .i64 17] (I .i64 (Int.ofNat 2)) := sx0 hm hF 1000 20 [] [] (by kernel_rfl) trivial
theorem w_rkind_6 : Spec0 Try.prog 54 [I .i64 6] (I .i64 (Int.ofNat 3)) := sx0 hm hF 1000 20 [] [] (by kernel_rfl) trivial
theorem w_rkind_o (proto : Int) (h1 : proto ≠ 1) (h2 : proto ≠ 17) (h3 : proto ≠ 6) : Spec0 Try.prog 54 [I .i64 proto] (I .i64 (Int.ofNat 0)) := sx0 hm hF 1000 20 [.b 54 2 0 false, .b 54 4 0 false, .b 54 6 0 false] [(proto == 6) = false, (proto == 17) = false, (proto == 1) = false] (by kernel_rfl) ⟨(by first | omega | simp <;> omega), (by first | omega | simp <;> omega), (by first | omega | simp <;> omega), trivial⟩
end Go.Proofs.Ytcedoopcjlekcaa
