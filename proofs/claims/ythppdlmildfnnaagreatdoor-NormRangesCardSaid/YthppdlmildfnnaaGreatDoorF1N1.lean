/-
  Widths of fields.
-/
import Derived.Test.YthppdlmildfnnaaGreatDoorXJN1
set_option linter.unusedVariables false
set_option linter.unusedSimpArgs false
set_option maxRecDepth 100000
set_option maxHeartbeats 1000000
namespace Go.Proofs.YthppdlmildfnnaaGreatDoor
open Go Go.SL Go.Proofs
theorem wrap_up (z : Int) (h1 : -9223372036854775833 ≤ z) (h2 : z < -9223372036854775808) : IntKind.i64.wrap z = z + 18446744073709551616 := by
  have e : IntKind.i64.wrap (z + 18446744073709551616) = IntKind.i64.wrap z := by simp [IntKind.wrap, IntKind.bits, IntKind.signed]
  rw [← e, IntWalk.i64_in _ (by omega)]
theorem bits1 : Spec0 Tryz.prog 24 [I .i64 1] (I .i64 48) := sx0 hm hF 1000 30 [] [] (by kernel_rfl) trivial
theorem bits2 : Spec0 Tryz.prog 24 [I .i64 2] (I .i64 48) := sx0 hm hF 1000 30 [] [] (by kernel_rfl) trivial
theorem bits3 : Spec0 Tryz.prog 24 [I .i64 3] (I .i64 16) := sx0 hm hF 1000 30 [] [] (by kernel_rfl) trivial
theorem bits4 : Spec0 Tryz.prog 24 [I .i64 4] (I .i64 17) := sx0 hm hF 1000 30 [] [] (by kernel_rfl) trivial
theorem bits5 : Spec0 Tryz.prog 24 [I .i64 5] (I .i64 16) := sx0 hm hF 1000 30 [] [] (by kernel_rfl) trivial
theorem bits6 : Spec0 Tryz.prog 24 [I .i64 6] (I .i64 48) := sx0 hm hF 1000 30 [] [] (by kernel_rfl) trivial
theorem bits7 : Spec0 Tryz.prog 24 [I .i64 7] (I .i64 32) := sx0 hm hF 1000 30 [] [] (by kernel_rfl) trivial
theorem bits8 : Spec0 Tryz.prog 24 [I .i64 8] (I .i64 48) := sx0 hm hF 1000 30 [] [] (by kernel_rfl) trivial
theorem bits9 : Spec0 Tryz.prog 24 [I .i64 9] (I .i64 32) := sx0 hm hF 1000 30 [] [] (by kernel_rfl) trivial
theorem bits10 : Spec0 Tryz.prog 24 [I .i64 10] (I .i64 32) := sx0 hm hF 1000 30 [] [] (by kernel_rfl) trivial
theorem bits11 : Spec0 Tryz.prog 24 [I .i64 11] (I .i64 32) := sx0 hm hF 1000 30 [] [] (by kernel_rfl) trivial
theorem bits12 : Spec0 Tryz.prog 24 [I .i64 12] (I .i64 8) := sx0 hm hF 1000 30 [] [] (by kernel_rfl) trivial
theorem bits13 : Spec0 Tryz.prog 24 [I .i64 13] (I .i64 8) := sx0 hm hF 1000 30 [] [] (by kernel_rfl) trivial
theorem bits14 : Spec0 Tryz.prog 24 [I .i64 14] (I .i64 8) := sx0 hm hF 1000 30 [] [] (by kernel_rfl) trivial
theorem bits15 : Spec0 Tryz.prog 24 [I .i64 15] (I .i64 16) := sx0 hm hF 1000 30 [] [] (by kernel_rfl) trivial
theorem bits16 : Spec0 Tryz.prog 24 [I .i64 16] (I .i64 8) := sx0 hm hF 1000 30 [] [] (by kernel_rfl) trivial
theorem bits17 : Spec0 Tryz.prog 24 [I .i64 17] (I .i64 8) := sx0 hm hF 1000 30 [] [] (by kernel_rfl) trivial
theorem bits18 : Spec0 Tryz.prog 24 [I .i64 18] (I .i64 16) := sx0 hm hF 1000 30 [] [] (by kernel_rfl) trivial
theorem bits19 : Spec0 Tryz.prog 24 [I .i64 19] (I .i64 16) := sx0 hm hF 1000 30 [] [] (by kernel_rfl) trivial
theorem bits20 : Spec0 Tryz.prog 24 [I .i64 20] (I .i64 12) := sx0 hm hF 1000 30 [] [] (by kernel_rfl) trivial
theorem bits21 : Spec0 Tryz.prog 24 [I .i64 21] (I .i64 8) := sx0 hm hF 1000 30 [] [] (by kernel_rfl) trivial
theorem bits22 : Spec0 Tryz.prog 24 [I .i64 22] (I .i64 24) := sx0 hm hF 1000 30 [] [] (by kernel_rfl) trivial
theorem bits23 : Spec0 Tryz.prog 24 [I .i64 23] (I .i64 16) := sx0 hm hF 1000 30 [] [] (by kernel_rfl) trivial
theorem bits24 : Spec0 Tryz.prog 24 [I .i64 24] (I .i64 16) := sx0 hm hF 1000 30 [] [] (by kernel_rfl) trivial
theorem bits25 : Spec0 Tryz.prog 24 [I .i64 25] (I .i64 32) := sx0 hm hF 1000 30 [] [4 ≤ 9223372036854775807] (by kernel_rfl) ⟨(by omega), trivial⟩
theorem bits26 : Spec0 Tryz.prog 24 [I .i64 26] (I .i64 32) := sx0 hm hF 1000 30 [] [4 ≤ 9223372036854775807] (by kernel_rfl) ⟨(by omega), trivial⟩
theorem bits27 : Spec0 Tryz.prog 24 [I .i64 27] (I .i64 32) := sx0 hm hF 1000 30 [] [4 ≤ 9223372036854775807] (by kernel_rfl) ⟨(by omega), trivial⟩
theorem bits28 : Spec0 Tryz.prog 24 [I .i64 28] (I .i64 32) := sx0 hm hF 1000 30 [] [4 ≤ 9223372036854775807] (by kernel_rfl) ⟨(by omega), trivial⟩
theorem rall1 : Spec0 Tryz.prog 28 [I .i64 1] (I .u64 281474976710655) := sx0 hm hF 1000 30 [] [] (by kernel_rfl) trivial
theorem rall2 : Spec0 Tryz.prog 28 [I .i64 2] (I .u64 281474976710655) := sx0 hm hF 1000 30 [] [] (by kernel_rfl) trivial
theorem rall3 : Spec0 Tryz.prog 28 [I .i64 3] (I .u64 65535) := sx0 hm hF 1000 30 [] [] (by kernel_rfl) trivial
theorem rall4 : Spec0 Tryz.prog 28 [I .i64 4] (I .u64 131071) := sx0 hm hF 1000 30 [] [] (by kernel_rfl) trivial
theorem rall5 : Spec0 Tryz.prog 28 [I .i64 5] (I .u64 65535) := sx0 hm hF 1000 30 [] [] (by kernel_rfl) trivial
theorem rall6 : Spec0 Tryz.prog 28 [I .i64 6] (I .u64 281474976710655) := sx0 hm hF 1000 30 [] [] (by kernel_rfl) trivial
theorem rall7 : Spec0 Tryz.prog 28 [I .i64 7] (I .u64 4294967295) := sx0 hm hF 1000 30 [] [] (by kernel_rfl) trivial
theorem rall8 : Spec0 Tryz.prog 28 [I .i64 8] (I .u64 281474976710655) := sx0 hm hF 1000 30 [] [] (by kernel_rfl) trivial
theorem rall9 : Spec0 Tryz.prog 28 [I .i64 9] (I .u64 4294967295) := sx0 hm hF 1000 30 [] [] (by kernel_rfl) trivial
theorem rall10 : Spec0 Tryz.prog 28 [I .i64 10] (I .u64 4294967295) := sx0 hm hF 1000 30 [] [] (by kernel_rfl) trivial
theorem rall11 : Spec0 Tryz.prog 28 [I .i64 11] (I .u64 4294967295) := sx0 hm hF 1000 30 [] [] (by kernel_rfl) trivial
theorem rall12 : Spec0 Tryz.prog 28 [I .i64 12] (I .u64 255) := sx0 hm hF 1000 30 [] [] (by kernel_rfl) trivial
theorem rall13 : Spec0 Tryz.prog 28 [I .i64 13] (I .u64 255) := sx0 hm hF 1000 30 [] [] (by kernel_rfl) trivial
theorem rall14 : Spec0 Tryz.prog 28 [I .i64 14] (I .u64 255) := sx0 hm hF 1000 30 [] [] (by kernel_rfl) trivial
theorem rall15 : Spec0 Tryz.prog 28 [I .i64 15] (I .u64 65535) := sx0 hm hF 1000 30 [] [] (by kernel_rfl) trivial
theorem rall16 : Spec0 Tryz.prog 28 [I .i64 16] (I .u64 255) := sx0 hm hF 1000 30 [] [] (by kernel_rfl) trivial
theorem rall17 : Spec0 Tryz.prog 28 [I .i64 17] (I .u64 255) := sx0 hm hF 1000 30 [] [] (by kernel_rfl) trivial
theorem rall18 : Spec0 Tryz.prog 28 [I .i64 18] (I .u64 65535) := sx0 hm hF 1000 30 [] [] (by kernel_rfl) trivial
theorem rall19 : Spec0 Tryz.prog 28 [I .i64 19] (I .u64 65535) := sx0 hm hF 1000 30 [] [] (by kernel_rfl) trivial
theorem rall20 : Spec0 Tryz.prog 28 [I .i64 20] (I .u64 4095) := sx0 hm hF 1000 30 [] [] (by kernel_rfl) trivial
theorem rall21 : Spec0 Tryz.prog 28 [I .i64 21] (I .u64 255) := sx0 hm hF 1000 30 [] [] (by kernel_rfl) trivial
theorem rall22 : Spec0 Tryz.prog 28 [I .i64 22] (I .u64 16777215) := sx0 hm hF 1000 30 [] [] (by kernel_rfl) trivial
theorem rall23 : Spec0 Tryz.prog 28 [I .i64 23] (I .u64 65535) := sx0 hm hF 1000 30 [] [] (by kernel_rfl) trivial
theorem rall24 : Spec0 Tryz.prog 28 [I .i64 24] (I .u64 65535) := sx0 hm hF 1000 30 [] [] (by kernel_rfl) trivial
theorem rall25 : Spec0 Tryz.prog 28 [I .i64 25] (I .u64 4294967295) := sx0 hm hF 1000 30 [] [] (by kernel_rfl) trivial
theorem rall26 : Spec0 Tryz.prog 28 [I .i64 26] (I .u64 4294967295) := sx0 hm hF 1000 30 [] [] (by kernel_rfl) trivial
theorem rall27 : Spec0 Tryz.prog 28 [I .i64 27] (I .u64 4294967295) := sx0 hm hF 1000 30 [] [] (by kernel_rfl) trivial
theorem rall28 : Spec0 Tryz.prog 28 [I .i64 28] (I .u64 4294967295) := sx0 hm hF 1000 30 [] [] (by kernel_rfl) trivial
theorem is0l (f : Int) (h1 : -9223372036854775808 ≤ f) (h2 : f ≤ 9223372036854775807) (h : f < 1) : Spec0 Tryz.prog 27 [I .i64 f] (B false) := sx0 hm hF 1000 30 [.b 27 1 1 false] [decide (f ≥ 1) = false] (by kernel_rfl) ⟨(by first | omega | simp <;> omega), trivial⟩
theorem bits0l0 (f : Int) (h1 : -9223372036854775808 ≤ f) (h2 : f ≤ 9223372036854775807) (h : f < 1) (hc : -9223372036854775783 ≤ f) : Spec0 Tryz.prog 24 [I .i64 f] (I .i64 0) := sx0 hm hF 1000 30 [.b 87 2 0 false, .b 87 4 0 false, .b 87 6 0 false, .b 87 8 0 false, .b 87 10 0 false, .b 87 12 0 false, .b 87 14 0 false, .b 87 16 0 false, .b 87 18 0 false, .b 87 20 0 false, .b 87 22 0 false, .b 87 24 0 false, .b 87 26 0 false, .b 87 28 0 false, .b 87 30 0 false, .b 87 32 0 false, .b 87 34 0 false, .b 87 36 0 false, .b 87 38 0 false, .b 87 40 0 false, .b 88 2 0 false, .b 88 4 0 false, .b 88 6 0 false, .b 88 8 0 false, .z 88 10 1 (f - 25), .b 88 11 1 false] [decide (f - 25 ≥ 0) = false, IntKind.wrap IntKind.i64 (f - 25) = f - 25, (f == 24) = false, (f == 23) = false, (f == 22) = false, (f == 21) = false, (f == 20) = false, (f == 19) = false, (f == 18) = false, (f == 17) = false, (f == 16) = false, (f == 15) = false, (f == 14) = false, (f == 13) = false, (f == 12) = false, (f == 11) = false, (f == 10) = false, (f == 9) = false, (f == 8) = false, (f == 7) = false, (f == 6) = false, (f == 5) = false, (f == 4) = false, (f == 3) = false, (f == 2) = false, (f == 1) = false] (by kernel_rfl) ⟨(by first | omega | simp <;> omega), (by exact IntWalk.i64_in _ (by omega)), (by first | omega | simp <;> omega), (by first | omega | simp <;> omega), (by first | omega | simp <;> omega), (by first | omega | simp <;> omega), (by first | omega | simp <;> omega), (by first | omega | simp <;> omega), (by first | omega | simp <;> omega), (by first | omega | simp <;> omega), (by first | omega | simp <;> omega), (by first | omega | simp <;> omega), (by first | omega | simp <;> omega), (by first | omega | simp <;> omega), (by first | omega | simp <;> omega), (by first | omega | simp <;> omega), (by first | omega | simp <;> omega), (by first | omega | simp <;> omega), (by first | omega | simp <;> omega), (by first | omega | simp <;> omega), (by first | omega | simp <;> omega), (by first | omega | simp <;> omega), (by first | omega | simp <;> omega), (by first | omega | simp <;> omega), (by first | omega | simp <;> omega), (by first | omega | simp <;> omega), trivial⟩
theorem bits0l1 (f : Int) (h1 : -9223372036854775808 ≤ f) (h2 : f ≤ 9223372036854775807) (h : f < 1) (hc : f < -9223372036854775783) : Spec0 Tryz.prog 24 [I .i64 f] (I .i64 0) := sx0 hm hF 1000 30 [.b 87 2 0 false, .b 87 4 0 false, .b 87 6 0 false, .b 87 8 0 false, .b 87 10 0 false, .b 87 12 0 false, .b 87 14 0 false, .b 87 16 0 false, .b 87 18 0 false, .b 87 20 0 false, .b 87 22 0 false, .b 87 24 0 false, .b 87 26 0 false, .b 87 28 0 false, .b 87 30 0 false, .b 87 32 0 false, .b 87 34 0 false, .b 87 36 0 false, .b 87 38 0 false, .b 87 40 0 false, .b 88 2 0 false, .b 88 4 0 false, .b 88 6 0 false, .b 88 8 0 false, .z 88 10 1 (f - 25 + 18446744073709551616), .b 88 11 1 true, .b 88 11 4 false] [decide (f - 25 + 18446744073709551616 ≤ 3) = false, decide (f - 25 + 18446744073709551616 ≥ 0) = true, IntKind.wrap IntKind.i64 (f - 25) = f - 25 + 18446744073709551616, (f == 24) = false, (f == 23) = false, (f == 22) = false, (f == 21) = false, (f == 20) = false, (f == 19) = false, (f == 18) = false, (f == 17) = false, (f == 16) = false, (f == 15) = false, (f == 14) = false, (f == 13) = false, (f == 12) = false, (f == 11) = false, (f == 10) = false, (f == 9) = false, (f == 8) = false, (f == 7) = false, (f == 6) = false, (f == 5) = false, (f == 4) = false, (f == 3) = false, (f == 2) = false, (f == 1) = false] (by kernel_rfl) ⟨(by first | omega | simp <;> omega), (by first | omega | simp <;> omega), (by exact wrap_up _ (by omega) (by omega)), (by first | omega | simp <;> omega), (by first | omega | simp <;> omega), (by first | omega | simp <;> omega), (by first | omega | simp <;> omega), (by first | omega | simp <;> omega), (by first | omega | simp <;> omega), (by first | omega | simp <;> omega), (by first | omega | simp <;> omega), (by first | omega | simp <;> omega), (by first | omega | simp <;> omega), (by first | omega | simp <;> omega), (by first | omega | simp <;> omega), (by first | omega | simp <;> omega), (by first | omega | simp <;> omega), (by first | omega | simp <;> omega), (by first | omega | simp <;> omega), (by first | omega | simp <;> omega), (by first | omega | simp <;> omega), (by first | omega | simp <;> omega), (by first | omega | simp <;> omega), (by first | omega | simp <;> omega), (by first | omega | simp <;> omega), (by first | omega | simp <;> omega), (by first | omega | simp <;> omega), trivial⟩
theorem is0g (f : Int) (h1 : -9223372036854775808 ≤ f) (h2 : f ≤ 9223372036854775807) (h : 28 < f) : Spec0 Tryz.prog 27 [I .i64 f] (B false) := sx0 hm hF 1000 30 [.b 27 1 1 true, .b 27 1 4 false] [decide (f ≤ 28) = false, decide (f ≥ 1) = true] (by kernel_rfl) ⟨(by first | omega | simp <;> omega), (by first | omega | simp <;> omega), trivial⟩
theorem bits0g0 (f : Int) (h1 : -9223372036854775808 ≤ f) (h2 : f ≤ 9223372036854775807) (h : 28 < f) (hc : -9223372036854775783 ≤ f) : Spec0 Tryz.prog 24 [I .i64 f] (I .i64 0) := sx0 hm hF 1000 30 [.b 87 2 0 false, .b 87 4 0 false, .b 87 6 0 false, .b 87 8 0 false, .b 87 10 0 false, .b 87 12 0 false, .b 87 14 0 false, .b 87 16 0 false, .b 87 18 0 false, .b 87 20 0 false, .b 87 22 0 false, .b 87 24 0 false, .b 87 26 0 false, .b 87 28 0 false, .b 87 30 0 false, .b 87 32 0 false, .b 87 34 0 false, .b 87 36 0 false, .b 87 38 0 false, .b 87 40 0 false, .b 88 2 0 false, .b 88 4 0 false, .b 88 6 0 false, .b 88 8 0 false, .z 88 10 1 (f - 25), .b 88 11 1 true, .b 88 11 4 false] [decide (f - 25 ≤ 3) = false, decide (f - 25 ≥ 0) = true, IntKind.wrap IntKind.i64 (f - 25) = f - 25, (f == 24) = false, (f == 23) = false, (f == 22) = false, (f == 21) = false, (f == 20) = false, (f == 19) = false, (f == 18) = false, (f == 17) = false, (f == 16) = false, (f == 15) = false, (f == 14) = false, (f == 13) = false, (f == 12) = false, (f == 11) = false, (f == 10) = false, (f == 9) = false, (f == 8) = false, (f == 7) = false, (f == 6) = false, (f == 5) = false, (f == 4) = false, (f == 3) = false, (f == 2) = false, (f == 1) = false] (by kernel_rfl) ⟨(by first | omega | simp <;> omega), (by first | omega | simp <;> omega), (by exact IntWalk.i64_in _ (by omega)), (by first | omega | simp <;> omega), (by first | omega | simp <;> omega), (by first | omega | simp <;> omega), (by first | omega | simp <;> omega), (by first | omega | simp <;> omega), (by first | omega | simp <;> omega), (by first | omega | simp <;> omega), (by first | omega | simp <;> omega), (by first | omega | simp <;> omega), (by first | omega | simp <;> omega), (by first | omega | simp <;> omega), (by first | omega | simp <;> omega), (by first | omega | simp <;> omega), (by first | omega | simp <;> omega), (by first | omega | simp <;> omega), (by first | omega | simp <;> omega), (by first | omega | simp <;> omega), (by first | omega | simp <;> omega), (by first | omega | simp <;> omega), (by first | omega | simp <;> omega), (by first | omega | simp <;> omega), (by first | omega | simp <;> omega), (by first | omega | simp <;> omega), (by first | omega | simp <;> omega), trivial⟩
end Go.Proofs.YthppdlmildfnnaaGreatDoor
