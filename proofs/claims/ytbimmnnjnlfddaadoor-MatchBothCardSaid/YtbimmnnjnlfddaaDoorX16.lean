/-
  What a State has in each field.
-/
import Derived.Test.YtbimmnnjnlfddaaDoorX1
set_option linter.unusedVariables false
set_option linter.unusedSimpArgs false
set_option maxRecDepth 100000
set_option maxHeartbeats 1000000
namespace Go.Proofs.YtbimmnnjnlfddaaDoor
open Go Go.SL Go.Proofs
theorem h4 : 4 ≤ 9223372036854775807 := by decide
def iand (x y : Int) : Int := IntKind.i64.wrap ((BitVec.ofInt 64 x &&& BitVec.ofInt 64 y).toNat : Int)
def hasF (s : Stt) : Nat → Bool
  | 1 => true
  | 2 => true
  | 3 => true
  | 4 => true
  | 5 => s.isArp
  | 6 => s.isArp
  | 7 => s.isArp
  | 8 => s.isArp
  | 9 => s.isArp
  | 10 => s.isIp
  | 11 => s.isIp
  | 12 => s.isIp
  | 13 => s.isIp
  | 14 => s.isIp
  | 15 => s.isIp
  | 16 => (s.isIp && s.kind == 1)
  | 17 => (s.isIp && s.kind == 1)
  | 18 => (s.isIp && s.kind == 3 || s.isIp && s.kind == 2)
  | 19 => (s.isIp && s.kind == 3 || s.isIp && s.kind == 2)
  | 20 => (s.isIp && s.kind == 3)
  | 21 => true
  | 22 => true
  | 23 => true
  | 24 => true
  | 25 => true
  | 26 => true
  | 27 => true
  | 28 => true
  | _ => false
def raw (s : Stt) : Nat → Int
  | 1 => s.dst
  | 2 => s.src
  | 3 => IntKind.u64.wrap s.ty
  | 4 => cond s.tagged (uor 65536 (IntKind.u64.wrap (iand s.tag 65535))) 0
  | 5 => IntKind.u64.wrap s.op
  | 6 => s.sha
  | 7 => IntKind.u64.wrap s.spa
  | 8 => s.tha
  | 9 => IntKind.u64.wrap s.tpa
  | 10 => IntKind.u64.wrap s.isrc
  | 11 => IntKind.u64.wrap s.idst
  | 12 => IntKind.u64.wrap s.proto
  | 13 => IntKind.u64.wrap s.ttl
  | 14 => IntKind.u64.wrap s.tos
  | 15 => IntKind.u64.wrap s.frag
  | 16 => IntKind.u64.wrap s.typ
  | 17 => IntKind.u64.wrap s.code
  | 18 => IntKind.u64.wrap s.sport
  | 19 => IntKind.u64.wrap s.dport
  | 20 => IntKind.u64.wrap s.flags
  | 21 => IntKind.u64.wrap s.ct
  | 22 => IntKind.u64.wrap s.dp
  | 23 => IntKind.u64.wrap s.inn
  | 24 => IntKind.u64.wrap s.out
  | 25 => IntKind.u64.wrap s.r0
  | 26 => IntKind.u64.wrap s.r1
  | 27 => IntKind.u64.wrap s.r2
  | 28 => IntKind.u64.wrap s.r3
  | _ => 0
theorem get1_0 (s : Stt)  : Spec0 Tryd.prog 25 [.agg s.cells, I .i64 1] (.tup [I .u64 (uand (raw s 1) (allI 1)), I .i64 0]) := sx0 hm hF 1000 20 [] [] (by kernel_rfl) trivial
theorem get2_0 (s : Stt)  : Spec0 Tryd.prog 25 [.agg s.cells, I .i64 2] (.tup [I .u64 (uand (raw s 2) (allI 2)), I .i64 0]) := sx0 hm hF 1000 20 [] [] (by kernel_rfl) trivial
theorem get3_0 (s : Stt)  : Spec0 Tryd.prog 25 [.agg s.cells, I .i64 3] (.tup [I .u64 (uand (raw s 3) (allI 3)), I .i64 0]) := sx0 hm hF 1000 20 [] [] (by kernel_rfl) trivial
theorem get4_0true (s : Stt) (h0 : (!s.tagged) = false) : Spec0 Tryd.prog 25 [.agg s.cells, I .i64 4] (.tup [I .u64 (uand (uor 65536 (IntKind.u64.wrap (iand s.tag 65535))) (allI 4)), I .i64 0]) := sx0 hm hF 1000 20 [.b 92 1 6 false] [(!s.tagged) = false] (by kernel_rfl) ⟨h0, trivial⟩
theorem get4_0false (s : Stt) (h0 : (!s.tagged) = true) : Spec0 Tryd.prog 25 [.agg s.cells, I .i64 4] (.tup [I .u64 (uand (0) (allI 4)), I .i64 0]) := sx0 hm hF 1000 20 [.b 92 1 6 true] [(!s.tagged) = true] (by kernel_rfl) ⟨h0, trivial⟩
theorem get5_0 (s : Stt) (h0 : s.isArp = true) : Spec0 Tryd.prog 25 [.agg s.cells, I .i64 5] (.tup [I .u64 (uand (raw s 5) (allI 5)), I .i64 0]) := sx0 hm hF 1000 20 [.b 57 1 5 true] [s.isArp = true] (by kernel_rfl) ⟨h0, trivial⟩
theorem getn5_0 (s : Stt) (h0 : s.isArp = false) : Spec0 Tryd.prog 25 [.agg s.cells, I .i64 5] (.tup [I .u64 0, I .i64 81]) := sx0 hm hF 1000 20 [.b 57 1 5 false] [s.isArp = false] (by kernel_rfl) ⟨h0, trivial⟩
theorem get6_0 (s : Stt) (h0 : s.isArp = true) : Spec0 Tryd.prog 25 [.agg s.cells, I .i64 6] (.tup [I .u64 (uand (raw s 6) (allI 6)), I .i64 0]) := sx0 hm hF 1000 20 [.b 57 1 5 true] [s.isArp = true] (by kernel_rfl) ⟨h0, trivial⟩
theorem getn6_0 (s : Stt) (h0 : s.isArp = false) : Spec0 Tryd.prog 25 [.agg s.cells, I .i64 6] (.tup [I .u64 0, I .i64 81]) := sx0 hm hF 1000 20 [.b 57 1 5 false] [s.isArp = false] (by kernel_rfl) ⟨h0, trivial⟩
theorem get7_0 (s : Stt) (h0 : s.isArp = true) : Spec0 Tryd.prog 25 [.agg s.cells, I .i64 7] (.tup [I .u64 (uand (raw s 7) (allI 7)), I .i64 0]) := sx0 hm hF 1000 20 [.b 57 1 5 true] [s.isArp = true] (by kernel_rfl) ⟨h0, trivial⟩
theorem getn7_0 (s : Stt) (h0 : s.isArp = false) : Spec0 Tryd.prog 25 [.agg s.cells, I .i64 7] (.tup [I .u64 0, I .i64 81]) := sx0 hm hF 1000 20 [.b 57 1 5 false] [s.isArp = false] (by kernel_rfl) ⟨h0, trivial⟩
theorem get8_0 (s : Stt) (h0 : s.isArp = true) : Spec0 Tryd.prog 25 [.agg s.cells, I .i64 8] (.tup [I .u64 (uand (raw s 8) (allI 8)), I .i64 0]) := sx0 hm hF 1000 20 [.b 57 1 5 true] [s.isArp = true] (by kernel_rfl) ⟨h0, trivial⟩
theorem getn8_0 (s : Stt) (h0 : s.isArp = false) : Spec0 Tryd.prog 25 [.agg s.cells, I .i64 8] (.tup [I .u64 0, I .i64 81]) := sx0 hm hF 1000 20 [.b 57 1 5 false] [s.isArp = false] (by kernel_rfl) ⟨h0, trivial⟩
theorem get9_0 (s : Stt) (h0 : s.isArp = true) : Spec0 Tryd.prog 25 [.agg s.cells, I .i64 9] (.tup [I .u64 (uand (raw s 9) (allI 9)), I .i64 0]) := sx0 hm hF 1000 20 [.b 57 1 5 true] [s.isArp = true] (by kernel_rfl) ⟨h0, trivial⟩
theorem getn9_0 (s : Stt) (h0 : s.isArp = false) : Spec0 Tryd.prog 25 [.agg s.cells, I .i64 9] (.tup [I .u64 0, I .i64 81]) := sx0 hm hF 1000 20 [.b 57 1 5 false] [s.isArp = false] (by kernel_rfl) ⟨h0, trivial⟩
theorem get10_0 (s : Stt) (h0 : s.isIp = true) : Spec0 Tryd.prog 25 [.agg s.cells, I .i64 10] (.tup [I .u64 (uand (raw s 10) (allI 10)), I .i64 0]) := sx0 hm hF 1000 20 [.b 64 1 5 true] [s.isIp = true] (by kernel_rfl) ⟨h0, trivial⟩
theorem getn10_0 (s : Stt) (h0 : s.isIp = false) : Spec0 Tryd.prog 25 [.agg s.cells, I .i64 10] (.tup [I .u64 0, I .i64 81]) := sx0 hm hF 1000 20 [.b 64 1 5 false] [s.isIp = false] (by kernel_rfl) ⟨h0, trivial⟩
theorem get11_0 (s : Stt) (h0 : s.isIp = true) : Spec0 Tryd.prog 25 [.agg s.cells, I .i64 11] (.tup [I .u64 (uand (raw s 11) (allI 11)), I .i64 0]) := sx0 hm hF 1000 20 [.b 64 1 5 true] [s.isIp = true] (by kernel_rfl) ⟨h0, trivial⟩
theorem getn11_0 (s : Stt) (h0 : s.isIp = false) : Spec0 Tryd.prog 25 [.agg s.cells, I .i64 11] (.tup [I .u64 0, I .i64 81]) := sx0 hm hF 1000 20 [.b 64 1 5 false] [s.isIp = false] (by kernel_rfl) ⟨h0, trivial⟩
theorem get12_0 (s : Stt) (h0 : s.isIp = true) : Spec0 Tryd.prog 25 [.agg s.cells, I .i64 12] (.tup [I .u64 (uand (raw s 12) (allI 12)), I .i64 0]) := sx0 hm hF 1000 20 [.b 64 1 5 true] [s.isIp = true] (by kernel_rfl) ⟨h0, trivial⟩
theorem getn12_0 (s : Stt) (h0 : s.isIp = false) : Spec0 Tryd.prog 25 [.agg s.cells, I .i64 12] (.tup [I .u64 0, I .i64 81]) := sx0 hm hF 1000 20 [.b 64 1 5 false] [s.isIp = false] (by kernel_rfl) ⟨h0, trivial⟩
theorem get13_0 (s : Stt) (h0 : s.isIp = true) : Spec0 Tryd.prog 25 [.agg s.cells, I .i64 13] (.tup [I .u64 (uand (raw s 13) (allI 13)), I .i64 0]) := sx0 hm hF 1000 20 [.b 64 1 5 true] [s.isIp = true] (by kernel_rfl) ⟨h0, trivial⟩
theorem getn13_0 (s : Stt) (h0 : s.isIp = false) : Spec0 Tryd.prog 25 [.agg s.cells, I .i64 13] (.tup [I .u64 0, I .i64 81]) := sx0 hm hF 1000 20 [.b 64 1 5 false] [s.isIp = false] (by kernel_rfl) ⟨h0, trivial⟩
theorem get14_0 (s : Stt) (h0 : s.isIp = true) : Spec0 Tryd.prog 25 [.agg s.cells, I .i64 14] (.tup [I .u64 (uand (raw s 14) (allI 14)), I .i64 0]) := sx0 hm hF 1000 20 [.b 64 1 5 true] [s.isIp = true] (by kernel_rfl) ⟨h0, trivial⟩
theorem getn14_0 (s : Stt) (h0 : s.isIp = false) : Spec0 Tryd.prog 25 [.agg s.cells, I .i64 14] (.tup [I .u64 0, I .i64 81]) := sx0 hm hF 1000 20 [.b 64 1 5 false] [s.isIp = false] (by kernel_rfl) ⟨h0, trivial⟩
theorem get15_0 (s : Stt) (h0 : s.isIp = true) : Spec0 Tryd.prog 25 [.agg s.cells, I .i64 15] (.tup [I .u64 (uand (raw s 15) (allI 15)), I .i64 0]) := sx0 hm hF 1000 20 [.b 64 1 5 true] [s.isIp = true] (by kernel_rfl) ⟨h0, trivial⟩
theorem getn15_0 (s : Stt) (h0 : s.isIp = false) : Spec0 Tryd.prog 25 [.agg s.cells, I .i64 15] (.tup [I .u64 0, I .i64 81]) := sx0 hm hF 1000 20 [.b 64 1 5 false] [s.isIp = false] (by kernel_rfl) ⟨h0, trivial⟩
theorem get16_0 (s : Stt) (h0 : s.isIp = true) (h1 : (s.kind == 1) = true) : Spec0 Tryd.prog 25 [.agg s.cells, I .i64 16] (.tup [I .u64 (uand (raw s 16) (allI 16)), I .i64 0]) := sx0 hm hF 1000 20 [.b 71 1 4 true, .b 71 1 12 true] [(s.kind == 1) = true, s.isIp = true] (by kernel_rfl) ⟨h1, h0, trivial⟩
theorem getn16_0 (s : Stt) (h0 : s.isIp = true) (h1 : (s.kind == 1) = false) : Spec0 Tryd.prog 25 [.agg s.cells, I .i64 16] (.tup [I .u64 0, I .i64 81]) := sx0 hm hF 1000 20 [.b 71 1 4 true, .b 71 1 12 false] [(s.kind == 1) = false, s.isIp = true] (by kernel_rfl) ⟨h1, h0, trivial⟩
theorem getn16_1 (s : Stt) (h0 : s.isIp = false) : Spec0 Tryd.prog 25 [.agg s.cells, I .i64 16] (.tup [I .u64 0, I .i64 81]) := sx0 hm hF 1000 20 [.b 71 1 4 false] [s.isIp = false] (by kernel_rfl) ⟨h0, trivial⟩
theorem get17_0 (s : Stt) (h0 : s.isIp = true) (h1 : (s.kind == 1) = true) : Spec0 Tryd.prog 25 [.agg s.cells, I .i64 17] (.tup [I .u64 (uand (raw s 17) (allI 17)), I .i64 0]) := sx0 hm hF 1000 20 [.b 71 1 4 true, .b 71 1 12 true] [(s.kind == 1) = true, s.isIp = true] (by kernel_rfl) ⟨h1, h0, trivial⟩
theorem getn17_0 (s : Stt) (h0 : s.isIp = true) (h1 : (s.kind == 1) = false) : Spec0 Tryd.prog 25 [.agg s.cells, I .i64 17] (.tup [I .u64 0, I .i64 81]) := sx0 hm hF 1000 20 [.b 71 1 4 true, .b 71 1 12 false] [(s.kind == 1) = false, s.isIp = true] (by kernel_rfl) ⟨h1, h0, trivial⟩
theorem getn17_1 (s : Stt) (h0 : s.isIp = false) : Spec0 Tryd.prog 25 [.agg s.cells, I .i64 17] (.tup [I .u64 0, I .i64 81]) := sx0 hm hF 1000 20 [.b 71 1 4 false] [s.isIp = false] (by kernel_rfl) ⟨h0, trivial⟩
theorem get18_0 (s : Stt) (h0 : s.isIp = true) (h1 : (s.kind == 3) = true) : Spec0 Tryd.prog 25 [.agg s.cells, I .i64 18] (.tup [I .u64 (uand (raw s 18) (allI 18)), I .i64 0]) := sx0 hm hF 1000 20 [.b 77 1 4 true, .b 77 1 12 true] [(s.kind == 3) = true, s.isIp = true] (by kernel_rfl) ⟨h1, h0, trivial⟩
theorem get18_1 (s : Stt) (h0 : s.isIp = true) (h1 : (s.kind == 3) = false) (h2 : (s.kind == 2) = true) : Spec0 Tryd.prog 25 [.agg s.cells, I .i64 18] (.tup [I .u64 (uand (raw s 18) (allI 18)), I .i64 0]) := sx0 hm hF 1000 20 [.b 77 1 4 true, .b 77 1 12 false, .b 74 1 7 true, .b 74 1 15 true] [(s.kind == 2) = true, s.isIp = true, (s.kind == 3) = false, s.isIp = true] (by kernel_rfl) ⟨h2, h0, h1, h0, trivial⟩
theorem getn18_0 (s : Stt) (h0 : s.isIp = true) (h1 : (s.kind == 3) = false) (h2 : (s.kind == 2) = false) : Spec0 Tryd.prog 25 [.agg s.cells, I .i64 18] (.tup [I .u64 0, I .i64 81]) := sx0 hm hF 1000 20 [.b 77 1 4 true, .b 77 1 12 false, .b 74 1 7 true, .b 74 1 15 false] [(s.kind == 2) = false, s.isIp = true, (s.kind == 3) = false, s.isIp = true] (by kernel_rfl) ⟨h2, h0, h1, h0, trivial⟩
theorem getn18_1 (s : Stt) (h0 : s.isIp = false) : Spec0 Tryd.prog 25 [.agg s.cells, I .i64 18] (.tup [I .u64 0, I .i64 81]) := sx0 hm hF 1000 20 [.b 77 1 4 false, .b 74 1 7 false] [s.isIp = false, s.isIp = false] (by kernel_rfl) ⟨h0, h0, trivial⟩
theorem get19_0 (s : Stt) (h0 : s.isIp = true) (h1 : (s.kind == 3) = true) : Spec0 Tryd.prog 25 [.agg s.cells, I .i64 19] (.tup [I .u64 (uand (raw s 19) (allI 19)), I .i64 0]) := sx0 hm hF 1000 20 [.b 77 1 4 true, .b 77 1 12 true] [(s.kind == 3) = true, s.isIp = true] (by kernel_rfl) ⟨h1, h0, trivial⟩
theorem get19_1 (s : Stt) (h0 : s.isIp = true) (h1 : (s.kind == 3) = false) (h2 : (s.kind == 2) = true) : Spec0 Tryd.prog 25 [.agg s.cells, I .i64 19] (.tup [I .u64 (uand (raw s 19) (allI 19)), I .i64 0]) := sx0 hm hF 1000 20 [.b 77 1 4 true, .b 77 1 12 false, .b 74 1 7 true, .b 74 1 15 true] [(s.kind == 2) = true, s.isIp = true, (s.kind == 3) = false, s.isIp = true] (by kernel_rfl) ⟨h2, h0, h1, h0, trivial⟩
theorem getn19_0 (s : Stt) (h0 : s.isIp = true) (h1 : (s.kind == 3) = false) (h2 : (s.kind == 2) = false) : Spec0 Tryd.prog 25 [.agg s.cells, I .i64 19] (.tup [I .u64 0, I .i64 81]) := sx0 hm hF 1000 20 [.b 77 1 4 true, .b 77 1 12 false, .b 74 1 7 true, .b 74 1 15 false] [(s.kind == 2) = false, s.isIp = true, (s.kind == 3) = false, s.isIp = true] (by kernel_rfl) ⟨h2, h0, h1, h0, trivial⟩
theorem getn19_1 (s : Stt) (h0 : s.isIp = false) : Spec0 Tryd.prog 25 [.agg s.cells, I .i64 19] (.tup [I .u64 0, I .i64 81]) := sx0 hm hF 1000 20 [.b 77 1 4 false, .b 74 1 7 false] [s.isIp = false, s.isIp = false] (by kernel_rfl) ⟨h0, h0, trivial⟩
theorem get20_0 (s : Stt) (h0 : s.isIp = true) (h1 : (s.kind == 3) = true) : Spec0 Tryd.prog 25 [.agg s.cells, I .i64 20] (.tup [I .u64 (uand (raw s 20) (allI 20)), I .i64 0]) := sx0 hm hF 1000 20 [.b 77 1 4 true, .b 77 1 12 true] [(s.kind == 3) = true, s.isIp = true] (by kernel_rfl) ⟨h1, h0, trivial⟩
theorem getn20_0 (s : Stt) (h0 : s.isIp = true) (h1 : (s.kind == 3) = false) : Spec0 Tryd.prog 25 [.agg s.cells, I .i64 20] (.tup [I .u64 0, I .i64 81]) := sx0 hm hF 1000 20 [.b 77 1 4 true, .b 77 1 12 false] [(s.kind == 3) = false, s.isIp = true] (by kernel_rfl) ⟨h1, h0, trivial⟩
theorem getn20_1 (s : Stt) (h0 : s.isIp = false) : Spec0 Tryd.prog 25 [.agg s.cells, I .i64 20] (.tup [I .u64 0, I .i64 81]) := sx0 hm hF 1000 20 [.b 77 1 4 false] [s.isIp = false] (by kernel_rfl) ⟨h0, trivial⟩
theorem get21_0 (s : Stt)  : Spec0 Tryd.prog 25 [.agg s.cells, I .i64 21] (.tup [I .u64 (uand (raw s 21) (allI 21)), I .i64 0]) := sx0 hm hF 1000 20 [] [] (by kernel_rfl) trivial
theorem get22_0 (s : Stt)  : Spec0 Tryd.prog 25 [.agg s.cells, I .i64 22] (.tup [I .u64 (uand (raw s 22) (allI 22)), I .i64 0]) := sx0 hm hF 1000 20 [] [] (by kernel_rfl) trivial
theorem get23_0 (s : Stt)  : Spec0 Tryd.prog 25 [.agg s.cells, I .i64 23] (.tup [I .u64 (uand (raw s 23) (allI 23)), I .i64 0]) := sx0 hm hF 1000 20 [] [] (by kernel_rfl) trivial
theorem get24_0 (s : Stt)  : Spec0 Tryd.prog 25 [.agg s.cells, I .i64 24] (.tup [I .u64 (uand (raw s 24) (allI 24)), I .i64 0]) := sx0 hm hF 1000 20 [] [] (by kernel_rfl) trivial
theorem get25_0 (s : Stt)  : Spec0 Tryd.prog 25 [.agg s.cells, I .i64 25] (.tup [I .u64 (uand (raw s 25) (allI 25)), I .i64 0]) := sx0 hm hF 1000 20 [] [(4 ≤ 9223372036854775807)] (by kernel_rfl) ⟨h4, trivial⟩
theorem get26_0 (s : Stt)  : Spec0 Tryd.prog 25 [.agg s.cells, I .i64 26] (.tup [I .u64 (uand (raw s 26) (allI 26)), I .i64 0]) := sx0 hm hF 1000 20 [] [(4 ≤ 9223372036854775807)] (by kernel_rfl) ⟨h4, trivial⟩
theorem get27_0 (s : Stt)  : Spec0 Tryd.prog 25 [.agg s.cells, I .i64 27] (.tup [I .u64 (uand (raw s 27) (allI 27)), I .i64 0]) := sx0 hm hF 1000 20 [] [(4 ≤ 9223372036854775807)] (by kernel_rfl) ⟨h4, trivial⟩
theorem get28_0 (s : Stt)  : Spec0 Tryd.prog 25 [.agg s.cells, I .i64 28] (.tup [I .u64 (uand (raw s 28) (allI 28)), I .i64 0]) := sx0 hm hF 1000 20 [] [(4 ≤ 9223372036854775807)] (by kernel_rfl) ⟨h4, trivial⟩
def gV (s : Stt) (k : Nat) : Int := cond (hasF s k) (uand (raw s k) (allI k)) 0
def gE (s : Stt) (k : Nat) : Int := cond (hasF s k) 0 81

theorem get_of (s : Stt) (k : Nat) (ht : hasF s k = true → Spec0 Tryd.prog 25 [.agg s.cells, I .i64 ((k : Nat) : Int)] (.tup [I .u64 (uand (raw s k) (allI k)), I .i64 0])) (hf : hasF s k = false → Spec0 Tryd.prog 25 [.agg s.cells, I .i64 ((k : Nat) : Int)] (.tup [I .u64 0, I .i64 81])) :
    Spec0 Tryd.prog 25 [.agg s.cells, I .i64 ((k : Nat) : Int)] (.tup [I .u64 (gV s k), I .i64 (gE s k)]) := by
  unfold gV gE
  cases h : hasF s k
  · exact hf h
  · exact ht h

theorem band {a b : Bool} {X : Prop} (h : (a && b) = true) (k : a = true → b = true → X) : X := by cases a <;> cases b <;> simp_all
theorem bandF {a b : Bool} {X : Prop} (h : (a && b) = false) (k : a = true → b = false → X) (k' : a = false → X) : X := by cases a <;> cases b <;> simp_all
theorem bport {a b c : Bool} {X : Prop} (h : (a && b || a && c) = true) (k : a = true → b = true → X) (k' : a = true → b = false → c = true → X) : X := by cases a <;> cases b <;> cases c <;> simp_all
theorem bportF {a b c : Bool} {X : Prop} (h : (a && b || a && c) = false) (k : a = true → b = false → c = false → X) (k' : a = false → X) : X := by cases a <;> cases b <;> cases c <;> simp_all
theorem ff {a b : Bool} (h : b = false) : b = true → a = true := fun h' => by rw [h] at h'; simp at h'


theorem get4 (s : Stt) : Spec0 Tryd.prog 25 [.agg s.cells, I .i64 4] (.tup [I .u64 (uand (raw s 4) (allI 4)), I .i64 0]) := by
  show Spec0 _ _ _ (.tup [I .u64 (uand (cond s.tagged (uor 65536 (IntKind.u64.wrap (iand s.tag 65535))) 0) (allI 4)), I .i64 0])
  cases h : s.tagged
  · exact get4_0false s (by rw [h]; rfl)
  · exact get4_0true s (by rw [h]; rfl)
theorem w_Get (s : Stt) : ∀ k : Nat, 1 ≤ k → k ≤ 28 → Spec0 Tryd.prog 25 [.agg s.cells, I .i64 ((k : Nat) : Int)] (.tup [I .u64 (gV s k), I .i64 (gE s k)])
  | 1, _, _ => get_of s 1 (fun h => get1_0 s ) (fun h => absurd (show true = false from h) (by decide))
  | 2, _, _ => get_of s 2 (fun h => get2_0 s ) (fun h => absurd (show true = false from h) (by decide))
  | 3, _, _ => get_of s 3 (fun h => get3_0 s ) (fun h => absurd (show true = false from h) (by decide))
  | 4, _, _ => get_of s 4 (fun _ => get4 s) (fun h => absurd (show true = false from h) (by decide))
  | 5, _, _ => get_of s 5 (fun h => get5_0 s h) (fun h => getn5_0 s h)
  | 6, _, _ => get_of s 6 (fun h => get6_0 s h) (fun h => getn6_0 s h)
  | 7, _, _ => get_of s 7 (fun h => get7_0 s h) (fun h => getn7_0 s h)
  | 8, _, _ => get_of s 8 (fun h => get8_0 s h) (fun h => getn8_0 s h)
  | 9, _, _ => get_of s 9 (fun h => get9_0 s h) (fun h => getn9_0 s h)
  | 10, _, _ => get_of s 10 (fun h => get10_0 s h) (fun h => getn10_0 s h)
  | 11, _, _ => get_of s 11 (fun h => get11_0 s h) (fun h => getn11_0 s h)
  | 12, _, _ => get_of s 12 (fun h => get12_0 s h) (fun h => getn12_0 s h)
  | 13, _, _ => get_of s 13 (fun h => get13_0 s h) (fun h => getn13_0 s h)
  | 14, _, _ => get_of s 14 (fun h => get14_0 s h) (fun h => getn14_0 s h)
  | 15, _, _ => get_of s 15 (fun h => get15_0 s h) (fun h => getn15_0 s h)
  | 16, _, _ => get_of s 16 (fun h => band h fun a b => get16_0 s a b) (fun h => bandF h (fun a b => getn16_0 s a b) (fun a => getn16_1 s a))
  | 17, _, _ => get_of s 17 (fun h => band h fun a b => get17_0 s a b) (fun h => bandF h (fun a b => getn17_0 s a b) (fun a => getn17_1 s a))
  | 18, _, _ => get_of s 18 (fun h => bport h (fun a b => get18_0 s a b) (fun a b c => get18_1 s a b c)) (fun h => bportF h (fun a b c => getn18_0 s a b c) (fun a => getn18_1 s a))
  | 19, _, _ => get_of s 19 (fun h => bport h (fun a b => get19_0 s a b) (fun a b c => get19_1 s a b c)) (fun h => bportF h (fun a b c => getn19_0 s a b c) (fun a => getn19_1 s a))
  | 20, _, _ => get_of s 20 (fun h => band h fun a b => get20_0 s a b) (fun h => bandF h (fun a b => getn20_0 s a b) (fun a => getn20_1 s a))
  | 21, _, _ => get_of s 21 (fun h => get21_0 s ) (fun h => absurd (show true = false from h) (by decide))
  | 22, _, _ => get_of s 22 (fun h => get22_0 s ) (fun h => absurd (show true = false from h) (by decide))
  | 23, _, _ => get_of s 23 (fun h => get23_0 s ) (fun h => absurd (show true = false from h) (by decide))
  | 24, _, _ => get_of s 24 (fun h => get24_0 s ) (fun h => absurd (show true = false from h) (by decide))
  | 25, _, _ => get_of s 25 (fun h => get25_0 s ) (fun h => absurd (show true = false from h) (by decide))
  | 26, _, _ => get_of s 26 (fun h => get26_0 s ) (fun h => absurd (show true = false from h) (by decide))
  | 27, _, _ => get_of s 27 (fun h => get27_0 s ) (fun h => absurd (show true = false from h) (by decide))
  | 28, _, _ => get_of s 28 (fun h => get28_0 s ) (fun h => absurd (show true = false from h) (by decide))
  | 0, h, _ => absurd h (by decide)
  | k + 29, _, h => absurd h (by omega)


end Go.Proofs.YtbimmnnjnlfddaaDoor
