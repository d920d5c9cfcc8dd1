/-
  What a State has in each field, and what fields need.
-/
import Derived.Test.YtofiaddmnhpkgaaY3
set_option linter.unusedVariables false
set_option linter.unusedSimpArgs false
set_option maxRecDepth 100000
set_option maxHeartbeats 1000000
namespace Go.Proofs.Ytofiaddmnhpkgaa
open Go Go.SL Go.Proofs
theorem h4 : 4 ≤ 9223372036854775807 := by decide
structure Stt where
  dst : Int
  src : Int
  tagged : Bool
  tag : Int
  ty : Int
  isArp : Bool
  op : Int
  sha : Int
  spa : Int
  tha : Int
  tpa : Int
  isIp : Bool
  tos : Int
  id : Int
  frag : Int
  ttl : Int
  proto : Int
  isrc : Int
  idst : Int
  iopt : ByteArray
  kind : Int
  typ : Int
  code : Int
  rest : Int
  sport : Int
  dport : Int
  noSum : Bool
  seq : Int
  ack : Int
  flags : Int
  win : Int
  urg : Int
  lopt : ByteArray
  data : ByteArray
  body : ByteArray
  pad : ByteArray
  ct : Int
  dp : Int
  inn : Int
  out : Int
  r0 : Int
  r1 : Int
  r2 : Int
  r3 : Int
  oproto : Int
  osrc : Int
  odst : Int
  osport : Int
  odport : Int
def Stt.cells (s : Stt) : List AV := [I .u64 s.dst, I .u64 s.src, B s.tagged, I .i64 s.tag, I .i64 s.ty, B s.isArp, I .i64 s.op, I .u64 s.sha, I .u32 s.spa, I .u64 s.tha, I .u32 s.tpa, B s.isIp, I .i64 s.tos, I .i64 s.id, I .i64 s.frag, I .i64 s.ttl, I .i64 s.proto, I .u32 s.isrc, I .u32 s.idst, S s.iopt, I .i64 s.kind, I .i64 s.typ, I .i64 s.code, I .u32 s.rest, I .i64 s.sport, I .i64 s.dport, B s.noSum, I .u32 s.seq, I .u32 s.ack, I .i64 s.flags, I .i64 s.win, I .i64 s.urg, S s.lopt, S s.data, S s.body, S s.pad, I .i64 s.ct, I .i64 s.dp, I .i64 s.inn, I .i64 s.out, I .u32 s.r0, I .u32 s.r1, I .u32 s.r2, I .u32 s.r3, I .i64 s.oproto, I .u32 s.osrc, I .u32 s.odst, I .i64 s.osport, I .i64 s.odport]
def zS : Stt := ⟨0, 0, false, 0, 0, false, 0, 0, 0, 0, 0, false, 0, 0, 0, 0, 0, 0, 0, ⟨#[]⟩, 0, 0, 0, 0, 0, 0, false, 0, 0, 0, 0, 0, ⟨#[]⟩, ⟨#[]⟩, ⟨#[]⟩, ⟨#[]⟩, 0, 0, 0, 0, 0, 0, 0, 0, 0, 0, 0, 0, 0⟩
def uand (x y : Int) : Int := IntKind.u64.wrap ((BitVec.ofInt 64 x &&& BitVec.ofInt 64 y).toNat : Int)
def uor (x y : Int) : Int := IntKind.u64.wrap ((BitVec.ofInt 64 x ||| BitVec.ofInt 64 y).toNat : Int)
def uandn (x y : Int) : Int := IntKind.u64.wrap ((BitVec.ofInt 64 x &&& ~~~ BitVec.ofInt 64 y).toNat : Int)
def iand (x y : Int) : Int := IntKind.i64.wrap ((BitVec.ofInt 64 x &&& BitVec.ofInt 64 y).toNat : Int)
def allI  : Nat → Int
  | 1 => 281474976710655
  | 2 => 281474976710655
  | 3 => 65535
  | 4 => 131071
  | 5 => 65535
  | 6 => 281474976710655
  | 7 => 4294967295
  | 8 => 281474976710655
  | 9 => 4294967295
  | 10 => 4294967295
  | 11 => 4294967295
  | 12 => 255
  | 13 => 255
  | 14 => 255
  | 15 => 65535
  | 16 => 255
  | 17 => 255
  | 18 => 65535
  | 19 => 65535
  | 20 => 4095
  | 21 => 255
  | 22 => 16777215
  | 23 => 65535
  | 24 => 65535
  | 25 => 4294967295
  | 26 => 4294967295
  | 27 => 4294967295
  | 28 => 4294967295
  | _ => 0
def hasF (s : Stt) : Nat → Bool
  | 1 => true
  | 2 => true
  | 3 => true
  | 4 => true
  | 5 => s.isArp
  | 6 => s.isArp
  | 7 => s.isArp
  | 8 => s.isArp
  | 9 => s.isArp
  | 10 => s.isIp
  | 11 => s.isIp
  | 12 => s.isIp
  | 13 => s.isIp
  | 14 => s.isIp
  | 15 => s.isIp
  | 16 => (s.isIp && s.kind == 1)
  | 17 => (s.isIp && s.kind == 1)
  | 18 => (s.isIp && s.kind == 3 || s.isIp && s.kind == 2)
  | 19 => (s.isIp && s.kind == 3 || s.isIp && s.kind == 2)
  | 20 => (s.isIp && s.kind == 3)
  | 21 => true
  | 22 => true
  | 23 => true
  | 24 => true
  | 25 => true
  | 26 => true
  | 27 => true
  | 28 => true
  | _ => false
def raw (s : Stt) : Nat → Int
  | 1 => s.dst
  | 2 => s.src
  | 3 => IntKind.u64.wrap s.ty
  | 4 => cond s.tagged (uor 65536 (IntKind.u64.wrap (iand s.tag 65535))) 0
  | 5 => IntKind.u64.wrap s.op
  | 6 => s.sha
  | 7 => IntKind.u64.wrap s.spa
  | 8 => s.tha
  | 9 => IntKind.u64.wrap s.tpa
  | 10 => IntKind.u64.wrap s.isrc
  | 11 => IntKind.u64.wrap s.idst
  | 12 => IntKind.u64.wrap s.proto
  | 13 => IntKind.u64.wrap s.ttl
  | 14 => IntKind.u64.wrap s.tos
  | 15 => IntKind.u64.wrap s.frag
  | 16 => IntKind.u64.wrap s.typ
  | 17 => IntKind.u64.wrap s.code
  | 18 => IntKind.u64.wrap s.sport
  | 19 => IntKind.u64.wrap s.dport
  | 20 => IntKind.u64.wrap s.flags
  | 21 => IntKind.u64.wrap s.ct
  | 22 => IntKind.u64.wrap s.dp
  | 23 => IntKind.u64.wrap s.inn
  | 24 => IntKind.u64.wrap s.out
  | 25 => IntKind.u64.wrap s.r0
  | 26 => IntKind.u64.wrap s.r1
  | 27 => IntKind.u64.wrap s.r2
  | 28 => IntKind.u64.wrap s.r3
  | _ => 0
theorem get1_0 (s : Stt)  : Spec0 Try.prog 10 [.agg s.cells, I .i64 1] (.tup [I .u64 (uand (raw s 1) (allI 1)), I .i64 0]) := sx0 hm hF 1000 20 [] [] (by kernel_rfl) trivial
theorem has1_0 (s : Stt)  : Spec0 Try.prog 20 [.agg s.cells, I .i64 1] (B true) := sx0 hm hF 1000 20 [] [] (by kernel_rfl) trivial
theorem get2_0 (s : Stt)  : Spec0 Try.prog 10 [.agg s.cells, I .i64 2] (.tup [I .u64 (uand (raw s 2) (allI 2)), I .i64 0]) := sx0 hm hF 1000 20 [] [] (by kernel_rfl) trivial
theorem has2_0 (s : Stt)  : Spec0 Try.prog 20 [.agg s.cells, I .i64 2] (B true) := sx0 hm hF 1000 20 [] [] (by kernel_rfl) trivial
theorem get3_0 (s : Stt)  : Spec0 Try.prog 10 [.agg s.cells, I .i64 3] (.tup [I .u64 (uand (raw s 3) (allI 3)), I .i64 0]) := sx0 hm hF 1000 20 [] [] (by kernel_rfl) trivial
theorem has3_0 (s : Stt)  : Spec0 Try.prog 20 [.agg s.cells, I .i64 3] (B true) := sx0 hm hF 1000 20 [] [] (by kernel_rfl) trivial
theorem get4_0true (s : Stt) (h0 : (!s.tagged) = false) : Spec0 Try.prog 10 [.agg s.cells, I .i64 4] (.tup [I .u64 (uand (uor 65536 (IntKind.u64.wrap (iand s.tag 65535))) (allI 4)), I .i64 0]) := sx0 hm hF 1000 20 [.b 85 1 6 false] [(!s.tagged) = false] (by kernel_rfl) ⟨h0, trivial⟩
theorem get4_0false (s : Stt) (h0 : (!s.tagged) = true) : Spec0 Try.prog 10 [.agg s.cells, I .i64 4] (.tup [I .u64 (uand (0) (allI 4)), I .i64 0]) := sx0 hm hF 1000 20 [.b 85 1 6 true] [(!s.tagged) = true] (by kernel_rfl) ⟨h0, trivial⟩
theorem has4_0 (s : Stt)  : Spec0 Try.prog 20 [.agg s.cells, I .i64 4] (B true) := sx0 hm hF 1000 20 [] [] (by kernel_rfl) trivial
theorem get5_0 (s : Stt) (h0 : s.isArp = true) : Spec0 Try.prog 10 [.agg s.cells, I .i64 5] (.tup [I .u64 (uand (raw s 5) (allI 5)), I .i64 0]) := sx0 hm hF 1000 20 [.b 51 1 5 true] [s.isArp = true] (by kernel_rfl) ⟨h0, trivial⟩
theorem has5_0 (s : Stt) (h0 : s.isArp = true) : Spec0 Try.prog 20 [.agg s.cells, I .i64 5] (B true) := sx0 hm hF 1000 20 [.b 51 1 5 true] [s.isArp = true] (by kernel_rfl) ⟨h0, trivial⟩
theorem getn5_0 (s : Stt) (h0 : s.isArp = false) : Spec0 Try.prog 10 [.agg s.cells, I .i64 5] (.tup [I .u64 0, I .i64 81]) := sx0 hm hF 1000 20 [.b 51 1 5 false] [s.isArp = false] (by kernel_rfl) ⟨h0, trivial⟩
theorem hasn5_0 (s : Stt) (h0 : s.isArp = false) : Spec0 Try.prog 20 [.agg s.cells, I .i64 5] (B false) := sx0 hm hF 1000 20 [.b 51 1 5 false] [s.isArp = false] (by kernel_rfl) ⟨h0, trivial⟩
theorem get6_0 (s : Stt) (h0 : s.isArp = true) : Spec0 Try.prog 10 [.agg s.cells, I .i64 6] (.tup [I .u64 (uand (raw s 6) (allI 6)), I .i64 0]) := sx0 hm hF 1000 20 [.b 51 1 5 true] [s.isArp = true] (by kernel_rfl) ⟨h0, trivial⟩
theorem has6_0 (s : Stt) (h0 : s.isArp = true) : Spec0 Try.prog 20 [.agg s.cells, I .i64 6] (B true) := sx0 hm hF 1000 20 [.b 51 1 5 true] [s.isArp = true] (by kernel_rfl) ⟨h0, trivial⟩
theorem getn6_0 (s : Stt) (h0 : s.isArp = false) : Spec0 Try.prog 10 [.agg s.cells, I .i64 6] (.tup [I .u64 0, I .i64 81]) := sx0 hm hF 1000 20 [.b 51 1 5 false] [s.isArp = false] (by kernel_rfl) ⟨h0, trivial⟩
theorem hasn6_0 (s : Stt) (h0 : s.isArp = false) : Spec0 Try.prog 20 [.agg s.cells, I .i64 6] (B false) := sx0 hm hF 1000 20 [.b 51 1 5 false] [s.isArp = false] (by kernel_rfl) ⟨h0, trivial⟩
theorem get7_0 (s : Stt) (h0 : s.isArp = true) : Spec0 Try.prog 10 [.agg s.cells, I .i64 7] (.tup [I .u64 (uand (raw s 7) (allI 7)), I .i64 0]) := sx0 hm hF 1000 20 [.b 51 1 5 true] [s.isArp = true] (by kernel_rfl) ⟨h0, trivial⟩
theorem has7_0 (s : Stt) (h0 : s.isArp = true) : Spec0 Try.prog 20 [.agg s.cells, I .i64 7] (B true) := sx0 hm hF 1000 20 [.b 51 1 5 true] [s.isArp = true] (by kernel_rfl) ⟨h0, trivial⟩
theorem getn7_0 (s : Stt) (h0 : s.isArp = false) : Spec0 Try.prog 10 [.agg s.cells, I .i64 7] (.tup [I .u64 0, I .i64 81]) := sx0 hm hF 1000 20 [.b 51 1 5 false] [s.isArp = false] (by kernel_rfl) ⟨h0, trivial⟩
theorem hasn7_0 (s : Stt) (h0 : s.isArp = false) : Spec0 Try.prog 20 [.agg s.cells, I .i64 7] (B false) := sx0 hm hF 1000 20 [.b 51 1 5 false] [s.isArp = false] (by kernel_rfl) ⟨h0, trivial⟩
theorem get8_0 (s : Stt) (h0 : s.isArp = true) : Spec0 Try.prog 10 [.agg s.cells, I .i64 8] (.tup [I .u64 (uand (raw s 8) (allI 8)), I .i64 0]) := sx0 hm hF 1000 20 [.b 51 1 5 true] [s.isArp = true] (by kernel_rfl) ⟨h0, trivial⟩
theorem has8_0 (s : Stt) (h0 : s.isArp = true) : Spec0 Try.prog 20 [.agg s.cells, I .i64 8] (B true) := sx0 hm hF 1000 20 [.b 51 1 5 true] [s.isArp = true] (by kernel_rfl) ⟨h0, trivial⟩
theorem getn8_0 (s : Stt) (h0 : s.isArp = false) : Spec0 Try.prog 10 [.agg s.cells, I .i64 8] (.tup [I .u64 0, I .i64 81]) := sx0 hm hF 1000 20 [.b 51 1 5 false] [s.isArp = false] (by kernel_rfl) ⟨h0, trivial⟩
theorem hasn8_0 (s : Stt) (h0 : s.isArp = false) : Spec0 Try.prog 20 [.agg s.cells, I .i64 8] (B false) := sx0 hm hF 1000 20 [.b 51 1 5 false] [s.isArp = false] (by kernel_rfl) ⟨h0, trivial⟩
theorem get9_0 (s : Stt) (h0 : s.isArp = true) : Spec0 Try.prog 10 [.agg s.cells, I .i64 9] (.tup [I .u64 (uand (raw s 9) (allI 9)), I .i64 0]) := sx0 hm hF 1000 20 [.b 51 1 5 true] [s.isArp = true] (by kernel_rfl) ⟨h0, trivial⟩
theorem has9_0 (s : Stt) (h0 : s.isArp = true) : Spec0 Try.prog 20 [.agg s.cells, I .i64 9] (B true) := sx0 hm hF 1000 20 [.b 51 1 5 true] [s.isArp = true] (by kernel_rfl) ⟨h0, trivial⟩
theorem getn9_0 (s : Stt) (h0 : s.isArp = false) : Spec0 Try.prog 10 [.agg s.cells, I .i64 9] (.tup [I .u64 0, I .i64 81]) := sx0 hm hF 1000 20 [.b 51 1 5 false] [s.isArp = false] (by kernel_rfl) ⟨h0, trivial⟩
theorem hasn9_0 (s : Stt) (h0 : s.isArp = false) : Spec0 Try.prog 20 [.agg s.cells, I .i64 9] (B false) := sx0 hm hF 1000 20 [.b 51 1 5 false] [s.isArp = false] (by kernel_rfl) ⟨h0, trivial⟩
theorem get10_0 (s : Stt) (h0 : s.isIp = true) : Spec0 Try.prog 10 [.agg s.cells, I .i64 10] (.tup [I .u64 (uand (raw s 10) (allI 10)), I .i64 0]) := sx0 hm hF 1000 20 [.b 58 1 5 true] [s.isIp = true] (by kernel_rfl) ⟨h0, trivial⟩
theorem has10_0 (s : Stt) (h0 : s.isIp = true) : Spec0 Try.prog 20 [.agg s.cells, I .i64 10] (B true) := sx0 hm hF 1000 20 [.b 58 1 5 true] [s.isIp = true] (by kernel_rfl) ⟨h0, trivial⟩
theorem getn10_0 (s : Stt) (h0 : s.isIp = false) : Spec0 Try.prog 10 [.agg s.cells, I .i64 10] (.tup [I .u64 0, I .i64 81]) := sx0 hm hF 1000 20 [.b 58 1 5 false] [s.isIp = false] (by kernel_rfl) ⟨h0, trivial⟩
theorem hasn10_0 (s : Stt) (h0 : s.isIp = false) : Spec0 Try.prog 20 [.agg s.cells, I .i64 10] (B false) := sx0 hm hF 1000 20 [.b 58 1 5 false] [s.isIp = false] (by kernel_rfl) ⟨h0, trivial⟩
theorem get11_0 (s : Stt) (h0 : s.isIp = true) : Spec0 Try.prog 10 [.agg s.cells, I .i64 11] (.tup [I .u64 (uand (raw s 11) (allI 11)), I .i64 0]) := sx0 hm hF 1000 20 [.b 58 1 5 true] [s.isIp = true] (by kernel_rfl) ⟨h0, trivial⟩
theorem has11_0 (s : Stt) (h0 : s.isIp = true) : Spec0 Try.prog 20 [.agg s.cells, I .i64 11] (B true) := sx0 hm hF 1000 20 [.b 58 1 5 true] [s.isIp = true] (by kernel_rfl) ⟨h0, trivial⟩
theorem getn11_0 (s : Stt) (h0 : s.isIp = false) : Spec0 Try.prog 10 [.agg s.cells, I .i64 11] (.tup [I .u64 0, I .i64 81]) := sx0 hm hF 1000 20 [.b 58 1 5 false] [s.isIp = false] (by kernel_rfl) ⟨h0, trivial⟩
theorem hasn11_0 (s : Stt) (h0 : s.isIp = false) : Spec0 Try.prog 20 [.agg s.cells, I .i64 11] (B false) := sx0 hm hF 1000 20 [.b 58 1 5 false] [s.isIp = false] (by kernel_rfl) ⟨h0, trivial⟩
theorem get12_0 (s : Stt) (h0 : s.isIp = true) : Spec0 Try.prog 10 [.agg s.cells, I .i64 12] (.tup [I .u64 (uand (raw s 12) (allI 12)), I .i64 0]) := sx0 hm hF 1000 20 [.b 58 1 5 true] [s.isIp = true] (by kernel_rfl) ⟨h0, trivial⟩
theorem has12_0 (s : Stt) (h0 : s.isIp = true) : Spec0 Try.prog 20 [.agg s.cells, I .i64 12] (B true) := sx0 hm hF 1000 20 [.b 58 1 5 true] [s.isIp = true] (by kernel_rfl) ⟨h0, trivial⟩
theorem getn12_0 (s : Stt) (h0 : s.isIp = false) : Spec0 Try.prog 10 [.agg s.cells, I .i64 12] (.tup [I .u64 0, I .i64 81]) := sx0 hm hF 1000 20 [.b 58 1 5 false] [s.isIp = false] (by kernel_rfl) ⟨h0, trivial⟩
theorem hasn12_0 (s : Stt) (h0 : s.isIp = false) : Spec0 Try.prog 20 [.agg s.cells, I .i64 12] (B false) := sx0 hm hF 1000 20 [.b 58 1 5 false] [s.isIp = false] (by kernel_rfl) ⟨h0, trivial⟩
theorem get13_0 (s : Stt) (h0 : s.isIp = true) : Spec0 Try.prog 10 [.agg s.cells, I .i64 13] (.tup [I .u64 (uand (raw s 13) (allI 13)), I .i64 0]) := sx0 hm hF 1000 20 [.b 58 1 5 true] [s.isIp = true] (by kernel_rfl) ⟨h0, trivial⟩
theorem has13_0 (s : Stt) (h0 : s.isIp = true) : Spec0 Try.prog 20 [.agg s.cells, I .i64 13] (B true) := sx0 hm hF 1000 20 [.b 58 1 5 true] [s.isIp = true] (by kernel_rfl) ⟨h0, trivial⟩
theorem getn13_0 (s : Stt) (h0 : s.isIp = false) : Spec0 Try.prog 10 [.agg s.cells, I .i64 13] (.tup [I .u64 0, I .i64 81]) := sx0 hm hF 1000 20 [.b 58 1 5 false] [s.isIp = false] (by kernel_rfl) ⟨h0, trivial⟩
theorem hasn13_0 (s : Stt) (h0 : s.isIp = false) : Spec0 Try.prog 20 [.agg s.cells, I .i64 13] (B false) := sx0 hm hF 1000 20 [.b 58 1 5 false] [s.isIp = false] (by kernel_rfl) ⟨h0, trivial⟩
theorem get14_0 (s : Stt) (h0 : s.isIp = true) : Spec0 Try.prog 10 [.agg s.cells, I .i64 14] (.tup [I .u64 (uand (raw s 14) (allI 14)), I .i64 0]) := sx0 hm hF 1000 20 [.b 58 1 5 true] [s.isIp = true] (by kernel_rfl) ⟨h0, trivial⟩
theorem has14_0 (s : Stt) (h0 : s.isIp = true) : Spec0 Try.prog 20 [.agg s.cells, I .i64 14] (B true) := sx0 hm hF 1000 20 [.b 58 1 5 true] [s.isIp = true] (by kernel_rfl) ⟨h0, trivial⟩
theorem getn14_0 (s : Stt) (h0 : s.isIp = false) : Spec0 Try.prog 10 [.agg s.cells, I .i64 14] (.tup [I .u64 0, I .i64 81]) := sx0 hm hF 1000 20 [.b 58 1 5 false] [s.isIp = false] (by kernel_rfl) ⟨h0, trivial⟩
theorem hasn14_0 (s : Stt) (h0 : s.isIp = false) : Spec0 Try.prog 20 [.agg s.cells, I .i64 14] (B false) := sx0 hm hF 1000 20 [.b 58 1 5 false] [s.isIp = false] (by kernel_rfl) ⟨h0, trivial⟩
theorem get15_0 (s : Stt) (h0 : s.isIp = true) : Spec0 Try.prog 10 [.agg s.cells, I .i64 15] (.tup [I .u64 (uand (raw s 15) (allI 15)), I .i64 0]) := sx0 hm hF 1000 20 [.b 58 1 5 true] [s.isIp = true] (by kernel_rfl) ⟨h0, trivial⟩
theorem has15_0 (s : Stt) (h0 : s.isIp = true) : Spec0 Try.prog 20 [.agg s.cells, I .i64 15] (B true) := sx0 hm hF 1000 20 [.b 58 1 5 true] [s.isIp = true] (by kernel_rfl) ⟨h0, trivial⟩
theorem getn15_0 (s : Stt) (h0 : s.isIp = false) : Spec0 Try.prog 10 [.agg s.cells, I .i64 15] (.tup [I .u64 0, I .i64 81]) := sx0 hm hF 1000 20 [.b 58 1 5 false] [s.isIp = false] (by kernel_rfl) ⟨h0, trivial⟩
theorem hasn15_0 (s : Stt) (h0 : s.isIp = false) : Spec0 Try.prog 20 [.agg s.cells, I .i64 15] (B false) := sx0 hm hF 1000 20 [.b 58 1 5 false] [s.isIp = false] (by kernel_rfl) ⟨h0, trivial⟩
theorem get16_0 (s : Stt) (h0 : s.isIp = true) (h1 : (s.kind == 1) = true) : Spec0 Try.prog 10 [.agg s.cells, I .i64 16] (.tup [I .u64 (uand (raw s 16) (allI 16)), I .i64 0]) := sx0 hm hF 1000 20 [.b 65 1 4 true, .b 65 1 12 true] [(s.kind == 1) = true, s.isIp = true] (by kernel_rfl) ⟨h1, h0, trivial⟩
theorem has16_0 (s : Stt) (h0 : s.isIp = true) (h1 : (s.kind == 1) = true) : Spec0 Try.prog 20 [.agg s.cells, I .i64 16] (B true) := sx0 hm hF 1000 20 [.b 65 1 4 true, .b 65 1 12 true] [(s.kind == 1) = true, s.isIp = true] (by kernel_rfl) ⟨h1, h0, trivial⟩
theorem getn16_0 (s : Stt) (h0 : s.isIp = true) (h1 : (s.kind == 1) = false) : Spec0 Try.prog 10 [.agg s.cells, I .i64 16] (.tup [I .u64 0, I .i64 81]) := sx0 hm hF 1000 20 [.b 65 1 4 true, .b 65 1 12 false] [(s.kind == 1) = false, s.isIp = true] (by kernel_rfl) ⟨h1, h0, trivial⟩
theorem hasn16_0 (s : Stt) (h0 : s.isIp = true) (h1 : (s.kind == 1) = false) : Spec0 Try.prog 20 [.agg s.cells, I .i64 16] (B false) := sx0 hm hF 1000 20 [.b 65 1 4 true, .b 65 1 12 false] [(s.kind == 1) = false, s.isIp = true] (by kernel_rfl) ⟨h1, h0, trivial⟩
theorem getn16_1 (s : Stt) (h0 : s.isIp = false) : Spec0 Try.prog 10 [.agg s.cells, I .i64 16] (.tup [I .u64 0, I .i64 81]) := sx0 hm hF 1000 20 [.b 65 1 4 false] [s.isIp = false] (by kernel_rfl) ⟨h0, trivial⟩
theorem hasn16_1 (s : Stt) (h0 : s.isIp = false) : Spec0 Try.prog 20 [.agg s.cells, I .i64 16] (B false) := sx0 hm hF 1000 20 [.b 65 1 4 false] [s.isIp = false] (by kernel_rfl) ⟨h0, trivial⟩
theorem get17_0 (s : Stt) (h0 : s.isIp = true) (h1 : (s.kind == 1) = true) : Spec0 Try.prog 10 [.agg s.cells, I .i64 17] (.tup [I .u64 (uand (raw s 17) (allI 17)), I .i64 0]) := sx0 hm hF 1000 20 [.b 65 1 4 true, .b 65 1 12 true] [(s.kind == 1) = true, s.isIp = true] (by kernel_rfl) ⟨h1, h0, trivial⟩
theorem has17_0 (s : Stt) (h0 : s.isIp = true) (h1 : (s.kind == 1) = true) : Spec0 Try.prog 20 [.agg s.cells, I .i64 17] (B true) := sx0 hm hF 1000 20 [.b 65 1 4 true, .b 65 1 12 true] [(s.kind == 1) = true, s.isIp = true] (by kernel_rfl) ⟨h1, h0, trivial⟩
theorem getn17_0 (s : Stt) (h0 : s.isIp = true) (h1 : (s.kind == 1) = false) : Spec0 Try.prog 10 [.agg s.cells, I .i64 17] (.tup [I .u64 0, I .i64 81]) := sx0 hm hF 1000 20 [.b 65 1 4 true, .b 65 1 12 false] [(s.kind == 1) = false, s.isIp = true] (by kernel_rfl) ⟨h1, h0, trivial⟩
theorem hasn17_0 (s : Stt) (h0 : s.isIp = true) (h1 : (s.kind == 1) = false) : Spec0 Try.prog 20 [.agg s.cells, I .i64 17] (B false) := sx0 hm hF 1000 20 [.b 65 1 4 true, .b 65 1 12 false] [(s.kind == 1) = false, s.isIp = true] (by kernel_rfl) ⟨h1, h0, trivial⟩
theorem getn17_1 (s : Stt) (h0 : s.isIp = false) : Spec0 Try.prog 10 [.agg s.cells, I .i64 17] (.tup [I .u64 0, I .i64 81]) := sx0 hm hF 1000 20 [.b 65 1 4 false] [s.isIp = false] (by kernel_rfl) ⟨h0, trivial⟩
theorem hasn17_1 (s : Stt) (h0 : s.isIp = false) : Spec0 Try.prog 20 [.agg s.cells, I .i64 17] (B false) := sx0 hm hF 1000 20 [.b 65 1 4 false] [s.isIp = false] (by kernel_rfl) ⟨h0, trivial⟩
theorem get18_0 (s : Stt) (h0 : s.isIp = true) (h1 : (s.kind == 3) = true) : Spec0 Try.prog 10 [.agg s.cells, I .i64 18] (.tup [I .u64 (uand (raw s 18) (allI 18)), I .i64 0]) := sx0 hm hF 1000 20 [.b 71 1 4 true, .b 71 1 12 true] [(s.kind == 3) = true, s.isIp = true] (by kernel_rfl) ⟨h1, h0, trivial⟩
theorem has18_0 (s : Stt) (h0 : s.isIp = true) (h1 : (s.kind == 3) = true) : Spec0 Try.prog 20 [.agg s.cells, I .i64 18] (B true) := sx0 hm hF 1000 20 [.b 71 1 4 true, .b 71 1 12 true] [(s.kind == 3) = true, s.isIp = true] (by kernel_rfl) ⟨h1, h0, trivial⟩
theorem get18_1 (s : Stt) (h0 : s.isIp = true) (h1 : (s.kind == 3) = false) (h2 : (s.kind == 2) = true) : Spec0 Try.prog 10 [.agg s.cells, I .i64 18] (.tup [I .u64 (uand (raw s 18) (allI 18)), I .i64 0]) := sx0 hm hF 1000 20 [.b 71 1 4 true, .b 71 1 12 false, .b 68 1 7 true, .b 68 1 15 true] [(s.kind == 2) = true, s.isIp = true, (s.kind == 3) = false, s.isIp = true] (by kernel_rfl) ⟨h2, h0, h1, h0, trivial⟩
theorem has18_1 (s : Stt) (h0 : s.isIp = true) (h1 : (s.kind == 3) = false) (h2 : (s.kind == 2) = true) : Spec0 Try.prog 20 [.agg s.cells, I .i64 18] (B true) := sx0 hm hF 1000 20 [.b 71 1 4 true, .b 71 1 12 false, .b 68 1 7 true, .b 68 1 15 true] [(s.kind == 2) = true, s.isIp = true, (s.kind == 3) = false, s.isIp = true] (by kernel_rfl) ⟨h2, h0, h1, h0, trivial⟩
theorem getn18_0 (s : Stt) (h0 : s.isIp = true) (h1 : (s.kind == 3) = false) (h2 : (s.kind == 2) = false) : Spec0 Try.prog 10 [.agg s.cells, I .i64 18] (.tup [I .u64 0, I .i64 81]) := sx0 hm hF 1000 20 [.b 71 1 4 true, .b 71 1 12 false, .b 68 1 7 true, .b 68 1 15 false] [(s.kind == 2) = false, s.isIp = true, (s.kind == 3) = false, s.isIp = true] (by kernel_rfl) ⟨h2, h0, h1, h0, trivial⟩
theorem hasn18_0 (s : Stt) (h0 : s.isIp = true) (h1 : (s.kind == 3) = false) (h2 : (s.kind == 2) = false) : Spec0 Try.prog 20 [.agg s.cells, I .i64 18] (B false) := sx0 hm hF 1000 20 [.b 71 1 4 true, .b 71 1 12 false, .b 68 1 7 true, .b 68 1 15 false] [(s.kind == 2) = false, s.isIp = true, (s.kind == 3) = false, s.isIp = true] (by kernel_rfl) ⟨h2, h0, h1, h0, trivial⟩
theorem getn18_1 (s : Stt) (h0 : s.isIp = false) : Spec0 Try.prog 10 [.agg s.cells, I .i64 18] (.tup [I .u64 0, I .i64 81]) := sx0 hm hF 1000 20 [.b 71 1 4 false, .b 68 1 7 false] [s.isIp = false, s.isIp = false] (by kernel_rfl) ⟨h0, h0, trivial⟩
theorem hasn18_1 (s : Stt) (h0 : s.isIp = false) : Spec0 Try.prog 20 [.agg s.cells, I .i64 18] (B false) := sx0 hm hF 1000 20 [.b 71 1 4 false, .b 68 1 7 false] [s.isIp = false, s.isIp = false] (by kernel_rfl) ⟨h0, h0, trivial⟩
theorem get19_0 (s : Stt) (h0 : s.isIp = true) (h1 : (s.kind == 3) = true) : Spec0 Try.prog 10 [.agg s.cells, I .i64 19] (.tup [I .u64 (uand (raw s 19) (allI 19)), I .i64 0]) := sx0 hm hF 1000 20 [.b 71 1 4 true, .b 71 1 12 true] [(s.kind == 3) = true, s.isIp = true] (by kernel_rfl) ⟨h1, h0, trivial⟩
theorem has19_0 (s : Stt) (h0 : s.isIp = true) (h1 : (s.kind == 3) = true) : Spec0 Try.prog 20 [.agg s.cells, I .i64 19] (B true) := sx0 hm hF 1000 20 [.b 71 1 4 true, .b 71 1 12 true] [(s.kind == 3) = true, s.isIp = true] (by kernel_rfl) ⟨h1, h0, trivial⟩
theorem get19_1 (s : Stt) (h0 : s.isIp = true) (h1 : (s.kind == 3) = false) (h2 : (s.kind == 2) = true) : Spec0 Try.prog 10 [.agg s.cells, I .i64 19] (.tup [I .u64 (uand (raw s 19) (allI 19)), I .i64 0]) := sx0 hm hF 1000 20 [.b 71 1 4 true, .b 71 1 12 false, .b 68 1 7 true, .b 68 1 15 true] [(s.kind == 2) = true, s.isIp = true, (s.kind == 3) = false, s.isIp = true] (by kernel_rfl) ⟨h2, h0, h1, h0, trivial⟩
theorem has19_1 (s : Stt) (h0 : s.isIp = true) (h1 : (s.kind == 3) = false) (h2 : (s.kind == 2) = true) : Spec0 Try.prog 20 [.agg s.cells, I .i64 19] (B true) := sx0 hm hF 1000 20 [.b 71 1 4 true, .b 71 1 12 false, .b 68 1 7 true, .b 68 1 15 true] [(s.kind == 2) = true, s.isIp = true, (s.kind == 3) = false, s.isIp = true] (by kernel_rfl) ⟨h2, h0, h1, h0, trivial⟩
theorem getn19_0 (s : Stt) (h0 : s.isIp = true) (h1 : (s.kind == 3) = false) (h2 : (s.kind == 2) = false) : Spec0 Try.prog 10 [.agg s.cells, I .i64 19] (.tup [I .u64 0, I .i64 81]) := sx0 hm hF 1000 20 [.b 71 1 4 true, .b 71 1 12 false, .b 68 1 7 true, .b 68 1 15 false] [(s.kind == 2) = false, s.isIp = true, (s.kind == 3) = false, s.isIp = true] (by kernel_rfl) ⟨h2, h0, h1, h0, trivial⟩
theorem hasn19_0 (s : Stt) (h0 : s.isIp = true) (h1 : (s.kind == 3) = false) (h2 : (s.kind == 2) = false) : Spec0 Try.prog 20 [.agg s.cells, I .i64 19] (B false) := sx0 hm hF 1000 20 [.b 71 1 4 true, .b 71 1 12 false, .b 68 1 7 true, .b 68 1 15 false] [(s.kind == 2) = false, s.isIp = true, (s.kind == 3) = false, s.isIp = true] (by kernel_rfl) ⟨h2, h0, h1, h0, trivial⟩
theorem getn19_1 (s : Stt) (h0 : s.isIp = false) : Spec0 Try.prog 10 [.agg s.cells, I .i64 19] (.tup [I .u64 0, I .i64 81]) := sx0 hm hF 1000 20 [.b 71 1 4 false, .b 68 1 7 false] [s.isIp = false, s.isIp = false] (by kernel_rfl) ⟨h0, h0, trivial⟩
theorem hasn19_1 (s : Stt) (h0 : s.isIp = false) : Spec0 Try.prog 20 [.agg s.cells, I .i64 19] (B false) := sx0 hm hF 1000 20 [.b 71 1 4 false, .b 68 1 7 false] [s.isIp = false, s.isIp = false] (by kernel_rfl) ⟨h0, h0, trivial⟩
theorem get20_0 (s : Stt) (h0 : s.isIp = true) (h1 : (s.kind == 3) = true) : Spec0 Try.prog 10 [.agg s.cells, I .i64 20] (.tup [I .u64 (uand (raw s 20) (allI 20)), I .i64 0]) := sx0 hm hF 1000 20 [.b 71 1 4 true, .b 71 1 12 true] [(s.kind == 3) = true, s.isIp = true] (by kernel_rfl) ⟨h1, h0, trivial⟩
theorem has20_0 (s : Stt) (h0 : s.isIp = true) (h1 : (s.kind == 3) = true) : Spec0 Try.prog 20 [.agg s.cells, I .i64 20] (B true) := sx0 hm hF 1000 20 [.b 71 1 4 true, .b 71 1 12 true] [(s.kind == 3) = true, s.isIp = true] (by kernel_rfl) ⟨h1, h0, trivial⟩
theorem getn20_0 (s : Stt) (h0 : s.isIp = true) (h1 : (s.kind == 3) = false) : Spec0 Try.prog 10 [.agg s.cells, I .i64 20] (.tup [I .u64 0, I .i64 81]) := sx0 hm hF 1000 20 [.b 71 1 4 true, .b 71 1 12 false] [(s.kind == 3) = false, s.isIp = true] (by kernel_rfl) ⟨h1, h0, trivial⟩
theorem hasn20_0 (s : Stt) (h0 : s.isIp = true) (h1 : (s.kind == 3) = false) : Spec0 Try.prog 20 [.agg s.cells, I .i64 20] (B false) := sx0 hm hF 1000 20 [.b 71 1 4 true, .b 71 1 12 false] [(s.kind == 3) = false, s.isIp = true] (by kernel_rfl) ⟨h1, h0, trivial⟩
theorem getn20_1 (s : Stt) (h0 : s.isIp = false) : Spec0 Try.prog 10 [.agg s.cells, I .i64 20] (.tup [I .u64 0, I .i64 81]) := sx0 hm hF 1000 20 [.b 71 1 4 false] [s.isIp = false] (by kernel_rfl) ⟨h0, trivial⟩
theorem hasn20_1 (s : Stt) (h0 : s.isIp = false) : Spec0 Try.prog 20 [.agg s.cells, I .i64 20] (B false) := sx0 hm hF 1000 20 [.b 71 1 4 false] [s.isIp = false] (by kernel_rfl) ⟨h0, trivial⟩
theorem get21_0 (s : Stt)  : Spec0 Try.prog 10 [.agg s.cells, I .i64 21] (.tup [I .u64 (uand (raw s 21) (allI 21)), I .i64 0]) := sx0 hm hF 1000 20 [] [] (by kernel_rfl) trivial
theorem has21_0 (s : Stt)  : Spec0 Try.prog 20 [.agg s.cells, I .i64 21] (B true) := sx0 hm hF 1000 20 [] [] (by kernel_rfl) trivial
theorem get22_0 (s : Stt)  : Spec0 Try.prog 10 [.agg s.cells, I .i64 22] (.tup [I .u64 (uand (raw s 22) (allI 22)), I .i64 0]) := sx0 hm hF 1000 20 [] [] (by kernel_rfl) trivial
theorem has22_0 (s : Stt)  : Spec0 Try.prog 20 [.agg s.cells, I .i64 22] (B true) := sx0 hm hF 1000 20 [] [] (by kernel_rfl) trivial
theorem get23_0 (s : Stt)  : Spec0 Try.prog 10 [.agg s.cells, I .i64 23] (.tup [I .u64 (uand (raw s 23) (allI 23)), I .i64 0]) := sx0 hm hF 1000 20 [] [] (by kernel_rfl) trivial
theorem has23_0 (s : Stt)  : Spec0 Try.prog 20 [.agg s.cells, I .i64 23] (B true) := sx0 hm hF 1000 20 [] [] (by kernel_rfl) trivial
theorem get24_0 (s : Stt)  : Spec0 Try.prog 10 [.agg s.cells, I .i64 24] (.tup [I .u64 (uand (raw s 24) (allI 24)), I .i64 0]) := sx0 hm hF 1000 20 [] [] (by kernel_rfl) trivial
theorem has24_0 (s : Stt)  : Spec0 Try.prog 20 [.agg s.cells, I .i64 24] (B true) := sx0 hm hF 1000 20 [] [] (by kernel_rfl) trivial
theorem get25_0 (s : Stt)  : Spec0 Try.prog 10 [.agg s.cells, I .i64 25] (.tup [I .u64 (uand (raw s 25) (allI 25)), I .i64 0]) := sx0 hm hF 1000 20 [] [(4 ≤ 9223372036854775807)] (by kernel_rfl) ⟨h4, trivial⟩
theorem has25_0 (s : Stt)  : Spec0 Try.prog 20 [.agg s.cells, I .i64 25] (B true) := sx0 hm hF 1000 20 [] [(4 ≤ 9223372036854775807)] (by kernel_rfl) ⟨h4, trivial⟩
theorem get26_0 (s : Stt)  : Spec0 Try.prog 10 [.agg s.cells, I .i64 26] (.tup [I .u64 (uand (raw s 26) (allI 26)), I .i64 0]) := sx0 hm hF 1000 20 [] [(4 ≤ 9223372036854775807)] (by kernel_rfl) ⟨h4, trivial⟩
theorem has26_0 (s : Stt)  : Spec0 Try.prog 20 [.agg s.cells, I .i64 26] (B true) := sx0 hm hF 1000 20 [] [(4 ≤ 9223372036854775807)] (by kernel_rfl) ⟨h4, trivial⟩
theorem get27_0 (s : Stt)  : Spec0 Try.prog 10 [.agg s.cells, I .i64 27] (.tup [I .u64 (uand (raw s 27) (allI 27)), I .i64 0]) := sx0 hm hF 1000 20 [] [(4 ≤ 9223372036854775807)] (by kernel_rfl) ⟨h4, trivial⟩
theorem has27_0 (s : Stt)  : Spec0 Try.prog 20 [.agg s.cells, I .i64 27] (B true) := sx0 hm hF 1000 20 [] [(4 ≤ 9223372036854775807)] (by kernel_rfl) ⟨h4, trivial⟩
theorem get28_0 (s : Stt)  : Spec0 Try.prog 10 [.agg s.cells, I .i64 28] (.tup [I .u64 (uand (raw s 28) (allI 28)), I .i64 0]) := sx0 hm hF 1000 20 [] [(4 ≤ 9223372036854775807)] (by kernel_rfl) ⟨h4, trivial⟩
theorem has28_0 (s : Stt)  : Spec0 Try.prog 20 [.agg s.cells, I .i64 28] (B true) := sx0 hm hF 1000 20 [] [(4 ≤ 9223372036854775807)] (by kernel_rfl) ⟨h4, trivial⟩
def gV (s : Stt) (k : Nat) : Int := cond (hasF s k) (uand (raw s k) (allI k)) 0
def gE (s : Stt) (k : Nat) : Int := cond (hasF s k) 0 81

theorem get_of (s : Stt) (k : Nat) (ht : hasF s k = true → Spec0 Try.prog 10 [.agg s.cells, I .i64 ((k : Nat) : Int)] (.tup [I .u64 (uand (raw s k) (allI k)), I .i64 0])) (hf : hasF s k = false → Spec0 Try.prog 10 [.agg s.cells, I .i64 ((k : Nat) : Int)] (.tup [I .u64 0, I .i64 81])) :
    Spec0 Try.prog 10 [.agg s.cells, I .i64 ((k : Nat) : Int)] (.tup [I .u64 (gV s k), I .i64 (gE s k)]) := by
  unfold gV gE
  cases h : hasF s k
  · exact hf h
  · exact ht h
theorem has_of (s : Stt) (k : Nat) (ht : hasF s k = true → Spec0 Try.prog 20 [.agg s.cells, I .i64 ((k : Nat) : Int)] (B true)) (hf : hasF s k = false → Spec0 Try.prog 20 [.agg s.cells, I .i64 ((k : Nat) : Int)] (B false)) : Spec0 Try.prog 20 [.agg s.cells, I .i64 ((k : Nat) : Int)] (B (hasF s k)) := by
  cases h : hasF s k
  · exact hf h
  · exact ht h

theorem band {a b : Bool} {X : Prop} (h : (a && b) = true) (k : a = true → b = true → X) : X := by cases a <;> cases b <;> simp_all
theorem bandF {a b : Bool} {X : Prop} (h : (a && b) = false) (k : a = true → b = false → X) (k' : a = false → X) : X := by cases a <;> cases b <;> simp_all
theorem bport {a b c : Bool} {X : Prop} (h : (a && b || a && c) = true) (k : a = true → b = true → X) (k' : a = true → b = false → c = true → X) : X := by cases a <;> cases b <;> cases c <;> simp_all
theorem bportF {a b c : Bool} {X : Prop} (h : (a && b || a && c) = false) (k : a = true → b = false → c = false → X) (k' : a = false → X) : X := by cases a <;> cases b <;> cases c <;> simp_all
theorem ff {a b : Bool} (h : b = false) : b = true → a = true := fun h' => by rw [h] at h'; simp at h'


theorem get4 (s : Stt) : Spec0 Try.prog 10 [.agg s.cells, I .i64 4] (.tup [I .u64 (uand (raw s 4) (allI 4)), I .i64 0]) := by
  show Spec0 _ _ _ (.tup [I .u64 (uand (cond s.tagged (uor 65536 (IntKind.u64.wrap (iand s.tag 65535))) 0) (allI 4)), I .i64 0])
  cases h : s.tagged
  · exact get4_0false s (by rw [h]; rfl)
  · exact get4_0true s (by rw [h]; rfl)
theorem w_Get (s : Stt) : ∀ k : Nat, 1 ≤ k → k ≤ 28 → Spec0 Try.prog 10 [.agg s.cells, I .i64 ((k : Nat) : Int)] (.tup [I .u64 (gV s k), I .i64 (gE s k)])
  | 1, _, _ => get_of s 1 (fun h => get1_0 s ) (fun h => absurd (show true = false from h) (by decide))
  | 2, _, _ => get_of s 2 (fun h => get2_0 s ) (fun h => absurd (show true = false from h) (by decide))
  | 3, _, _ => get_of s 3 (fun h => get3_0 s ) (fun h => absurd (show true = false from h) (by decide))
  | 4, _, _ => get_of s 4 (fun _ => get4 s) (fun h => absurd (show true = false from h) (by decide))
  | 5, _, _ => get_of s 5 (fun h => get5_0 s h) (fun h => getn5_0 s h)
  | 6, _, _ => get_of s 6 (fun h => get6_0 s h) (fun h => getn6_0 s h)
  | 7, _, _ => get_of s 7 (fun h => get7_0 s h) (fun h => getn7_0 s h)
  | 8, _, _ => get_of s 8 (fun h => get8_0 s h) (fun h => getn8_0 s h)
  | 9, _, _ => get_of s 9 (fun h => get9_0 s h) (fun h => getn9_0 s h)
  | 10, _, _ => get_of s 10 (fun h => get10_0 s h) (fun h => getn10_0 s h)
  | 11, _, _ => get_of s 11 (fun h => get11_0 s h) (fun h => getn11_0 s h)
  | 12, _, _ => get_of s 12 (fun h => get12_0 s h) (fun h => getn12_0 s h)
  | 13, _, _ => get_of s 13 (fun h => get13_0 s h) (fun h => getn13_0 s h)
  | 14, _, _ => get_of s 14 (fun h => get14_0 s h) (fun h => getn14_0 s h)
  | 15, _, _ => get_of s 15 (fun h => get15_0 s h) (fun h => getn15_0 s h)
  | 16, _, _ => get_of s 16 (fun h => band h fun a b => get16_0 s a b) (fun h => bandF h (fun a b => getn16_0 s a b) (fun a => getn16_1 s a))
  | 17, _, _ => get_of s 17 (fun h => band h fun a b => get17_0 s a b) (fun h => bandF h (fun a b => getn17_0 s a b) (fun a => getn17_1 s a))
  | 18, _, _ => get_of s 18 (fun h => bport h (fun a b => get18_0 s a b) (fun a b c => get18_1 s a b c)) (fun h => bportF h (fun a b c => getn18_0 s a b c) (fun a => getn18_1 s a))
  | 19, _, _ => get_of s 19 (fun h => bport h (fun a b => get19_0 s a b) (fun a b c => get19_1 s a b c)) (fun h => bportF h (fun a b c => getn19_0 s a b c) (fun a => getn19_1 s a))
  | 20, _, _ => get_of s 20 (fun h => band h fun a b => get20_0 s a b) (fun h => bandF h (fun a b => getn20_0 s a b) (fun a => getn20_1 s a))
  | 21, _, _ => get_of s 21 (fun h => get21_0 s ) (fun h => absurd (show true = false from h) (by decide))
  | 22, _, _ => get_of s 22 (fun h => get22_0 s ) (fun h => absurd (show true = false from h) (by decide))
  | 23, _, _ => get_of s 23 (fun h => get23_0 s ) (fun h => absurd (show true = false from h) (by decide))
  | 24, _, _ => get_of s 24 (fun h => get24_0 s ) (fun h => absurd (show true = false from h) (by decide))
  | 25, _, _ => get_of s 25 (fun h => get25_0 s ) (fun h => absurd (show true = false from h) (by decide))
  | 26, _, _ => get_of s 26 (fun h => get26_0 s ) (fun h => absurd (show true = false from h) (by decide))
  | 27, _, _ => get_of s 27 (fun h => get27_0 s ) (fun h => absurd (show true = false from h) (by decide))
  | 28, _, _ => get_of s 28 (fun h => get28_0 s ) (fun h => absurd (show true = false from h) (by decide))
  | 0, h, _ => absurd h (by decide)
  | k + 29, _, h => absurd h (by omega)
theorem w_Has (s : Stt) : ∀ k : Nat, 1 ≤ k → k ≤ 28 → Spec0 Try.prog 20 [.agg s.cells, I .i64 ((k : Nat) : Int)] (B (hasF s k))
  | 1, _, _ => has_of s 1 (fun h => has1_0 s ) (fun h => absurd (show true = false from h) (by decide))
  | 2, _, _ => has_of s 2 (fun h => has2_0 s ) (fun h => absurd (show true = false from h) (by decide))
  | 3, _, _ => has_of s 3 (fun h => has3_0 s ) (fun h => absurd (show true = false from h) (by decide))
  | 4, _, _ => has_of s 4 (fun h => has4_0 s ) (fun h => absurd (show true = false from h) (by decide))
  | 5, _, _ => has_of s 5 (fun h => has5_0 s h) (fun h => hasn5_0 s h)
  | 6, _, _ => has_of s 6 (fun h => has6_0 s h) (fun h => hasn6_0 s h)
  | 7, _, _ => has_of s 7 (fun h => has7_0 s h) (fun h => hasn7_0 s h)
  | 8, _, _ => has_of s 8 (fun h => has8_0 s h) (fun h => hasn8_0 s h)
  | 9, _, _ => has_of s 9 (fun h => has9_0 s h) (fun h => hasn9_0 s h)
  | 10, _, _ => has_of s 10 (fun h => has10_0 s h) (fun h => hasn10_0 s h)
  | 11, _, _ => has_of s 11 (fun h => has11_0 s h) (fun h => hasn11_0 s h)
  | 12, _, _ => has_of s 12 (fun h => has12_0 s h) (fun h => hasn12_0 s h)
  | 13, _, _ => has_of s 13 (fun h => has13_0 s h) (fun h => hasn13_0 s h)
  | 14, _, _ => has_of s 14 (fun h => has14_0 s h) (fun h => hasn14_0 s h)
  | 15, _, _ => has_of s 15 (fun h => has15_0 s h) (fun h => hasn15_0 s h)
  | 16, _, _ => has_of s 16 (fun h => band h fun a b => has16_0 s a b) (fun h => bandF h (fun a b => hasn16_0 s a b) (fun a => hasn16_1 s a))
  | 17, _, _ => has_of s 17 (fun h => band h fun a b => has17_0 s a b) (fun h => bandF h (fun a b => hasn17_0 s a b) (fun a => hasn17_1 s a))
  | 18, _, _ => has_of s 18 (fun h => bport h (fun a b => has18_0 s a b) (fun a b c => has18_1 s a b c)) (fun h => bportF h (fun a b c => hasn18_0 s a b c) (fun a => hasn18_1 s a))
  | 19, _, _ => has_of s 19 (fun h => bport h (fun a b => has19_0 s a b) (fun a b c => has19_1 s a b c)) (fun h => bportF h (fun a b c => hasn19_0 s a b c) (fun a => hasn19_1 s a))
  | 20, _, _ => has_of s 20 (fun h => band h fun a b => has20_0 s a b) (fun h => bandF h (fun a b => hasn20_0 s a b) (fun a => hasn20_1 s a))
  | 21, _, _ => has_of s 21 (fun h => has21_0 s ) (fun h => absurd (show true = false from h) (by decide))
  | 22, _, _ => has_of s 22 (fun h => has22_0 s ) (fun h => absurd (show true = false from h) (by decide))
  | 23, _, _ => has_of s 23 (fun h => has23_0 s ) (fun h => absurd (show true = false from h) (by decide))
  | 24, _, _ => has_of s 24 (fun h => has24_0 s ) (fun h => absurd (show true = false from h) (by decide))
  | 25, _, _ => has_of s 25 (fun h => has25_0 s ) (fun h => absurd (show true = false from h) (by decide))
  | 26, _, _ => has_of s 26 (fun h => has26_0 s ) (fun h => absurd (show true = false from h) (by decide))
  | 27, _, _ => has_of s 27 (fun h => has27_0 s ) (fun h => absurd (show true = false from h) (by decide))
  | 28, _, _ => has_of s 28 (fun h => has28_0 s ) (fun h => absurd (show true = false from h) (by decide))
  | 0, h, _ => absurd h (by decide)
  | k + 29, _, h => absurd h (by omega)

structure Term where
  f : Int
  v : Int
  m : Int
def tC (t : Term) : List AV := [I .i64 t.f, I .u64 t.v, I .u64 t.m]
theorem tC_len (t : Term) : (tC t).length = 3 := rfl
abbrev TL (l : List Term) : AV := .im 3 (l.flatMap tC)
def needs : Nat → List Term
  | 5 => [⟨3, 2054, 65535⟩]
  | 6 => [⟨3, 2054, 65535⟩]
  | 7 => [⟨3, 2054, 65535⟩]
  | 8 => [⟨3, 2054, 65535⟩]
  | 9 => [⟨3, 2054, 65535⟩]
  | 10 => [⟨3, 2048, 65535⟩]
  | 11 => [⟨3, 2048, 65535⟩]
  | 12 => [⟨3, 2048, 65535⟩]
  | 13 => [⟨3, 2048, 65535⟩]
  | 14 => [⟨3, 2048, 65535⟩]
  | 15 => [⟨3, 2048, 65535⟩]
  | 18 => [⟨3, 2048, 65535⟩]
  | 19 => [⟨3, 2048, 65535⟩]
  | 16 => [⟨3, 2048, 65535⟩, ⟨12, 1, 255⟩]
  | 17 => [⟨3, 2048, 65535⟩, ⟨12, 1, 255⟩]
  | 20 => [⟨3, 2048, 65535⟩, ⟨12, 6, 255⟩]
  | _ => []
theorem need1 : Spec0 Try.prog 14 [I .i64 1] (.nil) := sx0 hm hF 1000 20 [] [] (by kernel_rfl) trivial
theorem need2 : Spec0 Try.prog 14 [I .i64 2] (.nil) := sx0 hm hF 1000 20 [] [] (by kernel_rfl) trivial
theorem need3 : Spec0 Try.prog 14 [I .i64 3] (.nil) := sx0 hm hF 1000 20 [] [] (by kernel_rfl) trivial
theorem need4 : Spec0 Try.prog 14 [I .i64 4] (.nil) := sx0 hm hF 1000 20 [] [] (by kernel_rfl) trivial
theorem need5 : Spec0 Try.prog 14 [I .i64 5] (TL (needs 5)) := sx0 hm hF 1000 20 [] [] (by kernel_rfl) trivial
theorem need6 : Spec0 Try.prog 14 [I .i64 6] (TL (needs 6)) := sx0 hm hF 1000 20 [] [] (by kernel_rfl) trivial
theorem need7 : Spec0 Try.prog 14 [I .i64 7] (TL (needs 7)) := sx0 hm hF 1000 20 [] [] (by kernel_rfl) trivial
theorem need8 : Spec0 Try.prog 14 [I .i64 8] (TL (needs 8)) := sx0 hm hF 1000 20 [] [] (by kernel_rfl) trivial
theorem need9 : Spec0 Try.prog 14 [I .i64 9] (TL (needs 9)) := sx0 hm hF 1000 20 [] [] (by kernel_rfl) trivial
theorem need10 : Spec0 Try.prog 14 [I .i64 10] (TL (needs 10)) := sx0 hm hF 1000 20 [] [] (by kernel_rfl) trivial
theorem need11 : Spec0 Try.prog 14 [I .i64 11] (TL (needs 11)) := sx0 hm hF 1000 20 [] [] (by kernel_rfl) trivial
theorem need12 : Spec0 Try.prog 14 [I .i64 12] (TL (needs 12)) := sx0 hm hF 1000 20 [] [] (by kernel_rfl) trivial
theorem need13 : Spec0 Try.prog 14 [I .i64 13] (TL (needs 13)) := sx0 hm hF 1000 20 [] [] (by kernel_rfl) trivial
theorem need14 : Spec0 Try.prog 14 [I .i64 14] (TL (needs 14)) := sx0 hm hF 1000 20 [] [] (by kernel_rfl) trivial
theorem need15 : Spec0 Try.prog 14 [I .i64 15] (TL (needs 15)) := sx0 hm hF 1000 20 [] [] (by kernel_rfl) trivial
theorem need16 : Spec0 Try.prog 14 [I .i64 16] (TL (needs 16)) := sx0 hm hF 1000 20 [] [] (by kernel_rfl) trivial
theorem need17 : Spec0 Try.prog 14 [I .i64 17] (TL (needs 17)) := sx0 hm hF 1000 20 [] [] (by kernel_rfl) trivial
theorem need18 : Spec0 Try.prog 14 [I .i64 18] (TL (needs 18)) := sx0 hm hF 1000 20 [] [] (by kernel_rfl) trivial
theorem need19 : Spec0 Try.prog 14 [I .i64 19] (TL (needs 19)) := sx0 hm hF 1000 20 [] [] (by kernel_rfl) trivial
theorem need20 : Spec0 Try.prog 14 [I .i64 20] (TL (needs 20)) := sx0 hm hF 1000 20 [] [] (by kernel_rfl) trivial
theorem need21 : Spec0 Try.prog 14 [I .i64 21] (.nil) := sx0 hm hF 1000 20 [] [] (by kernel_rfl) trivial
theorem need22 : Spec0 Try.prog 14 [I .i64 22] (.nil) := sx0 hm hF 1000 20 [] [] (by kernel_rfl) trivial
theorem need23 : Spec0 Try.prog 14 [I .i64 23] (.nil) := sx0 hm hF 1000 20 [] [] (by kernel_rfl) trivial
theorem need24 : Spec0 Try.prog 14 [I .i64 24] (.nil) := sx0 hm hF 1000 20 [] [] (by kernel_rfl) trivial
theorem need25 : Spec0 Try.prog 14 [I .i64 25] (.nil) := sx0 hm hF 1000 20 [] [] (by kernel_rfl) trivial
theorem need26 : Spec0 Try.prog 14 [I .i64 26] (.nil) := sx0 hm hF 1000 20 [] [] (by kernel_rfl) trivial
theorem need27 : Spec0 Try.prog 14 [I .i64 27] (.nil) := sx0 hm hF 1000 20 [] [] (by kernel_rfl) trivial
theorem need28 : Spec0 Try.prog 14 [I .i64 28] (.nil) := sx0 hm hF 1000 20 [] [] (by kernel_rfl) trivial
theorem w_need : ∀ k : Nat, 1 ≤ k → k ≤ 28 → Spec0 Try.prog 14 [I .i64 ((k : Nat) : Int)] (TL (needs k))
  | 1, _, _ => need1.weak fun _ _ _ _ => nil_im
  | 2, _, _ => need2.weak fun _ _ _ _ => nil_im
  | 3, _, _ => need3.weak fun _ _ _ _ => nil_im
  | 4, _, _ => need4.weak fun _ _ _ _ => nil_im
  | 5, _, _ => need5
  | 6, _, _ => need6
  | 7, _, _ => need7
  | 8, _, _ => need8
  | 9, _, _ => need9
  | 10, _, _ => need10
  | 11, _, _ => need11
  | 12, _, _ => need12
  | 13, _, _ => need13
  | 14, _, _ => need14
  | 15, _, _ => need15
  | 16, _, _ => need16
  | 17, _, _ => need17
  | 18, _, _ => need18
  | 19, _, _ => need19
  | 20, _, _ => need20
  | 21, _, _ => need21.weak fun _ _ _ _ => nil_im
  | 22, _, _ => need22.weak fun _ _ _ _ => nil_im
  | 23, _, _ => need23.weak fun _ _ _ _ => nil_im
  | 24, _, _ => need24.weak fun _ _ _ _ => nil_im
  | 25, _, _ => need25.weak fun _ _ _ _ => nil_im
  | 26, _, _ => need26.weak fun _ _ _ _ => nil_im
  | 27, _, _ => need27.weak fun _ _ _ _ => nil_im
  | 28, _, _ => need28.weak fun _ _ _ _ => nil_im
  | 0, h, _ => absurd h (by decide)
  | k + 29, _, h => absurd h (by omega)
/-- The State of a packet. -/
def ofP (q : Pkt) : Stt := ⟨q.dst, q.src, q.tagged, q.tag, q.ty, q.isArp, q.op, q.sha, q.spa, q.tha, q.tpa, q.isIp, q.tos, q.id, q.frag, q.ttl, q.proto, q.isrc, q.idst, q.iopt, q.kind, q.typ, q.code, q.rest, q.sport, q.dport, q.noSum, q.seq, q.ack, q.flags, q.win, q.urg, q.lopt, q.data, q.body, q.pad, 0, 0, 0, 0, 0, 0, 0, 0, 0, 0, 0, 0, 0⟩
end Go.Proofs.Ytofiaddmnhpkgaa
