/-
  Contracts of the package field: what its functions answer at every State.
-/
import Derived.Test.YtofiaddmnhpkgaaX0
set_option linter.unusedVariables false
set_option maxRecDepth 100000
namespace Go.Proofs.Ytofiaddmnhpkgaa
open Go Go.SL Go.Proofs

theorem h4 : 4 ≤ 9223372036854775807 := by decide
/-- A State. -/
structure Stt where
  dst : Int
  src : Int
  tagged : Bool
  tag : Int
  ty : Int
  isArp : Bool
  op : Int
  sha : Int
  spa : Int
  tha : Int
  tpa : Int
  isIp : Bool
  tos : Int
  id : Int
  frag : Int
  ttl : Int
  proto : Int
  isrc : Int
  idst : Int
  iopt : ByteArray
  kind : Int
  typ : Int
  code : Int
  rest : Int
  sport : Int
  dport : Int
  noSum : Bool
  seq : Int
  ack : Int
  flags : Int
  win : Int
  urg : Int
  lopt : ByteArray
  data : ByteArray
  body : ByteArray
  pad : ByteArray
  ct : Int
  dp : Int
  inn : Int
  out : Int
  r0 : Int
  r1 : Int
  r2 : Int
  r3 : Int
  oproto : Int
  osrc : Int
  odst : Int
  osport : Int
  odport : Int
@[reducible] def I (k : IntKind) (n : Int) : AV := .sc (.int k n)
@[reducible] def B (b : Bool) : AV := .sc (.bool b)
@[reducible] def S (b : ByteArray) : AV := .sc (.string b)
def Stt.cells (s : Stt) : List AV := [I .u64 s.dst, I .u64 s.src, B s.tagged, I .i64 s.tag, I .i64 s.ty, B s.isArp, I .i64 s.op, I .u64 s.sha, I .u32 s.spa, I .u64 s.tha, I .u32 s.tpa, B s.isIp, I .i64 s.tos, I .i64 s.id, I .i64 s.frag, I .i64 s.ttl, I .i64 s.proto, I .u32 s.isrc, I .u32 s.idst, S s.iopt, I .i64 s.kind, I .i64 s.typ, I .i64 s.code, I .u32 s.rest, I .i64 s.sport, I .i64 s.dport, B s.noSum, I .u32 s.seq, I .u32 s.ack, I .i64 s.flags, I .i64 s.win, I .i64 s.urg, S s.lopt, S s.data, S s.body, S s.pad, I .i64 s.ct, I .i64 s.dp, I .i64 s.inn, I .i64 s.out, I .u32 s.r0, I .u32 s.r1, I .u32 s.r2, I .u32 s.r3, I .i64 s.oproto, I .u32 s.osrc, I .u32 s.odst, I .i64 s.osport, I .i64 s.odport]
def zS : Stt := ⟨0, 0, false, 0, 0, false, 0, 0, 0, 0, 0, false, 0, 0, 0, 0, 0, 0, 0, ⟨#[]⟩, 0, 0, 0, 0, 0, 0, false, 0, 0, 0, 0, 0, ⟨#[]⟩, ⟨#[]⟩, ⟨#[]⟩, ⟨#[]⟩, 0, 0, 0, 0, 0, 0, 0, 0, 0, 0, 0, 0, 0⟩
def uand (x y : Int) : Int := IntKind.u64.wrap ((BitVec.ofInt 64 x &&& BitVec.ofInt 64 y).toNat : Int)
def uor (x y : Int) : Int := IntKind.u64.wrap ((BitVec.ofInt 64 x ||| BitVec.ofInt 64 y).toNat : Int)
def uandn (x y : Int) : Int := IntKind.u64.wrap ((BitVec.ofInt 64 x &&& ~~~ BitVec.ofInt 64 y).toNat : Int)
def iand (x y : Int) : Int := IntKind.i64.wrap ((BitVec.ofInt 64 x &&& BitVec.ofInt 64 y).toNat : Int)
def nw (r a v m : Int) : Int := uor (uandn (uand r a) m) (uand v m)
def bN  : Nat → Nat
  | 1 => 48
  | 2 => 48
  | 3 => 16
  | 4 => 17
  | 5 => 16
  | 6 => 48
  | 7 => 32
  | 8 => 48
  | 9 => 32
  | 10 => 32
  | 11 => 32
  | 12 => 8
  | 13 => 8
  | 14 => 8
  | 15 => 16
  | 16 => 8
  | 17 => 8
  | 18 => 16
  | 19 => 16
  | 20 => 12
  | 21 => 8
  | 22 => 24
  | 23 => 16
  | 24 => 16
  | 25 => 32
  | 26 => 32
  | 27 => 32
  | 28 => 32
  | _ => 0
def allI  : Nat → Int
  | 1 => 281474976710655
  | 2 => 281474976710655
  | 3 => 65535
  | 4 => 131071
  | 5 => 65535
  | 6 => 281474976710655
  | 7 => 4294967295
  | 8 => 281474976710655
  | 9 => 4294967295
  | 10 => 4294967295
  | 11 => 4294967295
  | 12 => 255
  | 13 => 255
  | 14 => 255
  | 15 => 65535
  | 16 => 255
  | 17 => 255
  | 18 => 65535
  | 19 => 65535
  | 20 => 4095
  | 21 => 255
  | 22 => 16777215
  | 23 => 65535
  | 24 => 65535
  | 25 => 4294967295
  | 26 => 4294967295
  | 27 => 4294967295
  | 28 => 4294967295
  | _ => 0
def hasF (s : Stt) : Nat → Bool
  | 1 => true
  | 2 => true
  | 3 => true
  | 4 => true
  | 5 => s.isArp
  | 6 => s.isArp
  | 7 => s.isArp
  | 8 => s.isArp
  | 9 => s.isArp
  | 10 => s.isIp
  | 11 => s.isIp
  | 12 => s.isIp
  | 13 => s.isIp
  | 14 => s.isIp
  | 15 => s.isIp
  | 16 => (s.isIp && s.kind == 1)
  | 17 => (s.isIp && s.kind == 1)
  | 18 => (s.isIp && s.kind == 3 || s.isIp && s.kind == 2)
  | 19 => (s.isIp && s.kind == 3 || s.isIp && s.kind == 2)
  | 20 => (s.isIp && s.kind == 3)
  | 21 => true
  | 22 => true
  | 23 => true
  | 24 => true
  | 25 => true
  | 26 => true
  | 27 => true
  | 28 => true
  | _ => false
def raw (s : Stt) : Nat → Int
  | 1 => s.dst
  | 2 => s.src
  | 3 => IntKind.u64.wrap s.ty
  | 4 => cond s.tagged (uor 65536 (IntKind.u64.wrap (iand s.tag 65535))) 0
  | 5 => IntKind.u64.wrap s.op
  | 6 => s.sha
  | 7 => IntKind.u64.wrap s.spa
  | 8 => s.tha
  | 9 => IntKind.u64.wrap s.tpa
  | 10 => IntKind.u64.wrap s.isrc
  | 11 => IntKind.u64.wrap s.idst
  | 12 => IntKind.u64.wrap s.proto
  | 13 => IntKind.u64.wrap s.ttl
  | 14 => IntKind.u64.wrap s.tos
  | 15 => IntKind.u64.wrap s.frag
  | 16 => IntKind.u64.wrap s.typ
  | 17 => IntKind.u64.wrap s.code
  | 18 => IntKind.u64.wrap s.sport
  | 19 => IntKind.u64.wrap s.dport
  | 20 => IntKind.u64.wrap s.flags
  | 21 => IntKind.u64.wrap s.ct
  | 22 => IntKind.u64.wrap s.dp
  | 23 => IntKind.u64.wrap s.inn
  | 24 => IntKind.u64.wrap s.out
  | 25 => IntKind.u64.wrap s.r0
  | 26 => IntKind.u64.wrap s.r1
  | 27 => IntKind.u64.wrap s.r2
  | 28 => IntKind.u64.wrap s.r3
  | _ => 0
def putF (s : Stt) (v : Int) : Nat → Stt
  | 1 => { s with dst := v }
  | 2 => { s with src := v }
  | 3 => { s with ty := IntKind.i64.wrap v }
  | 4 => { s with tagged := uand v 65536 != 0, tag := cond (uand v 65536 != 0) (IntKind.i64.wrap (uand v 65535)) 0 }
  | 5 => { s with op := IntKind.i64.wrap v }
  | 6 => { s with sha := v }
  | 7 => { s with spa := IntKind.u32.wrap v }
  | 8 => { s with tha := v }
  | 9 => { s with tpa := IntKind.u32.wrap v }
  | 10 => { s with isrc := IntKind.u32.wrap v }
  | 11 => { s with idst := IntKind.u32.wrap v }
  | 12 => { s with proto := IntKind.i64.wrap v }
  | 13 => { s with ttl := IntKind.i64.wrap v }
  | 14 => { s with tos := IntKind.i64.wrap v }
  | 15 => { s with frag := IntKind.i64.wrap v }
  | 16 => { s with typ := IntKind.i64.wrap v }
  | 17 => { s with code := IntKind.i64.wrap v }
  | 18 => { s with sport := IntKind.i64.wrap v }
  | 19 => { s with dport := IntKind.i64.wrap v }
  | 20 => { s with flags := IntKind.i64.wrap v }
  | 21 => { s with ct := IntKind.i64.wrap v }
  | 22 => { s with dp := IntKind.i64.wrap v }
  | 23 => { s with inn := IntKind.i64.wrap v }
  | 24 => { s with out := IntKind.i64.wrap v }
  | 25 => { s with r0 := IntKind.u32.wrap v }
  | 26 => { s with r1 := IntKind.u32.wrap v }
  | 27 => { s with r2 := IntKind.u32.wrap v }
  | 28 => { s with r3 := IntKind.u32.wrap v }
  | _ => s
def fixd  : Nat → Bool
  | 1 => false
  | 2 => false
  | 3 => true
  | 4 => false
  | 5 => false
  | 6 => false
  | 7 => false
  | 8 => false
  | 9 => false
  | 10 => false
  | 11 => false
  | 12 => true
  | 13 => false
  | 14 => false
  | 15 => true
  | 16 => false
  | 17 => false
  | 18 => false
  | 19 => false
  | 20 => false
  | 21 => false
  | 22 => false
  | 23 => false
  | 24 => false
  | 25 => false
  | 26 => false
  | 27 => false
  | 28 => false
  | _ => true
def nmF  : Nat → ByteArray
  | 1 => ⟨#[101, 116, 104, 46, 100, 115, 116]⟩
  | 2 => ⟨#[101, 116, 104, 46, 115, 114, 99]⟩
  | 3 => ⟨#[101, 116, 104, 46, 116, 121, 112, 101]⟩
  | 4 => ⟨#[118, 108, 97, 110, 46, 116, 97, 103]⟩
  | 5 => ⟨#[97, 114, 112, 46, 111, 112]⟩
  | 6 => ⟨#[97, 114, 112, 46, 115, 104, 97]⟩
  | 7 => ⟨#[97, 114, 112, 46, 115, 112, 97]⟩
  | 8 => ⟨#[97, 114, 112, 46, 116, 104, 97]⟩
  | 9 => ⟨#[97, 114, 112, 46, 116, 112, 97]⟩
  | 10 => ⟨#[105, 112, 52, 46, 115, 114, 99]⟩
  | 11 => ⟨#[105, 112, 52, 46, 100, 115, 116]⟩
  | 12 => ⟨#[105, 112, 46, 112, 114, 111, 116, 111]⟩
  | 13 => ⟨#[105, 112, 46, 116, 116, 108]⟩
  | 14 => ⟨#[105, 112, 46, 116, 111, 115]⟩
  | 15 => ⟨#[105, 112, 46, 102, 114, 97, 103]⟩
  | 16 => ⟨#[105, 99, 109, 112, 46, 116, 121, 112, 101]⟩
  | 17 => ⟨#[105, 99, 109, 112, 46, 99, 111, 100, 101]⟩
  | 18 => ⟨#[116, 112, 46, 115, 114, 99]⟩
  | 19 => ⟨#[116, 112, 46, 100, 115, 116]⟩
  | 20 => ⟨#[116, 99, 112, 46, 102, 108, 97, 103, 115]⟩
  | 21 => ⟨#[99, 116, 46, 115, 116, 97, 116, 101]⟩
  | 22 => ⟨#[100, 97, 116, 97, 112, 97, 116, 104]⟩
  | 23 => ⟨#[105, 110, 112, 111, 114, 116]⟩
  | 24 => ⟨#[111, 117, 116, 112, 111, 114, 116]⟩
  | 25 => ⟨#[114, 101, 103, 48]⟩
  | 26 => ⟨#[114, 101, 103, 49]⟩
  | 27 => ⟨#[114, 101, 103, 50]⟩
  | 28 => ⟨#[114, 101, 103, 51]⟩
  | _ => ⟨#[]⟩
theorem get1_0 (s : Stt)  : Spec0 Try.prog 10 [.agg s.cells, I .i64 1] (.tup [I .u64 (uand (raw s 1) (allI 1)), I .i64 0]) := sx0 hm hF 1000 20 [] [] (by kernel_rfl) trivial
theorem has1_0 (s : Stt)  : Spec0 Try.prog 20 [.agg s.cells, I .i64 1] (B true) := sx0 hm hF 1000 20 [] [] (by kernel_rfl) trivial
theorem bits1   : Spec0 Try.prog 8 [I .i64 1] (I .i64 (Int.ofNat (bN 1))) := sx0 hm hF 1000 20 [] [] (by kernel_rfl) trivial
theorem name1   : Spec0 Try.prog 13 [I .i64 1] (S (nmF 1)) := sx0 hm hF 1000 20 [] [] (by kernel_rfl) trivial
theorem setv1 (s : Stt) (v m : Int) (h0 : decide (v > allI 1) = true) : Spec0 Try.prog 9 [.agg s.cells, I .i64 1, I .u64 v, I .u64 m] (.tup [.agg zS.cells, I .i64 80]) := sx0 hm hF 1000 20 [.b 9 2 11 true] [decide (v > allI 1) = true] (by kernel_rfl) ⟨h0, trivial⟩
theorem setm1 (s : Stt) (v m : Int) (h0 : decide (v > allI 1) = false) (h1 : decide (m > allI 1) = true) : Spec0 Try.prog 9 [.agg s.cells, I .i64 1, I .u64 v, I .u64 m] (.tup [.agg zS.cells, I .i64 80]) := sx0 hm hF 1000 20 [.b 9 2 11 false, .b 9 2 17 true] [decide (m > allI 1) = true, decide (v > allI 1) = false] (by kernel_rfl) ⟨h1, h0, trivial⟩
theorem set1_0 (s : Stt) (v m : Int) (h0 : decide (v > allI 1) = false) (h1 : decide (m > allI 1) = false) : Spec0 Try.prog 9 [.agg s.cells, I .i64 1, I .u64 v, I .u64 m] (.tup [.agg (putF s (nw (raw s 1) (allI 1) v m) 1).cells, I .i64 0]) := sx0 hm hF 1000 20 [.b 9 2 11 false, .b 9 2 17 false] [decide (m > allI 1) = false, decide (v > allI 1) = false] (by kernel_rfl) ⟨h1, h0, trivial⟩
theorem get2_0 (s : Stt)  : Spec0 Try.prog 10 [.agg s.cells, I .i64 2] (.tup [I .u64 (uand (raw s 2) (allI 2)), I .i64 0]) := sx0 hm hF 1000 20 [] [] (by kernel_rfl) trivial
theorem has2_0 (s : Stt)  : Spec0 Try.prog 20 [.agg s.cells, I .i64 2] (B true) := sx0 hm hF 1000 20 [] [] (by kernel_rfl) trivial
theorem bits2   : Spec0 Try.prog 8 [I .i64 2] (I .i64 (Int.ofNat (bN 2))) := sx0 hm hF 1000 20 [] [] (by kernel_rfl) trivial
theorem name2   : Spec0 Try.prog 13 [I .i64 2] (S (nmF 2)) := sx0 hm hF 1000 20 [] [] (by kernel_rfl) trivial
theorem setv2 (s : Stt) (v m : Int) (h0 : decide (v > allI 2) = true) : Spec0 Try.prog 9 [.agg s.cells, I .i64 2, I .u64 v, I .u64 m] (.tup [.agg zS.cells, I .i64 80]) := sx0 hm hF 1000 20 [.b 9 2 11 true] [decide (v > allI 2) = true] (by kernel_rfl) ⟨h0, trivial⟩
theorem setm2 (s : Stt) (v m : Int) (h0 : decide (v > allI 2) = false) (h1 : decide (m > allI 2) = true) : Spec0 Try.prog 9 [.agg s.cells, I .i64 2, I .u64 v, I .u64 m] (.tup [.agg zS.cells, I .i64 80]) := sx0 hm hF 1000 20 [.b 9 2 11 false, .b 9 2 17 true] [decide (m > allI 2) = true, decide (v > allI 2) = false] (by kernel_rfl) ⟨h1, h0, trivial⟩
theorem set2_0 (s : Stt) (v m : Int) (h0 : decide (v > allI 2) = false) (h1 : decide (m > allI 2) = false) : Spec0 Try.prog 9 [.agg s.cells, I .i64 2, I .u64 v, I .u64 m] (.tup [.agg (putF s (nw (raw s 2) (allI 2) v m) 2).cells, I .i64 0]) := sx0 hm hF 1000 20 [.b 9 2 11 false, .b 9 2 17 false] [decide (m > allI 2) = false, decide (v > allI 2) = false] (by kernel_rfl) ⟨h1, h0, trivial⟩
theorem get3_0 (s : Stt)  : Spec0 Try.prog 10 [.agg s.cells, I .i64 3] (.tup [I .u64 (uand (raw s 3) (allI 3)), I .i64 0]) := sx0 hm hF 1000 20 [] [] (by kernel_rfl) trivial
theorem has3_0 (s : Stt)  : Spec0 Try.prog 20 [.agg s.cells, I .i64 3] (B true) := sx0 hm hF 1000 20 [] [] (by kernel_rfl) trivial
theorem bits3   : Spec0 Try.prog 8 [I .i64 3] (I .i64 (Int.ofNat (bN 3))) := sx0 hm hF 1000 20 [] [] (by kernel_rfl) trivial
theorem name3   : Spec0 Try.prog 13 [I .i64 3] (S (nmF 3)) := sx0 hm hF 1000 20 [] [] (by kernel_rfl) trivial
theorem setx3 (s : Stt) (v m : Int)  : Spec0 Try.prog 9 [.agg s.cells, I .i64 3, I .u64 v, I .u64 m] (.tup [.agg zS.cells, I .i64 80]) := sx0 hm hF 1000 20 [] [] (by kernel_rfl) trivial
theorem get4_0true (s : Stt) (h0 : (!s.tagged) = false) : Spec0 Try.prog 10 [.agg s.cells, I .i64 4] (.tup [I .u64 (uand (uor 65536 (IntKind.u64.wrap (iand s.tag 65535))) (allI 4)), I .i64 0]) := sx0 hm hF 1000 20 [.b 85 1 6 false] [(!s.tagged) = false] (by kernel_rfl) ⟨h0, trivial⟩
theorem get4_0false (s : Stt) (h0 : (!s.tagged) = true) : Spec0 Try.prog 10 [.agg s.cells, I .i64 4] (.tup [I .u64 (uand (0) (allI 4)), I .i64 0]) := sx0 hm hF 1000 20 [.b 85 1 6 true] [(!s.tagged) = true] (by kernel_rfl) ⟨h0, trivial⟩
theorem has4_0 (s : Stt)  : Spec0 Try.prog 20 [.agg s.cells, I .i64 4] (B true) := sx0 hm hF 1000 20 [] [] (by kernel_rfl) trivial
theorem bits4   : Spec0 Try.prog 8 [I .i64 4] (I .i64 (Int.ofNat (bN 4))) := sx0 hm hF 1000 20 [] [] (by kernel_rfl) trivial
theorem name4   : Spec0 Try.prog 13 [I .i64 4] (S (nmF 4)) := sx0 hm hF 1000 20 [] [] (by kernel_rfl) trivial
theorem setv4 (s : Stt) (v m : Int) (h0 : decide (v > allI 4) = true) : Spec0 Try.prog 9 [.agg s.cells, I .i64 4, I .u64 v, I .u64 m] (.tup [.agg zS.cells, I .i64 80]) := sx0 hm hF 1000 20 [.b 9 2 11 true] [decide (v > allI 4) = true] (by kernel_rfl) ⟨h0, trivial⟩
theorem setm4 (s : Stt) (v m : Int) (h0 : decide (v > allI 4) = false) (h1 : decide (m > allI 4) = true) : Spec0 Try.prog 9 [.agg s.cells, I .i64 4, I .u64 v, I .u64 m] (.tup [.agg zS.cells, I .i64 80]) := sx0 hm hF 1000 20 [.b 9 2 11 false, .b 9 2 17 true] [decide (m > allI 4) = true, decide (v > allI 4) = false] (by kernel_rfl) ⟨h1, h0, trivial⟩
theorem set4_truetrue (s : Stt) (v m : Int) (h0 : decide (v > allI 4) = false) (h1 : decide (m > allI 4) = false) (h2 : (!s.tagged) = false) (h3 : (uand (nw (uor 65536 (IntKind.u64.wrap (iand s.tag 65535))) (allI 4) v m) 65536 != 0) = true) : Spec0 Try.prog 9 [.agg s.cells, I .i64 4, I .u64 v, I .u64 m] (.tup [.agg ({ s with tagged := true, tag := IntKind.i64.wrap (uand (nw (uor 65536 (IntKind.u64.wrap (iand s.tag 65535))) (allI 4) v m) 65535) } : Stt).cells, I .i64 0]) := sx0 hm hF 1000 20 [.b 9 2 11 false, .b 9 2 17 false, .b 85 1 6 false, .b 86 0 3 true] [(uand (nw (uor 65536 (IntKind.u64.wrap (iand s.tag 65535))) (allI 4) v m) 65536 != 0) = true, (!s.tagged) = false, decide (m > allI 4) = false, decide (v > allI 4) = false] (by kernel_rfl) ⟨h3, h2, h1, h0, trivial⟩
theorem set4_truefalse (s : Stt) (v m : Int) (h0 : decide (v > allI 4) = false) (h1 : decide (m > allI 4) = false) (h2 : (!s.tagged) = false) (h3 : (uand (nw (uor 65536 (IntKind.u64.wrap (iand s.tag 65535))) (allI 4) v m) 65536 != 0) = false) : Spec0 Try.prog 9 [.agg s.cells, I .i64 4, I .u64 v, I .u64 m] (.tup [.agg ({ s with tagged := false, tag := 0 } : Stt).cells, I .i64 0]) := sx0 hm hF 1000 20 [.b 9 2 11 false, .b 9 2 17 false, .b 85 1 6 false, .b 86 0 3 false] [(uand (nw (uor 65536 (IntKind.u64.wrap (iand s.tag 65535))) (allI 4) v m) 65536 != 0) = false, (!s.tagged) = false, decide (m > allI 4) = false, decide (v > allI 4) = false] (by kernel_rfl) ⟨h3, h2, h1, h0, trivial⟩
theorem set4_falsetrue (s : Stt) (v m : Int) (h0 : decide (v > allI 4) = false) (h1 : decide (m > allI 4) = false) (h2 : (!s.tagged) = true) (h3 : (uand (nw (0) (allI 4) v m) 65536 != 0) = true) : Spec0 Try.prog 9 [.agg s.cells, I .i64 4, I .u64 v, I .u64 m] (.tup [.agg ({ s with tagged := true, tag := IntKind.i64.wrap (uand (nw (0) (allI 4) v m) 65535) } : Stt).cells, I .i64 0]) := sx0 hm hF 1000 20 [.b 9 2 11 false, .b 9 2 17 false, .b 85 1 6 true, .b 86 0 3 true] [(uand (nw (0) (allI 4) v m) 65536 != 0) = true, (!s.tagged) = true, decide (m > allI 4) = false, decide (v > allI 4) = false] (by kernel_rfl) ⟨h3, h2, h1, h0, trivial⟩
theorem set4_falsefalse (s : Stt) (v m : Int) (h0 : decide (v > allI 4) = false) (h1 : decide (m > allI 4) = false) (h2 : (!s.tagged) = true) (h3 : (uand (nw (0) (allI 4) v m) 65536 != 0) = false) : Spec0 Try.prog 9 [.agg s.cells, I .i64 4, I .u64 v, I .u64 m] (.tup [.agg ({ s with tagged := false, tag := 0 } : Stt).cells, I .i64 0]) := sx0 hm hF 1000 20 [.b 9 2 11 false, .b 9 2 17 false, .b 85 1 6 true, .b 86 0 3 false] [(uand (nw (0) (allI 4) v m) 65536 != 0) = false, (!s.tagged) = true, decide (m > allI 4) = false, decide (v > allI 4) = false] (by kernel_rfl) ⟨h3, h2, h1, h0, trivial⟩
theorem get5_0 (s : Stt) (h0 : s.isArp = true) : Spec0 Try.prog 10 [.agg s.cells, I .i64 5] (.tup [I .u64 (uand (raw s 5) (allI 5)), I .i64 0]) := sx0 hm hF 1000 20 [.b 51 1 5 true] [s.isArp = true] (by kernel_rfl) ⟨h0, trivial⟩
theorem has5_0 (s : Stt) (h0 : s.isArp = true) : Spec0 Try.prog 20 [.agg s.cells, I .i64 5] (B true) := sx0 hm hF 1000 20 [.b 51 1 5 true] [s.isArp = true] (by kernel_rfl) ⟨h0, trivial⟩
theorem getn5_0 (s : Stt) (h0 : s.isArp = false) : Spec0 Try.prog 10 [.agg s.cells, I .i64 5] (.tup [I .u64 0, I .i64 81]) := sx0 hm hF 1000 20 [.b 51 1 5 false] [s.isArp = false] (by kernel_rfl) ⟨h0, trivial⟩
theorem hasn5_0 (s : Stt) (h0 : s.isArp = false) : Spec0 Try.prog 20 [.agg s.cells, I .i64 5] (B false) := sx0 hm hF 1000 20 [.b 51 1 5 false] [s.isArp = false] (by kernel_rfl) ⟨h0, trivial⟩
theorem bits5   : Spec0 Try.prog 8 [I .i64 5] (I .i64 (Int.ofNat (bN 5))) := sx0 hm hF 1000 20 [] [] (by kernel_rfl) trivial
theorem name5   : Spec0 Try.prog 13 [I .i64 5] (S (nmF 5)) := sx0 hm hF 1000 20 [] [] (by kernel_rfl) trivial
theorem setv5 (s : Stt) (v m : Int) (h0 : decide (v > allI 5) = true) : Spec0 Try.prog 9 [.agg s.cells, I .i64 5, I .u64 v, I .u64 m] (.tup [.agg zS.cells, I .i64 80]) := sx0 hm hF 1000 20 [.b 9 2 11 true] [decide (v > allI 5) = true] (by kernel_rfl) ⟨h0, trivial⟩
theorem setm5 (s : Stt) (v m : Int) (h0 : decide (v > allI 5) = false) (h1 : decide (m > allI 5) = true) : Spec0 Try.prog 9 [.agg s.cells, I .i64 5, I .u64 v, I .u64 m] (.tup [.agg zS.cells, I .i64 80]) := sx0 hm hF 1000 20 [.b 9 2 11 false, .b 9 2 17 true] [decide (m > allI 5) = true, decide (v > allI 5) = false] (by kernel_rfl) ⟨h1, h0, trivial⟩
theorem setn5_0 (s : Stt) (v m : Int) (h0 : decide (v > allI 5) = false) (h1 : decide (m > allI 5) = false) (h2 : s.isArp = false) : Spec0 Try.prog 9 [.agg s.cells, I .i64 5, I .u64 v, I .u64 m] (.tup [.agg zS.cells, I .i64 81]) := sx0 hm hF 1000 20 [.b 9 2 11 false, .b 9 2 17 false, .b 51 1 5 false] [s.isArp = false, decide (m > allI 5) = false, decide (v > allI 5) = false] (by kernel_rfl) ⟨h2, h1, h0, trivial⟩
theorem set5_0 (s : Stt) (v m : Int) (h0 : decide (v > allI 5) = false) (h1 : decide (m > allI 5) = false) (h2 : s.isArp = true) : Spec0 Try.prog 9 [.agg s.cells, I .i64 5, I .u64 v, I .u64 m] (.tup [.agg (putF s (nw (raw s 5) (allI 5) v m) 5).cells, I .i64 0]) := sx0 hm hF 1000 20 [.b 9 2 11 false, .b 9 2 17 false, .b 51 1 5 true] [s.isArp = true, decide (m > allI 5) = false, decide (v > allI 5) = false] (by kernel_rfl) ⟨h2, h1, h0, trivial⟩
theorem get6_0 (s : Stt) (h0 : s.isArp = true) : Spec0 Try.prog 10 [.agg s.cells, I .i64 6] (.tup [I .u64 (uand (raw s 6) (allI 6)), I .i64 0]) := sx0 hm hF 1000 20 [.b 51 1 5 true] [s.isArp = true] (by kernel_rfl) ⟨h0, trivial⟩
theorem has6_0 (s : Stt) (h0 : s.isArp = true) : Spec0 Try.prog 20 [.agg s.cells, I .i64 6] (B true) := sx0 hm hF 1000 20 [.b 51 1 5 true] [s.isArp = true] (by kernel_rfl) ⟨h0, trivial⟩
theorem getn6_0 (s : Stt) (h0 : s.isArp = false) : Spec0 Try.prog 10 [.agg s.cells, I .i64 6] (.tup [I .u64 0, I .i64 81]) := sx0 hm hF 1000 20 [.b 51 1 5 false] [s.isArp = false] (by kernel_rfl) ⟨h0, trivial⟩
theorem hasn6_0 (s : Stt) (h0 : s.isArp = false) : Spec0 Try.prog 20 [.agg s.cells, I .i64 6] (B false) := sx0 hm hF 1000 20 [.b 51 1 5 false] [s.isArp = false] (by kernel_rfl) ⟨h0, trivial⟩
theorem bits6   : Spec0 Try.prog 8 [I .i64 6] (I .i64 (Int.ofNat (bN 6))) := sx0 hm hF 1000 20 [] [] (by kernel_rfl) trivial
theorem name6   : Spec0 Try.prog 13 [I .i64 6] (S (nmF 6)) := sx0 hm hF 1000 20 [] [] (by kernel_rfl) trivial
theorem setv6 (s : Stt) (v m : Int) (h0 : decide (v > allI 6) = true) : Spec0 Try.prog 9 [.agg s.cells, I .i64 6, I .u64 v, I .u64 m] (.tup [.agg zS.cells, I .i64 80]) := sx0 hm hF 1000 20 [.b 9 2 11 true] [decide (v > allI 6) = true] (by kernel_rfl) ⟨h0, trivial⟩
theorem setm6 (s : Stt) (v m : Int) (h0 : decide (v > allI 6) = false) (h1 : decide (m > allI 6) = true) : Spec0 Try.prog 9 [.agg s.cells, I .i64 6, I .u64 v, I .u64 m] (.tup [.agg zS.cells, I .i64 80]) := sx0 hm hF 1000 20 [.b 9 2 11 false, .b 9 2 17 true] [decide (m > allI 6) = true, decide (v > allI 6) = false] (by kernel_rfl) ⟨h1, h0, trivial⟩
theorem setn6_0 (s : Stt) (v m : Int) (h0 : decide (v > allI 6) = false) (h1 : decide (m > allI 6) = false) (h2 : s.isArp = false) : Spec0 Try.prog 9 [.agg s.cells, I .i64 6, I .u64 v, I .u64 m] (.tup [.agg zS.cells, I .i64 81]) := sx0 hm hF 1000 20 [.b 9 2 11 false, .b 9 2 17 false, .b 51 1 5 false] [s.isArp = false, decide (m > allI 6) = false, decide (v > allI 6) = false] (by kernel_rfl) ⟨h2, h1, h0, trivial⟩
theorem set6_0 (s : Stt) (v m : Int) (h0 : decide (v > allI 6) = false) (h1 : decide (m > allI 6) = false) (h2 : s.isArp = true) : Spec0 Try.prog 9 [.agg s.cells, I .i64 6, I .u64 v, I .u64 m] (.tup [.agg (putF s (nw (raw s 6) (allI 6) v m) 6).cells, I .i64 0]) := sx0 hm hF 1000 20 [.b 9 2 11 false, .b 9 2 17 false, .b 51 1 5 true] [s.isArp = true, decide (m > allI 6) = false, decide (v > allI 6) = false] (by kernel_rfl) ⟨h2, h1, h0, trivial⟩
theorem get7_0 (s : Stt) (h0 : s.isArp = true) : Spec0 Try.prog 10 [.agg s.cells, I .i64 7] (.tup [I .u64 (uand (raw s 7) (allI 7)), I .i64 0]) := sx0 hm hF 1000 20 [.b 51 1 5 true] [s.isArp = true] (by kernel_rfl) ⟨h0, trivial⟩
theorem has7_0 (s : Stt) (h0 : s.isArp = true) : Spec0 Try.prog 20 [.agg s.cells, I .i64 7] (B true) := sx0 hm hF 1000 20 [.b 51 1 5 true] [s.isArp = true] (by kernel_rfl) ⟨h0, trivial⟩
theorem getn7_0 (s : Stt) (h0 : s.isArp = false) : Spec0 Try.prog 10 [.agg s.cells, I .i64 7] (.tup [I .u64 0, I .i64 81]) := sx0 hm hF 1000 20 [.b 51 1 5 false] [s.isArp = false] (by kernel_rfl) ⟨h0, trivial⟩
theorem hasn7_0 (s : Stt) (h0 : s.isArp = false) : Spec0 Try.prog 20 [.agg s.cells, I .i64 7] (B false) := sx0 hm hF 1000 20 [.b 51 1 5 false] [s.isArp = false] (by kernel_rfl) ⟨h0, trivial⟩
theorem bits7   : Spec0 Try.prog 8 [I .i64 7] (I .i64 (Int.ofNat (bN 7))) := sx0 hm hF 1000 20 [] [] (by kernel_rfl) trivial
theorem name7   : Spec0 Try.prog 13 [I .i64 7] (S (nmF 7)) := sx0 hm hF 1000 20 [] [] (by kernel_rfl) trivial
theorem setv7 (s : Stt) (v m : Int) (h0 : decide (v > allI 7) = true) : Spec0 Try.prog 9 [.agg s.cells, I .i64 7, I .u64 v, I .u64 m] (.tup [.agg zS.cells, I .i64 80]) := sx0 hm hF 1000 20 [.b 9 2 11 true] [decide (v > allI 7) = true] (by kernel_rfl) ⟨h0, trivial⟩
theorem setm7 (s : Stt) (v m : Int) (h0 : decide (v > allI 7) = false) (h1 : decide (m > allI 7) = true) : Spec0 Try.prog 9 [.agg s.cells, I .i64 7, I .u64 v, I .u64 m] (.tup [.agg zS.cells, I .i64 80]) := sx0 hm hF 1000 20 [.b 9 2 11 false, .b 9 2 17 true] [decide (m > allI 7) = true, decide (v > allI 7) = false] (by kernel_rfl) ⟨h1, h0, trivial⟩
theorem setn7_0 (s : Stt) (v m : Int) (h0 : decide (v > allI 7) = false) (h1 : decide (m > allI 7) = false) (h2 : s.isArp = false) : Spec0 Try.prog 9 [.agg s.cells, I .i64 7, I .u64 v, I .u64 m] (.tup [.agg zS.cells, I .i64 81]) := sx0 hm hF 1000 20 [.b 9 2 11 false, .b 9 2 17 false, .b 51 1 5 false] [s.isArp = false, decide (m > allI 7) = false, decide (v > allI 7) = false] (by kernel_rfl) ⟨h2, h1, h0, trivial⟩
theorem set7_0 (s : Stt) (v m : Int) (h0 : decide (v > allI 7) = false) (h1 : decide (m > allI 7) = false) (h2 : s.isArp = true) : Spec0 Try.prog 9 [.agg s.cells, I .i64 7, I .u64 v, I .u64 m] (.tup [.agg (putF s (nw (raw s 7) (allI 7) v m) 7).cells, I .i64 0]) := sx0 hm hF 1000 20 [.b 9 2 11 false, .b 9 2 17 false, .b 51 1 5 true] [s.isArp = true, decide (m > allI 7) = false, decide (v > allI 7) = false] (by kernel_rfl) ⟨h2, h1, h0, trivial⟩
theorem get8_0 (s : Stt) (h0 : s.isArp = true) : Spec0 Try.prog 10 [.agg s.cells, I .i64 8] (.tup [I .u64 (uand (raw s 8) (allI 8)), I .i64 0]) := sx0 hm hF 1000 20 [.b 51 1 5 true] [s.isArp = true] (by kernel_rfl) ⟨h0, trivial⟩
theorem has8_0 (s : Stt) (h0 : s.isArp = true) : Spec0 Try.prog 20 [.agg s.cells, I .i64 8] (B true) := sx0 hm hF 1000 20 [.b 51 1 5 true] [s.isArp = true] (by kernel_rfl) ⟨h0, trivial⟩
theorem getn8_0 (s : Stt) (h0 : s.isArp = false) : Spec0 Try.prog 10 [.agg s.cells, I .i64 8] (.tup [I .u64 0, I .i64 81]) := sx0 hm hF 1000 20 [.b 51 1 5 false] [s.isArp = false] (by kernel_rfl) ⟨h0, trivial⟩
theorem hasn8_0 (s : Stt) (h0 : s.isArp = false) : Spec0 Try.prog 20 [.agg s.cells, I .i64 8] (B false) := sx0 hm hF 1000 20 [.b 51 1 5 false] [s.isArp = false] (by kernel_rfl) ⟨h0, trivial⟩
theorem bits8   : Spec0 Try.prog 8 [I .i64 8] (I .i64 (Int.ofNat (bN 8))) := sx0 hm hF 1000 20 [] [] (by kernel_rfl) trivial
theorem name8   : Spec0 Try.prog 13 [I .i64 8] (S (nmF 8)) := sx0 hm hF 1000 20 [] [] (by kernel_rfl) trivial
theorem setv8 (s : Stt) (v m : Int) (h0 : decide (v > allI 8) = true) : Spec0 Try.prog 9 [.agg s.cells, I .i64 8, I .u64 v, I .u64 m] (.tup [.agg zS.cells, I .i64 80]) := sx0 hm hF 1000 20 [.b 9 2 11 true] [decide (v > allI 8) = true] (by kernel_rfl) ⟨h0, trivial⟩
theorem setm8 (s : Stt) (v m : Int) (h0 : decide (v > allI 8) = false) (h1 : decide (m > allI 8) = true) : Spec0 Try.prog 9 [.agg s.cells, I .i64 8, I .u64 v, I .u64 m] (.tup [.agg zS.cells, I .i64 80]) := sx0 hm hF 1000 20 [.b 9 2 11 false, .b 9 2 17 true] [decide (m > allI 8) = true, decide (v > allI 8) = false] (by kernel_rfl) ⟨h1, h0, trivial⟩
theorem setn8_0 (s : Stt) (v m : Int) (h0 : decide (v > allI 8) = false) (h1 : decide (m > allI 8) = false) (h2 : s.isArp = false) : Spec0 Try.prog 9 [.agg s.cells, I .i64 8, I .u64 v, I .u64 m] (.tup [.agg zS.cells, I .i64 81]) := sx0 hm hF 1000 20 [.b 9 2 11 false, .b 9 2 17 false, .b 51 1 5 false] [s.isArp = false, decide (m > allI 8) = false, decide (v > allI 8) = false] (by kernel_rfl) ⟨h2, h1, h0, trivial⟩
theorem set8_0 (s : Stt) (v m : Int) (h0 : decide (v > allI 8) = false) (h1 : decide (m > allI 8) = false) (h2 : s.isArp = true) : Spec0 Try.prog 9 [.agg s.cells, I .i64 8, I .u64 v, I .u64 m] (.tup [.agg (putF s (nw (raw s 8) (allI 8) v m) 8).cells, I .i64 0]) := sx0 hm hF 1000 20 [.b 9 2 11 false, .b 9 2 17 false, .b 51 1 5 true] [s.isArp = true, decide (m > allI 8) = false, decide (v > allI 8) = false] (by kernel_rfl) ⟨h2, h1, h0, trivial⟩
theorem get9_0 (s : Stt) (h0 : s.isArp = true) : Spec0 Try.prog 10 [.agg s.cells, I .i64 9] (.tup [I .u64 (uand (raw s 9) (allI 9)), I .i64 0]) := sx0 hm hF 1000 20 [.b 51 1 5 true] [s.isArp = true] (by kernel_rfl) ⟨h0, trivial⟩
theorem has9_0 (s : Stt) (h0 : s.isArp = true) : Spec0 Try.prog 20 [.agg s.cells, I .i64 9] (B true) := sx0 hm hF 1000 20 [.b 51 1 5 true] [s.isArp = true] (by kernel_rfl) ⟨h0, trivial⟩
theorem getn9_0 (s : Stt) (h0 : s.isArp = false) : Spec0 Try.prog 10 [.agg s.cells, I .i64 9] (.tup [I .u64 0, I .i64 81]) := sx0 hm hF 1000 20 [.b 51 1 5 false] [s.isArp = false] (by kernel_rfl) ⟨h0, trivial⟩
theorem hasn9_0 (s : Stt) (h0 : s.isArp = false) : Spec0 Try.prog 20 [.agg s.cells, I .i64 9] (B false) := sx0 hm hF 1000 20 [.b 51 1 5 false] [s.isArp = false] (by kernel_rfl) ⟨h0, trivial⟩
theorem bits9   : Spec0 Try.prog 8 [I .i64 9] (I .i64 (Int.ofNat (bN 9))) := sx0 hm hF 1000 20 [] [] (by kernel_rfl) trivial
theorem name9   : Spec0 Try.prog 13 [I .i64 9] (S (nmF 9)) := sx0 hm hF 1000 20 [] [] (by kernel_rfl) trivial
theorem setv9 (s : Stt) (v m : Int) (h0 : decide (v > allI 9) = true) : Spec0 Try.prog 9 [.agg s.cells, I .i64 9, I .u64 v, I .u64 m] (.tup [.agg zS.cells, I .i64 80]) := sx0 hm hF 1000 20 [.b 9 2 11 true] [decide (v > allI 9) = true] (by kernel_rfl) ⟨h0, trivial⟩
theorem setm9 (s : Stt) (v m : Int) (h0 : decide (v > allI 9) = false) (h1 : decide (m > allI 9) = true) : Spec0 Try.prog 9 [.agg s.cells, I .i64 9, I .u64 v, I .u64 m] (.tup [.agg zS.cells, I .i64 80]) := sx0 hm hF 1000 20 [.b 9 2 11 false, .b 9 2 17 true] [decide (m > allI 9) = true, decide (v > allI 9) = false] (by kernel_rfl) ⟨h1, h0, trivial⟩
theorem setn9_0 (s : Stt) (v m : Int) (h0 : decide (v > allI 9) = false) (h1 : decide (m > allI 9) = false) (h2 : s.isArp = false) : Spec0 Try.prog 9 [.agg s.cells, I .i64 9, I .u64 v, I .u64 m] (.tup [.agg zS.cells, I .i64 81]) := sx0 hm hF 1000 20 [.b 9 2 11 false, .b 9 2 17 false, .b 51 1 5 false] [s.isArp = false, decide (m > allI 9) = false, decide (v > allI 9) = false] (by kernel_rfl) ⟨h2, h1, h0, trivial⟩
theorem set9_0 (s : Stt) (v m : Int) (h0 : decide (v > allI 9) = false) (h1 : decide (m > allI 9) = false) (h2 : s.isArp = true) : Spec0 Try.prog 9 [.agg s.cells, I .i64 9, I .u64 v, I .u64 m] (.tup [.agg (putF s (nw (raw s 9) (allI 9) v m) 9).cells, I .i64 0]) := sx0 hm hF 1000 20 [.b 9 2 11 false, .b 9 2 17 false, .b 51 1 5 true] [s.isArp = true, decide (m > allI 9) = false, decide (v > allI 9) = false] (by kernel_rfl) ⟨h2, h1, h0, trivial⟩
theorem get10_0 (s : Stt) (h0 : s.isIp = true) : Spec0 Try.prog 10 [.agg s.cells, I .i64 10] (.tup [I .u64 (uand (raw s 10) (allI 10)), I .i64 0]) := sx0 hm hF 1000 20 [.b 58 1 5 true] [s.isIp = true] (by kernel_rfl) ⟨h0, trivial⟩
theorem has10_0 (s : Stt) (h0 : s.isIp = true) : Spec0 Try.prog 20 [.agg s.cells, I .i64 10] (B true) := sx0 hm hF 1000 20 [.b 58 1 5 true] [s.isIp = true] (by kernel_rfl) ⟨h0, trivial⟩
theorem getn10_0 (s : Stt) (h0 : s.isIp = false) : Spec0 Try.prog 10 [.agg s.cells, I .i64 10] (.tup [I .u64 0, I .i64 81]) := sx0 hm hF 1000 20 [.b 58 1 5 false] [s.isIp = false] (by kernel_rfl) ⟨h0, trivial⟩
theorem hasn10_0 (s : Stt) (h0 : s.isIp = false) : Spec0 Try.prog 20 [.agg s.cells, I .i64 10] (B false) := sx0 hm hF 1000 20 [.b 58 1 5 false] [s.isIp = false] (by kernel_rfl) ⟨h0, trivial⟩
theorem bits10   : Spec0 Try.prog 8 [I .i64 10] (I .i64 (Int.ofNat (bN 10))) := sx0 hm hF 1000 20 [] [] (by kernel_rfl) trivial
theorem name10   : Spec0 Try.prog 13 [I .i64 10] (S (nmF 10)) := sx0 hm hF 1000 20 [] [] (by kernel_rfl) trivial
theorem setv10 (s : Stt) (v m : Int) (h0 : decide (v > allI 10) = true) : Spec0 Try.prog 9 [.agg s.cells, I .i64 10, I .u64 v, I .u64 m] (.tup [.agg zS.cells, I .i64 80]) := sx0 hm hF 1000 20 [.b 9 2 11 true] [decide (v > allI 10) = true] (by kernel_rfl) ⟨h0, trivial⟩
theorem setm10 (s : Stt) (v m : Int) (h0 : decide (v > allI 10) = false) (h1 : decide (m > allI 10) = true) : Spec0 Try.prog 9 [.agg s.cells, I .i64 10, I .u64 v, I .u64 m] (.tup [.agg zS.cells, I .i64 80]) := sx0 hm hF 1000 20 [.b 9 2 11 false, .b 9 2 17 true] [decide (m > allI 10) = true, decide (v > allI 10) = false] (by kernel_rfl) ⟨h1, h0, trivial⟩
theorem setn10_0 (s : Stt) (v m : Int) (h0 : decide (v > allI 10) = false) (h1 : decide (m > allI 10) = false) (h2 : s.isIp = false) : Spec0 Try.prog 9 [.agg s.cells, I .i64 10, I .u64 v, I .u64 m] (.tup [.agg zS.cells, I .i64 81]) := sx0 hm hF 1000 20 [.b 9 2 11 false, .b 9 2 17 false, .b 58 1 5 false] [s.isIp = false, decide (m > allI 10) = false, decide (v > allI 10) = false] (by kernel_rfl) ⟨h2, h1, h0, trivial⟩
theorem set10_0 (s : Stt) (v m : Int) (h0 : decide (v > allI 10) = false) (h1 : decide (m > allI 10) = false) (h2 : s.isIp = true) : Spec0 Try.prog 9 [.agg s.cells, I .i64 10, I .u64 v, I .u64 m] (.tup [.agg (putF s (nw (raw s 10) (allI 10) v m) 10).cells, I .i64 0]) := sx0 hm hF 1000 20 [.b 9 2 11 false, .b 9 2 17 false, .b 58 1 5 true] [s.isIp = true, decide (m > allI 10) = false, decide (v > allI 10) = false] (by kernel_rfl) ⟨h2, h1, h0, trivial⟩
theorem get11_0 (s : Stt) (h0 : s.isIp = true) : Spec0 Try.prog 10 [.agg s.cells, I .i64 11] (.tup [I .u64 (uand (raw s 11) (allI 11)), I .i64 0]) := sx0 hm hF 1000 20 [.b 58 1 5 true] [s.isIp = true] (by kernel_rfl) ⟨h0, trivial⟩
theorem has11_0 (s : Stt) (h0 : s.isIp = true) : Spec0 Try.prog 20 [.agg s.cells, I .i64 11] (B true) := sx0 hm hF 1000 20 [.b 58 1 5 true] [s.isIp = true] (by kernel_rfl) ⟨h0, trivial⟩
theorem getn11_0 (s : Stt) (h0 : s.isIp = false) : Spec0 Try.prog 10 [.agg s.cells, I .i64 11] (.tup [I .u64 0, I .i64 81]) := sx0 hm hF 1000 20 [.b 58 1 5 false] [s.isIp = false] (by kernel_rfl) ⟨h0, trivial⟩
theorem hasn11_0 (s : Stt) (h0 : s.isIp = false) : Spec0 Try.prog 20 [.agg s.cells, I .i64 11] (B false) := sx0 hm hF 1000 20 [.b 58 1 5 false] [s.isIp = false] (by kernel_rfl) ⟨h0, trivial⟩
theorem bits11   : Spec0 Try.prog 8 [I .i64 11] (I .i64 (Int.ofNat (bN 11))) := sx0 hm hF 1000 20 [] [] (by kernel_rfl) trivial
theorem name11   : Spec0 Try.prog 13 [I .i64 11] (S (nmF 11)) := sx0 hm hF 1000 20 [] [] (by kernel_rfl) trivial
theorem setv11 (s : Stt) (v m : Int) (h0 : decide (v > allI 11) = true) : Spec0 Try.prog 9 [.agg s.cells, I .i64 11, I .u64 v, I .u64 m] (.tup [.agg zS.cells, I .i64 80]) := sx0 hm hF 1000 20 [.b 9 2 11 true] [decide (v > allI 11) = true] (by kernel_rfl) ⟨h0, trivial⟩
theorem setm11 (s : Stt) (v m : Int) (h0 : decide (v > allI 11) = false) (h1 : decide (m > allI 11) = true) : Spec0 Try.prog 9 [.agg s.cells, I .i64 11, I .u64 v, I .u64 m] (.tup [.agg zS.cells, I .i64 80]) := sx0 hm hF 1000 20 [.b 9 2 11 false, .b 9 2 17 true] [decide (m > allI 11) = true, decide (v > allI 11) = false] (by kernel_rfl) ⟨h1, h0, trivial⟩
theorem setn11_0 (s : Stt) (v m : Int) (h0 : decide (v > allI 11) = false) (h1 : decide (m > allI 11) = false) (h2 : s.isIp = false) : Spec0 Try.prog 9 [.agg s.cells, I .i64 11, I .u64 v, I .u64 m] (.tup [.agg zS.cells, I .i64 81]) := sx0 hm hF 1000 20 [.b 9 2 11 false, .b 9 2 17 false, .b 58 1 5 false] [s.isIp = false, decide (m > allI 11) = false, decide (v > allI 11) = false] (by kernel_rfl) ⟨h2, h1, h0, trivial⟩
theorem set11_0 (s : Stt) (v m : Int) (h0 : decide (v > allI 11) = false) (h1 : decide (m > allI 11) = false) (h2 : s.isIp = true) : Spec0 Try.prog 9 [.agg s.cells, I .i64 11, I .u64 v, I .u64 m] (.tup [.agg (putF s (nw (raw s 11) (allI 11) v m) 11).cells, I .i64 0]) := sx0 hm hF 1000 20 [.b 9 2 11 false, .b 9 2 17 false, .b 58 1 5 true] [s.isIp = true, decide (m > allI 11) = false, decide (v > allI 11) = false] (by kernel_rfl) ⟨h2, h1, h0, trivial⟩
theorem get12_0 (s : Stt) (h0 : s.isIp = true) : Spec0 Try.prog 10 [.agg s.cells, I .i64 12] (.tup [I .u64 (uand (raw s 12) (allI 12)), I .i64 0]) := sx0 hm hF 1000 20 [.b 58 1 5 true] [s.isIp = true] (by kernel_rfl) ⟨h0, trivial⟩
theorem has12_0 (s : Stt) (h0 : s.isIp = true) : Spec0 Try.prog 20 [.agg s.cells, I .i64 12] (B true) := sx0 hm hF 1000 20 [.b 58 1 5 true] [s.isIp = true] (by kernel_rfl) ⟨h0, trivial⟩
theorem getn12_0 (s : Stt) (h0 : s.isIp = false) : Spec0 Try.prog 10 [.agg s.cells, I .i64 12] (.tup [I .u64 0, I .i64 81]) := sx0 hm hF 1000 20 [.b 58 1 5 false] [s.isIp = false] (by kernel_rfl) ⟨h0, trivial⟩
theorem hasn12_0 (s : Stt) (h0 : s.isIp = false) : Spec0 Try.prog 20 [.agg s.cells, I .i64 12] (B false) := sx0 hm hF 1000 20 [.b 58 1 5 false] [s.isIp = false] (by kernel_rfl) ⟨h0, trivial⟩
theorem bits12   : Spec0 Try.prog 8 [I .i64 12] (I .i64 (Int.ofNat (bN 12))) := sx0 hm hF 1000 20 [] [] (by kernel_rfl) trivial
theorem name12   : Spec0 Try.prog 13 [I .i64 12] (S (nmF 12)) := sx0 hm hF 1000 20 [] [] (by kernel_rfl) trivial
theorem setx12 (s : Stt) (v m : Int)  : Spec0 Try.prog 9 [.agg s.cells, I .i64 12, I .u64 v, I .u64 m] (.tup [.agg zS.cells, I .i64 80]) := sx0 hm hF 1000 20 [] [] (by kernel_rfl) trivial
theorem get13_0 (s : Stt) (h0 : s.isIp = true) : Spec0 Try.prog 10 [.agg s.cells, I .i64 13] (.tup [I .u64 (uand (raw s 13) (allI 13)), I .i64 0]) := sx0 hm hF 1000 20 [.b 58 1 5 true] [s.isIp = true] (by kernel_rfl) ⟨h0, trivial⟩
theorem has13_0 (s : Stt) (h0 : s.isIp = true) : Spec0 Try.prog 20 [.agg s.cells, I .i64 13] (B true) := sx0 hm hF 1000 20 [.b 58 1 5 true] [s.isIp = true] (by kernel_rfl) ⟨h0, trivial⟩
theorem getn13_0 (s : Stt) (h0 : s.isIp = false) : Spec0 Try.prog 10 [.agg s.cells, I .i64 13] (.tup [I .u64 0, I .i64 81]) := sx0 hm hF 1000 20 [.b 58 1 5 false] [s.isIp = false] (by kernel_rfl) ⟨h0, trivial⟩
theorem hasn13_0 (s : Stt) (h0 : s.isIp = false) : Spec0 Try.prog 20 [.agg s.cells, I .i64 13] (B false) := sx0 hm hF 1000 20 [.b 58 1 5 false] [s.isIp = false] (by kernel_rfl) ⟨h0, trivial⟩
theorem bits13   : Spec0 Try.prog 8 [I .i64 13] (I .i64 (Int.ofNat (bN 13))) := sx0 hm hF 1000 20 [] [] (by kernel_rfl) trivial
theorem name13   : Spec0 Try.prog 13 [I .i64 13] (S (nmF 13)) := sx0 hm hF 1000 20 [] [] (by kernel_rfl) trivial
theorem setv13 (s : Stt) (v m : Int) (h0 : decide (v > allI 13) = true) : Spec0 Try.prog 9 [.agg s.cells, I .i64 13, I .u64 v, I .u64 m] (.tup [.agg zS.cells, I .i64 80]) := sx0 hm hF 1000 20 [.b 9 2 11 true] [decide (v > allI 13) = true] (by kernel_rfl) ⟨h0, trivial⟩
theorem setm13 (s : Stt) (v m : Int) (h0 : decide (v > allI 13) = false) (h1 : decide (m > allI 13) = true) : Spec0 Try.prog 9 [.agg s.cells, I .i64 13, I .u64 v, I .u64 m] (.tup [.agg zS.cells, I .i64 80]) := sx0 hm hF 1000 20 [.b 9 2 11 false, .b 9 2 17 true] [decide (m > allI 13) = true, decide (v > allI 13) = false] (by kernel_rfl) ⟨h1, h0, trivial⟩
theorem setn13_0 (s : Stt) (v m : Int) (h0 : decide (v > allI 13) = false) (h1 : decide (m > allI 13) = false) (h2 : s.isIp = false) : Spec0 Try.prog 9 [.agg s.cells, I .i64 13, I .u64 v, I .u64 m] (.tup [.agg zS.cells, I .i64 81]) := sx0 hm hF 1000 20 [.b 9 2 11 false, .b 9 2 17 false, .b 58 1 5 false] [s.isIp = false, decide (m > allI 13) = false, decide (v > allI 13) = false] (by kernel_rfl) ⟨h2, h1, h0, trivial⟩
theorem set13_0 (s : Stt) (v m : Int) (h0 : decide (v > allI 13) = false) (h1 : decide (m > allI 13) = false) (h2 : s.isIp = true) : Spec0 Try.prog 9 [.agg s.cells, I .i64 13, I .u64 v, I .u64 m] (.tup [.agg (putF s (nw (raw s 13) (allI 13) v m) 13).cells, I .i64 0]) := sx0 hm hF 1000 20 [.b 9 2 11 false, .b 9 2 17 false, .b 58 1 5 true] [s.isIp = true, decide (m > allI 13) = false, decide (v > allI 13) = false] (by kernel_rfl) ⟨h2, h1, h0, trivial⟩
theorem get14_0 (s : Stt) (h0 : s.isIp = true) : Spec0 Try.prog 10 [.agg s.cells, I .i64 14] (.tup [I .u64 (uand (raw s 14) (allI 14)), I .i64 0]) := sx0 hm hF 1000 20 [.b 58 1 5 true] [s.isIp = true] (by kernel_rfl) ⟨h0, trivial⟩
theorem has14_0 (s : Stt) (h0 : s.isIp = true) : Spec0 Try.prog 20 [.agg s.cells, I .i64 14] (B true) := sx0 hm hF 1000 20 [.b 58 1 5 true] [s.isIp = true] (by kernel_rfl) ⟨h0, trivial⟩
theorem getn14_0 (s : Stt) (h0 : s.isIp = false) : Spec0 Try.prog 10 [.agg s.cells, I .i64 14] (.tup [I .u64 0, I .i64 81]) := sx0 hm hF 1000 20 [.b 58 1 5 false] [s.isIp = false] (by kernel_rfl) ⟨h0, trivial⟩
theorem hasn14_0 (s : Stt) (h0 : s.isIp = false) : Spec0 Try.prog 20 [.agg s.cells, I .i64 14] (B false) := sx0 hm hF 1000 20 [.b 58 1 5 false] [s.isIp = false] (by kernel_rfl) ⟨h0, trivial⟩
theorem bits14   : Spec0 Try.prog 8 [I .i64 14] (I .i64 (Int.ofNat (bN 14))) := sx0 hm hF 1000 20 [] [] (by kernel_rfl) trivial
theorem name14   : Spec0 Try.prog 13 [I .i64 14] (S (nmF 14)) := sx0 hm hF 1000 20 [] [] (by kernel_rfl) trivial
theorem setv14 (s : Stt) (v m : Int) (h0 : decide (v > allI 14) = true) : Spec0 Try.prog 9 [.agg s.cells, I .i64 14, I .u64 v, I .u64 m] (.tup [.agg zS.cells, I .i64 80]) := sx0 hm hF 1000 20 [.b 9 2 11 true] [decide (v > allI 14) = true] (by kernel_rfl) ⟨h0, trivial⟩
theorem setm14 (s : Stt) (v m : Int) (h0 : decide (v > allI 14) = false) (h1 : decide (m > allI 14) = true) : Spec0 Try.prog 9 [.agg s.cells, I .i64 14, I .u64 v, I .u64 m] (.tup [.agg zS.cells, I .i64 80]) := sx0 hm hF 1000 20 [.b 9 2 11 false, .b 9 2 17 true] [decide (m > allI 14) = true, decide (v > allI 14) = false] (by kernel_rfl) ⟨h1, h0, trivial⟩
theorem setn14_0 (s : Stt) (v m : Int) (h0 : decide (v > allI 14) = false) (h1 : decide (m > allI 14) = false) (h2 : s.isIp = false) : Spec0 Try.prog 9 [.agg s.cells, I .i64 14, I .u64 v, I .u64 m] (.tup [.agg zS.cells, I .i64 81]) := sx0 hm hF 1000 20 [.b 9 2 11 false, .b 9 2 17 false, .b 58 1 5 false] [s.isIp = false, decide (m > allI 14) = false, decide (v > allI 14) = false] (by kernel_rfl) ⟨h2, h1, h0, trivial⟩
theorem set14_0 (s : Stt) (v m : Int) (h0 : decide (v > allI 14) = false) (h1 : decide (m > allI 14) = false) (h2 : s.isIp = true) : Spec0 Try.prog 9 [.agg s.cells, I .i64 14, I .u64 v, I .u64 m] (.tup [.agg (putF s (nw (raw s 14) (allI 14) v m) 14).cells, I .i64 0]) := sx0 hm hF 1000 20 [.b 9 2 11 false, .b 9 2 17 false, .b 58 1 5 true] [s.isIp = true, decide (m > allI 14) = false, decide (v > allI 14) = false] (by kernel_rfl) ⟨h2, h1, h0, trivial⟩
theorem get15_0 (s : Stt) (h0 : s.isIp = true) : Spec0 Try.prog 10 [.agg s.cells, I .i64 15] (.tup [I .u64 (uand (raw s 15) (allI 15)), I .i64 0]) := sx0 hm hF 1000 20 [.b 58 1 5 true] [s.isIp = true] (by kernel_rfl) ⟨h0, trivial⟩
theorem has15_0 (s : Stt) (h0 : s.isIp = true) : Spec0 Try.prog 20 [.agg s.cells, I .i64 15] (B true) := sx0 hm hF 1000 20 [.b 58 1 5 true] [s.isIp = true] (by kernel_rfl) ⟨h0, trivial⟩
theorem getn15_0 (s : Stt) (h0 : s.isIp = false) : Spec0 Try.prog 10 [.agg s.cells, I .i64 15] (.tup [I .u64 0, I .i64 81]) := sx0 hm hF 1000 20 [.b 58 1 5 false] [s.isIp = false] (by kernel_rfl) ⟨h0, trivial⟩
theorem hasn15_0 (s : Stt) (h0 : s.isIp = false) : Spec0 Try.prog 20 [.agg s.cells, I .i64 15] (B false) := sx0 hm hF 1000 20 [.b 58 1 5 false] [s.isIp = false] (by kernel_rfl) ⟨h0, trivial⟩
theorem bits15   : Spec0 Try.prog 8 [I .i64 15] (I .i64 (Int.ofNat (bN 15))) := sx0 hm hF 1000 20 [] [] (by kernel_rfl) trivial
theorem name15   : Spec0 Try.prog 13 [I .i64 15] (S (nmF 15)) := sx0 hm hF 1000 20 [] [] (by kernel_rfl) trivial
theorem setx15 (s : Stt) (v m : Int)  : Spec0 Try.prog 9 [.agg s.cells, I .i64 15, I .u64 v, I .u64 m] (.tup [.agg zS.cells, I .i64 80]) := sx0 hm hF 1000 20 [] [] (by kernel_rfl) trivial
theorem get16_0 (s : Stt) (h0 : s.isIp = true) (h1 : (s.kind == 1) = true) : Spec0 Try.prog 10 [.agg s.cells, I .i64 16] (.tup [I .u64 (uand (raw s 16) (allI 16)), I .i64 0]) := sx0 hm hF 1000 20 [.b 65 1 4 true, .b 65 1 12 true] [(s.kind == 1) = true, s.isIp = true] (by kernel_rfl) ⟨h1, h0, trivial⟩
theorem has16_0 (s : Stt) (h0 : s.isIp = true) (h1 : (s.kind == 1) = true) : Spec0 Try.prog 20 [.agg s.cells, I .i64 16] (B true) := sx0 hm hF 1000 20 [.b 65 1 4 true, .b 65 1 12 true] [(s.kind == 1) = true, s.isIp = true] (by kernel_rfl) ⟨h1, h0, trivial⟩
theorem getn16_0 (s : Stt) (h0 : s.isIp = true) (h1 : (s.kind == 1) = false) : Spec0 Try.prog 10 [.agg s.cells, I .i64 16] (.tup [I .u64 0, I .i64 81]) := sx0 hm hF 1000 20 [.b 65 1 4 true, .b 65 1 12 false] [(s.kind == 1) = false, s.isIp = true] (by kernel_rfl) ⟨h1, h0, trivial⟩
theorem hasn16_0 (s : Stt) (h0 : s.isIp = true) (h1 : (s.kind == 1) = false) : Spec0 Try.prog 20 [.agg s.cells, I .i64 16] (B false) := sx0 hm hF 1000 20 [.b 65 1 4 true, .b 65 1 12 false] [(s.kind == 1) = false, s.isIp = true] (by kernel_rfl) ⟨h1, h0, trivial⟩
theorem getn16_1 (s : Stt) (h0 : s.isIp = false) : Spec0 Try.prog 10 [.agg s.cells, I .i64 16] (.tup [I .u64 0, I .i64 81]) := sx0 hm hF 1000 20 [.b 65 1 4 false] [s.isIp = false] (by kernel_rfl) ⟨h0, trivial⟩
theorem hasn16_1 (s : Stt) (h0 : s.isIp = false) : Spec0 Try.prog 20 [.agg s.cells, I .i64 16] (B false) := sx0 hm hF 1000 20 [.b 65 1 4 false] [s.isIp = false] (by kernel_rfl) ⟨h0, trivial⟩
theorem bits16   : Spec0 Try.prog 8 [I .i64 16] (I .i64 (Int.ofNat (bN 16))) := sx0 hm hF 1000 20 [] [] (by kernel_rfl) trivial
theorem name16   : Spec0 Try.prog 13 [I .i64 16] (S (nmF 16)) := sx0 hm hF 1000 20 [] [] (by kernel_rfl) trivial
theorem setv16 (s : Stt) (v m : Int) (h0 : decide (v > allI 16) = true) : Spec0 Try.prog 9 [.agg s.cells, I .i64 16, I .u64 v, I .u64 m] (.tup [.agg zS.cells, I .i64 80]) := sx0 hm hF 1000 20 [.b 9 2 11 true] [decide (v > allI 16) = true] (by kernel_rfl) ⟨h0, trivial⟩
theorem setm16 (s : Stt) (v m : Int) (h0 : decide (v > allI 16) = false) (h1 : decide (m > allI 16) = true) : Spec0 Try.prog 9 [.agg s.cells, I .i64 16, I .u64 v, I .u64 m] (.tup [.agg zS.cells, I .i64 80]) := sx0 hm hF 1000 20 [.b 9 2 11 false, .b 9 2 17 true] [decide (m > allI 16) = true, decide (v > allI 16) = false] (by kernel_rfl) ⟨h1, h0, trivial⟩
theorem setn16_0 (s : Stt) (v m : Int) (h0 : decide (v > allI 16) = false) (h1 : decide (m > allI 16) = false) (h2 : s.isIp = true) (h3 : (s.kind == 1) = false) : Spec0 Try.prog 9 [.agg s.cells, I .i64 16, I .u64 v, I .u64 m] (.tup [.agg zS.cells, I .i64 81]) := sx0 hm hF 1000 20 [.b 9 2 11 false, .b 9 2 17 false, .b 65 1 4 true, .b 65 1 12 false] [(s.kind == 1) = false, s.isIp = true, decide (m > allI 16) = false, decide (v > allI 16) = false] (by kernel_rfl) ⟨h3, h2, h1, h0, trivial⟩
theorem setn16_1 (s : Stt) (v m : Int) (h0 : decide (v > allI 16) = false) (h1 : decide (m > allI 16) = false) (h2 : s.isIp = false) : Spec0 Try.prog 9 [.agg s.cells, I .i64 16, I .u64 v, I .u64 m] (.tup [.agg zS.cells, I .i64 81]) := sx0 hm hF 1000 20 [.b 9 2 11 false, .b 9 2 17 false, .b 65 1 4 false] [s.isIp = false, decide (m > allI 16) = false, decide (v > allI 16) = false] (by kernel_rfl) ⟨h2, h1, h0, trivial⟩
theorem set16_0 (s : Stt) (v m : Int) (h0 : decide (v > allI 16) = false) (h1 : decide (m > allI 16) = false) (h2 : s.isIp = true) (h3 : (s.kind == 1) = true) : Spec0 Try.prog 9 [.agg s.cells, I .i64 16, I .u64 v, I .u64 m] (.tup [.agg (putF s (nw (raw s 16) (allI 16) v m) 16).cells, I .i64 0]) := sx0 hm hF 1000 20 [.b 9 2 11 false, .b 9 2 17 false, .b 65 1 4 true, .b 65 1 12 true] [(s.kind == 1) = true, s.isIp = true, decide (m > allI 16) = false, decide (v > allI 16) = false] (by kernel_rfl) ⟨h3, h2, h1, h0, trivial⟩
theorem get17_0 (s : Stt) (h0 : s.isIp = true) (h1 : (s.kind == 1) = true) : Spec0 Try.prog 10 [.agg s.cells, I .i64 17] (.tup [I .u64 (uand (raw s 17) (allI 17)), I .i64 0]) := sx0 hm hF 1000 20 [.b 65 1 4 true, .b 65 1 12 true] [(s.kind == 1) = true, s.isIp = true] (by kernel_rfl) ⟨h1, h0, trivial⟩
theorem has17_0 (s : Stt) (h0 : s.isIp = true) (h1 : (s.kind == 1) = true) : Spec0 Try.prog 20 [.agg s.cells, I .i64 17] (B true) := sx0 hm hF 1000 20 [.b 65 1 4 true, .b 65 1 12 true] [(s.kind == 1) = true, s.isIp = true] (by kernel_rfl) ⟨h1, h0, trivial⟩
theorem getn17_0 (s : Stt) (h0 : s.isIp = true) (h1 : (s.kind == 1) = false) : Spec0 Try.prog 10 [.agg s.cells, I .i64 17] (.tup [I .u64 0, I .i64 81]) := sx0 hm hF 1000 20 [.b 65 1 4 true, .b 65 1 12 false] [(s.kind == 1) = false, s.isIp = true] (by kernel_rfl) ⟨h1, h0, trivial⟩
theorem hasn17_0 (s : Stt) (h0 : s.isIp = true) (h1 : (s.kind == 1) = false) : Spec0 Try.prog 20 [.agg s.cells, I .i64 17] (B false) := sx0 hm hF 1000 20 [.b 65 1 4 true, .b 65 1 12 false] [(s.kind == 1) = false, s.isIp = true] (by kernel_rfl) ⟨h1, h0, trivial⟩
theorem getn17_1 (s : Stt) (h0 : s.isIp = false) : Spec0 Try.prog 10 [.agg s.cells, I .i64 17] (.tup [I .u64 0, I .i64 81]) := sx0 hm hF 1000 20 [.b 65 1 4 false] [s.isIp = false] (by kernel_rfl) ⟨h0, trivial⟩
theorem hasn17_1 (s : Stt) (h0 : s.isIp = false) : Spec0 Try.prog 20 [.agg s.cells, I .i64 17] (B false) := sx0 hm hF 1000 20 [.b 65 1 4 false] [s.isIp = false] (by kernel_rfl) ⟨h0, trivial⟩
theorem bits17   : Spec0 Try.prog 8 [I .i64 17] (I .i64 (Int.ofNat (bN 17))) := sx0 hm hF 1000 20 [] [] (by kernel_rfl) trivial
theorem name17   : Spec0 Try.prog 13 [I .i64 17] (S (nmF 17)) := sx0 hm hF 1000 20 [] [] (by kernel_rfl) trivial
theorem setv17 (s : Stt) (v m : Int) (h0 : decide (v > allI 17) = true) : Spec0 Try.prog 9 [.agg s.cells, I .i64 17, I .u64 v, I .u64 m] (.tup [.agg zS.cells, I .i64 80]) := sx0 hm hF 1000 20 [.b 9 2 11 true] [decide (v > allI 17) = true] (by kernel_rfl) ⟨h0, trivial⟩
theorem setm17 (s : Stt) (v m : Int) (h0 : decide (v > allI 17) = false) (h1 : decide (m > allI 17) = true) : Spec0 Try.prog 9 [.agg s.cells, I .i64 17, I .u64 v, I .u64 m] (.tup [.agg zS.cells, I .i64 80]) := sx0 hm hF 1000 20 [.b 9 2 11 false, .b 9 2 17 true] [decide (m > allI 17) = true, decide (v > allI 17) = false] (by kernel_rfl) ⟨h1, h0, trivial⟩
theorem setn17_0 (s : Stt) (v m : Int) (h0 : decide (v > allI 17) = false) (h1 : decide (m > allI 17) = false) (h2 : s.isIp = true) (h3 : (s.kind == 1) = false) : Spec0 Try.prog 9 [.agg s.cells, I .i64 17, I .u64 v, I .u64 m] (.tup [.agg zS.cells, I .i64 81]) := sx0 hm hF 1000 20 [.b 9 2 11 false, .b 9 2 17 false, .b 65 1 4 true, .b 65 1 12 false] [(s.kind == 1) = false, s.isIp = true, decide (m > allI 17) = false, decide (v > allI 17) = false] (by kernel_rfl) ⟨h3, h2, h1, h0, trivial⟩
theorem setn17_1 (s : Stt) (v m : Int) (h0 : decide (v > allI 17) = false) (h1 : decide (m > allI 17) = false) (h2 : s.isIp = false) : Spec0 Try.prog 9 [.agg s.cells, I .i64 17, I .u64 v, I .u64 m] (.tup [.agg zS.cells, I .i64 81]) := sx0 hm hF 1000 20 [.b 9 2 11 false, .b 9 2 17 false, .b 65 1 4 false] [s.isIp = false, decide (m > allI 17) = false, decide (v > allI 17) = false] (by kernel_rfl) ⟨h2, h1, h0, trivial⟩
theorem set17_0 (s : Stt) (v m : Int) (h0 : decide (v > allI 17) = false) (h1 : decide (m > allI 17) = false) (h2 : s.isIp = true) (h3 : (s.kind == 1) = true) : Spec0 Try.prog 9 [.agg s.cells, I .i64 17, I .u64 v, I .u64 m] (.tup [.agg (putF s (nw (raw s 17) (allI 17) v m) 17).cells, I .i64 0]) := sx0 hm hF 1000 20 [.b 9 2 11 false, .b 9 2 17 false, .b 65 1 4 true, .b 65 1 12 true] [(s.kind == 1) = true, s.isIp = true, decide (m > allI 17) = false, decide (v > allI 17) = false] (by kernel_rfl) ⟨h3, h2, h1, h0, trivial⟩
theorem get18_0 (s : Stt) (h0 : s.isIp = true) (h1 : (s.kind == 3) = true) : Spec0 Try.prog 10 [.agg s.cells, I .i64 18] (.tup [I .u64 (uand (raw s 18) (allI 18)), I .i64 0]) := sx0 hm hF 1000 20 [.b 71 1 4 true, .b 71 1 12 true] [(s.kind == 3) = true, s.isIp = true] (by kernel_rfl) ⟨h1, h0, trivial⟩
theorem has18_0 (s : Stt) (h0 : s.isIp = true) (h1 : (s.kind == 3) = true) : Spec0 Try.prog 20 [.agg s.cells, I .i64 18] (B true) := sx0 hm hF 1000 20 [.b 71 1 4 true, .b 71 1 12 true] [(s.kind == 3) = true, s.isIp = true] (by kernel_rfl) ⟨h1, h0, trivial⟩
theorem get18_1 (s : Stt) (h0 : s.isIp = true) (h1 : (s.kind == 3) = false) (h2 : (s.kind == 2) = true) : Spec0 Try.prog 10 [.agg s.cells, I .i64 18] (.tup [I .u64 (uand (raw s 18) (allI 18)), I .i64 0]) := sx0 hm hF 1000 20 [.b 71 1 4 true, .b 71 1 12 false, .b 68 1 7 true, .b 68 1 15 true] [(s.kind == 2) = true, s.isIp = true, (s.kind == 3) = false, s.isIp = true] (by kernel_rfl) ⟨h2, h0, h1, h0, trivial⟩
theorem has18_1 (s : Stt) (h0 : s.isIp = true) (h1 : (s.kind == 3) = false) (h2 : (s.kind == 2) = true) : Spec0 Try.prog 20 [.agg s.cells, I .i64 18] (B true) := sx0 hm hF 1000 20 [.b 71 1 4 true, .b 71 1 12 false, .b 68 1 7 true, .b 68 1 15 true] [(s.kind == 2) = true, s.isIp = true, (s.kind == 3) = false, s.isIp = true] (by kernel_rfl) ⟨h2, h0, h1, h0, trivial⟩
theorem getn18_0 (s : Stt) (h0 : s.isIp = true) (h1 : (s.kind == 3) = false) (h2 : (s.kind == 2) = false) : Spec0 Try.prog 10 [.agg s.cells, I .i64 18] (.tup [I .u64 0, I .i64 81]) := sx0 hm hF 1000 20 [.b 71 1 4 true, .b 71 1 12 false, .b 68 1 7 true, .b 68 1 15 false] [(s.kind == 2) = false, s.isIp = true, (s.kind == 3) = false, s.isIp = true] (by kernel_rfl) ⟨h2, h0, h1, h0, trivial⟩
theorem hasn18_0 (s : Stt) (h0 : s.isIp = true) (h1 : (s.kind == 3) = false) (h2 : (s.kind == 2) = false) : Spec0 Try.prog 20 [.agg s.cells, I .i64 18] (B false) := sx0 hm hF 1000 20 [.b 71 1 4 true, .b 71 1 12 false, .b 68 1 7 true, .b 68 1 15 false] [(s.kind == 2) = false, s.isIp = true, (s.kind == 3) = false, s.isIp = true] (by kernel_rfl) ⟨h2, h0, h1, h0, trivial⟩
theorem getn18_1 (s : Stt) (h0 : s.isIp = false) : Spec0 Try.prog 10 [.agg s.cells, I .i64 18] (.tup [I .u64 0, I .i64 81]) := sx0 hm hF 1000 20 [.b 71 1 4 false, .b 68 1 7 false] [s.isIp = false, s.isIp = false] (by kernel_rfl) ⟨h0, h0, trivial⟩
theorem hasn18_1 (s : Stt) (h0 : s.isIp = false) : Spec0 Try.prog 20 [.agg s.cells, I .i64 18] (B false) := sx0 hm hF 1000 20 [.b 71 1 4 false, .b 68 1 7 false] [s.isIp = false, s.isIp = false] (by kernel_rfl) ⟨h0, h0, trivial⟩
theorem bits18   : Spec0 Try.prog 8 [I .i64 18] (I .i64 (Int.ofNat (bN 18))) := sx0 hm hF 1000 20 [] [] (by kernel_rfl) trivial
theorem name18   : Spec0 Try.prog 13 [I .i64 18] (S (nmF 18)) := sx0 hm hF 1000 20 [] [] (by kernel_rfl) trivial
theorem setv18 (s : Stt) (v m : Int) (h0 : decide (v > allI 18) = true) : Spec0 Try.prog 9 [.agg s.cells, I .i64 18, I .u64 v, I .u64 m] (.tup [.agg zS.cells, I .i64 80]) := sx0 hm hF 1000 20 [.b 9 2 11 true] [decide (v > allI 18) = true] (by kernel_rfl) ⟨h0, trivial⟩
theorem setm18 (s : Stt) (v m : Int) (h0 : decide (v > allI 18) = false) (h1 : decide (m > allI 18) = true) : Spec0 Try.prog 9 [.agg s.cells, I .i64 18, I .u64 v, I .u64 m] (.tup [.agg zS.cells, I .i64 80]) := sx0 hm hF 1000 20 [.b 9 2 11 false, .b 9 2 17 true] [decide (m > allI 18) = true, decide (v > allI 18) = false] (by kernel_rfl) ⟨h1, h0, trivial⟩
theorem setn18_0 (s : Stt) (v m : Int) (h0 : decide (v > allI 18) = false) (h1 : decide (m > allI 18) = false) (h2 : s.isIp = true) (h3 : (s.kind == 3) = false) (h4 : (s.kind == 2) = false) : Spec0 Try.prog 9 [.agg s.cells, I .i64 18, I .u64 v, I .u64 m] (.tup [.agg zS.cells, I .i64 81]) := sx0 hm hF 1000 20 [.b 9 2 11 false, .b 9 2 17 false, .b 71 1 4 true, .b 71 1 12 false, .b 68 1 7 true, .b 68 1 15 false] [(s.kind == 2) = false, s.isIp = true, (s.kind == 3) = false, s.isIp = true, decide (m > allI 18) = false, decide (v > allI 18) = false] (by kernel_rfl) ⟨h4, h2, h3, h2, h1, h0, trivial⟩
theorem setn18_1 (s : Stt) (v m : Int) (h0 : decide (v > allI 18) = false) (h1 : decide (m > allI 18) = false) (h2 : s.isIp = false) : Spec0 Try.prog 9 [.agg s.cells, I .i64 18, I .u64 v, I .u64 m] (.tup [.agg zS.cells, I .i64 81]) := sx0 hm hF 1000 20 [.b 9 2 11 false, .b 9 2 17 false, .b 71 1 4 false, .b 68 1 7 false] [s.isIp = false, s.isIp = false, decide (m > allI 18) = false, decide (v > allI 18) = false] (by kernel_rfl) ⟨h2, h2, h1, h0, trivial⟩
theorem set18_0 (s : Stt) (v m : Int) (h0 : decide (v > allI 18) = false) (h1 : decide (m > allI 18) = false) (h2 : s.isIp = true) (h3 : (s.kind == 3) = true) : Spec0 Try.prog 9 [.agg s.cells, I .i64 18, I .u64 v, I .u64 m] (.tup [.agg (putF s (nw (raw s 18) (allI 18) v m) 18).cells, I .i64 0]) := sx0 hm hF 1000 20 [.b 9 2 11 false, .b 9 2 17 false, .b 71 1 4 true, .b 71 1 12 true] [(s.kind == 3) = true, s.isIp = true, decide (m > allI 18) = false, decide (v > allI 18) = false] (by kernel_rfl) ⟨h3, h2, h1, h0, trivial⟩
theorem set18_1 (s : Stt) (v m : Int) (h0 : decide (v > allI 18) = false) (h1 : decide (m > allI 18) = false) (h2 : s.isIp = true) (h3 : (s.kind == 3) = false) (h4 : (s.kind == 2) = true) : Spec0 Try.prog 9 [.agg s.cells, I .i64 18, I .u64 v, I .u64 m] (.tup [.agg (putF s (nw (raw s 18) (allI 18) v m) 18).cells, I .i64 0]) := sx0 hm hF 1000 20 [.b 9 2 11 false, .b 9 2 17 false, .b 71 1 4 true, .b 71 1 12 false, .b 68 1 7 true, .b 68 1 15 true] [(s.kind == 2) = true, s.isIp = true, (s.kind == 3) = false, s.isIp = true, decide (m > allI 18) = false, decide (v > allI 18) = false] (by kernel_rfl) ⟨h4, h2, h3, h2, h1, h0, trivial⟩
theorem get19_0 (s : Stt) (h0 : s.isIp = true) (h1 : (s.kind == 3) = true) : Spec0 Try.prog 10 [.agg s.cells, I .i64 19] (.tup [I .u64 (uand (raw s 19) (allI 19)), I .i64 0]) := sx0 hm hF 1000 20 [.b 71 1 4 true, .b 71 1 12 true] [(s.kind == 3) = true, s.isIp = true] (by kernel_rfl) ⟨h1, h0, trivial⟩
theorem has19_0 (s : Stt) (h0 : s.isIp = true) (h1 : (s.kind == 3) = true) : Spec0 Try.prog 20 [.agg s.cells, I .i64 19] (B true) := sx0 hm hF 1000 20 [.b 71 1 4 true, .b 71 1 12 true] [(s.kind == 3) = true, s.isIp = true] (by kernel_rfl) ⟨h1, h0, trivial⟩
theorem get19_1 (s : Stt) (h0 : s.isIp = true) (h1 : (s.kind == 3) = false) (h2 : (s.kind == 2) = true) : Spec0 Try.prog 10 [.agg s.cells, I .i64 19] (.tup [I .u64 (uand (raw s 19) (allI 19)), I .i64 0]) := sx0 hm hF 1000 20 [.b 71 1 4 true, .b 71 1 12 false, .b 68 1 7 true, .b 68 1 15 true] [(s.kind == 2) = true, s.isIp = true, (s.kind == 3) = false, s.isIp = true] (by kernel_rfl) ⟨h2, h0, h1, h0, trivial⟩
theorem has19_1 (s : Stt) (h0 : s.isIp = true) (h1 : (s.kind == 3) = false) (h2 : (s.kind == 2) = true) : Spec0 Try.prog 20 [.agg s.cells, I .i64 19] (B true) := sx0 hm hF 1000 20 [.b 71 1 4 true, .b 71 1 12 false, .b 68 1 7 true, .b 68 1 15 true] [(s.kind == 2) = true, s.isIp = true, (s.kind == 3) = false, s.isIp = true] (by kernel_rfl) ⟨h2, h0, h1, h0, trivial⟩
theorem getn19_0 (s : Stt) (h0 : s.isIp = true) (h1 : (s.kind == 3) = false) (h2 : (s.kind == 2) = false) : Spec0 Try.prog 10 [.agg s.cells, I .i64 19] (.tup [I .u64 0, I .i64 81]) := sx0 hm hF 1000 20 [.b 71 1 4 true, .b 71 1 12 false, .b 68 1 7 true, .b 68 1 15 false] [(s.kind == 2) = false, s.isIp = true, (s.kind == 3) = false, s.isIp = true] (by kernel_rfl) ⟨h2, h0, h1, h0, trivial⟩
theorem hasn19_0 (s : Stt) (h0 : s.isIp = true) (h1 : (s.kind == 3) = false) (h2 : (s.kind == 2) = false) : Spec0 Try.prog 20 [.agg s.cells, I .i64 19] (B false) := sx0 hm hF 1000 20 [.b 71 1 4 true, .b 71 1 12 false, .b 68 1 7 true, .b 68 1 15 false] [(s.kind == 2) = false, s.isIp = true, (s.kind == 3) = false, s.isIp = true] (by kernel_rfl) ⟨h2, h0, h1, h0, trivial⟩
theorem getn19_1 (s : Stt) (h0 : s.isIp = false) : Spec0 Try.prog 10 [.agg s.cells, I .i64 19] (.tup [I .u64 0, I .i64 81]) := sx0 hm hF 1000 20 [.b 71 1 4 false, .b 68 1 7 false] [s.isIp = false, s.isIp = false] (by kernel_rfl) ⟨h0, h0, trivial⟩
theorem hasn19_1 (s : Stt) (h0 : s.isIp = false) : Spec0 Try.prog 20 [.agg s.cells, I .i64 19] (B false) := sx0 hm hF 1000 20 [.b 71 1 4 false, .b 68 1 7 false] [s.isIp = false, s.isIp = false] (by kernel_rfl) ⟨h0, h0, trivial⟩
theorem bits19   : Spec0 Try.prog 8 [I .i64 19] (I .i64 (Int.ofNat (bN 19))) := sx0 hm hF 1000 20 [] [] (by kernel_rfl) trivial
theorem name19   : Spec0 Try.prog 13 [I .i64 19] (S (nmF 19)) := sx0 hm hF 1000 20 [] [] (by kernel_rfl) trivial
theorem setv19 (s : Stt) (v m : Int) (h0 : decide (v > allI 19) = true) : Spec0 Try.prog 9 [.agg s.cells, I .i64 19, I .u64 v, I .u64 m] (.tup [.agg zS.cells, I .i64 80]) := sx0 hm hF 1000 20 [.b 9 2 11 true] [decide (v > allI 19) = true] (by kernel_rfl) ⟨h0, trivial⟩
theorem setm19 (s : Stt) (v m : Int) (h0 : decide (v > allI 19) = false) (h1 : decide (m > allI 19) = true) : Spec0 Try.prog 9 [.agg s.cells, I .i64 19, I .u64 v, I .u64 m] (.tup [.agg zS.cells, I .i64 80]) := sx0 hm hF 1000 20 [.b 9 2 11 false, .b 9 2 17 true] [decide (m > allI 19) = true, decide (v > allI 19) = false] (by kernel_rfl) ⟨h1, h0, trivial⟩
theorem setn19_0 (s : Stt) (v m : Int) (h0 : decide (v > allI 19) = false) (h1 : decide (m > allI 19) = false) (h2 : s.isIp = true) (h3 : (s.kind == 3) = false) (h4 : (s.kind == 2) = false) : Spec0 Try.prog 9 [.agg s.cells, I .i64 19, I .u64 v, I .u64 m] (.tup [.agg zS.cells, I .i64 81]) := sx0 hm hF 1000 20 [.b 9 2 11 false, .b 9 2 17 false, .b 71 1 4 true, .b 71 1 12 false, .b 68 1 7 true, .b 68 1 15 false] [(s.kind == 2) = false, s.isIp = true, (s.kind == 3) = false, s.isIp = true, decide (m > allI 19) = false, decide (v > allI 19) = false] (by kernel_rfl) ⟨h4, h2, h3, h2, h1, h0, trivial⟩
theorem setn19_1 (s : Stt) (v m : Int) (h0 : decide (v > allI 19) = false) (h1 : decide (m > allI 19) = false) (h2 : s.isIp = false) : Spec0 Try.prog 9 [.agg s.cells, I .i64 19, I .u64 v, I .u64 m] (.tup [.agg zS.cells, I .i64 81]) := sx0 hm hF 1000 20 [.b 9 2 11 false, .b 9 2 17 false, .b 71 1 4 false, .b 68 1 7 false] [s.isIp = false, s.isIp = false, decide (m > allI 19) = false, decide (v > allI 19) = false] (by kernel_rfl) ⟨h2, h2, h1, h0, trivial⟩
theorem set19_0 (s : Stt) (v m : Int) (h0 : decide (v > allI 19) = false) (h1 : decide (m > allI 19) = false) (h2 : s.isIp = true) (h3 : (s.kind == 3) = true) : Spec0 Try.prog 9 [.agg s.cells, I .i64 19, I .u64 v, I .u64 m] (.tup [.agg (putF s (nw (raw s 19) (allI 19) v m) 19).cells, I .i64 0]) := sx0 hm hF 1000 20 [.b 9 2 11 false, .b 9 2 17 false, .b 71 1 4 true, .b 71 1 12 true] [(s.kind == 3) = true, s.isIp = true, decide (m > allI 19) = false, decide (v > allI 19) = false] (by kernel_rfl) ⟨h3, h2, h1, h0, trivial⟩
theorem set19_1 (s : Stt) (v m : Int) (h0 : decide (v > allI 19) = false) (h1 : decide (m > allI 19) = false) (h2 : s.isIp = true) (h3 : (s.kind == 3) = false) (h4 : (s.kind == 2) = true) : Spec0 Try.prog 9 [.agg s.cells, I .i64 19, I .u64 v, I .u64 m] (.tup [.agg (putF s (nw (raw s 19) (allI 19) v m) 19).cells, I .i64 0]) := sx0 hm hF 1000 20 [.b 9 2 11 false, .b 9 2 17 false, .b 71 1 4 true, .b 71 1 12 false, .b 68 1 7 true, .b 68 1 15 true] [(s.kind == 2) = true, s.isIp = true, (s.kind == 3) = false, s.isIp = true, decide (m > allI 19) = false, decide (v > allI 19) = false] (by kernel_rfl) ⟨h4, h2, h3, h2, h1, h0, trivial⟩
theorem get20_0 (s : Stt) (h0 : s.isIp = true) (h1 : (s.kind == 3) = true) : Spec0 Try.prog 10 [.agg s.cells, I .i64 20] (.tup [I .u64 (uand (raw s 20) (allI 20)), I .i64 0]) := sx0 hm hF 1000 20 [.b 71 1 4 true, .b 71 1 12 true] [(s.kind == 3) = true, s.isIp = true] (by kernel_rfl) ⟨h1, h0, trivial⟩
theorem has20_0 (s : Stt) (h0 : s.isIp = true) (h1 : (s.kind == 3) = true) : Spec0 Try.prog 20 [.agg s.cells, I .i64 20] (B true) := sx0 hm hF 1000 20 [.b 71 1 4 true, .b 71 1 12 true] [(s.kind == 3) = true, s.isIp = true] (by kernel_rfl) ⟨h1, h0, trivial⟩
theorem getn20_0 (s : Stt) (h0 : s.isIp = true) (h1 : (s.kind == 3) = false) : Spec0 Try.prog 10 [.agg s.cells, I .i64 20] (.tup [I .u64 0, I .i64 81]) := sx0 hm hF 1000 20 [.b 71 1 4 true, .b 71 1 12 false] [(s.kind == 3) = false, s.isIp = true] (by kernel_rfl) ⟨h1, h0, trivial⟩
theorem hasn20_0 (s : Stt) (h0 : s.isIp = true) (h1 : (s.kind == 3) = false) : Spec0 Try.prog 20 [.agg s.cells, I .i64 20] (B false) := sx0 hm hF 1000 20 [.b 71 1 4 true, .b 71 1 12 false] [(s.kind == 3) = false, s.isIp = true] (by kernel_rfl) ⟨h1, h0, trivial⟩
theorem getn20_1 (s : Stt) (h0 : s.isIp = false) : Spec0 Try.prog 10 [.agg s.cells, I .i64 20] (.tup [I .u64 0, I .i64 81]) := sx0 hm hF 1000 20 [.b 71 1 4 false] [s.isIp = false] (by kernel_rfl) ⟨h0, trivial⟩
theorem hasn20_1 (s : Stt) (h0 : s.isIp = false) : Spec0 Try.prog 20 [.agg s.cells, I .i64 20] (B false) := sx0 hm hF 1000 20 [.b 71 1 4 false] [s.isIp = false] (by kernel_rfl) ⟨h0, trivial⟩
theorem bits20   : Spec0 Try.prog 8 [I .i64 20] (I .i64 (Int.ofNat (bN 20))) := sx0 hm hF 1000 20 [] [] (by kernel_rfl) trivial
theorem name20   : Spec0 Try.prog 13 [I .i64 20] (S (nmF 20)) := sx0 hm hF 1000 20 [] [] (by kernel_rfl) trivial
theorem setv20 (s : Stt) (v m : Int) (h0 : decide (v > allI 20) = true) : Spec0 Try.prog 9 [.agg s.cells, I .i64 20, I .u64 v, I .u64 m] (.tup [.agg zS.cells, I .i64 80]) := sx0 hm hF 1000 20 [.b 9 2 11 true] [decide (v > allI 20) = true] (by kernel_rfl) ⟨h0, trivial⟩
theorem setm20 (s : Stt) (v m : Int) (h0 : decide (v > allI 20) = false) (h1 : decide (m > allI 20) = true) : Spec0 Try.prog 9 [.agg s.cells, I .i64 20, I .u64 v, I .u64 m] (.tup [.agg zS.cells, I .i64 80]) := sx0 hm hF 1000 20 [.b 9 2 11 false, .b 9 2 17 true] [decide (m > allI 20) = true, decide (v > allI 20) = false] (by kernel_rfl) ⟨h1, h0, trivial⟩
theorem setn20_0 (s : Stt) (v m : Int) (h0 : decide (v > allI 20) = false) (h1 : decide (m > allI 20) = false) (h2 : s.isIp = true) (h3 : (s.kind == 3) = false) : Spec0 Try.prog 9 [.agg s.cells, I .i64 20, I .u64 v, I .u64 m] (.tup [.agg zS.cells, I .i64 81]) := sx0 hm hF 1000 20 [.b 9 2 11 false, .b 9 2 17 false, .b 71 1 4 true, .b 71 1 12 false] [(s.kind == 3) = false, s.isIp = true, decide (m > allI 20) = false, decide (v > allI 20) = false] (by kernel_rfl) ⟨h3, h2, h1, h0, trivial⟩
theorem setn20_1 (s : Stt) (v m : Int) (h0 : decide (v > allI 20) = false) (h1 : decide (m > allI 20) = false) (h2 : s.isIp = false) : Spec0 Try.prog 9 [.agg s.cells, I .i64 20, I .u64 v, I .u64 m] (.tup [.agg zS.cells, I .i64 81]) := sx0 hm hF 1000 20 [.b 9 2 11 false, .b 9 2 17 false, .b 71 1 4 false] [s.isIp = false, decide (m > allI 20) = false, decide (v > allI 20) = false] (by kernel_rfl) ⟨h2, h1, h0, trivial⟩
theorem set20_0 (s : Stt) (v m : Int) (h0 : decide (v > allI 20) = false) (h1 : decide (m > allI 20) = false) (h2 : s.isIp = true) (h3 : (s.kind == 3) = true) : Spec0 Try.prog 9 [.agg s.cells, I .i64 20, I .u64 v, I .u64 m] (.tup [.agg (putF s (nw (raw s 20) (allI 20) v m) 20).cells, I .i64 0]) := sx0 hm hF 1000 20 [.b 9 2 11 false, .b 9 2 17 false, .b 71 1 4 true, .b 71 1 12 true] [(s.kind == 3) = true, s.isIp = true, decide (m > allI 20) = false, decide (v > allI 20) = false] (by kernel_rfl) ⟨h3, h2, h1, h0, trivial⟩
theorem get21_0 (s : Stt)  : Spec0 Try.prog 10 [.agg s.cells, I .i64 21] (.tup [I .u64 (uand (raw s 21) (allI 21)), I .i64 0]) := sx0 hm hF 1000 20 [] [] (by kernel_rfl) trivial
theorem has21_0 (s : Stt)  : Spec0 Try.prog 20 [.agg s.cells, I .i64 21] (B true) := sx0 hm hF 1000 20 [] [] (by kernel_rfl) trivial
theorem bits21   : Spec0 Try.prog 8 [I .i64 21] (I .i64 (Int.ofNat (bN 21))) := sx0 hm hF 1000 20 [] [] (by kernel_rfl) trivial
theorem name21   : Spec0 Try.prog 13 [I .i64 21] (S (nmF 21)) := sx0 hm hF 1000 20 [] [] (by kernel_rfl) trivial
theorem setv21 (s : Stt) (v m : Int) (h0 : decide (v > allI 21) = true) : Spec0 Try.prog 9 [.agg s.cells, I .i64 21, I .u64 v, I .u64 m] (.tup [.agg zS.cells, I .i64 80]) := sx0 hm hF 1000 20 [.b 9 2 11 true] [decide (v > allI 21) = true] (by kernel_rfl) ⟨h0, trivial⟩
theorem setm21 (s : Stt) (v m : Int) (h0 : decide (v > allI 21) = false) (h1 : decide (m > allI 21) = true) : Spec0 Try.prog 9 [.agg s.cells, I .i64 21, I .u64 v, I .u64 m] (.tup [.agg zS.cells, I .i64 80]) := sx0 hm hF 1000 20 [.b 9 2 11 false, .b 9 2 17 true] [decide (m > allI 21) = true, decide (v > allI 21) = false] (by kernel_rfl) ⟨h1, h0, trivial⟩
theorem set21_0 (s : Stt) (v m : Int) (h0 : decide (v > allI 21) = false) (h1 : decide (m > allI 21) = false) : Spec0 Try.prog 9 [.agg s.cells, I .i64 21, I .u64 v, I .u64 m] (.tup [.agg (putF s (nw (raw s 21) (allI 21) v m) 21).cells, I .i64 0]) := sx0 hm hF 1000 20 [.b 9 2 11 false, .b 9 2 17 false] [decide (m > allI 21) = false, decide (v > allI 21) = false] (by kernel_rfl) ⟨h1, h0, trivial⟩
theorem get22_0 (s : Stt)  : Spec0 Try.prog 10 [.agg s.cells, I .i64 22] (.tup [I .u64 (uand (raw s 22) (allI 22)), I .i64 0]) := sx0 hm hF 1000 20 [] [] (by kernel_rfl) trivial
theorem has22_0 (s : Stt)  : Spec0 Try.prog 20 [.agg s.cells, I .i64 22] (B true) := sx0 hm hF 1000 20 [] [] (by kernel_rfl) trivial
theorem bits22   : Spec0 Try.prog 8 [I .i64 22] (I .i64 (Int.ofNat (bN 22))) := sx0 hm hF 1000 20 [] [] (by kernel_rfl) trivial
theorem name22   : Spec0 Try.prog 13 [I .i64 22] (S (nmF 22)) := sx0 hm hF 1000 20 [] [] (by kernel_rfl) trivial
theorem setv22 (s : Stt) (v m : Int) (h0 : decide (v > allI 22) = true) : Spec0 Try.prog 9 [.agg s.cells, I .i64 22, I .u64 v, I .u64 m] (.tup [.agg zS.cells, I .i64 80]) := sx0 hm hF 1000 20 [.b 9 2 11 true] [decide (v > allI 22) = true] (by kernel_rfl) ⟨h0, trivial⟩
theorem setm22 (s : Stt) (v m : Int) (h0 : decide (v > allI 22) = false) (h1 : decide (m > allI 22) = true) : Spec0 Try.prog 9 [.agg s.cells, I .i64 22, I .u64 v, I .u64 m] (.tup [.agg zS.cells, I .i64 80]) := sx0 hm hF 1000 20 [.b 9 2 11 false, .b 9 2 17 true] [decide (m > allI 22) = true, decide (v > allI 22) = false] (by kernel_rfl) ⟨h1, h0, trivial⟩
theorem set22_0 (s : Stt) (v m : Int) (h0 : decide (v > allI 22) = false) (h1 : decide (m > allI 22) = false) : Spec0 Try.prog 9 [.agg s.cells, I .i64 22, I .u64 v, I .u64 m] (.tup [.agg (putF s (nw (raw s 22) (allI 22) v m) 22).cells, I .i64 0]) := sx0 hm hF 1000 20 [.b 9 2 11 false, .b 9 2 17 false] [decide (m > allI 22) = false, decide (v > allI 22) = false] (by kernel_rfl) ⟨h1, h0, trivial⟩
theorem get23_0 (s : Stt)  : Spec0 Try.prog 10 [.agg s.cells, I .i64 23] (.tup [I .u64 (uand (raw s 23) (allI 23)), I .i64 0]) := sx0 hm hF 1000 20 [] [] (by kernel_rfl) trivial
theorem has23_0 (s : Stt)  : Spec0 Try.prog 20 [.agg s.cells, I .i64 23] (B true) := sx0 hm hF 1000 20 [] [] (by kernel_rfl) trivial
theorem bits23   : Spec0 Try.prog 8 [I .i64 23] (I .i64 (Int.ofNat (bN 23))) := sx0 hm hF 1000 20 [] [] (by kernel_rfl) trivial
theorem name23   : Spec0 Try.prog 13 [I .i64 23] (S (nmF 23)) := sx0 hm hF 1000 20 [] [] (by kernel_rfl) trivial
theorem setv23 (s : Stt) (v m : Int) (h0 : decide (v > allI 23) = true) : Spec0 Try.prog 9 [.agg s.cells, I .i64 23, I .u64 v, I .u64 m] (.tup [.agg zS.cells, I .i64 80]) := sx0 hm hF 1000 20 [.b 9 2 11 true] [decide (v > allI 23) = true] (by kernel_rfl) ⟨h0, trivial⟩
theorem setm23 (s : Stt) (v m : Int) (h0 : decide (v > allI 23) = false) (h1 : decide (m > allI 23) = true) : Spec0 Try.prog 9 [.agg s.cells, I .i64 23, I .u64 v, I .u64 m] (.tup [.agg zS.cells, I .i64 80]) := sx0 hm hF 1000 20 [.b 9 2 11 false, .b 9 2 17 true] [decide (m > allI 23) = true, decide (v > allI 23) = false] (by kernel_rfl) ⟨h1, h0, trivial⟩
theorem set23_0 (s : Stt) (v m : Int) (h0 : decide (v > allI 23) = false) (h1 : decide (m > allI 23) = false) : Spec0 Try.prog 9 [.agg s.cells, I .i64 23, I .u64 v, I .u64 m] (.tup [.agg (putF s (nw (raw s 23) (allI 23) v m) 23).cells, I .i64 0]) := sx0 hm hF 1000 20 [.b 9 2 11 false, .b 9 2 17 false] [decide (m > allI 23) = false, decide (v > allI 23) = false] (by kernel_rfl) ⟨h1, h0, trivial⟩
theorem get24_0 (s : Stt)  : Spec0 Try.prog 10 [.agg s.cells, I .i64 24] (.tup [I .u64 (uand (raw s 24) (allI 24)), I .i64 0]) := sx0 hm hF 1000 20 [] [] (by kernel_rfl) trivial
theorem has24_0 (s : Stt)  : Spec0 Try.prog 20 [.agg s.cells, I .i64 24] (B true) := sx0 hm hF 1000 20 [] [] (by kernel_rfl) trivial
theorem bits24   : Spec0 Try.prog 8 [I .i64 24] (I .i64 (Int.ofNat (bN 24))) := sx0 hm hF 1000 20 [] [] (by kernel_rfl) trivial
theorem name24   : Spec0 Try.prog 13 [I .i64 24] (S (nmF 24)) := sx0 hm hF 1000 20 [] [] (by kernel_rfl) trivial
theorem setv24 (s : Stt) (v m : Int) (h0 : decide (v > allI 24) = true) : Spec0 Try.prog 9 [.agg s.cells, I .i64 24, I .u64 v, I .u64 m] (.tup [.agg zS.cells, I .i64 80]) := sx0 hm hF 1000 20 [.b 9 2 11 true] [decide (v > allI 24) = true] (by kernel_rfl) ⟨h0, trivial⟩
theorem setm24 (s : Stt) (v m : Int) (h0 : decide (v > allI 24) = false) (h1 : decide (m > allI 24) = true) : Spec0 Try.prog 9 [.agg s.cells, I .i64 24, I .u64 v, I .u64 m] (.tup [.agg zS.cells, I .i64 80]) := sx0 hm hF 1000 20 [.b 9 2 11 false, .b 9 2 17 true] [decide (m > allI 24) = true, decide (v > allI 24) = false] (by kernel_rfl) ⟨h1, h0, trivial⟩
theorem set24_0 (s : Stt) (v m : Int) (h0 : decide (v > allI 24) = false) (h1 : decide (m > allI 24) = false) : Spec0 Try.prog 9 [.agg s.cells, I .i64 24, I .u64 v, I .u64 m] (.tup [.agg (putF s (nw (raw s 24) (allI 24) v m) 24).cells, I .i64 0]) := sx0 hm hF 1000 20 [.b 9 2 11 false, .b 9 2 17 false] [decide (m > allI 24) = false, decide (v > allI 24) = false] (by kernel_rfl) ⟨h1, h0, trivial⟩
theorem get25_0 (s : Stt)  : Spec0 Try.prog 10 [.agg s.cells, I .i64 25] (.tup [I .u64 (uand (raw s 25) (allI 25)), I .i64 0]) := sx0 hm hF 1000 20 [] [(4 ≤ 9223372036854775807)] (by kernel_rfl) ⟨h4, trivial⟩
theorem has25_0 (s : Stt)  : Spec0 Try.prog 20 [.agg s.cells, I .i64 25] (B true) := sx0 hm hF 1000 20 [] [(4 ≤ 9223372036854775807)] (by kernel_rfl) ⟨h4, trivial⟩
theorem bits25   : Spec0 Try.prog 8 [I .i64 25] (I .i64 (Int.ofNat (bN 25))) := sx0 hm hF 1000 20 [] [(4 ≤ 9223372036854775807)] (by kernel_rfl) ⟨h4, trivial⟩
theorem name25   : Spec0 Try.prog 13 [I .i64 25] (S (nmF 25)) := sx0 hm hF 1000 20 [] [(4 ≤ 9223372036854775807)] (by kernel_rfl) ⟨h4, trivial⟩
theorem setv25 (s : Stt) (v m : Int) (h0 : decide (v > allI 25) = true) : Spec0 Try.prog 9 [.agg s.cells, I .i64 25, I .u64 v, I .u64 m] (.tup [.agg zS.cells, I .i64 80]) := sx0 hm hF 1000 20 [.b 9 2 11 true] [decide (v > allI 25) = true, (4 ≤ 9223372036854775807)] (by kernel_rfl) ⟨h0, h4, trivial⟩
theorem setm25 (s : Stt) (v m : Int) (h0 : decide (v > allI 25) = false) (h1 : decide (m > allI 25) = true) : Spec0 Try.prog 9 [.agg s.cells, I .i64 25, I .u64 v, I .u64 m] (.tup [.agg zS.cells, I .i64 80]) := sx0 hm hF 1000 20 [.b 9 2 11 false, .b 9 2 17 true] [decide (m > allI 25) = true, decide (v > allI 25) = false, (4 ≤ 9223372036854775807)] (by kernel_rfl) ⟨h1, h0, h4, trivial⟩
theorem set25_0 (s : Stt) (v m : Int) (h0 : decide (v > allI 25) = false) (h1 : decide (m > allI 25) = false) : Spec0 Try.prog 9 [.agg s.cells, I .i64 25, I .u64 v, I .u64 m] (.tup [.agg (putF s (nw (raw s 25) (allI 25) v m) 25).cells, I .i64 0]) := sx0 hm hF 1000 20 [.b 9 2 11 false, .b 9 2 17 false] [decide (m > allI 25) = false, decide (v > allI 25) = false, (4 ≤ 9223372036854775807)] (by kernel_rfl) ⟨h1, h0, h4, trivial⟩
theorem get26_0 (s : Stt)  : Spec0 Try.prog 10 [.agg s.cells, I .i64 26] (.tup [I .u64 (uand (raw s 26) (allI 26)), I .i64 0]) := sx0 hm hF 1000 20 [] [(4 ≤ 9223372036854775807)] (by kernel_rfl) ⟨h4, trivial⟩
theorem has26_0 (s : Stt)  : Spec0 Try.prog 20 [.agg s.cells, I .i64 26] (B true) := sx0 hm hF 1000 20 [] [(4 ≤ 9223372036854775807)] (by kernel_rfl) ⟨h4, trivial⟩
theorem bits26   : Spec0 Try.prog 8 [I .i64 26] (I .i64 (Int.ofNat (bN 26))) := sx0 hm hF 1000 20 [] [(4 ≤ 9223372036854775807)] (by kernel_rfl) ⟨h4, trivial⟩
theorem name26   : Spec0 Try.prog 13 [I .i64 26] (S (nmF 26)) := sx0 hm hF 1000 20 [] [(4 ≤ 9223372036854775807)] (by kernel_rfl) ⟨h4, trivial⟩
theorem setv26 (s : Stt) (v m : Int) (h0 : decide (v > allI 26) = true) : Spec0 Try.prog 9 [.agg s.cells, I .i64 26, I .u64 v, I .u64 m] (.tup [.agg zS.cells, I .i64 80]) := sx0 hm hF 1000 20 [.b 9 2 11 true] [decide (v > allI 26) = true, (4 ≤ 9223372036854775807)] (by kernel_rfl) ⟨h0, h4, trivial⟩
theorem setm26 (s : Stt) (v m : Int) (h0 : decide (v > allI 26) = false) (h1 : decide (m > allI 26) = true) : Spec0 Try.prog 9 [.agg s.cells, I .i64 26, I .u64 v, I .u64 m] (.tup [.agg zS.cells, I .i64 80]) := sx0 hm hF 1000 20 [.b 9 2 11 false, .b 9 2 17 true] [decide (m > allI 26) = true, decide (v > allI 26) = false, (4 ≤ 9223372036854775807)] (by kernel_rfl) ⟨h1, h0, h4, trivial⟩
theorem set26_0 (s : Stt) (v m : Int) (h0 : decide (v > allI 26) = false) (h1 : decide (m > allI 26) = false) : Spec0 Try.prog 9 [.agg s.cells, I .i64 26, I .u64 v, I .u64 m] (.tup [.agg (putF s (nw (raw s 26) (allI 26) v m) 26).cells, I .i64 0]) := sx0 hm hF 1000 20 [.b 9 2 11 false, .b 9 2 17 false] [decide (m > allI 26) = false, decide (v > allI 26) = false, (4 ≤ 9223372036854775807)] (by kernel_rfl) ⟨h1, h0, h4, trivial⟩
theorem get27_0 (s : Stt)  : Spec0 Try.prog 10 [.agg s.cells, I .i64 27] (.tup [I .u64 (uand (raw s 27) (allI 27)), I .i64 0]) := sx0 hm hF 1000 20 [] [(4 ≤ 9223372036854775807)] (by kernel_rfl) ⟨h4, trivial⟩
theorem has27_0 (s : Stt)  : Spec0 Try.prog 20 [.agg s.cells, I .i64 27] (B true) := sx0 hm hF 1000 20 [] [(4 ≤ 9223372036854775807)] (by kernel_rfl) ⟨h4, trivial⟩
theorem bits27   : Spec0 Try.prog 8 [I .i64 27] (I .i64 (Int.ofNat (bN 27))) := sx0 hm hF 1000 20 [] [(4 ≤ 9223372036854775807)] (by kernel_rfl) ⟨h4, trivial⟩
theorem name27   : Spec0 Try.prog 13 [I .i64 27] (S (nmF 27)) := sx0 hm hF 1000 20 [] [(4 ≤ 9223372036854775807)] (by kernel_rfl) ⟨h4, trivial⟩
theorem setv27 (s : Stt) (v m : Int) (h0 : decide (v > allI 27) = true) : Spec0 Try.prog 9 [.agg s.cells, I .i64 27, I .u64 v, I .u64 m] (.tup [.agg zS.cells, I .i64 80]) := sx0 hm hF 1000 20 [.b 9 2 11 true] [decide (v > allI 27) = true, (4 ≤ 9223372036854775807)] (by kernel_rfl) ⟨h0, h4, trivial⟩
theorem setm27 (s : Stt) (v m : Int) (h0 : decide (v > allI 27) = false) (h1 : decide (m > allI 27) = true) : Spec0 Try.prog 9 [.agg s.cells, I .i64 27, I .u64 v, I .u64 m] (.tup [.agg zS.cells, I .i64 80]) := sx0 hm hF 1000 20 [.b 9 2 11 false, .b 9 2 17 true] [decide (m > allI 27) = true, decide (v > allI 27) = false, (4 ≤ 9223372036854775807)] (by kernel_rfl) ⟨h1, h0, h4, trivial⟩
theorem set27_0 (s : Stt) (v m : Int) (h0 : decide (v > allI 27) = false) (h1 : decide (m > allI 27) = false) : Spec0 Try.prog 9 [.agg s.cells, I .i64 27, I .u64 v, I .u64 m] (.tup [.agg (putF s (nw (raw s 27) (allI 27) v m) 27).cells, I .i64 0]) := sx0 hm hF 1000 20 [.b 9 2 11 false, .b 9 2 17 false] [decide (m > allI 27) = false, decide (v > allI 27) = false, (4 ≤ 9223372036854775807)] (by kernel_rfl) ⟨h1, h0, h4, trivial⟩
theorem get28_0 (s : Stt)  : Spec0 Try.prog 10 [.agg s.cells, I .i64 28] (.tup [I .u64 (uand (raw s 28) (allI 28)), I .i64 0]) := sx0 hm hF 1000 20 [] [(4 ≤ 9223372036854775807)] (by kernel_rfl) ⟨h4, trivial⟩
theorem has28_0 (s : Stt)  : Spec0 Try.prog 20 [.agg s.cells, I .i64 28] (B true) := sx0 hm hF 1000 20 [] [(4 ≤ 9223372036854775807)] (by kernel_rfl) ⟨h4, trivial⟩
theorem bits28   : Spec0 Try.prog 8 [I .i64 28] (I .i64 (Int.ofNat (bN 28))) := sx0 hm hF 1000 20 [] [(4 ≤ 9223372036854775807)] (by kernel_rfl) ⟨h4, trivial⟩
theorem name28   : Spec0 Try.prog 13 [I .i64 28] (S (nmF 28)) := sx0 hm hF 1000 20 [] [(4 ≤ 9223372036854775807)] (by kernel_rfl) ⟨h4, trivial⟩
theorem setv28 (s : Stt) (v m : Int) (h0 : decide (v > allI 28) = true) : Spec0 Try.prog 9 [.agg s.cells, I .i64 28, I .u64 v, I .u64 m] (.tup [.agg zS.cells, I .i64 80]) := sx0 hm hF 1000 20 [.b 9 2 11 true] [decide (v > allI 28) = true, (4 ≤ 9223372036854775807)] (by kernel_rfl) ⟨h0, h4, trivial⟩
theorem setm28 (s : Stt) (v m : Int) (h0 : decide (v > allI 28) = false) (h1 : decide (m > allI 28) = true) : Spec0 Try.prog 9 [.agg s.cells, I .i64 28, I .u64 v, I .u64 m] (.tup [.agg zS.cells, I .i64 80]) := sx0 hm hF 1000 20 [.b 9 2 11 false, .b 9 2 17 true] [decide (m > allI 28) = true, decide (v > allI 28) = false, (4 ≤ 9223372036854775807)] (by kernel_rfl) ⟨h1, h0, h4, trivial⟩
theorem set28_0 (s : Stt) (v m : Int) (h0 : decide (v > allI 28) = false) (h1 : decide (m > allI 28) = false) : Spec0 Try.prog 9 [.agg s.cells, I .i64 28, I .u64 v, I .u64 m] (.tup [.agg (putF s (nw (raw s 28) (allI 28) v m) 28).cells, I .i64 0]) := sx0 hm hF 1000 20 [.b 9 2 11 false, .b 9 2 17 false] [decide (m > allI 28) = false, decide (v > allI 28) = false, (4 ≤ 9223372036854775807)] (by kernel_rfl) ⟨h1, h0, h4, trivial⟩
theorem find_a (f : Int) (h0 : (f == 1) = false) (h1 : (f == 2) = false) (h2 : (f == 3) = false) (h3 : (f == 4) = false) (h4 : (f == 5) = false) (h5 : (f == 6) = false) (h6 : (f == 7) = false) (h7 : (f == 8) = false) (h8 : (f == 9) = false) (h9 : (f == 10) = false) (h10 : (f == 11) = false) (h11 : (f == 12) = false) (h12 : (f == 13) = false) (h13 : (f == 14) = false) (h14 : (f == 15) = false) (h15 : (f == 16) = false) (h16 : (f == 17) = false) (h17 : (f == 18) = false) (h18 : (f == 19) = false) (h19 : (f == 20) = false) (h20 : (f == 21) = false) (h21 : (f == 22) = false) (h22 : (f == 23) = false) (h23 : (f == 24) = false) (h24 : decide (IntKind.i64.wrap (f - 25) ≥ 0) = false) : Spec0 Try.prog 21 [I .i64 f] (.tup [.agg [S ⟨#[]⟩, I .i64 0, .sc .nilFunc, .sc .nilFunc, .sc .nilFunc], B false]) := sx0 hm hF 1000 20 [.b 32 2 0 false, .b 32 4 0 false, .b 32 6 0 false, .b 32 8 0 false, .b 32 10 0 false, .b 32 12 0 false, .b 32 14 0 false, .b 32 16 0 false, .b 32 18 0 false, .b 32 20 0 false, .b 32 22 0 false, .b 32 24 0 false, .b 32 26 0 false, .b 32 28 0 false, .b 32 30 0 false, .b 32 32 0 false, .b 32 34 0 false, .b 32 36 0 false, .b 32 38 0 false, .b 32 40 0 false, .b 33 2 0 false, .b 33 4 0 false, .b 33 6 0 false, .b 33 8 0 false, .b 33 11 1 false] [decide (IntKind.i64.wrap (f - 25) ≥ 0) = false, (f == 24) = false, (f == 23) = false, (f == 22) = false, (f == 21) = false, (f == 20) = false, (f == 19) = false, (f == 18) = false, (f == 17) = false, (f == 16) = false, (f == 15) = false, (f == 14) = false, (f == 13) = false, (f == 12) = false, (f == 11) = false, (f == 10) = false, (f == 9) = false, (f == 8) = false, (f == 7) = false, (f == 6) = false, (f == 5) = false, (f == 4) = false, (f == 3) = false, (f == 2) = false, (f == 1) = false] (by kernel_rfl) ⟨h24, h23, h22, h21, h20, h19, h18, h17, h16, h15, h14, h13, h12, h11, h10, h9, h8, h7, h6, h5, h4, h3, h2, h1, h0, trivial⟩
theorem find_b (f : Int) (h0 : (f == 1) = false) (h1 : (f == 2) = false) (h2 : (f == 3) = false) (h3 : (f == 4) = false) (h4 : (f == 5) = false) (h5 : (f == 6) = false) (h6 : (f == 7) = false) (h7 : (f == 8) = false) (h8 : (f == 9) = false) (h9 : (f == 10) = false) (h10 : (f == 11) = false) (h11 : (f == 12) = false) (h12 : (f == 13) = false) (h13 : (f == 14) = false) (h14 : (f == 15) = false) (h15 : (f == 16) = false) (h16 : (f == 17) = false) (h17 : (f == 18) = false) (h18 : (f == 19) = false) (h19 : (f == 20) = false) (h20 : (f == 21) = false) (h21 : (f == 22) = false) (h22 : (f == 23) = false) (h23 : (f == 24) = false) (h24 : decide (IntKind.i64.wrap (f - 25) ≥ 0) = true) (h25 : decide (IntKind.i64.wrap (f - 25) ≤ 3) = false) : Spec0 Try.prog 21 [I .i64 f] (.tup [.agg [S ⟨#[]⟩, I .i64 0, .sc .nilFunc, .sc .nilFunc, .sc .nilFunc], B false]) := sx0 hm hF 1000 20 [.b 32 2 0 false, .b 32 4 0 false, .b 32 6 0 false, .b 32 8 0 false, .b 32 10 0 false, .b 32 12 0 false, .b 32 14 0 false, .b 32 16 0 false, .b 32 18 0 false, .b 32 20 0 false, .b 32 22 0 false, .b 32 24 0 false, .b 32 26 0 false, .b 32 28 0 false, .b 32 30 0 false, .b 32 32 0 false, .b 32 34 0 false, .b 32 36 0 false, .b 32 38 0 false, .b 32 40 0 false, .b 33 2 0 false, .b 33 4 0 false, .b 33 6 0 false, .b 33 8 0 false, .b 33 11 1 true, .b 33 11 4 false] [decide (IntKind.i64.wrap (f - 25) ≤ 3) = false, decide (IntKind.i64.wrap (f - 25) ≥ 0) = true, (f == 24) = false, (f == 23) = false, (f == 22) = false, (f == 21) = false, (f == 20) = false, (f == 19) = false, (f == 18) = false, (f == 17) = false, (f == 16) = false, (f == 15) = false, (f == 14) = false, (f == 13) = false, (f == 12) = false, (f == 11) = false, (f == 10) = false, (f == 9) = false, (f == 8) = false, (f == 7) = false, (f == 6) = false, (f == 5) = false, (f == 4) = false, (f == 3) = false, (f == 2) = false, (f == 1) = false] (by kernel_rfl) ⟨h25, h24, h23, h22, h21, h20, h19, h18, h17, h16, h15, h14, h13, h12, h11, h10, h9, h8, h7, h6, h5, h4, h3, h2, h1, h0, trivial⟩
theorem get_x (s : Stt) (f : Int) (h : Spec0 Try.prog 21 [I .i64 f] (.tup [.agg [S ⟨#[]⟩, I .i64 0, .sc .nilFunc, .sc .nilFunc, .sc .nilFunc], B false])) : Spec0 Try.prog 10 [.agg s.cells, I .i64 f] (.tup [I .u64 0, I .i64 80]) := sx0 hm hF 1000 20 [.c 10 1 1 (.tup [.agg [S ⟨#[]⟩, I .i64 0, .sc .nilFunc, .sc .nilFunc, .sc .nilFunc], B false])] [_] (by kernel_rfl) ⟨h, trivial⟩
theorem set_x (s : Stt) (f v m : Int) (h : Spec0 Try.prog 21 [I .i64 f] (.tup [.agg [S ⟨#[]⟩, I .i64 0, .sc .nilFunc, .sc .nilFunc, .sc .nilFunc], B false])) : Spec0 Try.prog 9 [.agg s.cells, I .i64 f, I .u64 v, I .u64 m] (.tup [.agg zS.cells, I .i64 80]) := sx0 hm hF 1000 20 [.c 9 1 1 (.tup [.agg [S ⟨#[]⟩, I .i64 0, .sc .nilFunc, .sc .nilFunc, .sc .nilFunc], B false])] [_] (by kernel_rfl) ⟨h, trivial⟩
theorem has_x (s : Stt) (f : Int) (h : Spec0 Try.prog 21 [I .i64 f] (.tup [.agg [S ⟨#[]⟩, I .i64 0, .sc .nilFunc, .sc .nilFunc, .sc .nilFunc], B false])) : Spec0 Try.prog 20 [.agg s.cells, I .i64 f] (B false) := sx0 hm hF 1000 20 [.c 20 1 1 (.tup [.agg [S ⟨#[]⟩, I .i64 0, .sc .nilFunc, .sc .nilFunc, .sc .nilFunc], B false])] [_] (by kernel_rfl) ⟨h, trivial⟩
theorem bits_x (f : Int) (h : Spec0 Try.prog 21 [I .i64 f] (.tup [.agg [S ⟨#[]⟩, I .i64 0, .sc .nilFunc, .sc .nilFunc, .sc .nilFunc], B false])) : Spec0 Try.prog 8 [I .i64 f] (I .i64 0) := sx0 hm hF 1000 20 [.c 8 1 1 (.tup [.agg [S ⟨#[]⟩, I .i64 0, .sc .nilFunc, .sc .nilFunc, .sc .nilFunc], B false])] [_] (by kernel_rfl) ⟨h, trivial⟩
theorem name_x (f : Int) (h : Spec0 Try.prog 21 [I .i64 f] (.tup [.agg [S ⟨#[]⟩, I .i64 0, .sc .nilFunc, .sc .nilFunc, .sc .nilFunc], B false])) : Spec0 Try.prog 13 [I .i64 f] (S ⟨#[]⟩) := sx0 hm hF 1000 20 [.c 13 1 1 (.tup [.agg [S ⟨#[]⟩, I .i64 0, .sc .nilFunc, .sc .nilFunc, .sc .nilFunc], B false])] [_] (by kernel_rfl) ⟨h, trivial⟩
end Go.Proofs.Ytofiaddmnhpkgaa
