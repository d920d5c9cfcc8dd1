/-
  Packets, tuples, connections as structures, their cells, and when two are the same.
-/
import Derived.Test.YtmfagijhhmeeeaaX0d
set_option linter.unusedVariables false
set_option maxRecDepth 100000
namespace Go.Proofs.Ytmfagijhhmeeeaa
open Go Go.SL Go.Proofs

@[reducible] def I (k : IntKind) (n : Int) : AV := .sc (.int k n)
@[reducible] def B (b : Bool) : AV := .sc (.bool b)
@[reducible] def S (b : ByteArray) : AV := .sc (.string b)
structure Pkt where
  dst : Int
  src : Int
  tagged : Bool
  tag : Int
  ty : Int
  isArp : Bool
  op : Int
  sha : Int
  spa : Int
  tha : Int
  tpa : Int
  isIp : Bool
  tos : Int
  id : Int
  frag : Int
  ttl : Int
  proto : Int
  isrc : Int
  idst : Int
  iopt : ByteArray
  kind : Int
  typ : Int
  code : Int
  rest : Int
  sport : Int
  dport : Int
  noSum : Bool
  seq : Int
  ack : Int
  flags : Int
  win : Int
  urg : Int
  lopt : ByteArray
  data : ByteArray
  body : ByteArray
  pad : ByteArray
def Pkt.cells (s : Pkt) : List AV := [I .u64 s.dst, I .u64 s.src, B s.tagged, I .i64 s.tag, I .i64 s.ty, B s.isArp, I .i64 s.op, I .u64 s.sha, I .u32 s.spa, I .u64 s.tha, I .u32 s.tpa, B s.isIp, I .i64 s.tos, I .i64 s.id, I .i64 s.frag, I .i64 s.ttl, I .i64 s.proto, I .u32 s.isrc, I .u32 s.idst, S s.iopt, I .i64 s.kind, I .i64 s.typ, I .i64 s.code, I .u32 s.rest, I .i64 s.sport, I .i64 s.dport, B s.noSum, I .u32 s.seq, I .u32 s.ack, I .i64 s.flags, I .i64 s.win, I .i64 s.urg, S s.lopt, S s.data, S s.body, S s.pad]

structure Tup where
  proto : Int
  src : Int
  dst : Int
  sport : Int
  dport : Int
def Tup.cells (s : Tup) : List AV := [I .i64 s.proto, I .u32 s.src, I .u32 s.dst, I .i64 s.sport, I .i64 s.dport]

def zT : Tup := ⟨0, 0, 0, 0, 0⟩
def iand (x y : Int) : Int := IntKind.i64.wrap ((BitVec.ofInt 64 x &&& BitVec.ofInt 64 y).toNat : Int)
end Go.Proofs.Ytmfagijhhmeeeaa
