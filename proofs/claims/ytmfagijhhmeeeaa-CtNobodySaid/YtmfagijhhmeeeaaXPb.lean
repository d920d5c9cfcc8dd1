/-
  Packets, tuples, connections as structures, their cells, and when two are the same.
-/
import Derived.Test.YtmfagijhhmeeeaaX0b
set_option linter.unusedVariables false
set_option maxRecDepth 100000
namespace Go.Proofs.Ytmfagijhhmeeeaa
open Go Go.SL Go.Proofs

@[reducible] def I (k : IntKind) (n : Int) : AV := .sc (.int k n)
@[reducible] def B (b : Bool) : AV := .sc (.bool b)
@[reducible] def S (b : ByteArray) : AV := .sc (.string b)
structure Con where
  zone : Int
  aproto : Int
  asrc : Int
  adst : Int
  asport : Int
  adport : Int
  bproto : Int
  bsrc : Int
  bdst : Int
  bsport : Int
  bdport : Int
  nat : Bool
  exp : Int
def Con.cells (s : Con) : List AV := [I .i64 s.zone, I .i64 s.aproto, I .u32 s.asrc, I .u32 s.adst, I .i64 s.asport, I .i64 s.adport, I .i64 s.bproto, I .u32 s.bsrc, I .u32 s.bdst, I .i64 s.bsport, I .i64 s.bdport, B s.nat, I .i64 s.exp]

structure Stt where
  dst : Int
  src : Int
  tagged : Bool
  tag : Int
  ty : Int
  isArp : Bool
  op : Int
  sha : Int
  spa : Int
  tha : Int
  tpa : Int
  isIp : Bool
  tos : Int
  id : Int
  frag : Int
  ttl : Int
  proto : Int
  isrc : Int
  idst : Int
  iopt : ByteArray
  kind : Int
  typ : Int
  code : Int
  rest : Int
  sport : Int
  dport : Int
  noSum : Bool
  seq : Int
  ack : Int
  flags : Int
  win : Int
  urg : Int
  lopt : ByteArray
  data : ByteArray
  body : ByteArray
  pad : ByteArray
  ct : Int
  dp : Int
  inn : Int
  out : Int
  r0 : Int
  r1 : Int
  r2 : Int
  r3 : Int
  oproto : Int
  osrc : Int
  odst : Int
  osport : Int
  odport : Int
def Stt.cells (s : Stt) : List AV := [I .u64 s.dst, I .u64 s.src, B s.tagged, I .i64 s.tag, I .i64 s.ty, B s.isArp, I .i64 s.op, I .u64 s.sha, I .u32 s.spa, I .u64 s.tha, I .u32 s.tpa, B s.isIp, I .i64 s.tos, I .i64 s.id, I .i64 s.frag, I .i64 s.ttl, I .i64 s.proto, I .u32 s.isrc, I .u32 s.idst, S s.iopt, I .i64 s.kind, I .i64 s.typ, I .i64 s.code, I .u32 s.rest, I .i64 s.sport, I .i64 s.dport, B s.noSum, I .u32 s.seq, I .u32 s.ack, I .i64 s.flags, I .i64 s.win, I .i64 s.urg, S s.lopt, S s.data, S s.body, S s.pad, I .i64 s.ct, I .i64 s.dp, I .i64 s.inn, I .i64 s.out, I .u32 s.r0, I .u32 s.r1, I .u32 s.r2, I .u32 s.r3, I .i64 s.oproto, I .u32 s.osrc, I .u32 s.odst, I .i64 s.osport, I .i64 s.odport]

end Go.Proofs.Ytmfagijhhmeeeaa
