/-
  A packet as a structure, its cells, and when two are the same.
-/
import Derived.Test.YtcedoopcjlekcaaW0q3
set_option linter.unusedVariables false
set_option maxRecDepth 100000
namespace Go.Proofs.Ytcedoopcjlekcaa
open Go Go.SL Go.Proofs

structure Pkt where
  dst : Int
  src : Int
  tagged : Bool
  tag : Int
  ty : Int
  isArp : Bool
  op : Int
  sha : Int
  spa : Int
  tha : Int
  tpa : Int
  isIp : Bool
  tos : Int
  id : Int
  frag : Int
  ttl : Int
  proto : Int
  isrc : Int
  idst : Int
  iopt : ByteArray
  kind : Int
  typ : Int
  code : Int
  rest : Int
  sport : Int
  dport : Int
  noSum : Bool
  seq : Int
  ack : Int
  flags : Int
  win : Int
  urg : Int
  lopt : ByteArray
  data : ByteArray
  body : ByteArray
  pad : ByteArray
def Pkt.cells (s : Pkt) : List AV := [I .u64 s.dst, I .u64 s.src, B s.tagged, I .i64 s.tag, I .i64 s.ty, B s.isArp, I .i64 s.op, I .u64 s.sha, I .u32 s.spa, I .u64 s.tha, I .u32 s.tpa, B s.isIp, I .i64 s.tos, I .i64 s.id, I .i64 s.frag, I .i64 s.ttl, I .i64 s.proto, I .u32 s.isrc, I .u32 s.idst, S s.iopt, I .i64 s.kind, I .i64 s.typ, I .i64 s.code, I .u32 s.rest, I .i64 s.sport, I .i64 s.dport, B s.noSum, I .u32 s.seq, I .u32 s.ack, I .i64 s.flags, I .i64 s.win, I .i64 s.urg, S s.lopt, S s.data, S s.body, S s.pad]
def zP : Pkt := ⟨0, 0, false, 0, 0, false, 0, 0, 0, 0, 0, false, 0, 0, 0, 0, 0, 0, 0, ⟨#[]⟩, 0, 0, 0, 0, 0, 0, false, 0, 0, 0, 0, 0, ⟨#[]⟩, ⟨#[]⟩, ⟨#[]⟩, ⟨#[]⟩⟩
def whB (x : Int) : Bool := IntKind.i64.wrap ((BitVec.ofInt 64 x &&& BitVec.ofInt 64 16383).toNat : Int) == 0
theorem bl_cells (l : List UInt8) : (l.map byteAV).all cellAV = true := by
  induction l with
  | nil => rfl
  | cons b l ih => simp only [List.map_cons, List.all_cons, ih, Bool.and_true]; rfl
theorem bl_all (l : List UInt8) (a n : Nat) : (List.take n (List.drop a (l.map byteAV))).all cellAV = true := by rw [bl_sub]; exact bl_cells _
end Go.Proofs.Ytcedoopcjlekcaa
