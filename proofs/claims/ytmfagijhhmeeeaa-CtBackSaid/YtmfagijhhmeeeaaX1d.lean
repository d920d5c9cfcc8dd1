/-
  What an argument holds when a law is called.
-/
import Derived.Test.YtmfagijhhmeeeaaRows
import Derived.Test.YtmfagijhhmeeeaaXPd
set_option linter.unusedVariables false
set_option linter.unusedSimpArgs false
set_option maxRecDepth 100000
set_option maxHeartbeats 1000000
namespace Go.Proofs.Ytmfagijhhmeeeaa
open Go Go.SL Go.Proofs
open Go.ChangeShapes Go.WideShapes Go.ChangeAt Go.RowKit
theorem Try.own : ownKnob Try.prog.godebug = none := by kernel_rfl
theorem Try.laidOut : laidOutB Try.prog = true := by kernel_rfl
def isK (k : IntKind) (x : AV) : Prop := ∃ n : Int, x = .sc (.int k n) ∧ k.min ≤ n ∧ n ≤ k.max
theorem rv_I64 (W : World) : RdV Try.prog W 3 (isK .i64) := rv_int Try.underlying3
theorem rv_U32 (W : World) : RdV Try.prog W 25 (isK .u32) := rv_int Try.underlying25
/-- The fields' ranges. -/
def Pkt.ok (s : Pkt) : Prop := (0 ≤ s.dst ∧ s.dst ≤ 18446744073709551615) ∧ (0 ≤ s.src ∧ s.src ≤ 18446744073709551615) ∧ (-9223372036854775808 ≤ s.tag ∧ s.tag ≤ 9223372036854775807) ∧ (-9223372036854775808 ≤ s.ty ∧ s.ty ≤ 9223372036854775807) ∧ (-9223372036854775808 ≤ s.op ∧ s.op ≤ 9223372036854775807) ∧ (0 ≤ s.sha ∧ s.sha ≤ 18446744073709551615) ∧ (0 ≤ s.spa ∧ s.spa ≤ 4294967295) ∧ (0 ≤ s.tha ∧ s.tha ≤ 18446744073709551615) ∧ (0 ≤ s.tpa ∧ s.tpa ≤ 4294967295) ∧ (-9223372036854775808 ≤ s.tos ∧ s.tos ≤ 9223372036854775807) ∧ (-9223372036854775808 ≤ s.id ∧ s.id ≤ 9223372036854775807) ∧ (-9223372036854775808 ≤ s.frag ∧ s.frag ≤ 9223372036854775807) ∧ (-9223372036854775808 ≤ s.ttl ∧ s.ttl ≤ 9223372036854775807) ∧ (-9223372036854775808 ≤ s.proto ∧ s.proto ≤ 9223372036854775807) ∧ (0 ≤ s.isrc ∧ s.isrc ≤ 4294967295) ∧ (0 ≤ s.idst ∧ s.idst ≤ 4294967295) ∧ s.iopt.size ≤ 140737488351232 ∧ (-9223372036854775808 ≤ s.kind ∧ s.kind ≤ 9223372036854775807) ∧ (-9223372036854775808 ≤ s.typ ∧ s.typ ≤ 9223372036854775807) ∧ (-9223372036854775808 ≤ s.code ∧ s.code ≤ 9223372036854775807) ∧ (0 ≤ s.rest ∧ s.rest ≤ 4294967295) ∧ (-9223372036854775808 ≤ s.sport ∧ s.sport ≤ 9223372036854775807) ∧ (-9223372036854775808 ≤ s.dport ∧ s.dport ≤ 9223372036854775807) ∧ (0 ≤ s.seq ∧ s.seq ≤ 4294967295) ∧ (0 ≤ s.ack ∧ s.ack ≤ 4294967295) ∧ (-9223372036854775808 ≤ s.flags ∧ s.flags ≤ 9223372036854775807) ∧ (-9223372036854775808 ≤ s.win ∧ s.win ≤ 9223372036854775807) ∧ (-9223372036854775808 ≤ s.urg ∧ s.urg ≤ 9223372036854775807) ∧ s.lopt.size ≤ 140737488351232 ∧ s.data.size ≤ 140737488351232 ∧ s.body.size ≤ 140737488351232 ∧ s.pad.size ≤ 140737488351232
def isPkt (x : AV) : Prop := ∃ s : Pkt, x = .agg s.cells ∧ s.ok
theorem rv_Pkt (W : World) : RdV Try.prog W 33 isPkt := by
  refine RdV.mono' (rv_leaves [.int .u64, .int .u64, .bool, .int .i64, .int .i64, .bool, .int .i64, .int .u64, .int .u32, .int .u64, .int .u32, .bool, .int .i64, .int .i64, .int .i64, .int .i64, .int .i64, .int .u32, .int .u32, .str, .int .i64, .int .i64, .int .i64, .int .u32, .int .i64, .int .i64, .bool, .int .u32, .int .u32, .int .i64, .int .i64, .int .i64, .str, .str, .str, .str] 60 Try.underlying33 (by kernel_rfl) (by kernel_rfl)) ?_
  intro x ⟨xs, hx, h⟩
  obtain ⟨_, _, rfl, ⟨a0, rfl, k0⟩, h⟩ := h
  obtain ⟨_, _, rfl, ⟨a1, rfl, k1⟩, h⟩ := h
  obtain ⟨_, _, rfl, ⟨a2, rfl⟩, h⟩ := h
  obtain ⟨_, _, rfl, ⟨a3, rfl, k3⟩, h⟩ := h
  obtain ⟨_, _, rfl, ⟨a4, rfl, k4⟩, h⟩ := h
  obtain ⟨_, _, rfl, ⟨a5, rfl⟩, h⟩ := h
  obtain ⟨_, _, rfl, ⟨a6, rfl, k6⟩, h⟩ := h
  obtain ⟨_, _, rfl, ⟨a7, rfl, k7⟩, h⟩ := h
  obtain ⟨_, _, rfl, ⟨a8, rfl, k8⟩, h⟩ := h
  obtain ⟨_, _, rfl, ⟨a9, rfl, k9⟩, h⟩ := h
  obtain ⟨_, _, rfl, ⟨a10, rfl, k10⟩, h⟩ := h
  obtain ⟨_, _, rfl, ⟨a11, rfl⟩, h⟩ := h
  obtain ⟨_, _, rfl, ⟨a12, rfl, k12⟩, h⟩ := h
  obtain ⟨_, _, rfl, ⟨a13, rfl, k13⟩, h⟩ := h
  obtain ⟨_, _, rfl, ⟨a14, rfl, k14⟩, h⟩ := h
  obtain ⟨_, _, rfl, ⟨a15, rfl, k15⟩, h⟩ := h
  obtain ⟨_, _, rfl, ⟨a16, rfl, k16⟩, h⟩ := h
  obtain ⟨_, _, rfl, ⟨a17, rfl, k17⟩, h⟩ := h
  obtain ⟨_, _, rfl, ⟨a18, rfl, k18⟩, h⟩ := h
  obtain ⟨_, _, rfl, ⟨a19, rfl, k19⟩, h⟩ := h
  obtain ⟨_, _, rfl, ⟨a20, rfl, k20⟩, h⟩ := h
  obtain ⟨_, _, rfl, ⟨a21, rfl, k21⟩, h⟩ := h
  obtain ⟨_, _, rfl, ⟨a22, rfl, k22⟩, h⟩ := h
  obtain ⟨_, _, rfl, ⟨a23, rfl, k23⟩, h⟩ := h
  obtain ⟨_, _, rfl, ⟨a24, rfl, k24⟩, h⟩ := h
  obtain ⟨_, _, rfl, ⟨a25, rfl, k25⟩, h⟩ := h
  obtain ⟨_, _, rfl, ⟨a26, rfl⟩, h⟩ := h
  obtain ⟨_, _, rfl, ⟨a27, rfl, k27⟩, h⟩ := h
  obtain ⟨_, _, rfl, ⟨a28, rfl, k28⟩, h⟩ := h
  obtain ⟨_, _, rfl, ⟨a29, rfl, k29⟩, h⟩ := h
  obtain ⟨_, _, rfl, ⟨a30, rfl, k30⟩, h⟩ := h
  obtain ⟨_, _, rfl, ⟨a31, rfl, k31⟩, h⟩ := h
  obtain ⟨_, _, rfl, ⟨a32, rfl, k32⟩, h⟩ := h
  obtain ⟨_, _, rfl, ⟨a33, rfl, k33⟩, h⟩ := h
  obtain ⟨_, _, rfl, ⟨a34, rfl, k34⟩, h⟩ := h
  obtain ⟨_, _, rfl, ⟨a35, rfl, k35⟩, h⟩ := h
  simp only [Fit] at h
  subst h
  exact ⟨⟨a0, a1, a2, a3, a4, a5, a6, a7, a8, a9, a10, a11, a12, a13, a14, a15, a16, a17, a18, a19, a20, a21, a22, a23, a24, a25, a26, a27, a28, a29, a30, a31, a32, a33, a34, a35⟩, hx, k0, k1, k3, k4, k6, k7, k8, k9, k10, k12, k13, k14, k15, k16, k17, k18, (by simpa [reachBytes] using k19), k20, k21, k22, k23, k24, k25, k27, k28, k29, k30, k31, (by simpa [reachBytes] using k32), (by simpa [reachBytes] using k33), (by simpa [reachBytes] using k34), (by simpa [reachBytes] using k35)⟩
end Go.Proofs.Ytmfagijhhmeeeaa
