/-
  The given statement, proved from the contract of the law: whatever the arguments, the call returns true and each argument reads as it did. No condition.
-/
import Derived.Test.YtcedoopcjlekcaaX1q1
import Derived.Test.YtcedoopcjlekcaaX2q1
import Derived.Test.YtcedoopcjlekcaaL3q1
import Derived.Test.YtcedoopcjlekcaaLPq1
set_option linter.unusedVariables false
set_option linter.unusedSimpArgs false
set_option maxRecDepth 100000
set_option maxHeartbeats 1000000
namespace Go.Proofs.Ytcedoopcjlekcaa
open Go Go.SL Go.Proofs
open Go.ChangeShapes Go.WideShapes Go.ChangeAt Go.RowKit
theorem ok_typed {s : Pkt} (h : s.ok) : Typed s := by
  obtain ⟨k0, k1, k2, k3, k4, k5, k6, k7, k8, k9, k10, k11, k12, k13, k14, k15, k16, k17, k18, k19, k20, k21, k22, k23, k24, k25, k26, k27, k28, k29, k30, k31⟩ := h
  exact ⟨k0.1, k1.1, k5.1, ⟨k6.1, by omega⟩, k7.1, ⟨k8.1, by omega⟩, ⟨k14.1, by omega⟩, ⟨k15.1, by omega⟩, k16, ⟨k20.1, by omega⟩, ⟨k23.1, by omega⟩, ⟨k24.1, by omega⟩, k29, k30, k31⟩
theorem w_PacketPrints (p : Pkt) (h : p.ok) : Spec0 Try.prog 4 [.agg p.cells] (B true) := by
  obtain ⟨d, s, tg, tag, ty, ia, ao, sha, spa, tha, tpa, ii, tos, id, frag, ttl, proto, src, dst, opt, k, ty4, co, re, sp, dp, ns, se, ac, fl, wi, ur, op, da, body, pad⟩ := p
  rcases print_both _ (ok_typed h) with ⟨L, ⟨l1, l2, h1, h2, h3⟩, _⟩ | ⟨e, he, h1, h2⟩
  · exact w_PP_ok d s tag tg ao sha spa tha tpa tos id frag ttl proto src dst opt k ty4 co re sp dp se ac fl wi ur ns op da ia ii body pad ty L l2 w_lives h1 h2 h3
  · exact w_PP_bad d s tag tg ao sha spa tha tpa tos id frag ttl proto src dst opt k ty4 co re sp dp se ac fl wi ur ns op da ia ii body pad ty e he w_lives h1 h2

set_option maxRecDepth 100000 in
theorem packetPrints_lifted (os : Os) (started : os.Started) (H : Type) (enc : TypeId × Value → H) :
    ReturnsInHanded {} Try.checked os 4 .any (Rows.packetPrintsSpec.pre6 enc Try.prog Try.f4 Rows.packetPrintsRow.domain false) (Rows.packetPrintsSpec.post enc Try.prog Try.f4 false true false false) :=
  law_row (C := Try.checked) (tb := 4) (Ss := [isPkt]) Try.own started (by kernel_rfl) Try.func4
    (ChangeSpec.witness6 (enc := enc) (C := Try.checked) false ⟨#[], #[.agg #[.int .u64 0, .int .u64 0, .bool false, .int .i64 0, .int .i64 0, .bool false, .int .i64 0, .int .u64 0, .int .u32 0, .int .u64 0, .int .u32 0, .bool false, .int .i64 0, .int .i64 0, .int .i64 0, .int .i64 0, .int .i64 0, .int .u32 0, .int .u32 0, .string ⟨#[]⟩, .int .i64 0, .int .i64 0, .int .i64 0, .int .u32 0, .int .i64 0, .int .i64 0, .bool false, .int .u32 0, .int .u32 0, .int .i64 0, .int .i64 0, .int .i64 0, .string ⟨#[]⟩, .string ⟨#[]⟩, .string ⟨#[]⟩, .string ⟨#[]⟩]], []⟩ 8 (by kernel_rfl) (by kernel_rfl) (by kernel_rfl) (by kernel_rfl))
    rfl rfl Try.underlying4 (fun ds h => by match ds, h with | [d0], _ => rfl) Try.laidOut (by kernel_rfl) (fun W g xs h => by cases h) (fun W => ⟨rv_Pkt W, trivial⟩)
    (fun xs g0 => by
      obtain ⟨_, _, rfl, k0, g1⟩ := All1.inv g0
      have g99 := All1.inv0 g1
      subst g99
      obtain ⟨s, rfl, hok⟩ := k0
      exact w_PacketPrints s hok)
theorem packetPrints_holds : Rows.PacketPrintsSaid :=
  OpenClaim.holds_of_wide 4 Try.f4 rfl rfl rfl rfl rfl rfl rfl ⟨rfl, rfl, rfl, rfl, rfl⟩ rfl rfl rfl rfl rfl (by kernel_rfl) Try.func4 (by kernel_rfl)
    (of_decide_eq_true (by kernel_rfl)) (by unfold Func.isWrapper; first | (rw [if_pos (by decide +kernel)]; kernel_rfl) | (rw [if_neg (by decide +kernel)]; exact ⟨rfl, rfl⟩))
    (fun os started H enc _ => packetPrints_lifted os started H enc)

end Go.Proofs.Ytcedoopcjlekcaa
