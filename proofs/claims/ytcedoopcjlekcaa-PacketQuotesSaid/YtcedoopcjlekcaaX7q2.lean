/-
  The given statement, proved from the contract of the law: whatever the arguments, the call returns true and each argument reads as it did. No condition.
-/
import Derived.Test.YtcedoopcjlekcaaX6sq2
set_option linter.unusedVariables false
set_option linter.unusedSimpArgs false
set_option maxRecDepth 100000
set_option maxHeartbeats 1000000
namespace Go.Proofs.Ytcedoopcjlekcaa
open Go Go.SL Go.Proofs
open Go.ChangeShapes Go.WideShapes Go.ChangeAt Go.RowKit
theorem rv_U64 (W : World) : RdV Try.prog W 23 (isK .u64) := rv_int Try.underlying23
theorem rv_U32 (W : World) : RdV Try.prog W 26 (isK .u32) := rv_int Try.underlying26

set_option maxRecDepth 100000 in
theorem packetQuotes_lifted (os : Os) (started : os.Started) (H : Type) (enc : TypeId × Value → H) :
    ReturnsInHanded {} Try.checked os 6 .any (Rows.packetQuotesSpec.pre6 enc Try.prog Try.f6 Rows.packetQuotesRow.domain false) (Rows.packetQuotesSpec.post enc Try.prog Try.f6 false true false false) :=
  law_row (C := Try.checked) (tb := 4) (Ss := [isPkt, isK .u64, isK .u32]) Try.own started (by kernel_rfl) Try.func6
    (ChangeSpec.witness6 (enc := enc) (C := Try.checked) false ⟨#[], #[.agg #[.int .u64 0, .int .u64 0, .bool false, .int .i64 0, .int .i64 0, .bool false, .int .i64 0, .int .u64 0, .int .u32 0, .int .u64 0, .int .u32 0, .bool false, .int .i64 0, .int .i64 0, .int .i64 0, .int .i64 0, .int .i64 0, .int .u32 0, .int .u32 0, .string ⟨#[]⟩, .int .i64 0, .int .i64 0, .int .i64 0, .int .u32 0, .int .i64 0, .int .i64 0, .bool false, .int .u32 0, .int .u32 0, .int .i64 0, .int .i64 0, .int .i64 0, .string ⟨#[]⟩, .string ⟨#[]⟩, .string ⟨#[]⟩, .string ⟨#[]⟩], .int .u64 0, .int .u32 0], []⟩ 8 (by kernel_rfl) (by kernel_rfl) (by kernel_rfl) (by kernel_rfl))
    rfl rfl Try.underlying4 (fun ds h => by match ds, h with | [d0, d1, d2], _ => rfl) Try.laidOut (by kernel_rfl) (fun W g xs h => by cases h) (fun W => ⟨rv_Pkt W, rv_U64 W, rv_U32 W, trivial⟩)
    (fun xs g0 => by
      obtain ⟨_, _, rfl, k0, g1⟩ := All1.inv g0
      obtain ⟨_, _, rfl, k1, g2⟩ := All1.inv g1
      obtain ⟨_, _, rfl, k2, g3⟩ := All1.inv g2
      have g99 := All1.inv0 g3
      subst g99
      obtain ⟨s, rfl, hok⟩ := k0
      obtain ⟨mac, rfl, _⟩ := k1
      obtain ⟨a, rfl, _⟩ := k2
      exact w_PacketQuotes s hok mac a)
theorem packetQuotes_holds : Rows.PacketQuotesSaid :=
  OpenClaim.holds_of_wide 6 Try.f6 rfl rfl rfl rfl rfl rfl rfl ⟨rfl, rfl, rfl, rfl, rfl⟩ rfl rfl rfl rfl rfl (by kernel_rfl) Try.func6 (by kernel_rfl)
    (of_decide_eq_true (by kernel_rfl)) (by unfold Func.isWrapper; first | (rw [if_pos (by decide +kernel)]; kernel_rfl) | (rw [if_neg (by decide +kernel)]; exact ⟨rfl, rfl⟩))
    (fun os started H enc _ => packetQuotes_lifted os started H enc)

end Go.Proofs.Ytcedoopcjlekcaa
