/-
  The given statement, proved from the contract of the law: whatever the arguments, the call returns true and each argument reads as it did. No condition.
-/
import Derived.Test.YtmfagijhhmeeeaaX1b
import Derived.Test.YtmfagijhhmeeeaaCNb
set_option linter.unusedVariables false
set_option linter.unusedSimpArgs false
set_option maxRecDepth 100000
set_option maxHeartbeats 1000000
namespace Go.Proofs.Ytmfagijhhmeeeaa
open Go Go.SL Go.Proofs
open Go.ChangeShapes Go.WideShapes Go.ChangeAt Go.RowKit

set_option maxRecDepth 100000 in
theorem ctNobody_lifted (os : Os) (started : os.Started) (H : Type) (enc : TypeId × Value → H) :
    ReturnsInHanded {} Try.checked os 9 .any (Rows.ctNobodySpec.pre6 enc Try.prog Try.f9 Rows.ctNobodyRow.domain false) (Rows.ctNobodySpec.post enc Try.prog Try.f9 false true false false) :=
  law_row (C := Try.checked) (tb := 4) (Ss := [isK .i64, isStt, isCon]) Try.own started (by kernel_rfl) Try.func9
    (ChangeSpec.witness6 (enc := enc) (C := Try.checked) false ⟨#[], #[.int .i64 0, .agg #[.int .u64 0, .int .u64 0, .bool false, .int .i64 0, .int .i64 0, .bool false, .int .i64 0, .int .u64 0, .int .u32 0, .int .u64 0, .int .u32 0, .bool false, .int .i64 0, .int .i64 0, .int .i64 0, .int .i64 0, .int .i64 0, .int .u32 0, .int .u32 0, .string ⟨#[]⟩, .int .i64 0, .int .i64 0, .int .i64 0, .int .u32 0, .int .i64 0, .int .i64 0, .bool false, .int .u32 0, .int .u32 0, .int .i64 0, .int .i64 0, .int .i64 0, .string ⟨#[]⟩, .string ⟨#[]⟩, .string ⟨#[]⟩, .string ⟨#[]⟩, .int .i64 0, .int .i64 0, .int .i64 0, .int .i64 0, .int .u32 0, .int .u32 0, .int .u32 0, .int .u32 0, .int .i64 0, .int .u32 0, .int .u32 0, .int .i64 0, .int .i64 0], .agg #[.int .i64 0, .int .i64 0, .int .u32 0, .int .u32 0, .int .i64 0, .int .i64 0, .int .i64 0, .int .u32 0, .int .u32 0, .int .i64 0, .int .i64 0, .bool false, .int .i64 0]], []⟩ 8 (by kernel_rfl) (by kernel_rfl) (by kernel_rfl) (by kernel_rfl))
    rfl rfl Try.underlying4 (fun ds h => by match ds, h with | [d0, d1, d2], _ => rfl) Try.laidOut (by kernel_rfl) (fun W g xs h => by cases h) (fun W => ⟨rv_I64 W, rv_Stt W, rv_Con W, trivial⟩)
    (fun xs g0 => by
      obtain ⟨_, _, rfl, k0, g1⟩ := All1.inv g0
      obtain ⟨_, _, rfl, k1, g2⟩ := All1.inv g1
      obtain ⟨_, _, rfl, k2, g3⟩ := All1.inv g2
      have g99 := All1.inv0 g3
      subst g99
      obtain ⟨z, rfl, _⟩ := k0
      obtain ⟨s, rfl, _⟩ := k1
      obtain ⟨c, rfl, _⟩ := k2
      exact w_CtNobody z s c)
theorem ctNobody_holds : Rows.CtNobodySaid :=
  OpenClaim.holds_of_wide 9 Try.f9 rfl rfl rfl rfl rfl rfl rfl ⟨rfl, rfl, rfl, rfl, rfl⟩ rfl rfl rfl rfl rfl (by kernel_rfl) Try.func9 (by kernel_rfl)
    (of_decide_eq_true (by kernel_rfl)) (by unfold Func.isWrapper; first | (rw [if_pos (by decide +kernel)]; kernel_rfl) | (rw [if_neg (by decide +kernel)]; exact ⟨rfl, rfl⟩))
    (fun os started H enc _ => ctNobody_lifted os started H enc)

end Go.Proofs.Ytmfagijhhmeeeaa
