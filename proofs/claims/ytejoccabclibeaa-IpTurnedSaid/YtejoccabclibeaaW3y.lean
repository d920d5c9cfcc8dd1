/-
  The given statement, proved from the contract of the law: whatever the arguments, the call returns true and each argument reads as it did. No condition.
-/
import Derived.Test.YtejoccabclibeaaW3r
import Derived.Test.YtejoccabclibeaaW3p
set_option linter.unusedVariables false
set_option linter.unusedSimpArgs false
set_option maxRecDepth 100000
set_option maxHeartbeats 1000000
namespace Go.Proofs.Ytejoccabclibeaa
open Go Go.SL Go.Proofs
open Go.ChangeShapes Go.WideShapes Go.ChangeAt Go.RowKit

set_option maxRecDepth 100000 in
theorem ipTurned_lifted (os : Os) (started : os.Started) (H : Type) (enc : TypeId × Value → H) :
    ReturnsInHanded {} Try.checked os 7 .any (Rows.ipTurnedSpec.pre6 enc Try.prog Try.f7 Rows.ipTurnedRow.domain false) (Rows.ipTurnedSpec.post enc Try.prog Try.f7 false true false false) :=
  law_row (C := Try.checked) (tb := 4) (Ss := [isIp, isInt]) Try.own started (by kernel_rfl) Try.func7
    (ChangeSpec.witness6 (enc := enc) (C := Try.checked) false ⟨#[], #[.agg #[.int .i64 0, .int .i64 0, .int .i64 0, .int .i64 0, .int .i64 0, .int .u32 0, .int .u32 0, .string ⟨#[]⟩], .int .i64 0], []⟩ 8 (by kernel_rfl) (by kernel_rfl) (by kernel_rfl) (by kernel_rfl))
    rfl rfl Try.underlying4 (fun ds h => by match ds, h with | [d0, d1], _ => rfl) Try.laidOut (by kernel_rfl) (fun W => ⟨rv_Ip W, rv_Int W, trivial⟩)
    (fun xs g0 => by
      obtain ⟨_, _, rfl, k0, g1⟩ := All1.inv g0
      obtain ⟨_, _, rfl, k1, g2⟩ := All1.inv g1
      have g99 := All1.inv0 g2
      subst g99
      obtain ⟨a0, a1, a2, a3, a4, a5, a6, a7, rfl, h5, h6, h7⟩ := k0
      obtain ⟨n, rfl, h8⟩ := k1
      exact w_IpTurned h7 h8 h5 h6)
theorem ipTurned_holds : Rows.IpTurnedSaid :=
  OpenClaim.holds_of_wide 7 Try.f7 rfl rfl rfl rfl rfl rfl rfl ⟨rfl, rfl, rfl, rfl, rfl⟩ rfl rfl rfl rfl rfl (by kernel_rfl) Try.func7 (by kernel_rfl)
    (of_decide_eq_true (by kernel_rfl)) (by unfold Func.isWrapper; first | (rw [if_pos (by decide +kernel)]; kernel_rfl) | (rw [if_neg (by decide +kernel)]; exact ⟨rfl, rfl⟩))
    (fun os started H enc _ => ipTurned_lifted os started H enc)

end Go.Proofs.Ytejoccabclibeaa
