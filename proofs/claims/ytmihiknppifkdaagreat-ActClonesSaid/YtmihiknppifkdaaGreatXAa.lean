/-
  The given statement, proved from the contract of the law: whatever the arguments, the call returns true and each argument reads as it did. No condition.
-/
import Derived.Test.YtmihiknppifkdaaGreatX1a
import Derived.Test.YtmihiknppifkdaaGreatALa
set_option linter.unusedVariables false
set_option linter.unusedSimpArgs false
set_option maxRecDepth 100000
set_option maxHeartbeats 1000000
namespace Go.Proofs.YtmihiknppifkdaaGreat
open Go Go.SL Go.Proofs
open Go.ChangeShapes Go.WideShapes Go.ChangeAt Go.RowKit

set_option maxRecDepth 100000 in
theorem actClones_lifted (os : Os) (started : os.Started) (H : Type) (enc : TypeId × Value → H) :
    ReturnsInHanded {} Tryz.checked os 5 .any (Rows.actClonesSpec.pre6 enc Tryz.prog Tryz.f5 Rows.actClonesRow.domain false) (Rows.actClonesSpec.post enc Tryz.prog Tryz.f5 false true false false) :=
  law_row (C := Tryz.checked) (tb := 4) (Ss := [isK .i64, isK .i64]) Tryz.own started (by kernel_rfl) Tryz.func5
    (ChangeSpec.witness6 (enc := enc) (C := Tryz.checked) false ⟨#[], #[.int .i64 0, .int .i64 0], []⟩ 8 (by kernel_rfl) (by kernel_rfl) (by kernel_rfl) (by kernel_rfl))
    rfl rfl Tryz.underlying4 (fun ds h => by match ds, h with | [d0, d1], _ => rfl) Tryz.laidOut (by kernel_rfl) (fun W g xs h => by cases h) (fun W => ⟨rv_I64 W, rv_I64 W, trivial⟩)
    (fun xs g0 => by
      obtain ⟨_, _, rfl, k0, g1⟩ := All1.inv g0
      obtain ⟨_, _, rfl, k1, g2⟩ := All1.inv g1
      have g99 := All1.inv0 g2
      subst g99
      obtain ⟨d, rfl, _⟩ := k0
      obtain ⟨e, rfl, _⟩ := k1
      exact w_ActClones d e)
theorem actClones_holds : Rows.ActClonesSaid :=
  OpenClaim.holds_of_wide 5 Tryz.f5 rfl rfl rfl rfl rfl rfl rfl ⟨rfl, rfl, rfl, rfl, rfl⟩ rfl rfl rfl rfl rfl (by kernel_rfl) Tryz.func5 (by kernel_rfl)
    (of_decide_eq_true (by kernel_rfl)) (by unfold Func.isWrapper; first | (rw [if_pos (by decide +kernel)]; kernel_rfl) | (rw [if_neg (by decide +kernel)]; exact ⟨rfl, rfl⟩))
    (fun os started H enc _ => actClones_lifted os started H enc)

end Go.Proofs.YtmihiknppifkdaaGreat
