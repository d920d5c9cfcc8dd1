/-
  The given statement, proved from the contract of the law: whatever the arguments, the call returns true and each argument reads as it did. No condition.
-/
import Derived.Test.YtkhpligflffamaaX4
import Derived.Test.YtkhpligflffamaaX3
set_option linter.unusedVariables false
set_option linter.unusedSimpArgs false
set_option maxRecDepth 100000
set_option maxHeartbeats 1000000
namespace Go.Proofs.Ytkhpligflffamaa
open Go Go.SL Go.Proofs
open Go.ChangeShapes Go.WideShapes Go.ChangeAt Go.RowKit

set_option maxRecDepth 100000 in
theorem genevePorts_lifted (os : Os) (started : os.Started) (H : Type) (enc : TypeId × Value → H) :
    ReturnsInHanded {} Try.checked os 6 .any (Rows.genevePortsSpec.pre6 enc Try.prog Try.f6 Rows.genevePortsRow.domain false) (Rows.genevePortsSpec.post enc Try.prog Try.f6 false true false false) :=
  law_row (C := Try.checked) (tb := 4) (Ss := [isK .i64, isK .i64, isOpts, isK .i64, isK .i64]) Try.own started (by kernel_rfl) Try.func6
    (ChangeSpec.witness6 (enc := enc) (C := Try.checked) false ⟨#[], #[.int .i64 0, .int .i64 0, .slice none 0 0, .int .i64 0, .int .i64 0], []⟩ 8 (by kernel_rfl) (by kernel_rfl) (by kernel_rfl) (by kernel_rfl))
    rfl rfl Try.underlying4 (fun ds h => by match ds, h with | [d0, d1, d2, d3, d4], _ => rfl) Try.laidOut (by kernel_rfl) (fun W g xs h => by cases h) (fun W => ⟨rv_I64 W, rv_I64 W, rv_Opts W, rv_I64 W, rv_I64 W, trivial⟩)
    (fun xs g0 => by
      obtain ⟨_, _, rfl, k0, g1⟩ := All1.inv g0
      obtain ⟨_, _, rfl, k1, g2⟩ := All1.inv g1
      obtain ⟨_, _, rfl, k2, g3⟩ := All1.inv g2
      obtain ⟨_, _, rfl, k3, g4⟩ := All1.inv g3
      obtain ⟨_, _, rfl, k4, g5⟩ := All1.inv g4
      have g99 := All1.inv0 g5
      subst g99
      obtain ⟨x, rfl, hx⟩ := k0
      obtain ⟨y, rfl, hy⟩ := k1
      obtain ⟨l, rfl, hl, _⟩ := k2
      obtain ⟨cl, rfl, _⟩ := k3
      obtain ⟨co, rfl, _⟩ := k4
      exact w_GPorts x y _ _ _ _ _ l cl co (and15 x) (wr16 y) (wr16 x) (Nat.mod_lt _ (by decide)) (by omega) (by omega) (by omega) rfl (by omega))
theorem genevePorts_holds : Rows.GenevePortsSaid :=
  OpenClaim.holds_of_wide 6 Try.f6 rfl rfl rfl rfl rfl rfl rfl ⟨rfl, rfl, rfl, rfl, rfl⟩ rfl rfl rfl rfl rfl (by kernel_rfl) Try.func6 (by kernel_rfl)
    (of_decide_eq_true (by kernel_rfl)) (by unfold Func.isWrapper; first | (rw [if_pos (by decide +kernel)]; kernel_rfl) | (rw [if_neg (by decide +kernel)]; exact ⟨rfl, rfl⟩))
    (fun os started H enc _ => genevePorts_lifted os started H enc)

end Go.Proofs.Ytkhpligflffamaa
