/-
  The given statement, proved from the contract of the law: whatever the arguments, the call returns true and each argument reads as it did. No condition.
-/
import Derived.Test.YtkhpligflffamaaRows
import Derived.Test.YtkhpligflffamaaLQq3
set_option linter.unusedVariables false
set_option linter.unusedSimpArgs false
set_option maxRecDepth 100000
set_option maxHeartbeats 1000000
namespace Go.Proofs.Ytkhpligflffamaa
open Go Go.SL Go.Proofs
open Go.ChangeShapes Go.WideShapes Go.ChangeAt Go.RowKit
theorem Try.own : ownKnob Try.prog.godebug = none := by kernel_rfl
theorem Try.laidOut : laidOutB Try.prog = true := by kernel_rfl
def isBytes (x : AV) : Prop := ∃ l : List UInt8, x = .im 1 (l.map byteAV) ∧ l.length ≤ 140737488351232
theorem rv_By (W : World) : RdV Try.prog W 26 isBytes := RdV.mono' (rv_bytes Try.underlying26 Try.underlying5 (by kernel_rfl) (by kernel_rfl)) fun x ⟨l, h1, h2⟩ => ⟨l, h1, by simpa [reachBytes] using h2⟩

set_option maxRecDepth 100000 in
theorem geneveDecaps_lifted (os : Os) (started : os.Started) (H : Type) (enc : TypeId × Value → H) :
    ReturnsInHanded {} Try.checked os 4 .any (Rows.geneveDecapsSpec.pre6 enc Try.prog Try.f4 Rows.geneveDecapsRow.domain false) (Rows.geneveDecapsSpec.post enc Try.prog Try.f4 false true false false) :=
  law_row (C := Try.checked) (tb := 4) (Ss := [isBytes]) Try.own started (by kernel_rfl) Try.func4
    (ChangeSpec.witness6 (enc := enc) (C := Try.checked) false ⟨#[], #[.slice none 0 0], []⟩ 8 (by kernel_rfl) (by kernel_rfl) (by kernel_rfl) (by kernel_rfl))
    rfl rfl Try.underlying4 (fun ds h => by match ds, h with | [d0], _ => rfl) Try.laidOut (by kernel_rfl) (fun W g xs h => by cases h) (fun W => ⟨rv_By W, trivial⟩)
    (fun xs g0 => by
      obtain ⟨_, _, rfl, k0, g1⟩ := All1.inv g0
      have g99 := All1.inv0 g1
      subst g99
      obtain ⟨l, rfl, hl⟩ := k0
      exact w_GeneveDecaps l (by omega))
theorem geneveDecaps_holds : Rows.GeneveDecapsSaid :=
  OpenClaim.holds_of_wide 4 Try.f4 rfl rfl rfl rfl rfl rfl rfl ⟨rfl, rfl, rfl, rfl, rfl⟩ rfl rfl rfl rfl rfl (by kernel_rfl) Try.func4 (by kernel_rfl)
    (of_decide_eq_true (by kernel_rfl)) (by unfold Func.isWrapper; first | (rw [if_pos (by decide +kernel)]; kernel_rfl) | (rw [if_neg (by decide +kernel)]; exact ⟨rfl, rfl⟩))
    (fun os started H enc _ => geneveDecaps_lifted os started H enc)

end Go.Proofs.Ytkhpligflffamaa
