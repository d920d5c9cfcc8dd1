/-
  What must come of every program comes of this one.
-/
import Derived.Test.YtbimmnnjnlfddaaDoorX7
import Derived.Test.YtbimmnnjnlfddaaDoorXJ
set_option linter.unusedVariables false
set_option linter.unusedSimpArgs false
set_option maxRecDepth 100000
set_option maxHeartbeats 1000000
namespace Go.Proofs.YtbimmnnjnlfddaaDoor
open Go Go.SL Go.Proofs
def pA : ByteArray := ⟨#[101, 116, 104, 46, 116, 121, 112, 101, 32, 61, 61, 32, 48, 120, 56, 48, 48]⟩
def pB : ByteArray := ⟨#[116, 112, 46, 100, 115, 116, 32, 61, 61, 32, 48, 120, 53, 48]⟩
def pS : ByteArray := ⟨#[32, 38, 38, 32]⟩
def pL : ByteArray := ⟨#[101, 116, 104, 46, 116, 121, 112, 101, 32, 61, 61, 32, 48, 120, 56, 48, 48, 32, 38, 38, 32, 116, 112, 46, 100, 115, 116, 32, 61, 61, 32, 48, 120, 53, 48]⟩
theorem pJ : joinS [pA, pB] pS = pL := by kernel_rfl
theorem w_lives : Spec0 Tryd.prog 9 [] (B true) :=
  sx0 hm hF 1000 20 [.e 22 7 1 (S pL)] [Spec0 Tryd.prog 31 [.im 1 [S pA, S pB], S pS] (S pL), 14 ≤ 9223372036854775807, 4 ≤ 9223372036854775807, 10 ≤ 9223372036854775807, 17 ≤ 9223372036854775807, 5 ≤ 9223372036854775807, 12 ≤ 9223372036854775807] (by kernel_rfl)
    ⟨by have h := w_join pA [pB] pS (by decide) (by rw [pJ]; decide); rw [pJ] at h; exact h, by decide, by decide, by decide, by decide, by decide, by decide, trivial⟩

end Go.Proofs.YtbimmnnjnlfddaaDoor
