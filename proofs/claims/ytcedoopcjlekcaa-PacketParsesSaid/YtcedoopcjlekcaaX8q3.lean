/-
  The given statement, proved from the contract of the law: whatever the arguments, the call returns true and each argument reads as it did. No condition.
-/
import Derived.Test.YtcedoopcjlekcaaX1q3
import Derived.Test.YtcedoopcjlekcaaX2q3
import Derived.Test.YtcedoopcjlekcaaN1q3
set_option linter.unusedVariables false
set_option linter.unusedSimpArgs false
set_option maxRecDepth 100000
set_option maxHeartbeats 1000000
namespace Go.Proofs.Ytcedoopcjlekcaa
open Go Go.SL Go.Proofs
open Go.ChangeShapes Go.WideShapes Go.ChangeAt Go.RowKit
theorem rv_By (W : World) : RdV Try.prog W 22 isBytes := RdV.mono' (rv_bytes Try.underlying22 Try.underlying5 (by kernel_rfl) (by kernel_rfl)) fun x ⟨l, h1, h2⟩ => ⟨l, h1, by simpa [reachBytes] using h2⟩
theorem w_PacketParses (l : List UInt8) (hl : l.length ≤ 200000000000000) : Spec0 Try.prog 3 [.im 1 (l.map byteAV)] (B true) := by
  rcases parse_both l hl with ⟨⟨d, s, tg, tag, ty, ia, ao, sha, spa, tha, tpa, ii, tos, id, frag, ttl, proto, src, dst, opt, k, ty4, co, re, sp, dp, ns, se, ac, fl, wi, ur, op, da, body, pad⟩, c, h1, h2, h3, h4, hn, h9⟩ | ⟨e, he, h1, h2⟩
  · exact w_PPs_ok d s tag tg ao sha spa tha tpa tos id frag ttl proto src dst opt k ty4 co re sp dp se ac fl wi ur ns op da ia ii body pad ty l c h9 hn.1 h1 h2 w_lives h3 h4 hn
  · exact w_PPs_bad l hl e he h1 h2 w_lives

set_option maxRecDepth 100000 in
theorem packetParses_lifted (os : Os) (started : os.Started) (H : Type) (enc : TypeId × Value → H) :
    ReturnsInHanded {} Try.checked os 3 .any (Rows.packetParsesSpec.pre6 enc Try.prog Try.f3 Rows.packetParsesRow.domain false) (Rows.packetParsesSpec.post enc Try.prog Try.f3 false true false false) :=
  law_row (C := Try.checked) (tb := 4) (Ss := [isBytes]) Try.own started (by kernel_rfl) Try.func3
    (ChangeSpec.witness6 (enc := enc) (C := Try.checked) false ⟨#[], #[.slice none 0 0], []⟩ 8 (by kernel_rfl) (by kernel_rfl) (by kernel_rfl) (by kernel_rfl))
    rfl rfl Try.underlying4 (fun ds h => by match ds, h with | [d0], _ => rfl) Try.laidOut (by kernel_rfl) (fun W g xs h => by cases h) (fun W => ⟨rv_By W, trivial⟩)
    (fun xs g0 => by
      obtain ⟨_, _, rfl, k0, g1⟩ := All1.inv g0
      have g99 := All1.inv0 g1
      subst g99
      obtain ⟨l, rfl, hl⟩ := k0
      exact w_PacketParses l (by omega))
theorem packetParses_holds : Rows.PacketParsesSaid :=
  OpenClaim.holds_of_wide 3 Try.f3 rfl rfl rfl rfl rfl rfl rfl ⟨rfl, rfl, rfl, rfl, rfl⟩ rfl rfl rfl rfl rfl (by kernel_rfl) Try.func3 (by kernel_rfl)
    (of_decide_eq_true (by kernel_rfl)) (by unfold Func.isWrapper; first | (rw [if_pos (by decide +kernel)]; kernel_rfl) | (rw [if_neg (by decide +kernel)]; exact ⟨rfl, rfl⟩))
    (fun os started H enc _ => packetParses_lifted os started H enc)

end Go.Proofs.Ytcedoopcjlekcaa
