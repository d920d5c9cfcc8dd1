/-
  The given statement, proved from the contract of the law: whatever the arguments, the call returns true and each argument reads as it did. No condition.
-/
import Derived.Test.YtlfedjannhceaaaXDc
import Derived.Test.YtlfedjannhceaaaAT2c
set_option linter.unusedVariables false
set_option linter.unusedSimpArgs false
set_option maxRecDepth 100000
set_option maxHeartbeats 1000000
namespace Go.Proofs.Ytlfedjannhceaaa
open Go Go.SL Go.Proofs
open Go.ChangeShapes Go.WideShapes Go.ChangeAt Go.RowKit
theorem rd_KL (W : World) : Rd Try.prog W 22 fun xs => ∃ l : List Key, xs = [KL l] ∧ l.length ≤ 5864062014634 := by
  refine Rd.mono (rd_slice (k := 2) Try.underlying22 (by kernel_rfl) (by decide) (rd_leaves 60 37 [.str, .int .i64] (by kernel_rfl))) ?_
  rintro x ⟨rows, rfl, h1, h2⟩
  obtain ⟨l, h3, h4, h5⟩ := keys_of h2
  refine ⟨l, by rw [h3], ?_⟩
  have : Try.prog.bytesOf 37 = 24 := by kernel_rfl
  rw [this] at h1
  simp only [reachBytes] at h1
  omega
def isKeys (x : AV) : Prop := ∃ a b c d : List Key, x = .agg [KL a, KL b, KL c, KL d] ∧ a.length ≤ 5864062014634 ∧ b.length ≤ 5864062014634 ∧ c.length ≤ 5864062014634 ∧ d.length ≤ 5864062014634
theorem rv_Keys (W : World) : RdV Try.prog W 24 isKeys := by
  refine RdV.mono' (rv_struct Try.underlying24 (by kernel_rfl) (RdF.cons (rd_KL W) (RdF.cons (rd_KL W) (RdF.cons (rd_KL W) (RdF.cons (rd_KL W) RdF.nil))))) ?_
  rintro x ⟨parts, rfl, g0⟩
  obtain ⟨_, _, rfl, ⟨a, rfl, ka⟩, g1⟩ := All2.inv g0
  obtain ⟨_, _, rfl, ⟨b, rfl, kb⟩, g2⟩ := All2.inv g1
  obtain ⟨_, _, rfl, ⟨c, rfl, kc⟩, g3⟩ := All2.inv g2
  obtain ⟨_, _, rfl, ⟨d, rfl, kd⟩, g4⟩ := All2.inv g3
  have h0 := all2_nil g4
  subst h0
  exact ⟨a, b, c, d, rfl, ka, kb, kc, kd⟩

set_option maxRecDepth 100000 in
theorem keysStay_lifted (os : Os) (started : os.Started) (H : Type) (enc : TypeId × Value → H) :
    ReturnsInHanded {} Try.checked os 4 .any (Rows.keysStaySpec.pre6 enc Try.prog Try.f4 Rows.keysStayRow.domain false) (Rows.keysStaySpec.post enc Try.prog Try.f4 false true false false) :=
  law_row (C := Try.checked) (tb := 4) (Ss := [isKeys, isRws, isRws]) Try.own started (by kernel_rfl) Try.func4
    (ChangeSpec.witness6 (enc := enc) (C := Try.checked) false ⟨#[], #[.agg #[.slice none 0 0, .slice none 0 0, .slice none 0 0, .slice none 0 0], .slice none 0 0, .slice none 0 0], []⟩ 8 (by kernel_rfl) (by kernel_rfl) (by kernel_rfl) (by kernel_rfl))
    rfl rfl Try.underlying4 (fun ds h => by match ds, h with | [d0, d1, d2], _ => rfl) Try.laidOut (by kernel_rfl) (fun W g xs h => by cases h) (fun W => ⟨rv_Keys W, rv_Rws W, rv_Rws W, trivial⟩)
    (fun xs g0 => by
      obtain ⟨_, _, rfl, k0, g1⟩ := All1.inv g0
      obtain ⟨_, _, rfl, k1, g2⟩ := All1.inv g1
      obtain ⟨_, _, rfl, k2, g3⟩ := All1.inv g2
      have g99 := All1.inv0 g3
      subst g99
      obtain ⟨a, b, c, d, rfl, ha, hb, hc, hd⟩ := k0
      obtain ⟨r1, rfl, h1⟩ := k1
      obtain ⟨r2, rfl, h2⟩ := k2
      exact w_KeysStay a b c d r1 r2 (by omega) (by omega) (by omega) (by omega) h1 h2)
theorem keysStay_holds : Rows.KeysStaySaid :=
  OpenClaim.holds_of_wide 4 Try.f4 rfl rfl rfl rfl rfl rfl rfl ⟨rfl, rfl, rfl, rfl, rfl⟩ rfl rfl rfl rfl rfl (by kernel_rfl) Try.func4 (by kernel_rfl)
    (of_decide_eq_true (by kernel_rfl)) (by unfold Func.isWrapper; first | (rw [if_pos (by decide +kernel)]; kernel_rfl) | (rw [if_neg (by decide +kernel)]; exact ⟨rfl, rfl⟩))
    (fun os started H enc _ => keysStay_lifted os started H enc)

end Go.Proofs.Ytlfedjannhceaaa
