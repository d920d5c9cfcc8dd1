/-
  The given statement, proved from the contract of the law: whatever the arguments, the call returns true and each argument reads as it did. No condition.
-/
import Derived.Test.YthppdlmildfnnaaGreatDoorXAN1
import Derived.Test.YthppdlmildfnnaaGreatDoorCards
import Derived.Test.YthppdlmildfnnaaGreatDoorTie
set_option linter.unusedVariables false
set_option linter.unusedSimpArgs false
set_option maxRecDepth 100000
set_option maxHeartbeats 1000000
namespace Go.Proofs.YthppdlmildfnnaaGreatDoor
open Go Go.SL Go.Proofs
open Go.ChangeShapes Go.WideShapes Go.ChangeAt Go.RowKit
theorem met_normRanges (os : Os) : XL ((laidWorld os #[.int .i64 0, .int .u64 0, .int .u64 0, .int .u64 0]).forCall (fun _ _ => 0) ⟨#[], #[.int .i64 0, .int .u64 0, .int .u64 0, .int .u64 0], []⟩).memory #[.int .i64 0, .int .u64 0, .int .u64 0, .int .u64 0] := by
  unfold XL
  rw [MakeChecks.laidMetH_plain _ _ _ (by kernel_rfl)]
  exact laidMet_of_run' 8 (by kernel_rfl) (by kernel_rfl)

set_option maxRecDepth 100000 in
theorem normRanges_lifted (os : Os) (started : os.Started) (H : Type) (enc : TypeId × Value → H) :
    ReturnsInHanded {} Tryz.checked os 3 .any (fun w args => (Rows.normRangesSpec.pre enc Tryz.prog Tryz.f3 Rows.normRangesRow.domain false w args ∧ XL w args) ∧ sizedMet enc Tryz.prog Tryz.f3 (OpenSpec.ofChange Rows.normRangesSpec) false w args) (Rows.normRangesSpec.post enc Tryz.prog Tryz.f3 false true false false) :=
  law_rowX (X := XL) (fun _ _ _ hh h => h.of_heap hh) (C := Tryz.checked) (tb := 4) (Ss := [isK .i64, isK .u64, isK .u64, isK .u64]) Tryz.own started (by kernel_rfl) Tryz.func3
    (ChangeSpec.witness_at (enc := enc) (C := Tryz.checked) (os := os) (X := XL) false (laidWorld os #[.int .i64 0, .int .u64 0, .int .u64 0, .int .u64 0]) #[.int .i64 0, .int .u64 0, .int .u64 0, .int .u64 0] 8 rfl (by kernel_rfl) (by kernel_rfl) (by kernel_rfl) (by kernel_rfl) (by kernel_rfl) (met_normRanges os))
    rfl rfl Tryz.underlying4 (fun ds h => by match ds, h with | [d0, d1, d2, d3], _ => rfl) Tryz.laidOut (by kernel_rfl) tb_laid (fun W => ⟨rv_I64 W, rv_U64 W, rv_U64 W, rv_U64 W, trivial⟩)
    (fun xs g0 => by
      obtain ⟨_, _, rfl, k0, g1⟩ := All1.inv g0
      obtain ⟨_, _, rfl, k1, g2⟩ := All1.inv g1
      obtain ⟨_, _, rfl, k2, g3⟩ := All1.inv g2
      obtain ⟨_, _, rfl, k3, g4⟩ := All1.inv g3
      have g99 := All1.inv0 g4
      subst g99
      obtain ⟨f, rfl, f1, f2⟩ := k0
      obtain ⟨a, rfl, a1, a2⟩ := k1
      obtain ⟨t, rfl, t1, t2⟩ := k2
      obtain ⟨x, rfl, x1, x2⟩ := k3
      exact w_NormRanges f a t x f1 f2 a1 t1 (by have h : IntKind.u64.max = 18446744073709551615 := rfl; rw [h] at t2; omega) x1 (by have h : IntKind.u64.max = 18446744073709551615 := rfl; rw [h] at x2; omega))
theorem normRanges_holds : Rows.NormRangesSaid :=
  OpenClaim.holds_of_wide 3 Tryz.f3 rfl rfl rfl rfl rfl rfl rfl ⟨rfl, rfl, rfl, rfl, rfl⟩ rfl rfl rfl rfl rfl (by kernel_rfl) Tryz.func3 (by kernel_rfl)
    (of_decide_eq_true (by kernel_rfl)) (by unfold Func.isWrapper; first | (rw [if_pos (by decide +kernel)]; kernel_rfl) | (rw [if_neg (by decide +kernel)]; exact ⟨rfl, rfl⟩))
    (fun os started H enc _ => normRanges_lifted os started H enc)
theorem normRangesCard_holds : Rows.NormRangesCardSaid :=
  Claim7.holds_tied_plain_at .later [] [.data, .data, .data] true (true, "7ee0f81c07005da98e96e42e034dab2db21c5eb150521dd6ba2e38f5703c51a0") false normRanges_holds (fun _ h => by cases h) (by kernel_rfl) (fun _ h => by cases h) normRanges_row_tie rfl ⟨rfl, rfl⟩ (by kernel_rfl) rfl
    (fun f fn hf hfn => by
      obtain rfl : f = 3 := Option.some.inj ((show Tryz.prog.funcNamed "skein/skeinlaw16.NormRanges" = some 3 by kernel_rfl).symm.trans hf) |>.symm
      obtain rfl : fn = Tryz.f3 := (Option.some.inj (Tryz.func3.symm.trans hfn)).symm
      exact ⟨by kernel_rfl, fun j t ht => by
        have hm : t ∈ ([3, 22, 22, 22] : List TypeId) := by have := Array.mem_of_getElem? ht; simpa using this
        have hall : ([3, 22, 22, 22].all fun u => !Tryz.prog.wantsStandIn u) = true := by kernel_rfl
        exact (show Tryz.prog.wantsStandIn t = false by simpa using List.all_eq_true.1 hall t hm)⟩)
    (by kernel_rfl)

end Go.Proofs.YthppdlmildfnnaaGreatDoor
