/-
  The given statement, proved from the contract of the law: whatever the arguments, the call returns true and each argument reads as it did. No condition.
-/
import Derived.Test.YtbimmnnjnlfddaaDoorX10
import Derived.Test.YtbimmnnjnlfddaaDoorX9
import Derived.Test.YtbimmnnjnlfddaaDoorCards
import Derived.Test.YtbimmnnjnlfddaaDoorTie
set_option linter.unusedVariables false
set_option linter.unusedSimpArgs false
set_option maxRecDepth 100000
set_option maxHeartbeats 1000000
namespace Go.Proofs.YtbimmnnjnlfddaaDoor
open Go Go.SL Go.Proofs
open Go.ChangeShapes Go.WideShapes Go.ChangeAt Go.RowKit
theorem met_matchPairs (os : Os) : XL ((laidWorld os #[.slice none 0 0, .slice none 0 0]).forCall (fun _ _ => 0) ⟨#[], #[.slice none 0 0, .slice none 0 0], []⟩).memory #[.slice none 0 0, .slice none 0 0] := by
  unfold XL
  rw [MakeChecks.laidMetH_plain _ _ _ (by kernel_rfl)]
  exact laidMet_of_run' 8 (by kernel_rfl) (by kernel_rfl)

set_option maxRecDepth 100000 in
theorem matchPairs_lifted (os : Os) (started : os.Started) (H : Type) (enc : TypeId × Value → H) :
    ReturnsInHanded {} Tryd.checked os 5 .any (fun w args => (Rows.matchPairsSpec.pre enc Tryd.prog Tryd.f5 Rows.matchPairsRow.domain false w args ∧ XL w args) ∧ sizedMet enc Tryd.prog Tryd.f5 (OpenSpec.ofChange Rows.matchPairsSpec) false w args) (Rows.matchPairsSpec.post enc Tryd.prog Tryd.f5 false true false false) :=
  law_rowX (X := XL) (fun _ _ _ hh h => h.of_heap hh) (C := Tryd.checked) (tb := 4) (Ss := [isTerms, isTerms]) Tryd.own started (by kernel_rfl) Tryd.func5
    (ChangeSpec.witness_at (enc := enc) (C := Tryd.checked) (os := os) (X := XL) false (laidWorld os #[.slice none 0 0, .slice none 0 0]) #[.slice none 0 0, .slice none 0 0] 8 rfl (by kernel_rfl) (by kernel_rfl) (by kernel_rfl) (by kernel_rfl) (by kernel_rfl) (met_matchPairs os))
    rfl rfl Tryd.underlying4 (fun ds h => by match ds, h with | [d0, d1], _ => rfl) Tryd.laidOut (by kernel_rfl) tb_laid (fun W => ⟨rv_Terms W, rv_Terms W, trivial⟩)
    (fun xs g0 => by
      obtain ⟨_, _, rfl, k0, g1⟩ := All1.inv g0
      obtain ⟨_, _, rfl, k1, g2⟩ := All1.inv g1
      have g99 := All1.inv0 g2
      subst g99
      obtain ⟨a, rfl, la, ua⟩ := k0
      obtain ⟨b, rfl, lb, ub⟩ := k1
      exact w_MatchPairs a b la lb ua ub)
theorem matchPairs_holds : Rows.MatchPairsSaid :=
  OpenClaim.holds_of_wide 5 Tryd.f5 rfl rfl rfl rfl rfl rfl rfl ⟨rfl, rfl, rfl, rfl, rfl⟩ rfl rfl rfl rfl rfl (by kernel_rfl) Tryd.func5 (by kernel_rfl)
    (of_decide_eq_true (by kernel_rfl)) (by unfold Func.isWrapper; first | (rw [if_pos (by decide +kernel)]; kernel_rfl) | (rw [if_neg (by decide +kernel)]; exact ⟨rfl, rfl⟩))
    (fun os started H enc _ => matchPairs_lifted os started H enc)
theorem matchPairsCard_holds : Rows.MatchPairsCardSaid :=
  Claim7.holds_tied_plain_at .later [] [.data, .data, .data] true (true, "da22da1a96fee6de9cb0dba5a7b44eeb0f6590f043531ce0a2e313469bde2055") false matchPairs_holds (fun _ h => by cases h) (by kernel_rfl) (fun _ h => by cases h) matchPairs_row_tie rfl ⟨rfl, rfl⟩ (by kernel_rfl) rfl
    (fun f fn hf hfn => by
      obtain rfl : f = 5 := Option.some.inj ((show Tryd.prog.funcNamed "skein/skeinlaw09.MatchPairs" = some 5 by kernel_rfl).symm.trans hf) |>.symm
      obtain rfl : fn = Tryd.f5 := (Option.some.inj (Tryd.func5.symm.trans hfn)).symm
      exact ⟨by kernel_rfl, fun j t ht => by
        have hm : t ∈ ([22, 22] : List TypeId) := by have := Array.mem_of_getElem? ht; simpa using this
        have hall : ([22, 22].all fun u => !Tryd.prog.wantsStandIn u) = true := by kernel_rfl
        exact (show Tryd.prog.wantsStandIn t = false by simpa using List.all_eq_true.1 hall t hm)⟩)
    (by kernel_rfl)

end Go.Proofs.YtbimmnnjnlfddaaDoor
