/-
  The given statement, proved from the contract of the law: whatever the arguments, the call returns true and each argument reads as it did. No condition.
-/
import Derived.Test.YtbimmnnjnlfddaaDoorX10
import Derived.Test.YtbimmnnjnlfddaaDoorX13
import Derived.Test.YtbimmnnjnlfddaaDoorCards
import Derived.Test.YtbimmnnjnlfddaaDoorTie
set_option linter.unusedVariables false
set_option linter.unusedSimpArgs false
set_option maxRecDepth 100000
set_option maxHeartbeats 1000000
namespace Go.Proofs.YtbimmnnjnlfddaaDoor
open Go Go.SL Go.Proofs
open Go.ChangeShapes Go.WideShapes Go.ChangeAt Go.RowKit
theorem met_matchOrder (os : Os) : XL ((laidWorld os #[.slice none 0 0, .slice none 0 0, .slice none 0 0]).forCall (fun _ _ => 0) ⟨#[], #[.slice none 0 0, .slice none 0 0, .slice none 0 0], []⟩).memory #[.slice none 0 0, .slice none 0 0, .slice none 0 0] := by
  unfold XL
  rw [MakeChecks.laidMetH_plain _ _ _ (by kernel_rfl)]
  exact laidMet_of_run' 8 (by kernel_rfl) (by kernel_rfl)

set_option maxRecDepth 100000 in
theorem matchOrder_lifted (os : Os) (started : os.Started) (H : Type) (enc : TypeId × Value → H) :
    ReturnsInHanded {} Tryd.checked os 4 .any (fun w args => (Rows.matchOrderSpec.pre enc Tryd.prog Tryd.f4 Rows.matchOrderRow.domain false w args ∧ XL w args) ∧ sizedMet enc Tryd.prog Tryd.f4 (OpenSpec.ofChange Rows.matchOrderSpec) false w args) (Rows.matchOrderSpec.post enc Tryd.prog Tryd.f4 false true false false) :=
  law_rowX (X := XL) (fun _ _ _ hh h => h.of_heap hh) (C := Tryd.checked) (tb := 4) (Ss := [isTerms, isTerms, isTerms]) Tryd.own started (by kernel_rfl) Tryd.func4
    (ChangeSpec.witness_at (enc := enc) (C := Tryd.checked) (os := os) (X := XL) false (laidWorld os #[.slice none 0 0, .slice none 0 0, .slice none 0 0]) #[.slice none 0 0, .slice none 0 0, .slice none 0 0] 8 rfl (by kernel_rfl) (by kernel_rfl) (by kernel_rfl) (by kernel_rfl) (by kernel_rfl) (met_matchOrder os))
    rfl rfl Tryd.underlying4 (fun ds h => by match ds, h with | [d0, d1, d2], _ => rfl) Tryd.laidOut (by kernel_rfl) tb_laid (fun W => ⟨rv_Terms W, rv_Terms W, rv_Terms W, trivial⟩)
    (fun xs g0 => by
      obtain ⟨_, _, rfl, k0, g1⟩ := All1.inv g0
      obtain ⟨_, _, rfl, k1, g2⟩ := All1.inv g1
      obtain ⟨_, _, rfl, k2, g3⟩ := All1.inv g2
      have g99 := All1.inv0 g3
      subst g99
      obtain ⟨a, rfl, la, ua⟩ := k0
      obtain ⟨b, rfl, lb, ub⟩ := k1
      obtain ⟨c, rfl, lc, uc⟩ := k2
      exact w_MatchOrder a b c la lb lc ua ub uc)
theorem matchOrder_holds : Rows.MatchOrderSaid :=
  OpenClaim.holds_of_wide 4 Tryd.f4 rfl rfl rfl rfl rfl rfl rfl ⟨rfl, rfl, rfl, rfl, rfl⟩ rfl rfl rfl rfl rfl (by kernel_rfl) Tryd.func4 (by kernel_rfl)
    (of_decide_eq_true (by kernel_rfl)) (by unfold Func.isWrapper; first | (rw [if_pos (by decide +kernel)]; kernel_rfl) | (rw [if_neg (by decide +kernel)]; exact ⟨rfl, rfl⟩))
    (fun os started H enc _ => matchOrder_lifted os started H enc)
theorem matchOrderCard_holds : Rows.MatchOrderCardSaid :=
  Claim7.holds_tied_plain_at .later [] [.data, .data, .data] true (true, "da22da1a96fee6de9cb0dba5a7b44eeb0f6590f043531ce0a2e313469bde2055") false matchOrder_holds (fun _ h => by cases h) (by kernel_rfl) (fun _ h => by cases h) matchOrder_row_tie rfl ⟨rfl, rfl⟩ (by kernel_rfl) rfl
    (fun f fn hf hfn => by
      obtain rfl : f = 4 := Option.some.inj ((show Tryd.prog.funcNamed "skein/skeinlaw09.MatchOrder" = some 4 by kernel_rfl).symm.trans hf) |>.symm
      obtain rfl : fn = Tryd.f4 := (Option.some.inj (Tryd.func4.symm.trans hfn)).symm
      exact ⟨by kernel_rfl, fun j t ht => by
        have hm : t ∈ ([22, 22, 22] : List TypeId) := by have := Array.mem_of_getElem? ht; simpa using this
        have hall : ([22, 22, 22].all fun u => !Tryd.prog.wantsStandIn u) = true := by kernel_rfl
        exact (show Tryd.prog.wantsStandIn t = false by simpa using List.all_eq_true.1 hall t hm)⟩)
    (by kernel_rfl)

end Go.Proofs.YtbimmnnjnlfddaaDoor
