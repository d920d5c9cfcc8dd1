/-
  Contracts of functions of chapter 03: each theorem says what a call of one function answers, for all arguments that its hypotheses let in.
-/
import Derived.Test.YtejoccabclibeaaW3g
set_option linter.unusedVariables false
set_option linter.unusedSimpArgs false
set_option maxRecDepth 100000
set_option maxHeartbeats 1000000
namespace Go.Proofs.Ytejoccabclibeaa
open Go Go.SL Go.Proofs
theorem w_DecG {l : List UInt8} (hl : l.length ≤ 200000000000000) (h : decE l = 0) : Spec0 Try.prog 18 [.im 1 (l.map byteAV)] (.tup [.agg (decAV l), .sc (.int .i64 ((hdS l : Nat) : Int)), .sc (.int .i64 ((be (sub l 2 2) : Nat) : Int)), .sc (.int .i64 0)]) := by
  refine Spec.body Try.func18 rfl (Nat.le_of_ble_eq_true rfl) ?_
  obtain ⟨h0, hA, hB, hC⟩ := decE_ok h
  simp only [sub] at hA hB hC
  obtain ⟨q1, q2, q3⟩ := hd_ok h0
  have e2 := be2 (List.drop 2 l)
  have e4 := be2 (List.drop 4 l)
  have e6 := be2 (List.drop 6 l)
  have e12 := be4 (List.drop 12 l)
  have e16 := be4 (List.drop 16 l)
  have y0 := byte_le (l.getD 0 0)
  have y1 := byte_le (l.getD 1 0)
  have y8 := byte_le (l.getD 8 0)
  have y9 := byte_le (l.getD 9 0)
  refine W.seq ?_
  refine W.region ?_
  refine WO.opA rfl rfl rfl rfl (al_alloc Try.zeroValue31) rfl rfl ?_
  refine WO.put 2 (.ptr 0 0) rfl ?_
  refine WO.op rfl rfl rfl rfl (as_sc rfl) ?_
  refine WO.op rfl rfl rfl rfl (as_sc rfl) ?_
  refine WO.op rfl rfl rfl rfl (as_sc rfl) ?_
  refine WO.nil ?_
  refine W.scopeN 3 (fun _ _ h => (by exact h.elim (fun h => nomatch h))) ?_
  refine W.seq ?_
  refine W.to [(0, _), (2, _), (3, _), (4, _), (5, _)] [_] rfl ⟨(by exact sh_im rfl), (by exact sh_ptr rfl), (by exact sh_sc rfl), (by exact sh_sc rfl), (by exact sh_sc rfl), trivial⟩ ?_
  refine W.region ?_
  refine WO.op rfl rfl rfl rfl (as_sc rfl) ?_
  refine WO.nil ?_
  refine W.seq ?_
  refine W.to [(0, _), (2, _), (3, _), (4, _), (5, _), (6, _)] [_] rfl ⟨(by exact sh_im rfl), (by exact sh_ptr rfl), (by exact sh_sc rfl), (by exact sh_sc rfl), (by exact sh_sc rfl), (by exact sh_sc rfl), trivial⟩ ?_
  refine W.region ?_
  refine WO.op rfl rfl rfl rfl (mv_im rfl) ?_
  refine WO.op rfl rfl rfl rfl (step_pure Try.call20 rfl (by (repeat (first | exact Nl.nil | refine Nl.keep (by exact noOwn_im) ?_))) (w_headG hl h0) (by repeat (first | with_reducible refine noOwn_tup ?_ | with_reducible exact noOwnL_nil | with_reducible refine noOwnL_cons ?_ ?_ | rfl))) ?_
  refine WO.op rfl rfl rfl rfl (mv_tup rfl) ?_
  refine WO.op rfl rfl rfl rfl (step_extract rfl rfl) ?_
  refine WO.op rfl rfl rfl rfl (step_extract rfl rfl) ?_
  refine WO.op rfl rfl rfl rfl (as_sc rfl) ?_
  refine WO.op rfl rfl rfl rfl (as_sc rfl) ?_
  refine WO.nil ?_
  refine W.seq ?_
  refine W.seq ?_
  refine W.to [(0, _), (2, _), (3, _), (4, _), (5, _), (6, _), (7, _), (8, _)] [_] rfl ⟨(by exact sh_im rfl), (by exact sh_ptr rfl), (by exact sh_sc rfl), (by exact sh_sc rfl), (by exact sh_sc rfl), (by exact sh_sc rfl), (by exact sh_sc rfl), (by exact sh_sc rfl), trivial⟩ ?_
  refine W.region ?_
  refine WO.op rfl rfl rfl rfl (mv_sc rfl) ?_
  refine WO.op rfl rfl rfl rfl (step_int2 rfl rfl rfl) ?_
  refine WO.nil ?_
  refine W.cond rfl (fun h1 => ?_) (fun h1 => ?_)
  · try simp only [decide_eq_true_eq, decide_eq_false_iff_not, Bool.not_eq_true', Bool.not_eq_false', beq_iff_eq, bne_iff_ne, beq_eq_false_iff_ne, bne_eq_false_iff_eq, gt_iff_lt, ge_iff_le, Int.not_lt, Int.not_le] at h1
    exact False.elim (by omega)
  · try simp only [decide_eq_true_eq, decide_eq_false_iff_not, Bool.not_eq_true', Bool.not_eq_false', beq_iff_eq, bne_iff_ne, beq_eq_false_iff_ne, bne_eq_false_iff_eq, gt_iff_lt, ge_iff_le, Int.not_lt, Int.not_le] at h1
    refine W.skip ?_
    refine W.seq ?_
    refine W.to [(0, _), (2, _), (3, _), (4, _), (5, _), (6, _), (7, _), (8, _), (15, _)] [_] rfl ⟨(by exact sh_im rfl), (by exact sh_ptr rfl), (by exact sh_sc rfl), (by exact sh_sc rfl), (by exact sh_sc rfl), (by exact sh_sc rfl), (by exact sh_sc rfl), (by exact sh_sc rfl), (by exact sh_sc rfl), trivial⟩ ?_
    refine W.region ?_
    refine WO.op rfl rfl rfl rfl (mv_im rfl) ?_
    refine WO.op rfl rfl rfl rfl (step_subB (m := 2) Try.runUnderlying22 Try.sizeOf5 rfl (Bd.some (v := 2) rfl (by (exact rfl))) (Bd.some (v := 4) rfl (by (exact rfl))) (by omega) (by omega) (by exact Nat.sub_zero _) rfl) ?_
    refine WO.op rfl rfl rfl rfl (step_pure Try.call21 rfl (by (repeat (first | exact Nl.nil | refine Nl.keep (by exact noOwn_im) ?_))) (w_get2) (by repeat (rfl))) ?_
    refine WO.op rfl rfl rfl rfl (step_convR Try.runUnderlying29 Try.runUnderlying3 rfl (by exact convN (by (simp only [cap]; omega)))) ?_
    refine WO.op rfl rfl rfl rfl (as_sc rfl) ?_
    refine WO.nil ?_
    refine W.seq ?_
    refine W.block ?_
    refine W.seq ?_
    refine W.to [(0, _), (2, _), (3, _), (4, _), (5, _), (6, _), (7, _), (8, _), (15, _)] [_] rfl ⟨(by exact sh_im rfl), (by exact sh_ptr rfl), (by exact sh_sc rfl), (by exact sh_sc rfl), (by exact sh_sc rfl), (by exact sh_sc rfl), (by exact sh_sc rfl), (by exact sh_sc rfl), (by exact sh_sc rfl), trivial⟩ ?_
    refine W.region ?_
    refine WO.op rfl rfl rfl rfl (mv_im rfl) ?_
    refine WO.op rfl rfl rfl rfl (step_lenB Try.runUnderlying22 rfl) ?_
    refine WO.op rfl rfl rfl rfl (mv_sc rfl) ?_
    refine WO.op rfl rfl rfl rfl (step_int2 rfl rfl rfl) ?_
    refine WO.op rfl rfl rfl rfl (as_sc rfl) ?_
    refine WO.nil ?_
    refine W.cond rfl (fun h2 => ?_) (fun h2 => ?_)
    · try simp only [decide_eq_true_eq, decide_eq_false_iff_not, Bool.not_eq_true', Bool.not_eq_false', beq_iff_eq, bne_iff_ne, beq_eq_false_iff_ne, bne_eq_false_iff_eq, gt_iff_lt, ge_iff_le, Int.not_lt, Int.not_le] at h2
      exact False.elim (by omega)
    · try simp only [decide_eq_true_eq, decide_eq_false_iff_not, Bool.not_eq_true', Bool.not_eq_false', beq_iff_eq, bne_iff_ne, beq_eq_false_iff_ne, bne_eq_false_iff_eq, gt_iff_lt, ge_iff_le, Int.not_lt, Int.not_le] at h2
      refine W.seq ?_
      refine W.to [(0, _), (2, _), (3, _), (4, _), (5, _), (6, _), (7, _), (8, _), (15, _), (20, _)] [_] rfl ⟨(by exact sh_im rfl), (by exact sh_ptr rfl), (by exact sh_sc rfl), (by exact sh_sc rfl), (by exact sh_sc rfl), (by exact sh_sc rfl), (by exact sh_sc rfl), (by exact sh_sc rfl), (by exact sh_sc rfl), (by exact sh_sc rfl), trivial⟩ ?_
      refine W.region ?_
      refine WO.op rfl rfl rfl rfl (mv_sc rfl) ?_
      refine WO.op rfl rfl rfl rfl (mv_sc rfl) ?_
      refine WO.op rfl rfl rfl rfl (step_int2 rfl rfl rfl) ?_
      refine WO.op rfl rfl rfl rfl (as_sc rfl) ?_
      refine WO.nil ?_
      refine W.cond rfl (fun h3 => ?_) (fun h3 => ?_)
      · try simp only [decide_eq_true_eq, decide_eq_false_iff_not, Bool.not_eq_true', Bool.not_eq_false', beq_iff_eq, bne_iff_ne, beq_eq_false_iff_ne, bne_eq_false_iff_eq, gt_iff_lt, ge_iff_le, Int.not_lt, Int.not_le] at h3
        exact False.elim (by omega)
      · try simp only [decide_eq_true_eq, decide_eq_false_iff_not, Bool.not_eq_true', Bool.not_eq_false', beq_iff_eq, bne_iff_ne, beq_eq_false_iff_ne, bne_eq_false_iff_eq, gt_iff_lt, ge_iff_le, Int.not_lt, Int.not_le] at h3
        refine W.seq ?_
        refine W.to [(0, _), (2, _), (3, _), (4, _), (5, _), (6, _), (7, _), (8, _), (15, _), (20, _), (25, _)] [_] rfl ⟨(by exact sh_im rfl), (by exact sh_ptr rfl), (by exact sh_sc rfl), (by exact sh_sc rfl), (by exact sh_sc rfl), (by exact sh_sc rfl), (by exact sh_sc rfl), (by exact sh_sc rfl), (by exact sh_sc rfl), (by exact sh_sc rfl), (by exact sh_sc rfl), trivial⟩ ?_
        refine W.region ?_
        refine WO.op rfl rfl rfl rfl (mv_im rfl) ?_
        refine WO.op rfl rfl rfl rfl (mv_sc rfl) ?_
        refine WO.op rfl rfl rfl rfl (step_subB Try.runUnderlying22 Try.sizeOf5 rfl Bd.none (Bd.some rfl (by (exact rfl))) (by omega) (by omega) (by exact Nat.sub_zero _) rfl) ?_
        refine WO.op rfl rfl rfl rfl (step_pure Try.call11 rfl (by (repeat (first | exact Nl.nil | refine Nl.keep (by exact noOwn_im) ?_))) (w_Sum (by (simp only [List.length_take, List.length_drop]; omega))) (by repeat (rfl))) ?_
        refine WO.op rfl rfl rfl rfl (step_int2 rfl rfl rfl) ?_
        refine WO.op rfl rfl rfl rfl (as_sc rfl) ?_
        refine WO.nil ?_
        refine W.cond rfl (fun h4 => ?_) (fun h4 => ?_)
        · try simp only [decide_eq_true_eq, decide_eq_false_iff_not, Bool.not_eq_true', Bool.not_eq_false', beq_iff_eq, bne_iff_ne, beq_eq_false_iff_ne, bne_eq_false_iff_eq, gt_iff_lt, ge_iff_le, Int.not_lt, Int.not_le] at h4
          exact False.elim (by omega)
        · try simp only [decide_eq_true_eq, decide_eq_false_iff_not, Bool.not_eq_true', Bool.not_eq_false', beq_iff_eq, bne_iff_ne, beq_eq_false_iff_ne, bne_eq_false_iff_eq, gt_iff_lt, ge_iff_le, Int.not_lt, Int.not_le] at h4
          refine W.skip ?_
          refine W.seq ?_
          refine W.seq ?_
          refine W.to [(0, _), (2, _), (3, _), (4, _), (5, _), (6, _), (7, _), (8, _), (15, _), (20, _), (25, _), (29, _)] [_] rfl ⟨(by exact sh_im rfl), (by exact sh_ptr rfl), (by exact sh_sc rfl), (by exact sh_sc rfl), (by exact sh_sc rfl), (by exact sh_sc rfl), (by exact sh_sc rfl), (by exact sh_sc rfl), (by exact sh_sc rfl), (by exact sh_sc rfl), (by exact sh_sc rfl), (by exact sh_sc rfl), trivial⟩ ?_
          refine W.region ?_
          refine WO.op rfl rfl rfl rfl (mv_sc rfl) ?_
          refine WO.op rfl rfl rfl rfl (step_int2 rfl rfl rfl) ?_
          refine WO.nil ?_
          refine W.cond rfl (fun h5 => ?_) (fun h5 => ?_)
          · try simp only [decide_eq_true_eq, decide_eq_false_iff_not, Bool.not_eq_true', Bool.not_eq_false', beq_iff_eq, bne_iff_ne, beq_eq_false_iff_ne, bne_eq_false_iff_eq, gt_iff_lt, ge_iff_le, Int.not_lt, Int.not_le] at h5
            exact False.elim (by omega)
          · try simp only [decide_eq_true_eq, decide_eq_false_iff_not, Bool.not_eq_true', Bool.not_eq_false', beq_iff_eq, bne_iff_ne, beq_eq_false_iff_ne, bne_eq_false_iff_eq, gt_iff_lt, ge_iff_le, Int.not_lt, Int.not_le] at h5
            refine W.skip ?_
            refine W.seq ?_
            refine W.seq ?_
            refine W.to [(0, _), (2, _), (3, _), (4, _), (5, _), (6, _), (7, _), (8, _), (15, _), (20, _), (25, _), (29, _), (36, _)] [_] rfl ⟨(by exact sh_im rfl), (by exact sh_ptr rfl), (by exact sh_sc rfl), (by exact sh_sc rfl), (by exact sh_sc rfl), (by exact sh_sc rfl), (by exact sh_sc rfl), (by exact sh_sc rfl), (by exact sh_sc rfl), (by exact sh_sc rfl), (by exact sh_sc rfl), (by exact sh_sc rfl), (by exact sh_sc rfl), trivial⟩ ?_
            refine W.draw (Checked.mixed Try.checked) ?_
            refine DC.op rfl rfl rfl (fun _ => mv_im rfl) ?_
            refine DC.op rfl rfl rfl (fun _ => step_idxB (j := 1) Try.runUnderlying22 Try.sizeOf5 rfl rfl (by (exact rfl)) (by omega)) ?_
            refine DC.op rfl rfl rfl (fun _ => step_loadB Try.isAgg5 rfl (by omega)) ?_
            refine DC.op rfl rfl rfl (fun _ => step_convR Try.runUnderlying5 Try.runUnderlying3 rfl (by exact convN (by (simp only [cap]; omega)))) ?_
            refine DC.op rfl rfl rfl (fun _ => mv_im rfl) ?_
            refine DC.op rfl rfl rfl (fun _ => step_subB (m := 2) Try.runUnderlying22 Try.sizeOf5 rfl (Bd.some (v := 4) rfl (by (exact rfl))) (Bd.some (v := 6) rfl (by (exact rfl))) (by omega) (by omega) (by exact Nat.sub_zero _) rfl) ?_
            refine DC.op rfl rfl rfl (fun _ => step_pure Try.call21 rfl (by (repeat (first | exact Nl.nil | refine Nl.keep (by exact noOwn_im) ?_))) (w_get2) (by repeat (rfl))) ?_
            refine DC.op rfl rfl rfl (fun _ => step_convR Try.runUnderlying29 Try.runUnderlying3 rfl (by exact convN (by (simp only [cap]; omega)))) ?_
            refine DC.op rfl rfl rfl (fun _ => mv_im rfl) ?_
            refine DC.op rfl rfl rfl (fun _ => step_subB (m := 2) Try.runUnderlying22 Try.sizeOf5 rfl (Bd.some (v := 6) rfl (by (exact rfl))) (Bd.some (v := 8) rfl (by (exact rfl))) (by omega) (by omega) (by exact Nat.sub_zero _) rfl) ?_
            refine DC.op rfl rfl rfl (fun _ => step_pure Try.call21 rfl (by (repeat (first | exact Nl.nil | refine Nl.keep (by exact noOwn_im) ?_))) (w_get2) (by repeat (rfl))) ?_
            refine DC.op rfl rfl rfl (fun _ => step_convR Try.runUnderlying29 Try.runUnderlying3 rfl (by exact convN (by (simp only [cap]; omega)))) ?_
            refine DC.op rfl rfl rfl (fun _ => mv_im rfl) ?_
            refine DC.op rfl rfl rfl (fun _ => step_idxB (j := 8) Try.runUnderlying22 Try.sizeOf5 rfl rfl (by (exact rfl)) (by omega)) ?_
            refine DC.op rfl rfl rfl (fun _ => step_loadB Try.isAgg5 rfl (by omega)) ?_
            refine DC.op rfl rfl rfl (fun _ => step_convR Try.runUnderlying5 Try.runUnderlying3 rfl (by exact convN (by (simp only [cap]; omega)))) ?_
            refine DC.op rfl rfl rfl (fun _ => mv_im rfl) ?_
            refine DC.op rfl rfl rfl (fun _ => step_idxB (j := 9) Try.runUnderlying22 Try.sizeOf5 rfl rfl (by (exact rfl)) (by omega)) ?_
            refine DC.op rfl rfl rfl (fun _ => step_loadB Try.isAgg5 rfl (by omega)) ?_
            refine DC.op rfl rfl rfl (fun _ => step_convR Try.runUnderlying5 Try.runUnderlying3 rfl (by exact convN (by (simp only [cap]; omega)))) ?_
            refine DC.op rfl rfl rfl (fun _ => mv_im rfl) ?_
            refine DC.op rfl rfl rfl (fun _ => step_subB (m := 4) Try.runUnderlying22 Try.sizeOf5 rfl (Bd.some (v := 12) rfl (by (exact rfl))) (Bd.some (v := 16) rfl (by (exact rfl))) (by omega) (by omega) (by exact Nat.sub_zero _) rfl) ?_
            refine DC.op rfl rfl rfl (fun _ => step_pure Try.call21 rfl (by (repeat (first | exact Nl.nil | refine Nl.keep (by exact noOwn_im) ?_))) (w_get4) (by repeat (rfl))) ?_
            refine DC.op rfl rfl rfl (fun _ => mv_im rfl) ?_
            refine DC.op rfl rfl rfl (fun _ => step_subB (m := 4) Try.runUnderlying22 Try.sizeOf5 rfl (Bd.some (v := 16) rfl (by (exact rfl))) (Bd.some (v := 20) rfl (by (exact rfl))) (by omega) (by omega) (by exact Nat.sub_zero _) rfl) ?_
            refine DC.op rfl rfl rfl (fun _ => step_pure Try.call21 rfl (by (repeat (first | exact Nl.nil | refine Nl.keep (by exact noOwn_im) ?_))) (w_get4) (by repeat (rfl))) ?_
            refine DC.op rfl rfl rfl (fun _ => mv_im rfl) ?_
            refine DC.op rfl rfl rfl (fun _ => mv_sc rfl) ?_
            refine DC.op rfl rfl rfl (fun _ => step_subB Try.runUnderlying22 Try.sizeOf5 rfl (Bd.some (v := 20) rfl (by (exact rfl))) (Bd.some rfl (by (exact rfl))) (by omega) (by omega) (by exact Nat.sub_zero _) rfl) ?_
            refine DC.op rfl rfl rfl (fun _ => step_strI Try.underlying22 Try.underlying5 Try.underlying9 rfl) ?_
            refine DC.op rfl rfl rfl (fun _ => step_build Try.zeroValue31 (pl := [(0, 1), (1, 1), (2, 1), (3, 1), (4, 1), (5, 1), (6, 1), (7, 1)]) (PlacesOf.mk (by kernel_rfl)) rfl) ?_
            refine DC.set 67 (.agg (decAV l)) (by kernel_rfl) ?_
            refine DC.op rfl rfl rfl (fun _ => mv_sc rfl) ?_
            refine DC.op rfl rfl rfl (fun _ => mv_sc rfl) ?_
            refine DC.opE0 rfl rfl (step_storeA Try.sizeOf31 rfl rfl rfl (by repeat (exact all_cell rfl rfl)) rfl rfl) (by simp) (by repeat (first | exact True.intro | refine And.intro (by rfl) ?_)) (by repeat (first | exact True.intro | refine And.intro (by rfl) ?_)) ?_
            refine DC.op rfl rfl rfl (fun _ => as_sc rfl) ?_
            refine DC.op rfl rfl rfl (fun _ => as_sc rfl) ?_
            refine DC.op rfl rfl rfl (fun _ => as_sc rfl) ?_
            refine DC.fin [(1, 0), (2, 0), (3, 0), (5, 0), (6, 0), (7, 0), (9, 0), (10, 0), (11, 0), (13, 0), (14, 0), (15, 0), (17, 0), (18, 0), (19, 0), (21, 0), (22, 0), (24, 0), (25, 0), (28, 0), (29, 0)] (by kernel_rfl) (by kernel_rfl) ?_ ?_
            · repeat (first | exact True.intro | refine And.intro ?_ ?_)
            · refine W.ret ?_
              refine ⟨.inl rfl, ?_⟩
              exact ret0 (Res.cellA Try.isAgg31 Try.sizeOf31 rfl rfl (Nat.le_of_ble_eq_true rfl) (Res.tmp rfl (Res.tmp rfl (Res.tmp rfl Res.nil)))) (.keep rfl)

end Go.Proofs.Ytejoccabclibeaa
