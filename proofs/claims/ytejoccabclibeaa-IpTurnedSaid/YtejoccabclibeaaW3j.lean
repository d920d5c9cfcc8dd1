/-
  Contracts of functions of chapter 03: each theorem says what a call of one function answers, for all arguments that its hypotheses let in.
-/
import Derived.Test.YtejoccabclibeaaW3g
set_option linter.unusedVariables false
set_option linter.unusedSimpArgs false
set_option maxRecDepth 100000
set_option maxHeartbeats 1000000
namespace Go.Proofs.Ytejoccabclibeaa
open Go Go.SL Go.Proofs
theorem w_refDecX {l : List UInt8} (hl : l.length ≤ 200000000000000) (h : decE l ≠ 0) : Spec0 Try.prog 19 [.im 1 (l.map byteAV)] (.tup [.agg ip0, .sc (.int .i64 0), .sc (.int .i64 0), .sc (.int .i64 ((decE l : Nat) : Int))]) := by
  refine Spec.body Try.func19 rfl (Nat.le_of_ble_eq_true rfl) ?_
  have e2 := be2 (List.drop 2 l)
  have e4 := be2 (List.drop 4 l)
  have e6 := be2 (List.drop 6 l)
  have e12 := be4 (List.drop 12 l)
  have e16 := be4 (List.drop 16 l)
  have y0 := byte_le (l.getD 0 0)
  have y1 := byte_le (l.getD 1 0)
  have y8 := byte_le (l.getD 8 0)
  have y9 := byte_le (l.getD 9 0)
  have hs : hdS l = 4 * ((l.getD 0 0).toNat % 16) := rfl
  refine W.seq ?_
  refine W.region ?_
  refine WO.opA rfl rfl rfl rfl (al_alloc Try.zeroValue31) rfl rfl ?_
  refine WO.put 2 (.ptr 0 0) rfl ?_
  refine WO.op rfl rfl rfl rfl (as_sc rfl) ?_
  refine WO.op rfl rfl rfl rfl (as_sc rfl) ?_
  refine WO.op rfl rfl rfl rfl (as_sc rfl) ?_
  refine WO.nil ?_
  refine W.seq ?_
  refine W.seq ?_
  refine W.to [(0, _), (2, _), (3, _), (4, _), (5, _)] [_] rfl ⟨(by exact sh_im rfl), (by exact sh_ptr rfl), (by exact sh_sc rfl), (by exact sh_sc rfl), (by exact sh_sc rfl), trivial⟩ ?_
  refine W.region ?_
  refine WO.op rfl rfl rfl rfl (mv_im rfl) ?_
  refine WO.op rfl rfl rfl rfl (step_lenB Try.runUnderlying22 rfl) ?_
  refine WO.op rfl rfl rfl rfl (step_int2 rfl rfl rfl) ?_
  refine WO.nil ?_
  refine W.cond rfl (fun h1 => ?_) (fun h1 => ?_)
  · try simp only [decide_eq_true_eq, decide_eq_false_iff_not, Bool.not_eq_true', Bool.not_eq_false', beq_iff_eq, bne_iff_ne, beq_eq_false_iff_ne, bne_eq_false_iff_eq, gt_iff_lt, ge_iff_le, Int.not_lt, Int.not_le] at h1
    refine W.seq ?_
    refine W.to [(0, _), (2, _), (3, _), (4, _), (5, _), (11, _)] [_] rfl ⟨(by exact sh_im rfl), (by exact sh_ptr rfl), (by exact sh_sc rfl), (by exact sh_sc rfl), (by exact sh_sc rfl), (by exact sh_sc rfl), trivial⟩ ?_
    refine W.region ?_
    refine WO.op rfl rfl rfl rfl (step_build Try.zeroValue31 (pl := [(0, 1), (1, 1), (2, 1), (3, 1), (4, 1), (5, 1), (6, 1), (7, 1)]) (PlacesOf.mk (by kernel_rfl)) rfl) ?_
    refine WO.put 12 (.agg ip0) (by kernel_rfl) ?_
    refine WO.op0 rfl rfl rfl (step_storeA Try.sizeOf31 rfl rfl rfl (by repeat (exact all_cell rfl rfl)) rfl rfl) ?_
    refine WO.op rfl rfl rfl rfl (as_sc rfl) ?_
    refine WO.op rfl rfl rfl rfl (as_sc rfl) ?_
    refine WO.op rfl rfl rfl rfl (as_sc rfl) ?_
    refine WO.nil ?_
    refine W.ret ?_
    refine ⟨.inl rfl, ?_⟩
    have he : decE l = 20 := by exact decE_1 (by omega)
    rw [he]
    exact ret0 (Res.cellA Try.isAgg31 Try.sizeOf31 rfl rfl (Nat.le_of_ble_eq_true rfl) (Res.tmp rfl (Res.tmp rfl (Res.tmp rfl Res.nil)))) (.keep rfl)
  · try simp only [decide_eq_true_eq, decide_eq_false_iff_not, Bool.not_eq_true', Bool.not_eq_false', beq_iff_eq, bne_iff_ne, beq_eq_false_iff_ne, bne_eq_false_iff_eq, gt_iff_lt, ge_iff_le, Int.not_lt, Int.not_le] at h1
    refine W.skip ?_
    refine W.seq ?_
    refine W.to [(0, _), (2, _), (3, _), (4, _), (5, _), (11, _)] [_] rfl ⟨(by exact sh_im rfl), (by exact sh_ptr rfl), (by exact sh_sc rfl), (by exact sh_sc rfl), (by exact sh_sc rfl), (by exact sh_sc rfl), trivial⟩ ?_
    refine W.region ?_
    refine WO.op rfl rfl rfl rfl (mv_im rfl) ?_
    refine WO.op rfl rfl rfl rfl (step_idxB (j := 0) Try.runUnderlying22 Try.sizeOf5 rfl rfl (by (exact rfl)) (by omega)) ?_
    refine WO.op rfl rfl rfl rfl (step_loadB Try.isAgg5 rfl (by omega)) ?_
    refine WO.op rfl rfl rfl rfl (step_remN (q := 16) rfl rfl (by omega)) ?_
    refine WO.op rfl rfl rfl rfl (step_convR Try.runUnderlying5 Try.runUnderlying3 rfl (by exact convN (by (simp only [cap]; omega)))) ?_
    refine WO.op rfl rfl rfl rfl (step_mulN (p := 4) rfl rfl (by (simp only [cap]; omega))) ?_
    refine WO.put 18 (.sc (.int .i64 ((hdS l : Nat) : Int))) (rfl) ?_
    refine WO.op rfl rfl rfl rfl (as_sc rfl) ?_
    refine WO.nil ?_
    refine W.seq ?_
    refine W.seq ?_
    refine W.to [(0, _), (2, _), (3, _), (4, _), (5, _), (6, _), (11, _)] [_] rfl ⟨(by exact sh_im rfl), (by exact sh_ptr rfl), (by exact sh_sc rfl), (by exact sh_sc rfl), (by exact sh_sc rfl), (by exact sh_sc rfl), (by exact sh_sc rfl), trivial⟩ ?_
    refine W.region ?_
    refine WO.op rfl rfl rfl rfl (mv_im rfl) ?_
    refine WO.op rfl rfl rfl rfl (step_idxB (j := 0) Try.runUnderlying22 Try.sizeOf5 rfl rfl (by (exact rfl)) (by omega)) ?_
    refine WO.op rfl rfl rfl rfl (step_loadB Try.isAgg5 rfl (by omega)) ?_
    refine WO.op rfl rfl rfl rfl (step_quoN (q := 16) rfl rfl (by omega) (by (simp only [cap]; omega))) ?_
    refine WO.op rfl rfl rfl rfl (step_int2 rfl rfl rfl) ?_
    refine WO.op rfl rfl rfl rfl (mv_sc rfl) ?_
    refine WO.spl 24 rfl (fun h2 => ?_) (fun h2 => ?_)
    · try simp only [decide_eq_true_eq, decide_eq_false_iff_not, Bool.not_eq_true', Bool.not_eq_false', beq_iff_eq, bne_iff_ne, beq_eq_false_iff_ne, bne_eq_false_iff_eq, gt_iff_lt, ge_iff_le, Int.not_lt, Int.not_le] at h2
      refine WO.sk rfl rfl rfl rfl ?_
      refine WO.sk rfl rfl rfl rfl ?_
      refine WO.op rfl rfl rfl rfl (pk_t rfl rfl rfl) ?_
      refine WO.nil ?_
      refine W.condT rfl ?_
      refine W.seq ?_
      refine W.to [(0, _), (2, _), (3, _), (4, _), (5, _), (6, _), (11, _), (27, _)] [_] rfl ⟨(by exact sh_im rfl), (by exact sh_ptr rfl), (by exact sh_sc rfl), (by exact sh_sc rfl), (by exact sh_sc rfl), (by exact sh_sc rfl), (by exact sh_sc rfl), (by exact sh_sc rfl), trivial⟩ ?_
      refine W.region ?_
      refine WO.op rfl rfl rfl rfl (step_build Try.zeroValue31 (pl := [(0, 1), (1, 1), (2, 1), (3, 1), (4, 1), (5, 1), (6, 1), (7, 1)]) (PlacesOf.mk (by kernel_rfl)) rfl) ?_
      refine WO.put 28 (.agg ip0) (by kernel_rfl) ?_
      refine WO.op0 rfl rfl rfl (step_storeA Try.sizeOf31 rfl rfl rfl (by repeat (exact all_cell rfl rfl)) rfl rfl) ?_
      refine WO.op rfl rfl rfl rfl (as_sc rfl) ?_
      refine WO.op rfl rfl rfl rfl (as_sc rfl) ?_
      refine WO.op rfl rfl rfl rfl (as_sc rfl) ?_
      refine WO.nil ?_
      refine W.ret ?_
      refine ⟨.inl rfl, ?_⟩
      have he : decE l = 21 := by exact decE_2 (by omega) (by omega)
      rw [he]
      exact ret0 (Res.cellA Try.isAgg31 Try.sizeOf31 rfl rfl (Nat.le_of_ble_eq_true rfl) (Res.tmp rfl (Res.tmp rfl (Res.tmp rfl Res.nil)))) (.keep rfl)
    · try simp only [decide_eq_true_eq, decide_eq_false_iff_not, Bool.not_eq_true', Bool.not_eq_false', beq_iff_eq, bne_iff_ne, beq_eq_false_iff_ne, bne_eq_false_iff_eq, gt_iff_lt, ge_iff_le, Int.not_lt, Int.not_le] at h2
      refine WO.op rfl rfl rfl rfl (mv_sc rfl) ?_
      refine WO.op rfl rfl rfl rfl (step_int2 rfl rfl rfl) ?_
      refine WO.op rfl rfl rfl rfl (pk_f rfl rfl rfl) ?_
      refine WO.nil ?_
      refine W.cond rfl (fun h3 => ?_) (fun h3 => ?_)
      · try simp only [decide_eq_true_eq, decide_eq_false_iff_not, Bool.not_eq_true', Bool.not_eq_false', beq_iff_eq, bne_iff_ne, beq_eq_false_iff_ne, bne_eq_false_iff_eq, gt_iff_lt, ge_iff_le, Int.not_lt, Int.not_le] at h3
        refine W.seq ?_
        refine W.to [(0, _), (2, _), (3, _), (4, _), (5, _), (6, _), (11, _), (27, _)] [_] rfl ⟨(by exact sh_im rfl), (by exact sh_ptr rfl), (by exact sh_sc rfl), (by exact sh_sc rfl), (by exact sh_sc rfl), (by exact sh_sc rfl), (by exact sh_sc rfl), (by exact sh_sc rfl), trivial⟩ ?_
        refine W.region ?_
        refine WO.op rfl rfl rfl rfl (step_build Try.zeroValue31 (pl := [(0, 1), (1, 1), (2, 1), (3, 1), (4, 1), (5, 1), (6, 1), (7, 1)]) (PlacesOf.mk (by kernel_rfl)) rfl) ?_
        refine WO.put 28 (.agg ip0) (by kernel_rfl) ?_
        refine WO.op0 rfl rfl rfl (step_storeA Try.sizeOf31 rfl rfl rfl (by repeat (exact all_cell rfl rfl)) rfl rfl) ?_
        refine WO.op rfl rfl rfl rfl (as_sc rfl) ?_
        refine WO.op rfl rfl rfl rfl (as_sc rfl) ?_
        refine WO.op rfl rfl rfl rfl (as_sc rfl) ?_
        refine WO.nil ?_
        refine W.ret ?_
        refine ⟨.inl rfl, ?_⟩
        have he : decE l = 21 := by exact decE_2 (by omega) (by omega)
        rw [he]
        exact ret0 (Res.cellA Try.isAgg31 Try.sizeOf31 rfl rfl (Nat.le_of_ble_eq_true rfl) (Res.tmp rfl (Res.tmp rfl (Res.tmp rfl Res.nil)))) (.keep rfl)
      · try simp only [decide_eq_true_eq, decide_eq_false_iff_not, Bool.not_eq_true', Bool.not_eq_false', beq_iff_eq, bne_iff_ne, beq_eq_false_iff_ne, bne_eq_false_iff_eq, gt_iff_lt, ge_iff_le, Int.not_lt, Int.not_le] at h3
        refine W.skip ?_
        refine W.seq ?_
        refine W.to [(0, _), (2, _), (3, _), (4, _), (5, _), (6, _), (11, _), (27, _)] [_] rfl ⟨(by exact sh_im rfl), (by exact sh_ptr rfl), (by exact sh_sc rfl), (by exact sh_sc rfl), (by exact sh_sc rfl), (by exact sh_sc rfl), (by exact sh_sc rfl), (by exact sh_sc rfl), trivial⟩ ?_
        refine W.region ?_
        refine WO.op rfl rfl rfl rfl (mv_im rfl) ?_
        refine WO.op rfl rfl rfl rfl (step_subB (m := 2) Try.runUnderlying22 Try.sizeOf5 rfl (Bd.some (v := 2) rfl (by (exact rfl))) (Bd.some (v := 4) rfl (by (exact rfl))) (by omega) (by omega) (by exact Nat.sub_zero _) rfl) ?_
        refine WO.op rfl rfl rfl rfl (step_pure Try.call24 rfl (by (repeat (first | exact Nl.nil | refine Nl.keep (by exact noOwn_im) ?_))) (w_Num2) (by repeat (rfl))) ?_
        refine WO.op rfl rfl rfl rfl (step_convR Try.runUnderlying45 Try.runUnderlying3 rfl (by exact convN (by (simp only [cap]; omega)))) ?_
        refine WO.op rfl rfl rfl rfl (as_sc rfl) ?_
        refine WO.nil ?_
        refine W.seq ?_
        refine W.seq ?_
        refine W.to [(0, _), (2, _), (3, _), (4, _), (5, _), (6, _), (7, _), (11, _), (27, _)] [_] rfl ⟨(by exact sh_im rfl), (by exact sh_ptr rfl), (by exact sh_sc rfl), (by exact sh_sc rfl), (by exact sh_sc rfl), (by exact sh_sc rfl), (by exact sh_sc rfl), (by exact sh_sc rfl), (by exact sh_sc rfl), trivial⟩ ?_
        refine W.region ?_
        refine WO.op rfl rfl rfl rfl (mv_im rfl) ?_
        refine WO.op rfl rfl rfl rfl (step_lenB Try.runUnderlying22 rfl) ?_
        refine WO.op rfl rfl rfl rfl (mv_sc rfl) ?_
        refine WO.op rfl rfl rfl rfl (step_int2 rfl rfl rfl) ?_
        refine WO.op rfl rfl rfl rfl (mv_sc rfl) ?_
        refine WO.spl 37 rfl (fun h4 => ?_) (fun h4 => ?_)
        · try simp only [decide_eq_true_eq, decide_eq_false_iff_not, Bool.not_eq_true', Bool.not_eq_false', beq_iff_eq, bne_iff_ne, beq_eq_false_iff_ne, bne_eq_false_iff_eq, gt_iff_lt, ge_iff_le, Int.not_lt, Int.not_le] at h4
          refine WO.sk rfl rfl rfl rfl ?_
          refine WO.sk rfl rfl rfl rfl ?_
          refine WO.sk rfl rfl rfl rfl ?_
          refine WO.sk rfl rfl rfl rfl ?_
          refine WO.op rfl rfl rfl rfl (pk_t rfl rfl rfl) ?_
          refine WO.nil ?_
          refine W.condT rfl ?_
          refine W.seq ?_
          refine W.to [(0, _), (2, _), (3, _), (4, _), (5, _), (6, _), (7, _), (11, _), (27, _), (42, _)] [_] rfl ⟨(by exact sh_im rfl), (by exact sh_ptr rfl), (by exact sh_sc rfl), (by exact sh_sc rfl), (by exact sh_sc rfl), (by exact sh_sc rfl), (by exact sh_sc rfl), (by exact sh_sc rfl), (by exact sh_sc rfl), (by exact sh_sc rfl), trivial⟩ ?_
          refine W.region ?_
          refine WO.op rfl rfl rfl rfl (step_build Try.zeroValue31 (pl := [(0, 1), (1, 1), (2, 1), (3, 1), (4, 1), (5, 1), (6, 1), (7, 1)]) (PlacesOf.mk (by kernel_rfl)) rfl) ?_
          refine WO.put 43 (.agg ip0) (by kernel_rfl) ?_
          refine WO.op0 rfl rfl rfl (step_storeA Try.sizeOf31 rfl rfl rfl (by repeat (exact all_cell rfl rfl)) rfl rfl) ?_
          refine WO.op rfl rfl rfl rfl (as_sc rfl) ?_
          refine WO.op rfl rfl rfl rfl (as_sc rfl) ?_
          refine WO.op rfl rfl rfl rfl (as_sc rfl) ?_
          refine WO.nil ?_
          refine W.ret ?_
          refine ⟨.inl rfl, ?_⟩
          have he : decE l = 20 := by exact decE_3 (by omega) (by omega) (by omega) (by omega)
          rw [he]
          exact ret0 (Res.cellA Try.isAgg31 Try.sizeOf31 rfl rfl (Nat.le_of_ble_eq_true rfl) (Res.tmp rfl (Res.tmp rfl (Res.tmp rfl Res.nil)))) (.keep rfl)
        · try simp only [decide_eq_true_eq, decide_eq_false_iff_not, Bool.not_eq_true', Bool.not_eq_false', beq_iff_eq, bne_iff_ne, beq_eq_false_iff_ne, bne_eq_false_iff_eq, gt_iff_lt, ge_iff_le, Int.not_lt, Int.not_le] at h4
          refine WO.op rfl rfl rfl rfl (mv_im rfl) ?_
          refine WO.op rfl rfl rfl rfl (step_lenB Try.runUnderlying22 rfl) ?_
          refine WO.op rfl rfl rfl rfl (mv_sc rfl) ?_
          refine WO.op rfl rfl rfl rfl (step_int2 rfl rfl rfl) ?_
          refine WO.op rfl rfl rfl rfl (pk_f rfl rfl rfl) ?_
          refine WO.nil ?_
          refine W.cond rfl (fun h5 => ?_) (fun h5 => ?_)
          · try simp only [decide_eq_true_eq, decide_eq_false_iff_not, Bool.not_eq_true', Bool.not_eq_false', beq_iff_eq, bne_iff_ne, beq_eq_false_iff_ne, bne_eq_false_iff_eq, gt_iff_lt, ge_iff_le, Int.not_lt, Int.not_le] at h5
            refine W.seq ?_
            refine W.to [(0, _), (2, _), (3, _), (4, _), (5, _), (6, _), (7, _), (11, _), (27, _), (42, _)] [_] rfl ⟨(by exact sh_im rfl), (by exact sh_ptr rfl), (by exact sh_sc rfl), (by exact sh_sc rfl), (by exact sh_sc rfl), (by exact sh_sc rfl), (by exact sh_sc rfl), (by exact sh_sc rfl), (by exact sh_sc rfl), (by exact sh_sc rfl), trivial⟩ ?_
            refine W.region ?_
            refine WO.op rfl rfl rfl rfl (step_build Try.zeroValue31 (pl := [(0, 1), (1, 1), (2, 1), (3, 1), (4, 1), (5, 1), (6, 1), (7, 1)]) (PlacesOf.mk (by kernel_rfl)) rfl) ?_
            refine WO.put 43 (.agg ip0) (by kernel_rfl) ?_
            refine WO.op0 rfl rfl rfl (step_storeA Try.sizeOf31 rfl rfl rfl (by repeat (exact all_cell rfl rfl)) rfl rfl) ?_
            refine WO.op rfl rfl rfl rfl (as_sc rfl) ?_
            refine WO.op rfl rfl rfl rfl (as_sc rfl) ?_
            refine WO.op rfl rfl rfl rfl (as_sc rfl) ?_
            refine WO.nil ?_
            refine W.ret ?_
            refine ⟨.inl rfl, ?_⟩
            have he : decE l = 20 := by exact decE_4 (by exact hd_zero (by omega) (by omega) (by omega) (by omega)) (by omega)
            rw [he]
            exact ret0 (Res.cellA Try.isAgg31 Try.sizeOf31 rfl rfl (Nat.le_of_ble_eq_true rfl) (Res.tmp rfl (Res.tmp rfl (Res.tmp rfl Res.nil)))) (.keep rfl)
          · try simp only [decide_eq_true_eq, decide_eq_false_iff_not, Bool.not_eq_true', Bool.not_eq_false', beq_iff_eq, bne_iff_ne, beq_eq_false_iff_ne, bne_eq_false_iff_eq, gt_iff_lt, ge_iff_le, Int.not_lt, Int.not_le] at h5
            refine W.skip ?_
            refine W.seq ?_
            refine W.seq ?_
            refine W.to [(0, _), (2, _), (3, _), (4, _), (5, _), (6, _), (7, _), (11, _), (27, _), (42, _)] [_] rfl ⟨(by exact sh_im rfl), (by exact sh_ptr rfl), (by exact sh_sc rfl), (by exact sh_sc rfl), (by exact sh_sc rfl), (by exact sh_sc rfl), (by exact sh_sc rfl), (by exact sh_sc rfl), (by exact sh_sc rfl), (by exact sh_sc rfl), trivial⟩ ?_
            refine W.region ?_
            refine WO.op rfl rfl rfl rfl (mv_sc rfl) ?_
            refine WO.op rfl rfl rfl rfl (mv_sc rfl) ?_
            refine WO.op rfl rfl rfl rfl (step_int2 rfl rfl rfl) ?_
            refine WO.nil ?_
            refine W.cond rfl (fun h6 => ?_) (fun h6 => ?_)
            · try simp only [decide_eq_true_eq, decide_eq_false_iff_not, Bool.not_eq_true', Bool.not_eq_false', beq_iff_eq, bne_iff_ne, beq_eq_false_iff_ne, bne_eq_false_iff_eq, gt_iff_lt, ge_iff_le, Int.not_lt, Int.not_le] at h6
              refine W.seq ?_
              refine W.to [(0, _), (2, _), (3, _), (4, _), (5, _), (6, _), (7, _), (11, _), (27, _), (42, _), (46, _)] [_] rfl ⟨(by exact sh_im rfl), (by exact sh_ptr rfl), (by exact sh_sc rfl), (by exact sh_sc rfl), (by exact sh_sc rfl), (by exact sh_sc rfl), (by exact sh_sc rfl), (by exact sh_sc rfl), (by exact sh_sc rfl), (by exact sh_sc rfl), (by exact sh_sc rfl), trivial⟩ ?_
              refine W.region ?_
              refine WO.op rfl rfl rfl rfl (step_build Try.zeroValue31 (pl := [(0, 1), (1, 1), (2, 1), (3, 1), (4, 1), (5, 1), (6, 1), (7, 1)]) (PlacesOf.mk (by kernel_rfl)) rfl) ?_
              refine WO.put 47 (.agg ip0) (by kernel_rfl) ?_
              refine WO.op0 rfl rfl rfl (step_storeA Try.sizeOf31 rfl rfl rfl (by repeat (exact all_cell rfl rfl)) rfl rfl) ?_
              refine WO.op rfl rfl rfl rfl (as_sc rfl) ?_
              refine WO.op rfl rfl rfl rfl (as_sc rfl) ?_
              refine WO.op rfl rfl rfl rfl (as_sc rfl) ?_
              refine WO.nil ?_
              refine W.ret ?_
              refine ⟨.inl rfl, ?_⟩
              have he : decE l = 21 := by exact decE_5 (by exact hd_zero (by omega) (by omega) (by omega) (by omega)) (by omega) (by omega)
              rw [he]
              exact ret0 (Res.cellA Try.isAgg31 Try.sizeOf31 rfl rfl (Nat.le_of_ble_eq_true rfl) (Res.tmp rfl (Res.tmp rfl (Res.tmp rfl Res.nil)))) (.keep rfl)
            · try simp only [decide_eq_true_eq, decide_eq_false_iff_not, Bool.not_eq_true', Bool.not_eq_false', beq_iff_eq, bne_iff_ne, beq_eq_false_iff_ne, bne_eq_false_iff_eq, gt_iff_lt, ge_iff_le, Int.not_lt, Int.not_le] at h6
              refine W.skip ?_
              refine W.seq ?_
              refine W.seq ?_
              refine W.to [(0, _), (2, _), (3, _), (4, _), (5, _), (6, _), (7, _), (11, _), (27, _), (42, _), (46, _)] [_] rfl ⟨(by exact sh_im rfl), (by exact sh_ptr rfl), (by exact sh_sc rfl), (by exact sh_sc rfl), (by exact sh_sc rfl), (by exact sh_sc rfl), (by exact sh_sc rfl), (by exact sh_sc rfl), (by exact sh_sc rfl), (by exact sh_sc rfl), (by exact sh_sc rfl), trivial⟩ ?_
              refine W.region ?_
              refine WO.op rfl rfl rfl rfl (mv_im rfl) ?_
              refine WO.op rfl rfl rfl rfl (mv_sc rfl) ?_
              refine WO.op rfl rfl rfl rfl (step_subB Try.runUnderlying22 Try.sizeOf5 rfl Bd.none (Bd.some rfl (by (exact rfl))) (by omega) (by omega) (by exact Nat.sub_zero _) rfl) ?_
              refine WO.op rfl rfl rfl rfl (step_pure Try.call33 rfl (by (repeat (first | exact Nl.nil | refine Nl.keep (by exact noOwn_im) ?_))) (w_refSum (by (simp only [List.length_take, List.length_drop]; omega))) (by repeat (rfl))) ?_
              refine WO.op rfl rfl rfl rfl (step_int2 rfl rfl rfl) ?_
              refine WO.nil ?_
              refine W.cond rfl (fun h7 => ?_) (fun h7 => ?_)
              · try simp only [decide_eq_true_eq, decide_eq_false_iff_not, Bool.not_eq_true', Bool.not_eq_false', beq_iff_eq, bne_iff_ne, beq_eq_false_iff_ne, bne_eq_false_iff_eq, gt_iff_lt, ge_iff_le, Int.not_lt, Int.not_le] at h7
                refine W.seq ?_
                refine W.to [(0, _), (2, _), (3, _), (4, _), (5, _), (6, _), (7, _), (11, _), (27, _), (42, _), (46, _), (52, _)] [_] rfl ⟨(by exact sh_im rfl), (by exact sh_ptr rfl), (by exact sh_sc rfl), (by exact sh_sc rfl), (by exact sh_sc rfl), (by exact sh_sc rfl), (by exact sh_sc rfl), (by exact sh_sc rfl), (by exact sh_sc rfl), (by exact sh_sc rfl), (by exact sh_sc rfl), (by exact sh_sc rfl), trivial⟩ ?_
                refine W.region ?_
                refine WO.op rfl rfl rfl rfl (step_build Try.zeroValue31 (pl := [(0, 1), (1, 1), (2, 1), (3, 1), (4, 1), (5, 1), (6, 1), (7, 1)]) (PlacesOf.mk (by kernel_rfl)) rfl) ?_
                refine WO.put 53 (.agg ip0) (by kernel_rfl) ?_
                refine WO.op0 rfl rfl rfl (step_storeA Try.sizeOf31 rfl rfl rfl (by repeat (exact all_cell rfl rfl)) rfl rfl) ?_
                refine WO.op rfl rfl rfl rfl (as_sc rfl) ?_
                refine WO.op rfl rfl rfl rfl (as_sc rfl) ?_
                refine WO.op rfl rfl rfl rfl (as_sc rfl) ?_
                refine WO.nil ?_
                refine W.ret ?_
                refine ⟨.inl rfl, ?_⟩
                have he : decE l = 30 := by exact decE_6 (by exact hd_zero (by omega) (by omega) (by omega) (by omega)) (by omega) (by omega) (by omega)
                rw [he]
                exact ret0 (Res.cellA Try.isAgg31 Try.sizeOf31 rfl rfl (Nat.le_of_ble_eq_true rfl) (Res.tmp rfl (Res.tmp rfl (Res.tmp rfl Res.nil)))) (.keep rfl)
              · try simp only [decide_eq_true_eq, decide_eq_false_iff_not, Bool.not_eq_true', Bool.not_eq_false', beq_iff_eq, bne_iff_ne, beq_eq_false_iff_ne, bne_eq_false_iff_eq, gt_iff_lt, ge_iff_le, Int.not_lt, Int.not_le] at h7
                exact False.elim (h (by exact decE_7 (by exact hd_zero (by omega) (by omega) (by omega) (by omega)) (by omega) (by omega) (by omega)))

theorem w_DecX1 {l : List UInt8} (hl : l.length ≤ 200000000000000) (h : hdE l ≠ 0) : Spec0 Try.prog 18 [.im 1 (l.map byteAV)] (.tup [.agg ip0, .sc (.int .i64 0), .sc (.int .i64 0), .sc (.int .i64 ((decE l : Nat) : Int))]) := by
  refine Spec.body Try.func18 rfl (Nat.le_of_ble_eq_true rfl) ?_
  have he : decE l = hdE l := if_pos h
  refine W.seq ?_
  refine W.region ?_
  refine WO.opA rfl rfl rfl rfl (al_alloc Try.zeroValue31) rfl rfl ?_
  refine WO.put 2 (.ptr 0 0) rfl ?_
  refine WO.op rfl rfl rfl rfl (as_sc rfl) ?_
  refine WO.op rfl rfl rfl rfl (as_sc rfl) ?_
  refine WO.op rfl rfl rfl rfl (as_sc rfl) ?_
  refine WO.nil ?_
  refine W.scopeN 3 (fun _ _ h => (by exact h.elim (fun h => nomatch h))) ?_
  refine W.seq ?_
  refine W.to [(0, _), (2, _), (3, _), (4, _), (5, _)] [_] rfl ⟨(by exact sh_im rfl), (by exact sh_ptr rfl), (by exact sh_sc rfl), (by exact sh_sc rfl), (by exact sh_sc rfl), trivial⟩ ?_
  refine W.region ?_
  refine WO.op rfl rfl rfl rfl (as_sc rfl) ?_
  refine WO.nil ?_
  refine W.seq ?_
  refine W.to [(0, _), (2, _), (3, _), (4, _), (5, _), (6, _)] [_] rfl ⟨(by exact sh_im rfl), (by exact sh_ptr rfl), (by exact sh_sc rfl), (by exact sh_sc rfl), (by exact sh_sc rfl), (by exact sh_sc rfl), trivial⟩ ?_
  refine W.region ?_
  refine WO.op rfl rfl rfl rfl (mv_im rfl) ?_
  refine WO.op rfl rfl rfl rfl (step_pure Try.call20 rfl (by (repeat (first | exact Nl.nil | refine Nl.keep (by exact noOwn_im) ?_))) (w_headX hl h) (by repeat (first | with_reducible refine noOwn_tup ?_ | with_reducible exact noOwnL_nil | with_reducible refine noOwnL_cons ?_ ?_ | rfl))) ?_
  refine WO.op rfl rfl rfl rfl (mv_tup rfl) ?_
  refine WO.op rfl rfl rfl rfl (step_extract rfl rfl) ?_
  refine WO.op rfl rfl rfl rfl (step_extract rfl rfl) ?_
  refine WO.op rfl rfl rfl rfl (as_sc rfl) ?_
  refine WO.op rfl rfl rfl rfl (as_sc rfl) ?_
  refine WO.nil ?_
  refine W.seq ?_
  refine W.seq ?_
  refine W.to [(0, _), (2, _), (3, _), (4, _), (5, _), (6, _), (7, _), (8, _)] [_] rfl ⟨(by exact sh_im rfl), (by exact sh_ptr rfl), (by exact sh_sc rfl), (by exact sh_sc rfl), (by exact sh_sc rfl), (by exact sh_sc rfl), (by exact sh_sc rfl), (by exact sh_sc rfl), trivial⟩ ?_
  refine W.region ?_
  refine WO.op rfl rfl rfl rfl (mv_sc rfl) ?_
  refine WO.op rfl rfl rfl rfl (step_int2 rfl rfl rfl) ?_
  refine WO.nil ?_
  refine W.cond rfl (fun h1 => ?_) (fun h1 => ?_)
  · try simp only [decide_eq_true_eq, decide_eq_false_iff_not, Bool.not_eq_true', Bool.not_eq_false', beq_iff_eq, bne_iff_ne, beq_eq_false_iff_ne, bne_eq_false_iff_eq, gt_iff_lt, ge_iff_le, Int.not_lt, Int.not_le] at h1
    refine W.goto ?_
    refine ⟨_, rfl, ?_⟩
    refine W.seq ?_
    refine W.skip ?_
    refine W.seq ?_
    refine W.to [(0, _), (2, _), (3, _), (4, _), (5, _), (6, _), (7, _), (8, _), (15, _)] [_] rfl ⟨(by exact sh_im rfl), (by exact sh_ptr rfl), (by exact sh_sc rfl), (by exact sh_sc rfl), (by exact sh_sc rfl), (by exact sh_sc rfl), (by exact sh_sc rfl), (by exact sh_sc rfl), (by exact sh_sc rfl), trivial⟩ ?_
    refine W.region ?_
    refine WO.op rfl rfl rfl rfl (step_build Try.zeroValue31 (pl := [(0, 1), (1, 1), (2, 1), (3, 1), (4, 1), (5, 1), (6, 1), (7, 1)]) (PlacesOf.mk (by kernel_rfl)) rfl) ?_
    refine WO.put 70 (.agg ip0) (by kernel_rfl) ?_
    refine WO.op rfl rfl rfl rfl (mv_sc rfl) ?_
    refine WO.op0 rfl rfl rfl (step_storeA Try.sizeOf31 rfl rfl rfl (by repeat (exact all_cell rfl rfl)) rfl rfl) ?_
    refine WO.op rfl rfl rfl rfl (as_sc rfl) ?_
    refine WO.op rfl rfl rfl rfl (as_sc rfl) ?_
    refine WO.op rfl rfl rfl rfl (as_sc rfl) ?_
    refine WO.nil ?_
    refine W.ret ?_
    refine ⟨.inl rfl, ?_⟩
    rw [he]
    exact ret0 (Res.cellA Try.isAgg31 Try.sizeOf31 rfl rfl (Nat.le_of_ble_eq_true rfl) (Res.tmp rfl (Res.tmp rfl (Res.tmp rfl Res.nil)))) (.keep rfl)
  · try simp only [decide_eq_true_eq, decide_eq_false_iff_not, Bool.not_eq_true', Bool.not_eq_false', beq_iff_eq, bne_iff_ne, beq_eq_false_iff_ne, bne_eq_false_iff_eq, gt_iff_lt, ge_iff_le, Int.not_lt, Int.not_le] at h1
    exact False.elim (by omega)

theorem w_DecX2 {l : List UInt8} (hl : l.length ≤ 200000000000000) (h0 : hdE l = 0) (h : decE l ≠ 0) : Spec0 Try.prog 18 [.im 1 (l.map byteAV)] (.tup [.agg ip0, .sc (.int .i64 0), .sc (.int .i64 0), .sc (.int .i64 ((decE l : Nat) : Int))]) := by
  refine Spec.body Try.func18 rfl (Nat.le_of_ble_eq_true rfl) ?_
  obtain ⟨q1, q2, q3⟩ := hd_ok h0
  have e2 := be2 (List.drop 2 l)
  have e4 := be2 (List.drop 4 l)
  have e6 := be2 (List.drop 6 l)
  have e12 := be4 (List.drop 12 l)
  have e16 := be4 (List.drop 16 l)
  have y0 := byte_le (l.getD 0 0)
  have y1 := byte_le (l.getD 1 0)
  have y8 := byte_le (l.getD 8 0)
  have y9 := byte_le (l.getD 9 0)
  refine W.seq ?_
  refine W.region ?_
  refine WO.opA rfl rfl rfl rfl (al_alloc Try.zeroValue31) rfl rfl ?_
  refine WO.put 2 (.ptr 0 0) rfl ?_
  refine WO.op rfl rfl rfl rfl (as_sc rfl) ?_
  refine WO.op rfl rfl rfl rfl (as_sc rfl) ?_
  refine WO.op rfl rfl rfl rfl (as_sc rfl) ?_
  refine WO.nil ?_
  refine W.scopeN 3 (fun _ _ h => (by exact h.elim (fun h => nomatch h))) ?_
  refine W.seq ?_
  refine W.to [(0, _), (2, _), (3, _), (4, _), (5, _)] [_] rfl ⟨(by exact sh_im rfl), (by exact sh_ptr rfl), (by exact sh_sc rfl), (by exact sh_sc rfl), (by exact sh_sc rfl), trivial⟩ ?_
  refine W.region ?_
  refine WO.op rfl rfl rfl rfl (as_sc rfl) ?_
  refine WO.nil ?_
  refine W.seq ?_
  refine W.to [(0, _), (2, _), (3, _), (4, _), (5, _), (6, _)] [_] rfl ⟨(by exact sh_im rfl), (by exact sh_ptr rfl), (by exact sh_sc rfl), (by exact sh_sc rfl), (by exact sh_sc rfl), (by exact sh_sc rfl), trivial⟩ ?_
  refine W.region ?_
  refine WO.op rfl rfl rfl rfl (mv_im rfl) ?_
  refine WO.op rfl rfl rfl rfl (step_pure Try.call20 rfl (by (repeat (first | exact Nl.nil | refine Nl.keep (by exact noOwn_im) ?_))) (w_headG hl h0) (by repeat (first | with_reducible refine noOwn_tup ?_ | with_reducible exact noOwnL_nil | with_reducible refine noOwnL_cons ?_ ?_ | rfl))) ?_
  refine WO.op rfl rfl rfl rfl (mv_tup rfl) ?_
  refine WO.op rfl rfl rfl rfl (step_extract rfl rfl) ?_
  refine WO.op rfl rfl rfl rfl (step_extract rfl rfl) ?_
  refine WO.op rfl rfl rfl rfl (as_sc rfl) ?_
  refine WO.op rfl rfl rfl rfl (as_sc rfl) ?_
  refine WO.nil ?_
  refine W.seq ?_
  refine W.seq ?_
  refine W.to [(0, _), (2, _), (3, _), (4, _), (5, _), (6, _), (7, _), (8, _)] [_] rfl ⟨(by exact sh_im rfl), (by exact sh_ptr rfl), (by exact sh_sc rfl), (by exact sh_sc rfl), (by exact sh_sc rfl), (by exact sh_sc rfl), (by exact sh_sc rfl), (by exact sh_sc rfl), trivial⟩ ?_
  refine W.region ?_
  refine WO.op rfl rfl rfl rfl (mv_sc rfl) ?_
  refine WO.op rfl rfl rfl rfl (step_int2 rfl rfl rfl) ?_
  refine WO.nil ?_
  refine W.cond rfl (fun h1 => ?_) (fun h1 => ?_)
  · try simp only [decide_eq_true_eq, decide_eq_false_iff_not, Bool.not_eq_true', Bool.not_eq_false', beq_iff_eq, bne_iff_ne, beq_eq_false_iff_ne, bne_eq_false_iff_eq, gt_iff_lt, ge_iff_le, Int.not_lt, Int.not_le] at h1
    exact False.elim (by omega)
  · try simp only [decide_eq_true_eq, decide_eq_false_iff_not, Bool.not_eq_true', Bool.not_eq_false', beq_iff_eq, bne_iff_ne, beq_eq_false_iff_ne, bne_eq_false_iff_eq, gt_iff_lt, ge_iff_le, Int.not_lt, Int.not_le] at h1
    refine W.skip ?_
    refine W.seq ?_
    refine W.to [(0, _), (2, _), (3, _), (4, _), (5, _), (6, _), (7, _), (8, _), (15, _)] [_] rfl ⟨(by exact sh_im rfl), (by exact sh_ptr rfl), (by exact sh_sc rfl), (by exact sh_sc rfl), (by exact sh_sc rfl), (by exact sh_sc rfl), (by exact sh_sc rfl), (by exact sh_sc rfl), (by exact sh_sc rfl), trivial⟩ ?_
    refine W.region ?_
    refine WO.op rfl rfl rfl rfl (mv_im rfl) ?_
    refine WO.op rfl rfl rfl rfl (step_subB (m := 2) Try.runUnderlying22 Try.sizeOf5 rfl (Bd.some (v := 2) rfl (by (exact rfl))) (Bd.some (v := 4) rfl (by (exact rfl))) (by omega) (by omega) (by exact Nat.sub_zero _) rfl) ?_
    refine WO.op rfl rfl rfl rfl (step_pure Try.call21 rfl (by (repeat (first | exact Nl.nil | refine Nl.keep (by exact noOwn_im) ?_))) (w_get2) (by repeat (rfl))) ?_
    refine WO.op rfl rfl rfl rfl (step_convR Try.runUnderlying29 Try.runUnderlying3 rfl (by exact convN (by (simp only [cap]; omega)))) ?_
    refine WO.op rfl rfl rfl rfl (as_sc rfl) ?_
    refine WO.nil ?_
    refine W.seq ?_
    refine W.block ?_
    refine W.seq ?_
    refine W.to [(0, _), (2, _), (3, _), (4, _), (5, _), (6, _), (7, _), (8, _), (15, _)] [_] rfl ⟨(by exact sh_im rfl), (by exact sh_ptr rfl), (by exact sh_sc rfl), (by exact sh_sc rfl), (by exact sh_sc rfl), (by exact sh_sc rfl), (by exact sh_sc rfl), (by exact sh_sc rfl), (by exact sh_sc rfl), trivial⟩ ?_
    refine W.region ?_
    refine WO.op rfl rfl rfl rfl (mv_im rfl) ?_
    refine WO.op rfl rfl rfl rfl (step_lenB Try.runUnderlying22 rfl) ?_
    refine WO.op rfl rfl rfl rfl (mv_sc rfl) ?_
    refine WO.op rfl rfl rfl rfl (step_int2 rfl rfl rfl) ?_
    refine WO.op rfl rfl rfl rfl (as_sc rfl) ?_
    refine WO.nil ?_
    refine W.cond rfl (fun h2 => ?_) (fun h2 => ?_)
    · try simp only [decide_eq_true_eq, decide_eq_false_iff_not, Bool.not_eq_true', Bool.not_eq_false', beq_iff_eq, bne_iff_ne, beq_eq_false_iff_ne, bne_eq_false_iff_eq, gt_iff_lt, ge_iff_le, Int.not_lt, Int.not_le] at h2
      refine W.to [(0, _), (2, _), (3, _), (4, _), (5, _), (6, _), (7, _), (8, _), (15, _), (20, _)] [_] rfl ⟨(by exact sh_im rfl), (by exact sh_ptr rfl), (by exact sh_sc rfl), (by exact sh_sc rfl), (by exact sh_sc rfl), (by exact sh_sc rfl), (by exact sh_sc rfl), (by exact sh_sc rfl), (by exact sh_sc rfl), (by exact sh_sc rfl), trivial⟩ ?_
      refine W.region ?_
      refine WO.op rfl rfl rfl rfl (as_sc rfl) ?_
      refine WO.nil ?_
      refine W.seq ?_
      refine W.seq ?_
      refine W.to [(0, _), (2, _), (3, _), (4, _), (5, _), (6, _), (7, _), (8, _), (15, _), (20, _)] [_] rfl ⟨(by exact sh_im rfl), (by exact sh_ptr rfl), (by exact sh_sc rfl), (by exact sh_sc rfl), (by exact sh_sc rfl), (by exact sh_sc rfl), (by exact sh_sc rfl), (by exact sh_sc rfl), (by exact sh_sc rfl), (by exact sh_sc rfl), trivial⟩ ?_
      refine W.region ?_
      refine WO.op rfl rfl rfl rfl (mv_sc rfl) ?_
      refine WO.op rfl rfl rfl rfl (step_int2 rfl rfl rfl) ?_
      refine WO.nil ?_
      refine W.cond rfl (fun h3 => ?_) (fun h3 => ?_)
      · try simp only [decide_eq_true_eq, decide_eq_false_iff_not, Bool.not_eq_true', Bool.not_eq_false', beq_iff_eq, bne_iff_ne, beq_eq_false_iff_ne, bne_eq_false_iff_eq, gt_iff_lt, ge_iff_le, Int.not_lt, Int.not_le] at h3
        refine W.goto ?_
        refine ⟨_, rfl, ?_⟩
        refine W.seq ?_
        refine W.skip ?_
        refine W.seq ?_
        refine W.to [(0, _), (2, _), (3, _), (4, _), (5, _), (6, _), (7, _), (8, _), (15, _), (20, _), (36, _)] [_] rfl ⟨(by exact sh_im rfl), (by exact sh_ptr rfl), (by exact sh_sc rfl), (by exact sh_sc rfl), (by exact sh_sc rfl), (by exact sh_sc rfl), (by exact sh_sc rfl), (by exact sh_sc rfl), (by exact sh_sc rfl), (by exact sh_sc rfl), (by exact sh_sc rfl), trivial⟩ ?_
        refine W.region ?_
        refine WO.op rfl rfl rfl rfl (step_build Try.zeroValue31 (pl := [(0, 1), (1, 1), (2, 1), (3, 1), (4, 1), (5, 1), (6, 1), (7, 1)]) (PlacesOf.mk (by kernel_rfl)) rfl) ?_
        refine WO.put 70 (.agg ip0) (by kernel_rfl) ?_
        refine WO.op rfl rfl rfl rfl (mv_sc rfl) ?_
        refine WO.op0 rfl rfl rfl (step_storeA Try.sizeOf31 rfl rfl rfl (by repeat (exact all_cell rfl rfl)) rfl rfl) ?_
        refine WO.op rfl rfl rfl rfl (as_sc rfl) ?_
        refine WO.op rfl rfl rfl rfl (as_sc rfl) ?_
        refine WO.op rfl rfl rfl rfl (as_sc rfl) ?_
        refine WO.nil ?_
        refine W.ret ?_
        refine ⟨.inl rfl, ?_⟩
        have he : decE l = 20 := by exact decE_4 (by assumption) (by omega)
        rw [he]
        exact ret0 (Res.cellA Try.isAgg31 Try.sizeOf31 rfl rfl (Nat.le_of_ble_eq_true rfl) (Res.tmp rfl (Res.tmp rfl (Res.tmp rfl Res.nil)))) (.keep rfl)
      · try simp only [decide_eq_true_eq, decide_eq_false_iff_not, Bool.not_eq_true', Bool.not_eq_false', beq_iff_eq, bne_iff_ne, beq_eq_false_iff_ne, bne_eq_false_iff_eq, gt_iff_lt, ge_iff_le, Int.not_lt, Int.not_le] at h3
        exact False.elim (by omega)
    · try simp only [decide_eq_true_eq, decide_eq_false_iff_not, Bool.not_eq_true', Bool.not_eq_false', beq_iff_eq, bne_iff_ne, beq_eq_false_iff_ne, bne_eq_false_iff_eq, gt_iff_lt, ge_iff_le, Int.not_lt, Int.not_le] at h2
      refine W.seq ?_
      refine W.to [(0, _), (2, _), (3, _), (4, _), (5, _), (6, _), (7, _), (8, _), (15, _), (20, _)] [_] rfl ⟨(by exact sh_im rfl), (by exact sh_ptr rfl), (by exact sh_sc rfl), (by exact sh_sc rfl), (by exact sh_sc rfl), (by exact sh_sc rfl), (by exact sh_sc rfl), (by exact sh_sc rfl), (by exact sh_sc rfl), (by exact sh_sc rfl), trivial⟩ ?_
      refine W.region ?_
      refine WO.op rfl rfl rfl rfl (mv_sc rfl) ?_
      refine WO.op rfl rfl rfl rfl (mv_sc rfl) ?_
      refine WO.op rfl rfl rfl rfl (step_int2 rfl rfl rfl) ?_
      refine WO.op rfl rfl rfl rfl (as_sc rfl) ?_
      refine WO.nil ?_
      refine W.cond rfl (fun h4 => ?_) (fun h4 => ?_)
      · try simp only [decide_eq_true_eq, decide_eq_false_iff_not, Bool.not_eq_true', Bool.not_eq_false', beq_iff_eq, bne_iff_ne, beq_eq_false_iff_ne, bne_eq_false_iff_eq, gt_iff_lt, ge_iff_le, Int.not_lt, Int.not_le] at h4
        refine W.to [(0, _), (2, _), (3, _), (4, _), (5, _), (6, _), (7, _), (8, _), (15, _), (20, _), (25, _)] [_] rfl ⟨(by exact sh_im rfl), (by exact sh_ptr rfl), (by exact sh_sc rfl), (by exact sh_sc rfl), (by exact sh_sc rfl), (by exact sh_sc rfl), (by exact sh_sc rfl), (by exact sh_sc rfl), (by exact sh_sc rfl), (by exact sh_sc rfl), (by exact sh_sc rfl), trivial⟩ ?_
        refine W.region ?_
        refine WO.op rfl rfl rfl rfl (as_sc rfl) ?_
        refine WO.nil ?_
        refine W.seq ?_
        refine W.seq ?_
        refine W.to [(0, _), (2, _), (3, _), (4, _), (5, _), (6, _), (7, _), (8, _), (15, _), (20, _), (25, _)] [_] rfl ⟨(by exact sh_im rfl), (by exact sh_ptr rfl), (by exact sh_sc rfl), (by exact sh_sc rfl), (by exact sh_sc rfl), (by exact sh_sc rfl), (by exact sh_sc rfl), (by exact sh_sc rfl), (by exact sh_sc rfl), (by exact sh_sc rfl), (by exact sh_sc rfl), trivial⟩ ?_
        refine W.region ?_
        refine WO.op rfl rfl rfl rfl (mv_sc rfl) ?_
        refine WO.op rfl rfl rfl rfl (step_int2 rfl rfl rfl) ?_
        refine WO.nil ?_
        refine W.cond rfl (fun h5 => ?_) (fun h5 => ?_)
        · try simp only [decide_eq_true_eq, decide_eq_false_iff_not, Bool.not_eq_true', Bool.not_eq_false', beq_iff_eq, bne_iff_ne, beq_eq_false_iff_ne, bne_eq_false_iff_eq, gt_iff_lt, ge_iff_le, Int.not_lt, Int.not_le] at h5
          refine W.goto ?_
          refine ⟨_, rfl, ?_⟩
          refine W.seq ?_
          refine W.skip ?_
          refine W.seq ?_
          refine W.to [(0, _), (2, _), (3, _), (4, _), (5, _), (6, _), (7, _), (8, _), (15, _), (20, _), (25, _), (36, _)] [_] rfl ⟨(by exact sh_im rfl), (by exact sh_ptr rfl), (by exact sh_sc rfl), (by exact sh_sc rfl), (by exact sh_sc rfl), (by exact sh_sc rfl), (by exact sh_sc rfl), (by exact sh_sc rfl), (by exact sh_sc rfl), (by exact sh_sc rfl), (by exact sh_sc rfl), (by exact sh_sc rfl), trivial⟩ ?_
          refine W.region ?_
          refine WO.op rfl rfl rfl rfl (step_build Try.zeroValue31 (pl := [(0, 1), (1, 1), (2, 1), (3, 1), (4, 1), (5, 1), (6, 1), (7, 1)]) (PlacesOf.mk (by kernel_rfl)) rfl) ?_
          refine WO.put 70 (.agg ip0) (by kernel_rfl) ?_
          refine WO.op rfl rfl rfl rfl (mv_sc rfl) ?_
          refine WO.op0 rfl rfl rfl (step_storeA Try.sizeOf31 rfl rfl rfl (by repeat (exact all_cell rfl rfl)) rfl rfl) ?_
          refine WO.op rfl rfl rfl rfl (as_sc rfl) ?_
          refine WO.op rfl rfl rfl rfl (as_sc rfl) ?_
          refine WO.op rfl rfl rfl rfl (as_sc rfl) ?_
          refine WO.nil ?_
          refine W.ret ?_
          refine ⟨.inl rfl, ?_⟩
          have he : decE l = 21 := by exact decE_5 (by assumption) (by omega) (by omega)
          rw [he]
          exact ret0 (Res.cellA Try.isAgg31 Try.sizeOf31 rfl rfl (Nat.le_of_ble_eq_true rfl) (Res.tmp rfl (Res.tmp rfl (Res.tmp rfl Res.nil)))) (.keep rfl)
        · try simp only [decide_eq_true_eq, decide_eq_false_iff_not, Bool.not_eq_true', Bool.not_eq_false', beq_iff_eq, bne_iff_ne, beq_eq_false_iff_ne, bne_eq_false_iff_eq, gt_iff_lt, ge_iff_le, Int.not_lt, Int.not_le] at h5
          exact False.elim (by omega)
      · try simp only [decide_eq_true_eq, decide_eq_false_iff_not, Bool.not_eq_true', Bool.not_eq_false', beq_iff_eq, bne_iff_ne, beq_eq_false_iff_ne, bne_eq_false_iff_eq, gt_iff_lt, ge_iff_le, Int.not_lt, Int.not_le] at h4
        refine W.seq ?_
        refine W.to [(0, _), (2, _), (3, _), (4, _), (5, _), (6, _), (7, _), (8, _), (15, _), (20, _), (25, _)] [_] rfl ⟨(by exact sh_im rfl), (by exact sh_ptr rfl), (by exact sh_sc rfl), (by exact sh_sc rfl), (by exact sh_sc rfl), (by exact sh_sc rfl), (by exact sh_sc rfl), (by exact sh_sc rfl), (by exact sh_sc rfl), (by exact sh_sc rfl), (by exact sh_sc rfl), trivial⟩ ?_
        refine W.region ?_
        refine WO.op rfl rfl rfl rfl (mv_im rfl) ?_
        refine WO.op rfl rfl rfl rfl (mv_sc rfl) ?_
        refine WO.op rfl rfl rfl rfl (step_subB Try.runUnderlying22 Try.sizeOf5 rfl Bd.none (Bd.some rfl (by (exact rfl))) (by omega) (by omega) (by exact Nat.sub_zero _) rfl) ?_
        refine WO.op rfl rfl rfl rfl (step_pure Try.call11 rfl (by (repeat (first | exact Nl.nil | refine Nl.keep (by exact noOwn_im) ?_))) (w_Sum (by (simp only [List.length_take, List.length_drop]; omega))) (by repeat (rfl))) ?_
        refine WO.op rfl rfl rfl rfl (step_int2 rfl rfl rfl) ?_
        refine WO.op rfl rfl rfl rfl (as_sc rfl) ?_
        refine WO.nil ?_
        refine W.cond rfl (fun h6 => ?_) (fun h6 => ?_)
        · try simp only [decide_eq_true_eq, decide_eq_false_iff_not, Bool.not_eq_true', Bool.not_eq_false', beq_iff_eq, bne_iff_ne, beq_eq_false_iff_ne, bne_eq_false_iff_eq, gt_iff_lt, ge_iff_le, Int.not_lt, Int.not_le] at h6
          refine W.to [(0, _), (2, _), (3, _), (4, _), (5, _), (6, _), (7, _), (8, _), (15, _), (20, _), (25, _), (29, _)] [_] rfl ⟨(by exact sh_im rfl), (by exact sh_ptr rfl), (by exact sh_sc rfl), (by exact sh_sc rfl), (by exact sh_sc rfl), (by exact sh_sc rfl), (by exact sh_sc rfl), (by exact sh_sc rfl), (by exact sh_sc rfl), (by exact sh_sc rfl), (by exact sh_sc rfl), (by exact sh_sc rfl), trivial⟩ ?_
          refine W.region ?_
          refine WO.op rfl rfl rfl rfl (as_sc rfl) ?_
          refine WO.nil ?_
          refine W.seq ?_
          refine W.seq ?_
          refine W.to [(0, _), (2, _), (3, _), (4, _), (5, _), (6, _), (7, _), (8, _), (15, _), (20, _), (25, _), (29, _)] [_] rfl ⟨(by exact sh_im rfl), (by exact sh_ptr rfl), (by exact sh_sc rfl), (by exact sh_sc rfl), (by exact sh_sc rfl), (by exact sh_sc rfl), (by exact sh_sc rfl), (by exact sh_sc rfl), (by exact sh_sc rfl), (by exact sh_sc rfl), (by exact sh_sc rfl), (by exact sh_sc rfl), trivial⟩ ?_
          refine W.region ?_
          refine WO.op rfl rfl rfl rfl (mv_sc rfl) ?_
          refine WO.op rfl rfl rfl rfl (step_int2 rfl rfl rfl) ?_
          refine WO.nil ?_
          refine W.cond rfl (fun h7 => ?_) (fun h7 => ?_)
          · try simp only [decide_eq_true_eq, decide_eq_false_iff_not, Bool.not_eq_true', Bool.not_eq_false', beq_iff_eq, bne_iff_ne, beq_eq_false_iff_ne, bne_eq_false_iff_eq, gt_iff_lt, ge_iff_le, Int.not_lt, Int.not_le] at h7
            refine W.goto ?_
            refine ⟨_, rfl, ?_⟩
            refine W.seq ?_
            refine W.skip ?_
            refine W.seq ?_
            refine W.to [(0, _), (2, _), (3, _), (4, _), (5, _), (6, _), (7, _), (8, _), (15, _), (20, _), (25, _), (29, _), (36, _)] [_] rfl ⟨(by exact sh_im rfl), (by exact sh_ptr rfl), (by exact sh_sc rfl), (by exact sh_sc rfl), (by exact sh_sc rfl), (by exact sh_sc rfl), (by exact sh_sc rfl), (by exact sh_sc rfl), (by exact sh_sc rfl), (by exact sh_sc rfl), (by exact sh_sc rfl), (by exact sh_sc rfl), (by exact sh_sc rfl), trivial⟩ ?_
            refine W.region ?_
            refine WO.op rfl rfl rfl rfl (step_build Try.zeroValue31 (pl := [(0, 1), (1, 1), (2, 1), (3, 1), (4, 1), (5, 1), (6, 1), (7, 1)]) (PlacesOf.mk (by kernel_rfl)) rfl) ?_
            refine WO.put 70 (.agg ip0) (by kernel_rfl) ?_
            refine WO.op rfl rfl rfl rfl (mv_sc rfl) ?_
            refine WO.op0 rfl rfl rfl (step_storeA Try.sizeOf31 rfl rfl rfl (by repeat (exact all_cell rfl rfl)) rfl rfl) ?_
            refine WO.op rfl rfl rfl rfl (as_sc rfl) ?_
            refine WO.op rfl rfl rfl rfl (as_sc rfl) ?_
            refine WO.op rfl rfl rfl rfl (as_sc rfl) ?_
            refine WO.nil ?_
            refine W.ret ?_
            refine ⟨.inl rfl, ?_⟩
            have he : decE l = 30 := by exact decE_6 (by assumption) (by omega) (by omega) (by omega)
            rw [he]
            exact ret0 (Res.cellA Try.isAgg31 Try.sizeOf31 rfl rfl (Nat.le_of_ble_eq_true rfl) (Res.tmp rfl (Res.tmp rfl (Res.tmp rfl Res.nil)))) (.keep rfl)
          · try simp only [decide_eq_true_eq, decide_eq_false_iff_not, Bool.not_eq_true', Bool.not_eq_false', beq_iff_eq, bne_iff_ne, beq_eq_false_iff_ne, bne_eq_false_iff_eq, gt_iff_lt, ge_iff_le, Int.not_lt, Int.not_le] at h7
            exact False.elim (by omega)
        · try simp only [decide_eq_true_eq, decide_eq_false_iff_not, Bool.not_eq_true', Bool.not_eq_false', beq_iff_eq, bne_iff_ne, beq_eq_false_iff_ne, bne_eq_false_iff_eq, gt_iff_lt, ge_iff_le, Int.not_lt, Int.not_le] at h6
          refine W.skip ?_
          refine W.seq ?_
          refine W.seq ?_
          refine W.to [(0, _), (2, _), (3, _), (4, _), (5, _), (6, _), (7, _), (8, _), (15, _), (20, _), (25, _), (29, _)] [_] rfl ⟨(by exact sh_im rfl), (by exact sh_ptr rfl), (by exact sh_sc rfl), (by exact sh_sc rfl), (by exact sh_sc rfl), (by exact sh_sc rfl), (by exact sh_sc rfl), (by exact sh_sc rfl), (by exact sh_sc rfl), (by exact sh_sc rfl), (by exact sh_sc rfl), (by exact sh_sc rfl), trivial⟩ ?_
          refine W.region ?_
          refine WO.op rfl rfl rfl rfl (mv_sc rfl) ?_
          refine WO.op rfl rfl rfl rfl (step_int2 rfl rfl rfl) ?_
          refine WO.nil ?_
          refine W.cond rfl (fun h8 => ?_) (fun h8 => ?_)
          · try simp only [decide_eq_true_eq, decide_eq_false_iff_not, Bool.not_eq_true', Bool.not_eq_false', beq_iff_eq, bne_iff_ne, beq_eq_false_iff_ne, bne_eq_false_iff_eq, gt_iff_lt, ge_iff_le, Int.not_lt, Int.not_le] at h8
            exact False.elim (by omega)
          · try simp only [decide_eq_true_eq, decide_eq_false_iff_not, Bool.not_eq_true', Bool.not_eq_false', beq_iff_eq, bne_iff_ne, beq_eq_false_iff_ne, bne_eq_false_iff_eq, gt_iff_lt, ge_iff_le, Int.not_lt, Int.not_le] at h8
            exact False.elim (h (by exact decE_7 (by assumption) (by omega) (by omega) (by omega)))

end Go.Proofs.Ytejoccabclibeaa
