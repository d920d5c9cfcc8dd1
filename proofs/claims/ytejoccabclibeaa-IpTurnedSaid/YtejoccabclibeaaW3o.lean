/-
  Contracts of functions of chapter 03: each theorem says what a call of one function answers, for all arguments that its hypotheses let in.
-/
import Derived.Test.YtejoccabclibeaaW3l
import Derived.Test.YtejoccabclibeaaSlZ
import Derived.Test.YtejoccabclibeaaW3j
set_option linter.unusedVariables false
set_option linter.unusedSimpArgs false
set_option maxRecDepth 100000
set_option maxHeartbeats 1000000
namespace Go.Proofs.Ytejoccabclibeaa
open Go Go.SL Go.Proofs
theorem w_EncO {a0 a1 a2 a3 a4 a5 a6 d : Nat} {a7 : ByteArray} (h0 : a0 ≤ 255) (h3 : a3 ≤ 255) (h4 : a4 ≤ 255) (h1 : a1 ≤ 65535) (h2 : a2 ≤ 65535) (h5 : a5 < 4294967296) (h6 : a6 < 4294967296) (hs : a7.size ≤ 40) (h8 : a7.size % 4 = 0) (hd : d + 20 + a7.size ≤ 65535) : Go.SL.Spec Try.prog 12 [.agg [.sc (.int .i64 ((a0 : Nat) : Int)), .sc (.int .i64 ((a1 : Nat) : Int)), .sc (.int .i64 ((a2 : Nat) : Int)), .sc (.int .i64 ((a3 : Nat) : Int)), .sc (.int .i64 ((a4 : Nat) : Int)), .sc (.int .u32 ((a5 : Nat) : Int)), .sc (.int .u32 ((a6 : Nat) : Int)), .sc (.string a7)], .sc (.int .i64 ((d : Nat) : Int))] [] (fun r hp' => r = .tup [.sl 0 0 (20 + a7.size), .sc (.int .i64 0)] ∧ hp' = [.row 1 ((encB a0 a1 a2 a3 a4 a5 a6 a7.data.toList d).map byteAV)]) := by
  refine Spec.body Try.func12 rfl (Nat.le_of_ble_eq_true rfl) ?_
  refine W.seq ?_
  refine W.region ?_
  refine WO.opA rfl rfl rfl rfl (al_boxA rfl rfl) rfl rfl ?_
  refine WO.put 2 (.ptr 0 0) rfl ?_
  refine WO.op rfl rfl rfl rfl (as_nil rfl) ?_
  refine WO.op rfl rfl rfl rfl (as_sc rfl) ?_
  refine WO.nil ?_
  refine W.seq ?_
  refine W.to [(0, _), (1, _), (2, _), (4, _), (5, _)] [_] rfl ⟨(by exact sh_agg rfl), (by exact sh_sc rfl), (by exact sh_ptr rfl), (by exact sh_nil rfl), (by exact sh_sc rfl), trivial⟩ ?_
  refine W.region ?_
  refine WO.op rfl rfl rfl rfl (step_fieldR (k := 7) (FieldOff.mk (by kernel_rfl)) rfl rfl (by exact Nat.zero_add _)) ?_
  refine WO.op rfl rfl rfl rfl (step_load Try.isAgg9 rfl rfl rfl) ?_
  refine WO.op rfl rfl rfl rfl (step_lenS Try.runUnderlying9 rfl) ?_
  refine WO.op rfl rfl rfl rfl (step_addN (p := 20) rfl rfl (by (simp only [cap]; omega))) ?_
  refine WO.op rfl rfl rfl rfl (as_sc rfl) ?_
  refine WO.nil ?_
  refine W.seq ?_
  refine W.seq ?_
  refine W.to [(0, _), (1, _), (2, _), (4, _), (5, _), (6, _)] [_] rfl ⟨(by exact sh_agg rfl), (by exact sh_sc rfl), (by exact sh_ptr rfl), (by exact sh_nil rfl), (by exact sh_sc rfl), (by exact sh_sc rfl), trivial⟩ ?_
  refine W.region ?_
  refine WO.op rfl rfl rfl rfl (step_fieldR (k := 0) (FieldOff.mk (by kernel_rfl)) rfl rfl (by exact Nat.zero_add _)) ?_
  refine WO.op rfl rfl rfl rfl (step_load Try.isAgg3 rfl rfl rfl) ?_
  refine WO.op rfl rfl rfl rfl (step_pure Try.call27 rfl (by (repeat (first | exact Nl.nil | refine Nl.keep (by rfl) ?_))) (w_within) (by repeat (rfl))) ?_
  refine WO.op rfl rfl rfl rfl (step_not rfl) ?_
  refine WO.op rfl rfl rfl rfl (mv_sc rfl) ?_
  refine WO.spl 16 rfl (fun h1 => ?_) (fun h1 => ?_)
  · try simp only [decide_eq_true_eq, decide_eq_false_iff_not, Bool.not_eq_true', Bool.not_eq_false', beq_iff_eq, bne_iff_ne, beq_eq_false_iff_ne, bne_eq_false_iff_eq, gt_iff_lt, ge_iff_le, Int.not_lt, Int.not_le] at h1
    exact False.elim (by omega)
  · try simp only [decide_eq_true_eq, decide_eq_false_iff_not, Bool.not_eq_true', Bool.not_eq_false', beq_iff_eq, bne_iff_ne, beq_eq_false_iff_ne, bne_eq_false_iff_eq, gt_iff_lt, ge_iff_le, Int.not_lt, Int.not_le] at h1
    refine WO.op rfl rfl rfl rfl (step_fieldR (k := 3) (FieldOff.mk (by kernel_rfl)) rfl rfl (by exact Nat.zero_add _)) ?_
    refine WO.op rfl rfl rfl rfl (step_load Try.isAgg3 rfl rfl rfl) ?_
    refine WO.op rfl rfl rfl rfl (step_pure Try.call27 rfl (by (repeat (first | exact Nl.nil | refine Nl.keep (by rfl) ?_))) (w_within) (by repeat (rfl))) ?_
    refine WO.op rfl rfl rfl rfl (step_not rfl) ?_
    refine WO.op rfl rfl rfl rfl (pk_f rfl rfl rfl) ?_
    refine WO.op rfl rfl rfl rfl (mv_sc rfl) ?_
    refine WO.spl 22 rfl (fun h2 => ?_) (fun h2 => ?_)
    · try simp only [decide_eq_true_eq, decide_eq_false_iff_not, Bool.not_eq_true', Bool.not_eq_false', beq_iff_eq, bne_iff_ne, beq_eq_false_iff_ne, bne_eq_false_iff_eq, gt_iff_lt, ge_iff_le, Int.not_lt, Int.not_le] at h2
      exact False.elim (by omega)
    · try simp only [decide_eq_true_eq, decide_eq_false_iff_not, Bool.not_eq_true', Bool.not_eq_false', beq_iff_eq, bne_iff_ne, beq_eq_false_iff_ne, bne_eq_false_iff_eq, gt_iff_lt, ge_iff_le, Int.not_lt, Int.not_le] at h2
      refine WO.op rfl rfl rfl rfl (step_fieldR (k := 4) (FieldOff.mk (by kernel_rfl)) rfl rfl (by exact Nat.zero_add _)) ?_
      refine WO.op rfl rfl rfl rfl (step_load Try.isAgg3 rfl rfl rfl) ?_
      refine WO.op rfl rfl rfl rfl (step_pure Try.call27 rfl (by (repeat (first | exact Nl.nil | refine Nl.keep (by rfl) ?_))) (w_within) (by repeat (rfl))) ?_
      refine WO.op rfl rfl rfl rfl (step_not rfl) ?_
      refine WO.op rfl rfl rfl rfl (pk_f rfl rfl rfl) ?_
      refine WO.op rfl rfl rfl rfl (mv_sc rfl) ?_
      refine WO.spl 28 rfl (fun h3 => ?_) (fun h3 => ?_)
      · try simp only [decide_eq_true_eq, decide_eq_false_iff_not, Bool.not_eq_true', Bool.not_eq_false', beq_iff_eq, bne_iff_ne, beq_eq_false_iff_ne, bne_eq_false_iff_eq, gt_iff_lt, ge_iff_le, Int.not_lt, Int.not_le] at h3
        exact False.elim (by omega)
      · try simp only [decide_eq_true_eq, decide_eq_false_iff_not, Bool.not_eq_true', Bool.not_eq_false', beq_iff_eq, bne_iff_ne, beq_eq_false_iff_ne, bne_eq_false_iff_eq, gt_iff_lt, ge_iff_le, Int.not_lt, Int.not_le] at h3
        refine WO.op rfl rfl rfl rfl (step_fieldR (k := 1) (FieldOff.mk (by kernel_rfl)) rfl rfl (by exact Nat.zero_add _)) ?_
        refine WO.op rfl rfl rfl rfl (step_load Try.isAgg3 rfl rfl rfl) ?_
        refine WO.op rfl rfl rfl rfl (step_pure Try.call27 rfl (by (repeat (first | exact Nl.nil | refine Nl.keep (by rfl) ?_))) (w_within) (by repeat (rfl))) ?_
        refine WO.op rfl rfl rfl rfl (step_not rfl) ?_
        refine WO.op rfl rfl rfl rfl (pk_f rfl rfl rfl) ?_
        refine WO.op rfl rfl rfl rfl (mv_sc rfl) ?_
        refine WO.spl 34 rfl (fun h4 => ?_) (fun h4 => ?_)
        · try simp only [decide_eq_true_eq, decide_eq_false_iff_not, Bool.not_eq_true', Bool.not_eq_false', beq_iff_eq, bne_iff_ne, beq_eq_false_iff_ne, bne_eq_false_iff_eq, gt_iff_lt, ge_iff_le, Int.not_lt, Int.not_le] at h4
          exact False.elim (by omega)
        · try simp only [decide_eq_true_eq, decide_eq_false_iff_not, Bool.not_eq_true', Bool.not_eq_false', beq_iff_eq, bne_iff_ne, beq_eq_false_iff_ne, bne_eq_false_iff_eq, gt_iff_lt, ge_iff_le, Int.not_lt, Int.not_le] at h4
          refine WO.op rfl rfl rfl rfl (step_fieldR (k := 2) (FieldOff.mk (by kernel_rfl)) rfl rfl (by exact Nat.zero_add _)) ?_
          refine WO.op rfl rfl rfl rfl (step_load Try.isAgg3 rfl rfl rfl) ?_
          refine WO.op rfl rfl rfl rfl (step_pure Try.call27 rfl (by (repeat (first | exact Nl.nil | refine Nl.keep (by rfl) ?_))) (w_within) (by repeat (rfl))) ?_
          refine WO.op rfl rfl rfl rfl (step_not rfl) ?_
          refine WO.op rfl rfl rfl rfl (pk_f rfl rfl rfl) ?_
          refine WO.op rfl rfl rfl rfl (mv_sc rfl) ?_
          refine WO.spl 40 rfl (fun h5 => ?_) (fun h5 => ?_)
          · try simp only [decide_eq_true_eq, decide_eq_false_iff_not, Bool.not_eq_true', Bool.not_eq_false', beq_iff_eq, bne_iff_ne, beq_eq_false_iff_ne, bne_eq_false_iff_eq, gt_iff_lt, ge_iff_le, Int.not_lt, Int.not_le] at h5
            exact False.elim (by omega)
          · try simp only [decide_eq_true_eq, decide_eq_false_iff_not, Bool.not_eq_true', Bool.not_eq_false', beq_iff_eq, bne_iff_ne, beq_eq_false_iff_ne, bne_eq_false_iff_eq, gt_iff_lt, ge_iff_le, Int.not_lt, Int.not_le] at h5
            refine WO.op rfl rfl rfl rfl (step_fieldR (k := 7) (FieldOff.mk (by kernel_rfl)) rfl rfl (by exact Nat.zero_add _)) ?_
            refine WO.op rfl rfl rfl rfl (step_load Try.isAgg9 rfl rfl rfl) ?_
            refine WO.op rfl rfl rfl rfl (step_lenS Try.runUnderlying9 rfl) ?_
            refine WO.op rfl rfl rfl rfl (step_int2 rfl rfl rfl) ?_
            refine WO.op rfl rfl rfl rfl (pk_f rfl rfl rfl) ?_
            refine WO.op rfl rfl rfl rfl (mv_sc rfl) ?_
            refine WO.spl 46 rfl (fun h6 => ?_) (fun h6 => ?_)
            · try simp only [decide_eq_true_eq, decide_eq_false_iff_not, Bool.not_eq_true', Bool.not_eq_false', beq_iff_eq, bne_iff_ne, beq_eq_false_iff_ne, bne_eq_false_iff_eq, gt_iff_lt, ge_iff_le, Int.not_lt, Int.not_le] at h6
              exact False.elim (by omega)
            · try simp only [decide_eq_true_eq, decide_eq_false_iff_not, Bool.not_eq_true', Bool.not_eq_false', beq_iff_eq, bne_iff_ne, beq_eq_false_iff_ne, bne_eq_false_iff_eq, gt_iff_lt, ge_iff_le, Int.not_lt, Int.not_le] at h6
              refine WO.op rfl rfl rfl rfl (step_fieldR (k := 7) (FieldOff.mk (by kernel_rfl)) rfl rfl (by exact Nat.zero_add _)) ?_
              refine WO.op rfl rfl rfl rfl (step_load Try.isAgg9 rfl rfl rfl) ?_
              refine WO.op rfl rfl rfl rfl (step_lenS Try.runUnderlying9 rfl) ?_
              refine WO.op rfl rfl rfl rfl (step_remN (q := 4) rfl rfl (by omega)) ?_
              refine WO.op rfl rfl rfl rfl (step_int2 rfl rfl rfl) ?_
              refine WO.op rfl rfl rfl rfl (pk_f rfl rfl rfl) ?_
              refine WO.op rfl rfl rfl rfl (mv_sc rfl) ?_
              refine WO.spl 53 rfl (fun h7 => ?_) (fun h7 => ?_)
              · try simp only [decide_eq_true_eq, decide_eq_false_iff_not, Bool.not_eq_true', Bool.not_eq_false', beq_iff_eq, bne_iff_ne, beq_eq_false_iff_ne, bne_eq_false_iff_eq, gt_iff_lt, ge_iff_le, Int.not_lt, Int.not_le] at h7
                exact False.elim (by omega)
              · try simp only [decide_eq_true_eq, decide_eq_false_iff_not, Bool.not_eq_true', Bool.not_eq_false', beq_iff_eq, bne_iff_ne, beq_eq_false_iff_ne, bne_eq_false_iff_eq, gt_iff_lt, ge_iff_le, Int.not_lt, Int.not_le] at h7
                refine WO.op rfl rfl rfl rfl (mv_sc rfl) ?_
                refine WO.op rfl rfl rfl rfl (mv_sc rfl) ?_
                refine WO.op rfl rfl rfl rfl (step_subN (p := 65535) rfl rfl (by omega) (by (simp only [cap]; omega))) ?_
                refine WO.op rfl rfl rfl rfl (step_pure Try.call27 rfl (by (repeat (first | exact Nl.nil | refine Nl.keep (by rfl) ?_))) (w_within) (by repeat (rfl))) ?_
                refine WO.op rfl rfl rfl rfl (step_not rfl) ?_
                refine WO.op rfl rfl rfl rfl (pk_f rfl rfl rfl) ?_
                refine WO.nil ?_
                refine W.cond rfl (fun h8 => ?_) (fun h8 => ?_)
                · try simp only [decide_eq_true_eq, decide_eq_false_iff_not, Bool.not_eq_true', Bool.not_eq_false', beq_iff_eq, bne_iff_ne, beq_eq_false_iff_ne, bne_eq_false_iff_eq, gt_iff_lt, ge_iff_le, Int.not_lt, Int.not_le] at h8
                  exact False.elim (by omega)
                · try simp only [decide_eq_true_eq, decide_eq_false_iff_not, Bool.not_eq_true', Bool.not_eq_false', beq_iff_eq, bne_iff_ne, beq_eq_false_iff_ne, bne_eq_false_iff_eq, gt_iff_lt, ge_iff_le, Int.not_lt, Int.not_le] at h8
                  refine W.skip ?_
                  refine W.seq ?_
                  refine W.to [(0, _), (1, _), (2, _), (4, _), (5, _), (6, _), (59, _)] [_] rfl ⟨(by exact sh_agg rfl), (by exact sh_sc rfl), (by exact sh_ptr rfl), (by exact sh_nil rfl), (by exact sh_sc rfl), (by exact sh_sc rfl), (by exact sh_sc rfl), trivial⟩ ?_
                  refine W.region ?_
                  refine WO.op rfl rfl rfl rfl (mv_sc rfl) ?_
                  refine WO.op rfl rfl rfl rfl (step_makeB Try.runUnderlying22 (EI.mk (by kernel_rfl)) rfl rfl (by (exact rfl)) (by (exact rfl)) (by omega)) ?_
                  refine WO.put 61 (.sl 1 0 _) rfl ?_
                  refine WO.op rfl rfl rfl rfl (as_sl rfl) ?_
                  refine WO.nil ?_
                  refine W.seq ?_
                  refine W.to [(0, _), (1, _), (2, _), (4, _), (5, _), (6, _), (7, _), (59, _)] [_, _] rfl ⟨(by exact sh_agg rfl), (by exact sh_sc rfl), (by exact sh_ptr rfl), (by exact sh_nil rfl), (by exact sh_sc rfl), (by exact sh_sc rfl), (by exact sh_sl rfl), (by exact sh_sc rfl), trivial⟩ ?_
                  refine W.draw (Checked.mixed Try.checked) ?_
                  refine DC.op rfl rfl rfl (fun _ => mv_sl rfl) ?_
                  refine DC.op rfl rfl rfl (fun _ => mv_sl rfl) ?_
                  refine DC.op rfl rfl rfl (fun _ => mv_sc rfl) ?_
                  refine DC.op rfl rfl rfl (fun _ => step_quoN (q := 4) rfl rfl (by omega) (by (simp only [cap]; omega))) ?_
                  refine DC.op rfl rfl rfl (fun _ => step_orN (p := 64) rfl rfl (by (simp only [cap]; omega)) (by (simp only [cap]; omega))) ?_
                  refine DC.op rfl rfl rfl (fun _ => step_convR Try.runUnderlying3 Try.runUnderlying5 rfl (by exact modN8 _)) ?_
                  refine DC.op1 rfl rfl rfl rfl (fun _ ho => step_fieldR (k := 0) (FieldOff.mk (by kernel_rfl)) rfl ho (by exact Nat.zero_add _)) ?_
                  refine DC.op1 rfl rfl rfl rfl (fun _ ho => step_load Try.isAgg3 rfl ho rfl) ?_
                  refine DC.op rfl rfl rfl (fun _ => step_convR Try.runUnderlying3 Try.runUnderlying5 rfl (by exact convN (by (simp only [cap]; omega)))) ?_
                  refine DC.op1 rfl rfl rfl rfl (fun _ ho => step_idxO (j := 0) Try.runUnderlying22 Try.sizeOf5 rfl ho rfl (by (exact rfl)) (by omega) (by exact Nat.zero_add _)) ?_
                  refine DC.opE0 rfl rfl (step_storeB (b := _) Try.sizeOf5 rfl rfl rfl (by (exact u8_mod _)) (by (simp only [List.length_map, List.length_append, List.length_take, List.length_drop, List.length_set, List.length_cons, List.length_nil, List.length_replicate, putN_len, splice, Array.length_toList, ByteArray.size_data] <;> omega))) (by simp) (by repeat (first | exact True.intro | refine And.intro (by rfl) ?_)) (by repeat (first | exact True.intro | refine And.intro (by first | exact rowLt_bytes | rfl) ?_)) ?_
                  refine DC.op1 rfl rfl rfl rfl (fun _ ho => step_idxO (j := 1) Try.runUnderlying22 Try.sizeOf5 rfl ho rfl (by (exact rfl)) (by omega) (by exact Nat.zero_add _)) ?_
                  refine DC.opE0 rfl rfl (step_storeB (b := _) Try.sizeOf5 rfl rfl rfl (by (exact u8_nat (by omega))) (by (simp only [List.length_map, List.length_append, List.length_take, List.length_drop, List.length_set, List.length_cons, List.length_nil, List.length_replicate, putN_len, splice, Array.length_toList, ByteArray.size_data] <;> omega))) (by simp) (by repeat (first | exact True.intro | refine And.intro (by rfl) ?_)) (by repeat (first | exact True.intro | refine And.intro (by first | exact rowLt_bytes | rfl) ?_)) ?_
                  refine DC.fin [(5, 0), (6, 0), (6, 1), (7, 0), (7, 1), (8, 0), (8, 1), (9, 0), (11, 1)] (by kernel_rfl) (by kernel_rfl) ?_ ?_
                  · repeat (first | exact True.intro | refine And.intro ?_ ?_ | kernel_rfl)
                  · refine W.seq ?_
                    refine W.to [(0, _), (1, _), (2, _), (4, _), (5, _), (6, _), (7, _), (59, _)] [_, _] rfl ⟨(by exact sh_agg rfl), (by exact sh_sc rfl), (by exact sh_ptr rfl), (by exact sh_nil rfl), (by exact sh_sc rfl), (by exact sh_sc rfl), (by exact sh_sl rfl), (by exact sh_sc rfl), trivial⟩ ?_
                    refine W.gen2 _ rfl ?_
                    intro L6 hL6
                    have hl6 : L6.length = 20 + a7.size := by rw [hL6]; simp only [putN_len, List.length_set, List.length_replicate, splice, List.length_append, List.length_take, List.length_drop, Array.length_toList, ByteArray.size_data] <;> omega
                    refine W.region ?_
                    refine WO.op rfl rfl rfl rfl (mv_sl rfl) ?_
                    refine WO.op rfl rfl rfl rfl (step_subO (m := 2) (a := 2) Try.runUnderlying22 Try.sizeOf5 rfl rfl (Bd.some (v := 2) rfl (by (exact rfl))) (Bd.some (v := 4) rfl (by (exact rfl))) (by omega) (by omega) (Nat.zero_add _) (by exact Nat.sub_zero _)) ?_
                    refine WO.op rfl rfl rfl rfl (mv_sc rfl) ?_
                    refine WO.op rfl rfl rfl rfl (mv_sc rfl) ?_
                    refine WO.op rfl rfl rfl rfl (step_addN rfl rfl (by (simp only [cap]; omega))) ?_
                    refine WO.op rfl rfl rfl rfl (step_convR Try.runUnderlying3 Try.runUnderlying29 rfl (by exact convN (by (simp only [cap]; omega)))) ?_
                    refine WO.op rfl rfl rfl rfl (step_over Try.call23 rfl rfl rfl noOwn_bytes noOwn_bytes rfl (w_put (by omega) (by omega) (by omega))) ?_
                    refine WO.nil ?_
                    refine W.seq ?_
                    refine W.to [(0, _), (1, _), (2, _), (4, _), (5, _), (6, _), (7, _), (59, _)] [_, _] rfl ⟨(by exact sh_agg rfl), (by exact sh_sc rfl), (by exact sh_ptr rfl), (by exact sh_nil rfl), (by exact sh_sc rfl), (by exact sh_sc rfl), (by exact sh_sl rfl), (by exact sh_sc rfl), trivial⟩ ?_
                    refine W.gen2 _ rfl ?_
                    intro L7 hL7
                    have hl7 : L7.length = 20 + a7.size := by rw [hL7]; simp only [putN_len, List.length_set, List.length_replicate, splice, List.length_append, List.length_take, List.length_drop, Array.length_toList, ByteArray.size_data] <;> omega
                    refine W.draw (Checked.mixed Try.checked) ?_
                    refine DC.op rfl rfl rfl (fun _ => mv_sl rfl) ?_
                    refine DC.op1 rfl rfl rfl rfl (fun _ ho => step_subO (m := 2) (a := 4) Try.runUnderlying22 Try.sizeOf5 rfl ho (Bd.some (v := 4) rfl (by (exact rfl))) (Bd.some (v := 6) rfl (by (exact rfl))) (by omega) (by omega) (Nat.zero_add _) (by exact Nat.sub_zero _)) ?_
                    refine DC.op1 rfl rfl rfl rfl (fun _ ho => step_fieldR (k := 1) (FieldOff.mk (by kernel_rfl)) rfl ho (by exact Nat.zero_add _)) ?_
                    refine DC.op1 rfl rfl rfl rfl (fun _ ho => step_load Try.isAgg3 rfl ho rfl) ?_
                    refine DC.op rfl rfl rfl (fun _ => step_convR Try.runUnderlying3 Try.runUnderlying29 rfl (by exact convN (by (simp only [cap]; omega)))) ?_
                    refine DC.opE rfl rfl rfl (step_over Try.call23 rfl rfl rfl noOwn_bytes noOwn_bytes rfl (w_put (by omega) (by omega) (by omega))) (by simp) (by repeat (first | exact True.intro | refine And.intro (by rfl) ?_)) (by repeat (first | exact True.intro | refine And.intro (by first | exact rowLt_bytes | rfl) ?_)) ?_
                    refine DC.fin [(1, 0), (2, 0), (3, 0), (4, 0)] (by kernel_rfl) (by kernel_rfl) ?_ ?_
                    · repeat (first | exact True.intro | refine And.intro ?_ ?_ | kernel_rfl)
                    · refine W.seq ?_
                      refine W.to [(0, _), (1, _), (2, _), (4, _), (5, _), (6, _), (7, _), (59, _)] [_, _] rfl ⟨(by exact sh_agg rfl), (by exact sh_sc rfl), (by exact sh_ptr rfl), (by exact sh_nil rfl), (by exact sh_sc rfl), (by exact sh_sc rfl), (by exact sh_sl rfl), (by exact sh_sc rfl), trivial⟩ ?_
                      refine W.gen2 _ rfl ?_
                      intro L8 hL8
                      have hl8 : L8.length = 20 + a7.size := by rw [hL8]; simp only [putN_len, List.length_set, List.length_replicate, splice, List.length_append, List.length_take, List.length_drop, Array.length_toList, ByteArray.size_data] <;> omega
                      refine W.draw (Checked.mixed Try.checked) ?_
                      refine DC.op rfl rfl rfl (fun _ => mv_sl rfl) ?_
                      refine DC.op1 rfl rfl rfl rfl (fun _ ho => step_subO (m := 2) (a := 6) Try.runUnderlying22 Try.sizeOf5 rfl ho (Bd.some (v := 6) rfl (by (exact rfl))) (Bd.some (v := 8) rfl (by (exact rfl))) (by omega) (by omega) (Nat.zero_add _) (by exact Nat.sub_zero _)) ?_
                      refine DC.op1 rfl rfl rfl rfl (fun _ ho => step_fieldR (k := 2) (FieldOff.mk (by kernel_rfl)) rfl ho (by exact Nat.zero_add _)) ?_
                      refine DC.op1 rfl rfl rfl rfl (fun _ ho => step_load Try.isAgg3 rfl ho rfl) ?_
                      refine DC.op rfl rfl rfl (fun _ => step_convR Try.runUnderlying3 Try.runUnderlying29 rfl (by exact convN (by (simp only [cap]; omega)))) ?_
                      refine DC.opE rfl rfl rfl (step_over Try.call23 rfl rfl rfl noOwn_bytes noOwn_bytes rfl (w_put (by omega) (by omega) (by omega))) (by simp) (by repeat (first | exact True.intro | refine And.intro (by rfl) ?_)) (by repeat (first | exact True.intro | refine And.intro (by first | exact rowLt_bytes | rfl) ?_)) ?_
                      refine DC.fin [(1, 0), (2, 0), (3, 0), (4, 0)] (by kernel_rfl) (by kernel_rfl) ?_ ?_
                      · repeat (first | exact True.intro | refine And.intro ?_ ?_ | kernel_rfl)
                      · refine W.seq ?_
                        refine W.to [(0, _), (1, _), (2, _), (4, _), (5, _), (6, _), (7, _), (59, _)] [_, _] rfl ⟨(by exact sh_agg rfl), (by exact sh_sc rfl), (by exact sh_ptr rfl), (by exact sh_nil rfl), (by exact sh_sc rfl), (by exact sh_sc rfl), (by exact sh_sl rfl), (by exact sh_sc rfl), trivial⟩ ?_
                        refine W.gen2 _ rfl ?_
                        intro L9 hL9
                        have hl9 : L9.length = 20 + a7.size := by rw [hL9]; simp only [putN_len, List.length_set, List.length_replicate, splice, List.length_append, List.length_take, List.length_drop, Array.length_toList, ByteArray.size_data] <;> omega
                        refine W.draw (Checked.mixed Try.checked) ?_
                        refine DC.op rfl rfl rfl (fun _ => mv_sl rfl) ?_
                        refine DC.op rfl rfl rfl (fun _ => mv_sl rfl) ?_
                        refine DC.op1 rfl rfl rfl rfl (fun _ ho => step_fieldR (k := 3) (FieldOff.mk (by kernel_rfl)) rfl ho (by exact Nat.zero_add _)) ?_
                        refine DC.op1 rfl rfl rfl rfl (fun _ ho => step_load Try.isAgg3 rfl ho rfl) ?_
                        refine DC.op rfl rfl rfl (fun _ => step_convR Try.runUnderlying3 Try.runUnderlying5 rfl (by exact convN (by (simp only [cap]; omega)))) ?_
                        refine DC.op1 rfl rfl rfl rfl (fun _ ho => step_fieldR (k := 4) (FieldOff.mk (by kernel_rfl)) rfl ho (by exact Nat.zero_add _)) ?_
                        refine DC.op1 rfl rfl rfl rfl (fun _ ho => step_load Try.isAgg3 rfl ho rfl) ?_
                        refine DC.op rfl rfl rfl (fun _ => step_convR Try.runUnderlying3 Try.runUnderlying5 rfl (by exact convN (by (simp only [cap]; omega)))) ?_
                        refine DC.op1 rfl rfl rfl rfl (fun _ ho => step_idxO (j := 8) Try.runUnderlying22 Try.sizeOf5 rfl ho rfl (by (exact rfl)) (by omega) (by exact Nat.zero_add _)) ?_
                        refine DC.opE0 rfl rfl (step_storeB (b := _) Try.sizeOf5 rfl rfl rfl (by (exact u8_nat (by omega))) (by omega)) (by simp) (by repeat (first | exact True.intro | refine And.intro (by rfl) ?_)) (by repeat (first | exact True.intro | refine And.intro (by first | exact rowLt_bytes | rfl) ?_)) ?_
                        refine DC.op1 rfl rfl rfl rfl (fun _ ho => step_idxO (j := 9) Try.runUnderlying22 Try.sizeOf5 rfl ho rfl (by (exact rfl)) (by omega) (by exact Nat.zero_add _)) ?_
                        refine DC.opE0 rfl rfl (step_storeB (b := _) Try.sizeOf5 rfl rfl rfl (by (exact u8_nat (by omega))) (by (simp only [List.length_map, List.length_append, List.length_take, List.length_drop, List.length_set, List.length_cons, List.length_nil, List.length_replicate, putN_len, splice, Array.length_toList, ByteArray.size_data] <;> omega))) (by simp) (by repeat (first | exact True.intro | refine And.intro (by rfl) ?_)) (by repeat (first | exact True.intro | refine And.intro (by first | exact rowLt_bytes | rfl) ?_)) ?_
                        refine DC.fin [(2, 0), (3, 0), (4, 0), (5, 0), (5, 1), (6, 0), (6, 1), (7, 0), (7, 1), (8, 0), (10, 1)] (by kernel_rfl) (by kernel_rfl) ?_ ?_
                        · repeat (first | exact True.intro | refine And.intro ?_ ?_ | kernel_rfl)
                        · refine W.seq ?_
                          refine W.to [(0, _), (1, _), (2, _), (4, _), (5, _), (6, _), (7, _), (59, _)] [_, _] rfl ⟨(by exact sh_agg rfl), (by exact sh_sc rfl), (by exact sh_ptr rfl), (by exact sh_nil rfl), (by exact sh_sc rfl), (by exact sh_sc rfl), (by exact sh_sl rfl), (by exact sh_sc rfl), trivial⟩ ?_
                          refine W.gen2 _ rfl ?_
                          intro L10 hL10
                          have hl10 : L10.length = 20 + a7.size := by rw [hL10]; simp only [putN_len, List.length_set, List.length_replicate, splice, List.length_append, List.length_take, List.length_drop, Array.length_toList, ByteArray.size_data] <;> omega
                          refine W.draw (Checked.mixed Try.checked) ?_
                          refine DC.op rfl rfl rfl (fun _ => mv_sl rfl) ?_
                          refine DC.op1 rfl rfl rfl rfl (fun _ ho => step_subO (m := 4) (a := 12) Try.runUnderlying22 Try.sizeOf5 rfl ho (Bd.some (v := 12) rfl (by (exact rfl))) (Bd.some (v := 16) rfl (by (exact rfl))) (by omega) (by omega) (Nat.zero_add _) (by exact Nat.sub_zero _)) ?_
                          refine DC.op1 rfl rfl rfl rfl (fun _ ho => step_fieldR (k := 5) (FieldOff.mk (by kernel_rfl)) rfl ho (by exact Nat.zero_add _)) ?_
                          refine DC.op1 rfl rfl rfl rfl (fun _ ho => step_load Try.isAgg29 rfl ho rfl) ?_
                          refine DC.opE rfl rfl rfl (step_over Try.call23 rfl rfl rfl noOwn_bytes noOwn_bytes rfl (w_put (by omega) (by omega) (by omega))) (by simp) (by repeat (first | exact True.intro | refine And.intro (by rfl) ?_)) (by repeat (first | exact True.intro | refine And.intro (by first | exact rowLt_bytes | rfl) ?_)) ?_
                          refine DC.fin [(1, 0), (2, 0), (3, 0)] (by kernel_rfl) (by kernel_rfl) ?_ ?_
                          · repeat (first | exact True.intro | refine And.intro ?_ ?_ | kernel_rfl)
                          · refine W.seq ?_
                            refine W.to [(0, _), (1, _), (2, _), (4, _), (5, _), (6, _), (7, _), (59, _)] [_, _] rfl ⟨(by exact sh_agg rfl), (by exact sh_sc rfl), (by exact sh_ptr rfl), (by exact sh_nil rfl), (by exact sh_sc rfl), (by exact sh_sc rfl), (by exact sh_sl rfl), (by exact sh_sc rfl), trivial⟩ ?_
                            refine W.gen2 _ rfl ?_
                            intro L11 hL11
                            have hl11 : L11.length = 20 + a7.size := by rw [hL11]; simp only [putN_len, List.length_set, List.length_replicate, splice, List.length_append, List.length_take, List.length_drop, Array.length_toList, ByteArray.size_data] <;> omega
                            refine W.draw (Checked.mixed Try.checked) ?_
                            refine DC.op rfl rfl rfl (fun _ => mv_sl rfl) ?_
                            refine DC.op1 rfl rfl rfl rfl (fun _ ho => step_subO (m := 4) (a := 16) Try.runUnderlying22 Try.sizeOf5 rfl ho (Bd.some (v := 16) rfl (by (exact rfl))) (Bd.some (v := 20) rfl (by (exact rfl))) (by omega) (by omega) (Nat.zero_add _) (by exact Nat.sub_zero _)) ?_
                            refine DC.op1 rfl rfl rfl rfl (fun _ ho => step_fieldR (k := 6) (FieldOff.mk (by kernel_rfl)) rfl ho (by exact Nat.zero_add _)) ?_
                            refine DC.op1 rfl rfl rfl rfl (fun _ ho => step_load Try.isAgg29 rfl ho rfl) ?_
                            refine DC.opE rfl rfl rfl (step_over Try.call23 rfl rfl rfl noOwn_bytes noOwn_bytes rfl (w_put (by omega) (by omega) (by omega))) (by simp) (by repeat (first | exact True.intro | refine And.intro (by rfl) ?_)) (by repeat (first | exact True.intro | refine And.intro (by first | exact rowLt_bytes | rfl) ?_)) ?_
                            refine DC.fin [(1, 0), (2, 0), (3, 0)] (by kernel_rfl) (by kernel_rfl) ?_ ?_
                            · repeat (first | exact True.intro | refine And.intro ?_ ?_ | kernel_rfl)
                            · refine W.seq ?_
                              refine W.to [(0, _), (1, _), (2, _), (4, _), (5, _), (6, _), (7, _), (59, _)] [_, _] rfl ⟨(by exact sh_agg rfl), (by exact sh_sc rfl), (by exact sh_ptr rfl), (by exact sh_nil rfl), (by exact sh_sc rfl), (by exact sh_sc rfl), (by exact sh_sl rfl), (by exact sh_sc rfl), trivial⟩ ?_
                              refine W.gen2 _ rfl ?_
                              intro L12 hL12
                              have hl12 : L12.length = 20 + a7.size := by rw [hL12]; simp only [putN_len, List.length_set, List.length_replicate, splice, List.length_append, List.length_take, List.length_drop, Array.length_toList, ByteArray.size_data] <;> omega
                              refine W.draw (Checked.mixed Try.checked) ?_
                              refine DC.op rfl rfl rfl (fun _ => mv_sl rfl) ?_
                              refine DC.op1 rfl rfl rfl rfl (fun _ ho => step_subO (a := 20) Try.runUnderlying22 Try.sizeOf5 rfl ho (Bd.some (v := 20) rfl (by (exact rfl))) Bd.none (by omega) (by omega) (Nat.zero_add _) (by exact Nat.sub_zero _)) ?_
                              refine DC.op1 rfl rfl rfl rfl (fun _ ho => step_fieldR (k := 7) (FieldOff.mk (by kernel_rfl)) rfl ho (by exact Nat.zero_add _)) ?_
                              refine DC.op1 rfl rfl rfl rfl (fun _ ho => step_load Try.isAgg9 rfl ho rfl) ?_
                              refine DC.opE rfl rfl rfl (step_copyS Try.runUnderlying22 (EI.mk (by kernel_rfl)) rfl rfl rfl (by (simp; omega)) (by (simp; omega))) (by simp) (by repeat (first | exact True.intro | refine And.intro (by rfl) ?_)) (by repeat (first | exact True.intro | refine And.intro (by first | exact rowLt_bytes | rfl) ?_)) ?_
                              refine DC.fin [(1, 0), (2, 0), (3, 0)] (by kernel_rfl) (by kernel_rfl) ?_ ?_
                              · repeat (first | exact True.intro | refine And.intro ?_ ?_ | kernel_rfl)
                              · refine W.seq ?_
                                refine W.to [(0, _), (1, _), (2, _), (4, _), (5, _), (6, _), (7, _), (59, _)] [_, _] rfl ⟨(by exact sh_agg rfl), (by exact sh_sc rfl), (by exact sh_ptr rfl), (by exact sh_nil rfl), (by exact sh_sc rfl), (by exact sh_sc rfl), (by exact sh_sl rfl), (by exact sh_sc rfl), trivial⟩ ?_
                                refine W.gen2 _ rfl ?_
                                intro L13 hL13
                                have hl13 : L13.length = 20 + a7.size := by rw [hL13]; simp only [putN_len, List.length_set, List.length_replicate, splice, List.length_append, List.length_take, List.length_drop, Array.length_toList, ByteArray.size_data] <;> omega
                                refine W.draw (Checked.mixed Try.checked) ?_
                                refine DC.op rfl rfl rfl (fun _ => mv_sl rfl) ?_
                                refine DC.op1 rfl rfl rfl rfl (fun _ ho => step_subO (m := 2) (a := 10) Try.runUnderlying22 Try.sizeOf5 rfl ho (Bd.some (v := 10) rfl (by (exact rfl))) (Bd.some (v := 12) rfl (by (exact rfl))) (by omega) (by omega) (Nat.zero_add _) (by exact Nat.sub_zero _)) ?_
                                refine DC.op rfl rfl rfl (fun _ => mv_sl rfl) ?_
                                refine DC.op1 (j := 1) rfl rfl rfl rfl (fun _ ho => step_lent Try.call28 rfl (by (repeat (first | exact Bw.nil | refine Bw.slB ho (by (exact take_whole (by omega))) (by (simp only [List.length_map, List.length_append, List.length_take, List.length_drop, List.length_set, List.length_cons, List.length_nil, List.length_replicate, putN_len, splice, Array.length_toList, ByteArray.size_data] <;> omega)) ?_))) (w_Check (by omega)) (by repeat (rfl))) ?_
                                refine DC.op rfl rfl rfl (fun _ => step_convR Try.runUnderlying26 Try.runUnderlying29 rfl (by exact convN (by (simp only [cap]; omega)))) ?_
                                refine DC.opE rfl rfl rfl (step_over Try.call23 rfl rfl rfl noOwn_bytes noOwn_bytes rfl (w_put (by omega) (by omega) (by omega))) (by simp) (by repeat (first | exact True.intro | refine And.intro (by rfl) ?_)) (by repeat (first | exact True.intro | refine And.intro (by first | exact rowLt_bytes | rfl) ?_)) ?_
                                refine DC.fin [(1, 0), (3, 0), (4, 0)] (by kernel_rfl) (by kernel_rfl) ?_ ?_
                                · repeat (first | exact True.intro | refine And.intro ?_ ?_ | kernel_rfl)
                                · refine W.seq ?_
                                  refine W.to [(0, _), (1, _), (2, _), (4, _), (5, _), (6, _), (7, _), (59, _)] [_, _] rfl ⟨(by exact sh_agg rfl), (by exact sh_sc rfl), (by exact sh_ptr rfl), (by exact sh_nil rfl), (by exact sh_sc rfl), (by exact sh_sc rfl), (by exact sh_sl rfl), (by exact sh_sc rfl), trivial⟩ ?_
                                  refine W.gen2 _ rfl ?_
                                  intro L14 hL14
                                  have hl14 : L14.length = 20 + a7.size := by rw [hL14]; simp only [putN_len, List.length_set, List.length_replicate, splice, List.length_append, List.length_take, List.length_drop, Array.length_toList, ByteArray.size_data] <;> omega
                                  refine W.region ?_
                                  refine WO.op rfl rfl rfl rfl (mv_sl rfl) ?_
                                  refine WO.op rfl rfl rfl rfl (as_sl rfl) ?_
                                  refine WO.op rfl rfl rfl rfl (as_sc rfl) ?_
                                  refine WO.nil ?_
                                  refine W.ret ?_
                                  refine ⟨.inl rfl, ?_⟩
                                  have e : encB a0 a1 a2 a3 a4 a5 a6 a7.data.toList d = L14 := by rw [hL14]; exact (ip_enc (L6 := L6) (L10 := L10) (L13 := L13) (by simp) hs hL6 (by rw [hL10, hL9, hL8, hL7]) (by rw [hL13, hL12, hL11])).symm
                                  rw [e]
                                  exact ⟨_, _, _, Res.tmp rfl (Res.tmp rfl Res.nil), Cv.one (o := 1) rfl noOwn_bytes (.tup (.cons .sl (.cons (.keep rfl) .nil))), rfl, rfl⟩


theorem xor_bit : ∀ x, x < 256 → ∀ b, b < 8 → x ^^^ (1 * 2 ^ b % 256) = x + 2 ^ b ∨ (x ^^^ (1 * 2 ^ b % 256)) + 2 ^ b = x := by decide
theorem pow8 {b : Nat} (h : b < 8) : 1 ≤ 2 ^ b ∧ 2 ^ b ≤ 128 := ⟨Nat.one_le_two_pow, by have : 2 ^ b ≤ 2 ^ 7 := Nat.pow_le_pow_right (by decide) (by omega); simpa using this⟩
theorem turned {a0 a1 a2 a3 a4 a5 a6 d : Nat} {o L : List UInt8} (h0 : a0 ≤ 255) (h3 : a3 ≤ 255) (h4 : a4 ≤ 255) (h1 : a1 ≤ 65535) (h2 : a2 ≤ 65535) (h5 : a5 < 4294967296) (h6 : a6 < 4294967296) (hs : o.length ≤ 40) (h8 : o.length % 4 = 0)
    (hL : L = encB a0 a1 a2 a3 a4 a5 a6 o 0) {i b : Nat} (hi : 1 ≤ i) (hn : i < 20 + o.length) (hb : b < 8) :
    decE (L.set i (UInt8.ofNat ((L.getD i 0).toNat ^^^ (1 * 2 ^ b % 256)))) ≠ 0 := by
  intro hE
  have hlen : L.length = 20 + o.length := by rw [hL, encB_len]
  obtain ⟨r0, r1, _⟩ := enc_read (X := []) (l := L) h0 h3 h4 h1 h2 h5 h6 hs h8 (d := 0) (by omega) (by simp) (by rw [hL, List.append_nil])
  obtain ⟨_, _, _, hC⟩ := decE_ok hE
  generalize hv : UInt8.ofNat ((L.getD i 0).toNat ^^^ (1 * 2 ^ b % 256)) = v at *
  have hS : hdS (L.set i v) = 20 + o.length := by rw [← r1]; unfold hdS; rw [getD_ne (by omega)]
  have hsub : sub (L.set i v) 0 (20 + o.length) = L.set i v := by
    unfold sub; rw [List.drop_zero, List.take_of_length_le (by rw [List.length_set]; omega)]
  rw [hS, hsub, List.length_set, hlen] at hC
  have hW := enc_sum (a0 := a0) (a1 := a1) (a2 := a2) (a3 := a3) (a4 := a4) (a5 := a5) (a6 := a6) (d := 0) (o := o) hs
  rw [← hL] at hW
  have t1 := fo_top.1 hC
  have t2 := fo_top.1 hW
  have hws := ws_set (l := L) (i := i) (v := v) (20 + o.length) hn (by omega)
  have hx := xor_bit (L.getD i 0).toNat (u8_lt _) b hb
  have hp := pow8 hb
  have hvn : v.toNat = (L.getD i 0).toNat ^^^ (1 * 2 ^ b % 256) := by
    rw [← hv, UInt8.toNat_ofNat']
    apply Nat.mod_eq_of_lt
    have : (L.getD i 0).toNat < 2 ^ 8 := u8_lt _
    exact Nat.xor_lt_two_pow this (by show _ < 256; omega)
  rw [← hvn] at hx
  generalize ws (L.set i v) (20 + o.length) = A at *
  generalize ws L (20 + o.length) = B at *
  generalize (L.getD i 0).toNat = x at *
  generalize v.toNat = y at *
  generalize 2 ^ b = p at *
  have hw : wt i = 256 ∨ wt i = 1 := by unfold wt; split <;> simp
  rcases hw with hw | hw <;> rw [hw] at hws <;> rcases hx with hx | hx <;> omega
theorem xor_u8 {x j : Nat} (h : x ≤ 255) : (UInt8.ofNat (x ^^^ (1 * 2 ^ (j % 8) % 256))).toNat = x ^^^ (1 * 2 ^ (j % 8) % 256) := by
  rw [UInt8.toNat_ofNat']
  apply Nat.mod_eq_of_lt
  have h1 : x < 2 ^ 8 := by show x < 256; omega
  exact Nat.xor_lt_two_pow h1 (by show _ < 256; omega)
theorem shl8 {s : Nat} (h : s < 8) : IntKind.u8.wrap (1 * 2 ^ min ((s : Nat) : Int).toNat IntKind.u8.bits) = ((1 * 2 ^ s % 256 : Nat) : Int) := by
  have : s = 0 ∨ s = 1 ∨ s = 2 ∨ s = 3 ∨ s = 4 ∨ s = 5 ∨ s = 6 ∨ s = 7 := by omega
  rcases this with rfl | rfl | rfl | rfl | rfl | rfl | rfl | rfl <;> rfl
theorem tmod_rng {x m : Int} (h : 0 < m) : -m < x.tmod m ∧ x.tmod m < m := ⟨by have := Int.lt_tmod_of_pos x h; omega, Int.tmod_lt_of_pos x h⟩
theorem w_EncO0 {a0 a1 a2 a3 a4 a5 a6 : Nat} {a7 : ByteArray} (h0 : a0 ≤ 255) (h3 : a3 ≤ 255) (h4 : a4 ≤ 255) (h1 : a1 ≤ 65535) (h2 : a2 ≤ 65535) (h5 : a5 < 4294967296) (h6 : a6 < 4294967296) (hs : a7.size ≤ 40) (h8 : a7.size % 4 = 0) (hd : 0 + 20 + a7.size ≤ 65535) : Go.SL.Spec Try.prog 12 [.agg [.sc (.int .i64 ((a0 : Nat) : Int)), .sc (.int .i64 ((a1 : Nat) : Int)), .sc (.int .i64 ((a2 : Nat) : Int)), .sc (.int .i64 ((a3 : Nat) : Int)), .sc (.int .i64 ((a4 : Nat) : Int)), .sc (.int .u32 ((a5 : Nat) : Int)), .sc (.int .u32 ((a6 : Nat) : Int)), .sc (.string a7)], .sc (.int .i64 0)] [] (fun r hp' => r = .tup [.sl 0 0 (20 + a7.size), .sc (.int .i64 0)] ∧ hp' = [.row 1 ((encB a0 a1 a2 a3 a4 a5 a6 a7.data.toList 0).map byteAV)]) := w_EncO (d := 0) h0 h3 h4 h1 h2 h5 h6 hs h8 hd

end Go.Proofs.Ytejoccabclibeaa
