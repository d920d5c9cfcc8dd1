/-
  Contracts of functions of chapter 03: each theorem says what a call of one function answers, for all arguments that its hypotheses let in.
-/
import Derived.Test.YtejoccabclibeaaW3q
set_option linter.unusedVariables false
set_option linter.unusedSimpArgs false
set_option maxRecDepth 100000
set_option maxHeartbeats 1000000
namespace Go.Proofs.Ytejoccabclibeaa
open Go Go.SL Go.Proofs
theorem w_refHopG {l : List UInt8} (hl : l.length ≤ 200000000000000) (h : hopOK l) : Spec0 Try.prog 9 [.im 1 (l.map byteAV)] (.tup [.im 1 ((hopB l).map byteAV), .sc (.bool true)]) := by
  refine Spec.body Try.func9 rfl (Nat.le_of_ble_eq_true rfl) ?_
  have hk := h
  obtain ⟨h0, hA, hB, hC⟩ := h
  obtain ⟨q1, q2, q3⟩ := hd_ok h0
  have hpd := pad_dec hk
  have hS := pad_hdS (n := be (sub l 2 2)) q1
  have hT : ((padN l (be (sub l 2 2))).getD 8 0).toNat = (l.getD 8 0).toNat := by rw [pad_get (by omega)]
  have e2 : be (sub l 2 2) < 65536 := be2 _
  have e2t : be (List.take 2 (List.drop 2 l)) < 65536 := be2 _
  have hpl := pad_len l (be (sub l 2 2))
  have y8 := byte_le (l.getD 8 0)
  have y9 := byte_le (l.getD 9 0)
  have y10 := byte_le (l.getD 10 0)
  have y11 := byte_le (l.getD 11 0)
  refine W.seq ?_
  refine W.region ?_
  refine WO.op rfl rfl rfl rfl (as_nil rfl) ?_
  refine WO.op rfl rfl rfl rfl (as_sc rfl) ?_
  refine WO.nil ?_
  refine W.seq ?_
  refine W.seq ?_
  refine W.to [(0, _), (2, _), (3, _)] [] rfl ⟨(by exact sh_im rfl), (by exact sh_nil rfl), (by exact sh_sc rfl), trivial⟩ ?_
  refine W.region ?_
  refine WO.op rfl rfl rfl rfl (mv_im rfl) ?_
  refine WO.op rfl rfl rfl rfl (step_lenB Try.runUnderlying22 rfl) ?_
  refine WO.op rfl rfl rfl rfl (step_int2 rfl rfl rfl) ?_
  refine WO.nil ?_
  refine W.cond rfl (fun h1 => ?_) (fun h1 => ?_)
  · try simp only [decide_eq_true_eq, decide_eq_false_iff_not, Bool.not_eq_true', Bool.not_eq_false', beq_iff_eq, bne_iff_ne, beq_eq_false_iff_ne, bne_eq_false_iff_eq, gt_iff_lt, ge_iff_le, Int.not_lt, Int.not_le] at h1
    exact False.elim (by omega)
  · try simp only [decide_eq_true_eq, decide_eq_false_iff_not, Bool.not_eq_true', Bool.not_eq_false', beq_iff_eq, bne_iff_ne, beq_eq_false_iff_ne, bne_eq_false_iff_eq, gt_iff_lt, ge_iff_le, Int.not_lt, Int.not_le] at h1
    refine W.skip ?_
    refine W.seq ?_
    refine W.to [(0, _), (2, _), (3, _), (14, _)] [] rfl ⟨(by exact sh_im rfl), (by exact sh_nil rfl), (by exact sh_sc rfl), (by exact sh_sc rfl), trivial⟩ ?_
    refine W.region ?_
    refine WO.op rfl rfl rfl rfl (mv_im rfl) ?_
    refine WO.op rfl rfl rfl rfl (step_subB (m := 2) Try.runUnderlying22 Try.sizeOf5 rfl (Bd.some (v := 2) rfl (by (exact rfl))) (Bd.some (v := 4) rfl (by (exact rfl))) (by omega) (by omega) (by exact Nat.sub_zero _) rfl) ?_
    refine WO.op rfl rfl rfl rfl (step_pure Try.call24 rfl (by (repeat (first | exact Nl.nil | refine Nl.keep (by exact noOwn_im) ?_))) (w_Num2) (by repeat (rfl))) ?_
    refine WO.op rfl rfl rfl rfl (step_convR Try.runUnderlying45 Try.runUnderlying3 rfl (by exact convN (by (simp only [cap]; omega)))) ?_
    refine WO.put 18 (.sc (.int .i64 ((be (sub l 2 2) : Nat) : Int))) (rfl) ?_
    refine WO.op rfl rfl rfl rfl (as_sc rfl) ?_
    refine WO.nil ?_
    refine W.seq ?_
    refine W.to [(0, _), (2, _), (3, _), (4, _), (14, _)] [] rfl ⟨(by exact sh_im rfl), (by exact sh_nil rfl), (by exact sh_sc rfl), (by exact sh_sc rfl), (by exact sh_sc rfl), trivial⟩ ?_
    refine W.region ?_
    refine WO.opA rfl rfl rfl rfl (al_buildSlice Try.runUnderlying22 (z := (Value.int IntKind.u8 0)) (bs := 1) (esz := 1) (EI.mk (by kernel_rfl)) rfl (by decide) rfl rfl) rfl rfl ?_
    refine WO.put 19 (.sl 0 0 _) rfl ?_
    refine WO.op rfl rfl rfl rfl (mv_im rfl) ?_
    refine WO.op rfl rfl rfl rfl (step_appE Try.runUnderlying22 (EI.mk (by kernel_rfl)) Try.runUnderlying22 (.inl ⟨_, rfl⟩) rfl rfl (Src.imB rfl) (by omega)) ?_
    refine WO.put 21 (.sl 1 0 _) rfl ?_
    refine WO.op rfl rfl rfl rfl (as_sl rfl) ?_
    refine WO.nil ?_
    refine W.seq ?_
    refine W.frzAll [(0, .im 1 (l.map byteAV)), (2, .nil), (3, .sc (.bool false)), (4, .sc (.int .i64 ((be (sub l 2 2) : Nat) : Int))), (5, .im 1 ((padN l (be (sub l 2 2))).map byteAV))] ?_ ?_
    · refine W.block ?_
      refine W.loop (α := Nat × List AObj) (fun q => ⟨tbl [(0, .im 1 (l.map byteAV)), (2, .nil), (3, .sc (.bool false)), (4, .sc (.int .i64 ((be (sub l 2 2) : Nat) : Int))), (5, .sl q.2.length 0 (l.length + q.1))], q.2 ++ [.row 1 ((l ++ List.replicate q.1 0).map byteAV)]⟩) (fun q => q.1 = 0 ∨ l.length + q.1 ≤ be (sub l 2 2)) (fun q => be (sub l 2 2) - (l.length + q.1)) ((0, [.dead])) (.inl rfl) (Le.eqs (by rw [List.replicate_zero, List.append_nil]; rfl) ⟨rfl, rfl, rfl, rfl, rfl, trivial⟩) ?_
      intro q hq
      refine W.seq ?_
      refine W.seq ?_
      refine W.to [(0, _), (2, _), (3, _), (4, _), (5, _)] _ rfl ⟨(by exact sh_im rfl), (by exact sh_nil rfl), (by exact sh_sc rfl), (by exact sh_sc rfl), (by exact sh_sl rfl), trivial⟩ ?_
      refine W.region ?_
      refine WO.op rfl rfl rfl rfl (mv_sl rfl) ?_
      refine WO.op rfl rfl rfl rfl (step_lenL Try.runUnderlying22 rfl row_at1) ?_
      refine WO.op rfl rfl rfl rfl (mv_sc rfl) ?_
      refine WO.op rfl rfl rfl rfl (step_int2 rfl rfl rfl) ?_
      refine WO.nil ?_
      refine W.cond rfl (fun h2 => ?_) (fun h2 => ?_)
      · try simp only [decide_eq_true_eq, decide_eq_false_iff_not, Bool.not_eq_true', Bool.not_eq_false', beq_iff_eq, bne_iff_ne, beq_eq_false_iff_ne, bne_eq_false_iff_eq, gt_iff_lt, ge_iff_le, Int.not_lt, Int.not_le] at h2
        refine W.skip ?_
        refine W.block ?_
        refine W.to [(0, _), (2, _), (3, _), (4, _), (5, _), (25, _)] _ rfl ⟨(by exact sh_im rfl), (by exact sh_nil rfl), (by exact sh_sc rfl), (by exact sh_sc rfl), (by exact sh_sl rfl), (by exact sh_sc rfl), trivial⟩ ?_
        refine W.region ?_
        refine WO.op rfl rfl rfl rfl (mv_sl rfl) ?_
        refine WO.opA rfl rfl rfl rfl (al_buildSlice Try.runUnderlying22 (z := (Value.int IntKind.u8 0)) (bs := 1) (esz := 1) (EI.mk (by kernel_rfl)) rfl (by decide) rfl rfl) rfl rfl ?_
        refine WO.op rfl rfl rfl rfl (step_appB (a := l ++ List.replicate q.1 0) (b := [0]) (k := l.length + q.1 + 1) Try.runUnderlying22 (EI.mk (by kernel_rfl)) Try.runUnderlying22 (.inl ⟨_, rfl⟩) rfl row_at (by rw [List.length_append, List.length_replicate]) (Src.ownB rfl row_at2 rfl (Nat.le_of_ble_eq_true rfl)) (by omega) rfl) ?_
        refine WO.op rfl rfl rfl rfl (as_sl rfl) ?_
        refine WO.nil ?_
        exact ⟨(q.1 + 1, (q.2 ++ [AObj.row 1 ((l ++ List.replicate q.1 0).map byteAV)] ++ [AObj.row 1 (([0] : List UInt8).map byteAV)]).set q.2.length AObj.dead), (.inr (by omega)), (by simp only; omega), Le.eqs (by rw [List.replicate_succ', ← List.append_assoc]; rfl) ⟨rfl, rfl, rfl, rfl, (by simp only [List.length_set]; rfl), trivial⟩⟩
      · try simp only [decide_eq_true_eq, decide_eq_false_iff_not, Bool.not_eq_true', Bool.not_eq_false', beq_iff_eq, bne_iff_ne, beq_eq_false_iff_ne, bne_eq_false_iff_eq, gt_iff_lt, ge_iff_le, Int.not_lt, Int.not_le] at h2
        refine W.exit ?_
        have hj : q.1 = be (sub l 2 2) - l.length := by omega
        exact ⟨rfl, .keep noOwn_im, .keep rfl, .keep rfl, .keep rfl, (by
          unfold padN; rw [← hj]
          exact Fz.bytes row_at1 (Nat.zero_le _) (by rw [List.drop_zero, List.take_of_length_le (by rw [List.length_map, List.length_append, List.length_replicate]; exact Nat.le_refl _)]) (by rw [List.length_map, List.length_append, List.length_replicate]; omega)), trivial⟩
    · refine W.seq ?_
      refine W.to [(0, _), (2, _), (3, _), (4, _), (5, _)] [_, _] rfl ⟨(by exact sh_im rfl), (by exact sh_nil rfl), (by exact sh_sc rfl), (by exact sh_sc rfl), (by exact sh_im rfl), trivial⟩ ?_
      refine W.region ?_
      refine WO.op rfl rfl rfl rfl (mv_im rfl) ?_
      refine WO.op rfl rfl rfl rfl (step_pure Try.call19 rfl (by (repeat (first | exact Nl.nil | refine Nl.keep (by exact noOwn_im) ?_))) (w_refDecG (by omega) hpd) (by repeat (first | with_reducible refine noOwn_tup ?_ | with_reducible refine noOwn_agg ?_ | with_reducible exact noOwnL_nil | with_reducible refine noOwnL_cons ?_ ?_ | rfl))) ?_
      refine WO.op rfl rfl rfl rfl (mv_tup rfl) ?_
      refine WO.op rfl rfl rfl rfl (step_extract rfl rfl) ?_
      refine WO.op rfl rfl rfl rfl (step_extract rfl rfl) ?_
      refine WO.op rfl rfl rfl rfl (step_extract rfl rfl) ?_
      refine WO.op rfl rfl rfl rfl (step_extract rfl rfl) ?_
      refine WO.opA rfl rfl rfl rfl (al_alloc Try.zeroValue31) rfl rfl ?_
      refine WO.put 6 (.ptr 2 0) rfl ?_
      refine WO.op0 rfl rfl rfl (step_storeA Try.sizeOf31 rfl rfl rfl (by repeat (exact all_cell rfl rfl)) rfl rfl) ?_
      refine WO.op rfl rfl rfl rfl (as_sc rfl) ?_
      refine WO.op rfl rfl rfl rfl (as_sc rfl) ?_
      refine WO.op rfl rfl rfl rfl (as_sc rfl) ?_
      refine WO.nil ?_
      refine W.seq ?_
      refine W.seq ?_
      refine W.to [(0, _), (2, _), (3, _), (4, _), (5, _), (6, _), (7, _), (9, _)] [_, _, _] rfl ⟨(by exact sh_im rfl), (by exact sh_nil rfl), (by exact sh_sc rfl), (by exact sh_sc rfl), (by exact sh_im rfl), (by exact sh_ptr rfl), (by exact sh_sc rfl), (by exact sh_sc rfl), trivial⟩ ?_
      refine W.region ?_
      refine WO.op rfl rfl rfl rfl (mv_sc rfl) ?_
      refine WO.op rfl rfl rfl rfl (step_int2 rfl rfl rfl) ?_
      refine WO.put 37 (.sc (.bool false)) (by kernel_rfl) ?_
      refine WO.op rfl rfl rfl rfl (mv_sc rfl) ?_
      refine WO.op rfl rfl rfl rfl (mv_im rfl) ?_
      refine WO.op rfl rfl rfl rfl (step_lenB Try.runUnderlying22 rfl) ?_
      refine WO.op rfl rfl rfl rfl (mv_sc rfl) ?_
      refine WO.op rfl rfl rfl rfl (step_int2 rfl rfl rfl) ?_
      refine WO.op rfl rfl rfl rfl (pk_f rfl rfl rfl) ?_
      refine WO.op rfl rfl rfl rfl (mv_sc rfl) ?_
      refine WO.spl 44 rfl (fun h3 => ?_) (fun h3 => ?_)
      · try simp only [decide_eq_true_eq, decide_eq_false_iff_not, Bool.not_eq_true', Bool.not_eq_false', beq_iff_eq, bne_iff_ne, beq_eq_false_iff_ne, bne_eq_false_iff_eq, gt_iff_lt, ge_iff_le, Int.not_lt, Int.not_le] at h3
        exact False.elim (by omega)
      · try simp only [decide_eq_true_eq, decide_eq_false_iff_not, Bool.not_eq_true', Bool.not_eq_false', beq_iff_eq, bne_iff_ne, beq_eq_false_iff_ne, bne_eq_false_iff_eq, gt_iff_lt, ge_iff_le, Int.not_lt, Int.not_le] at h3
        refine WO.op rfl rfl rfl rfl (step_fieldR (k := 3) (FieldOff.mk (by kernel_rfl)) rfl rfl (by exact Nat.zero_add _)) ?_
        refine WO.op rfl rfl rfl rfl (step_load Try.isAgg3 rfl rfl rfl) ?_
        refine WO.op rfl rfl rfl rfl (step_int2 rfl rfl rfl) ?_
        refine WO.op rfl rfl rfl rfl (pk_f rfl rfl rfl) ?_
        refine WO.nil ?_
        refine W.cond rfl (fun h4 => ?_) (fun h4 => ?_)
        · try simp only [decide_eq_true_eq, decide_eq_false_iff_not, Bool.not_eq_true', Bool.not_eq_false', beq_iff_eq, bne_iff_ne, beq_eq_false_iff_ne, bne_eq_false_iff_eq, gt_iff_lt, ge_iff_le, Int.not_lt, Int.not_le] at h4
          exact False.elim (by omega)
        · try simp only [decide_eq_true_eq, decide_eq_false_iff_not, Bool.not_eq_true', Bool.not_eq_false', beq_iff_eq, bne_iff_ne, beq_eq_false_iff_ne, bne_eq_false_iff_eq, gt_iff_lt, ge_iff_le, Int.not_lt, Int.not_le] at h4
          refine W.skip ?_
          refine W.seq ?_
          refine W.to [(0, _), (2, _), (3, _), (4, _), (5, _), (6, _), (7, _), (9, _), (48, _)] [_, _, _] rfl ⟨(by exact sh_im rfl), (by exact sh_nil rfl), (by exact sh_sc rfl), (by exact sh_sc rfl), (by exact sh_im rfl), (by exact sh_ptr rfl), (by exact sh_sc rfl), (by exact sh_sc rfl), (by exact sh_sc rfl), trivial⟩ ?_
          refine W.region ?_
          refine WO.opA rfl rfl rfl rfl (al_buildSlice Try.runUnderlying22 (z := (Value.int IntKind.u8 0)) (bs := 1) (esz := 1) (EI.mk (by kernel_rfl)) rfl (by decide) rfl rfl) rfl rfl ?_
          refine WO.put 49 (.sl 3 0 _) rfl ?_
          refine WO.op rfl rfl rfl rfl (mv_im rfl) ?_
          refine WO.op rfl rfl rfl rfl (step_appE Try.runUnderlying22 (EI.mk (by kernel_rfl)) Try.runUnderlying22 (.inl ⟨_, rfl⟩) rfl rfl (Src.imB rfl) (by omega)) ?_
          refine WO.put 51 (.sl 4 0 _) rfl ?_
          refine WO.op rfl rfl rfl rfl (as_sl rfl) ?_
          refine WO.nil ?_
          refine W.seq ?_
          refine W.to [(0, _), (2, _), (3, _), (4, _), (5, _), (6, _), (7, _), (9, _), (48, _)] [_, _, _, _, _] rfl ⟨(by exact sh_im rfl), (by exact sh_nil rfl), (by exact sh_sc rfl), (by exact sh_sc rfl), (by exact sh_sl rfl), (by exact sh_ptr rfl), (by exact sh_sc rfl), (by exact sh_sc rfl), (by exact sh_sc rfl), trivial⟩ ?_
          refine W.draw (Checked.mixed Try.checked) ?_
          refine DC.op rfl rfl rfl (fun _ => mv_sl rfl) ?_
          refine DC.op1 rfl rfl rfl rfl (fun _ ho => step_idxO (j := 8) Try.runUnderlying22 Try.sizeOf5 rfl ho rfl (by (exact rfl)) (by omega) (by exact Nat.zero_add _)) ?_
          refine DC.op1 rfl rfl rfl rfl (fun _ ho => step_loadO Try.isAgg5 rfl ho (by omega)) ?_
          refine DC.op rfl rfl rfl (fun _ => step_convR Try.runUnderlying5 Try.runUnderlying26 rfl (by exact convN (by (simp only [cap]; omega)))) ?_
          refine DC.op rfl rfl rfl (fun _ => step_mulN (q := 256) rfl rfl (by (simp only [cap]; omega))) ?_
          refine DC.op rfl rfl rfl (fun _ => mv_sl rfl) ?_
          refine DC.op1 rfl rfl rfl rfl (fun _ ho => step_idxO (j := 9) Try.runUnderlying22 Try.sizeOf5 rfl ho rfl (by (exact rfl)) (by omega) (by exact Nat.zero_add _)) ?_
          refine DC.op1 rfl rfl rfl rfl (fun _ ho => step_loadO Try.isAgg5 rfl ho (by omega)) ?_
          refine DC.op rfl rfl rfl (fun _ => step_convR Try.runUnderlying5 Try.runUnderlying26 rfl (by exact convN (by (simp only [cap]; omega)))) ?_
          refine DC.op rfl rfl rfl (fun _ => step_addN rfl rfl (by (simp only [cap]; omega))) ?_
          refine DC.op rfl rfl rfl (fun _ => as_sc rfl) ?_
          refine DC.fin [(1, 0), (2, 0), (3, 0), (6, 0), (7, 0), (8, 0)] (by kernel_rfl) (by kernel_rfl) ?_ ?_
          · repeat (first | exact True.intro | refine And.intro ?_ ?_ | kernel_rfl)
          · refine W.seq ?_
            refine W.to [(0, _), (2, _), (3, _), (4, _), (5, _), (6, _), (7, _), (9, _), (10, _), (48, _)] [_, _, _, _, _] rfl ⟨(by exact sh_im rfl), (by exact sh_nil rfl), (by exact sh_sc rfl), (by exact sh_sc rfl), (by exact sh_sl rfl), (by exact sh_ptr rfl), (by exact sh_sc rfl), (by exact sh_sc rfl), (by exact sh_sc rfl), (by exact sh_sc rfl), trivial⟩ ?_
            refine W.region ?_
            refine WO.op rfl rfl rfl rfl (mv_sl rfl) ?_
            refine WO.op rfl rfl rfl rfl (step_idxO (j := 8) Try.runUnderlying22 Try.sizeOf5 rfl rfl rfl (by (exact rfl)) (by omega) (by exact Nat.zero_add _)) ?_
            refine WO.op rfl rfl rfl rfl (step_loadO Try.isAgg5 rfl rfl (by omega)) ?_
            refine WO.op rfl rfl rfl rfl (step_subN (q := 1) rfl rfl (by omega) (by (simp only [cap]; omega))) ?_
            refine WO.op rfl rfl rfl rfl (step_idxO (j := 8) Try.runUnderlying22 Try.sizeOf5 rfl rfl rfl (by (exact rfl)) (by omega) (by exact Nat.zero_add _)) ?_
            refine WO.op0 rfl rfl rfl (step_storeB (b := _) Try.sizeOf5 rfl rfl rfl (by (exact u8_nat (by omega))) (by omega)) ?_
            refine WO.nil ?_
            refine W.seq ?_
            refine W.to [(0, _), (2, _), (3, _), (4, _), (5, _), (6, _), (7, _), (9, _), (10, _), (48, _)] [_, _, _, _, _] rfl ⟨(by exact sh_im rfl), (by exact sh_nil rfl), (by exact sh_sc rfl), (by exact sh_sc rfl), (by exact sh_sl rfl), (by exact sh_ptr rfl), (by exact sh_sc rfl), (by exact sh_sc rfl), (by exact sh_sc rfl), (by exact sh_sc rfl), trivial⟩ ?_
            refine W.gatC [_, _, _, _] [] _ rfl rfl ?_
            intro L1 hL1
            have hl1 : L1.length = l.length := by rw [hL1, List.length_set]
            have z8 := byte_le (L1.getD 8 0)
            have z9 := byte_le (L1.getD 9 0)
            have z10 := byte_le (L1.getD 10 0)
            have z11 := byte_le (L1.getD 11 0)
            have e10 : L1.getD 10 0 = l.getD 10 0 := by rw [hL1, getD_ne (by decide)]
            have e11 : L1.getD 11 0 = l.getD 11 0 := by rw [hL1, getD_ne (by decide)]
            refine W.draw (Checked.mixed Try.checked) ?_
            refine DC.op rfl rfl rfl (fun _ => mv_sl rfl) ?_
            refine DC.op1 rfl rfl rfl rfl (fun _ ho => step_idxO (j := 10) Try.runUnderlying22 Try.sizeOf5 rfl ho rfl (by (exact rfl)) (by omega) (by exact Nat.zero_add _)) ?_
            refine DC.op1 rfl rfl rfl rfl (fun _ ho => step_loadO Try.isAgg5 rfl ho (by omega)) ?_
            refine DC.op rfl rfl rfl (fun _ => step_convR Try.runUnderlying5 Try.runUnderlying26 rfl (by exact convN (by (simp only [cap]; omega)))) ?_
            refine DC.op rfl rfl rfl (fun _ => step_mulN (q := 256) rfl rfl (by (simp only [cap]; omega))) ?_
            refine DC.op rfl rfl rfl (fun _ => mv_sl rfl) ?_
            refine DC.op1 rfl rfl rfl rfl (fun _ ho => step_idxO (j := 11) Try.runUnderlying22 Try.sizeOf5 rfl ho rfl (by (exact rfl)) (by omega) (by exact Nat.zero_add _)) ?_
            refine DC.op1 rfl rfl rfl rfl (fun _ ho => step_loadO Try.isAgg5 rfl ho (by omega)) ?_
            refine DC.op rfl rfl rfl (fun _ => step_convR Try.runUnderlying5 Try.runUnderlying26 rfl (by exact convN (by (simp only [cap]; omega)))) ?_
            refine DC.op rfl rfl rfl (fun _ => step_addN rfl rfl (by (simp only [cap]; omega))) ?_
            refine DC.op rfl rfl rfl (fun _ => mv_sc rfl) ?_
            refine DC.op rfl rfl rfl (fun _ => mv_sl rfl) ?_
            refine DC.op1 rfl rfl rfl rfl (fun _ ho => step_idxO (j := 8) Try.runUnderlying22 Try.sizeOf5 rfl ho rfl (by (exact rfl)) (by omega) (by exact Nat.zero_add _)) ?_
            refine DC.op1 rfl rfl rfl rfl (fun _ ho => step_loadO Try.isAgg5 rfl ho (by omega)) ?_
            refine DC.op rfl rfl rfl (fun _ => step_convR Try.runUnderlying5 Try.runUnderlying26 rfl (by exact convN (by (simp only [cap]; omega)))) ?_
            refine DC.op rfl rfl rfl (fun _ => step_mulN (q := 256) rfl rfl (by (simp only [cap]; omega))) ?_
            refine DC.op rfl rfl rfl (fun _ => mv_sl rfl) ?_
            refine DC.op1 rfl rfl rfl rfl (fun _ ho => step_idxO (j := 9) Try.runUnderlying22 Try.sizeOf5 rfl ho rfl (by (exact rfl)) (by omega) (by exact Nat.zero_add _)) ?_
            refine DC.op1 rfl rfl rfl rfl (fun _ ho => step_loadO Try.isAgg5 rfl ho (by omega)) ?_
            refine DC.op rfl rfl rfl (fun _ => step_convR Try.runUnderlying5 Try.runUnderlying26 rfl (by exact convN (by (simp only [cap]; omega)))) ?_
            refine DC.op rfl rfl rfl (fun _ => step_addN rfl rfl (by (simp only [cap]; omega))) ?_
            refine DC.op rfl rfl rfl (fun _ => step_pure Try.call25 rfl (by (repeat (first | exact Nl.nil | refine Nl.keep (by rfl) ?_))) (w_refUpdate (by omega) (by omega) (by omega)) (by repeat (rfl))) ?_
            refine DC.op rfl rfl rfl (fun _ => as_sc rfl) ?_
            refine DC.fin [(1, 0), (2, 0), (3, 0), (6, 0), (7, 0), (8, 0), (12, 0), (13, 0), (14, 0), (17, 0), (18, 0), (19, 0), (21, 0)] (by kernel_rfl) (by kernel_rfl) ?_ ?_
            · repeat (first | exact True.intro | refine And.intro ?_ ?_ | kernel_rfl)
            · refine W.seq ?_
              refine W.to [(0, _), (2, _), (3, _), (4, _), (5, _), (6, _), (7, _), (9, _), (10, _), (11, _), (48, _)] [_, _, _, _, _] rfl ⟨(by exact sh_im rfl), (by exact sh_nil rfl), (by exact sh_sc rfl), (by exact sh_sc rfl), (by exact sh_sl rfl), (by exact sh_ptr rfl), (by exact sh_sc rfl), (by exact sh_sc rfl), (by exact sh_sc rfl), (by exact sh_sc rfl), (by exact sh_sc rfl), trivial⟩ ?_
              refine W.region ?_
              refine WO.op rfl rfl rfl rfl (mv_sl rfl) ?_
              refine WO.op rfl rfl rfl rfl (mv_sl rfl) ?_
              refine WO.op rfl rfl rfl rfl (mv_sc rfl) ?_
              refine WO.op rfl rfl rfl rfl (step_quoN (q := 256) rfl rfl (by omega) (by (simp only [cap]; omega))) ?_
              refine WO.op rfl rfl rfl rfl (step_convR Try.runUnderlying26 Try.runUnderlying5 rfl (by exact convN (by (simp only [cap]; omega)))) ?_
              refine WO.op rfl rfl rfl rfl (mv_sc rfl) ?_
              refine WO.op rfl rfl rfl rfl (step_remN (q := 256) rfl rfl (by omega)) ?_
              refine WO.op rfl rfl rfl rfl (step_convR Try.runUnderlying26 Try.runUnderlying5 rfl (by exact convN (by (simp only [cap]; omega)))) ?_
              refine WO.op rfl rfl rfl rfl (step_idxO (j := 10) Try.runUnderlying22 Try.sizeOf5 rfl rfl rfl (by (exact rfl)) (by omega) (by exact Nat.zero_add _)) ?_
              refine WO.op0 rfl rfl rfl (step_storeB (b := _) Try.sizeOf5 rfl rfl rfl (by (exact u8_nat (by omega))) (by omega)) ?_
              refine WO.op rfl rfl rfl rfl (step_idxO (j := 11) Try.runUnderlying22 Try.sizeOf5 rfl rfl rfl (by (exact rfl)) (by omega) (by exact Nat.zero_add _)) ?_
              refine WO.op0 rfl rfl rfl (step_storeB (b := _) Try.sizeOf5 rfl rfl rfl (by (exact u8_mod _)) (by (simp only [List.length_map, List.length_append, List.length_take, List.length_drop, List.length_set, List.length_cons, List.length_nil, List.length_replicate] <;> omega))) ?_
              refine WO.nil ?_
              refine W.seq ?_
              refine W.to [(0, _), (2, _), (3, _), (4, _), (5, _), (6, _), (7, _), (9, _), (10, _), (11, _), (48, _)] [_, _, _, _, _] rfl ⟨(by exact sh_im rfl), (by exact sh_nil rfl), (by exact sh_sc rfl), (by exact sh_sc rfl), (by exact sh_sl rfl), (by exact sh_ptr rfl), (by exact sh_sc rfl), (by exact sh_sc rfl), (by exact sh_sc rfl), (by exact sh_sc rfl), (by exact sh_sc rfl), trivial⟩ ?_
              refine W.gatC [_, _, _, _] [] _ rfl rfl ?_
              intro L2 hL2
              have hl2 : L2.length = l.length := by rw [hL2, List.length_set, List.length_set]; exact hl1
              refine W.region ?_
              refine WO.op rfl rfl rfl rfl (mv_sl rfl) ?_
              refine WO.op rfl rfl rfl rfl (as_sl rfl) ?_
              refine WO.op rfl rfl rfl rfl (as_sc rfl) ?_
              refine WO.nil ?_
              refine W.ret ?_
              refine ⟨.inl rfl, ?_⟩
              have e : hopB l = L2 := hop_shape q1 hL1 (by rw [← e10, ← e11]) hL2
              rw [e]
              exact ret0 (Res.tmp rfl (Res.tmp rfl Res.nil)) (.tup (.cons (Fz.bytes rfl (Nat.zero_le _) (take_whole (by omega)) (by rw [List.length_map]; omega)) (.cons (.keep rfl) .nil)))

end Go.Proofs.Ytejoccabclibeaa
