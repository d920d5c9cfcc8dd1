/-
  Contracts of functions of chapter 03: each theorem says what a call of one function answers, for all arguments that its hypotheses let in.
-/
import Derived.Test.YtejoccabclibeaaW3b
import Derived.Test.YtejoccabclibeaaSlU
set_option linter.unusedVariables false
set_option linter.unusedSimpArgs false
set_option maxRecDepth 100000
set_option maxHeartbeats 8000000
namespace Go.Proofs.Ytejoccabclibeaa
open Go Go.SL Go.Proofs

theorem by2 (x : Nat) : bysN 2 x 2 = b2 x := rfl
theorem by4 (x : Nat) : bysN 4 x 4 = b4 x := rfl
theorem byte_lo (x : Nat) : UInt8.ofNat x = byteOf x 0 := by unfold byteOf; rw [Nat.pow_zero, Nat.div_one]
theorem ref_enc {a0 a1 a2 a3 a4 a5 a6 d k : Nat} {o L5 L6 L7 L8 M8 L9 L10 L11 L12 : List UInt8} (hk : k = o.length)
  (h5 : L5 = [UInt8.ofNat (64 + (20 + k) / 4), UInt8.ofNat a0]) (h6 : L6 = L5 ++ bysN 2 (20 + k + d) 2) (h7 : L7 = L6 ++ bysN 2 a1 2) (h8 : L8 = L7 ++ bysN 2 a2 2)
  (hM : M8 = [UInt8.ofNat a3, UInt8.ofNat a4, 0, 0]) (h9 : L9 = L8 ++ M8) (h10 : L10 = L9 ++ bysN 4 a5 4) (h11 : L11 = L10 ++ bysN 4 a6 4) (h12 : L12 = L11 ++ o) :
  (L12.set 10 (UInt8.ofNat ((65535 - fo (ws L12 L12.length)) / 256))).set 11 (UInt8.ofNat (65535 - fo (ws L12 L12.length))) = encB a0 a1 a2 a3 a4 a5 a6 o d := by
  subst hk
  have e : L12 = enc0 a0 a1 a2 a3 a4 a5 a6 o d := by
    rw [h12, h11, h10, h9, hM, h8, h7, h6, h5, by2, by2, by2, by4, by4]; rfl
  rw [e, byte_lo (65535 - _)]
  rfl

theorem w_refEncG {a0 a1 a2 a3 a4 a5 a6 d : Nat} {a7 : ByteArray} (h0 : a0 ≤ 255) (h3 : a3 ≤ 255) (h4 : a4 ≤ 255) (h1 : a1 ≤ 65535) (h2 : a2 ≤ 65535) (h5 : a5 < 4294967296) (h6 : a6 < 4294967296) (hs : a7.size ≤ 40) (h8 : a7.size % 4 = 0) (hd : d + 20 + a7.size ≤ 65535) : Spec0 Try.prog 13 [.agg [.sc (.int .i64 ((a0 : Nat) : Int)), .sc (.int .i64 ((a1 : Nat) : Int)), .sc (.int .i64 ((a2 : Nat) : Int)), .sc (.int .i64 ((a3 : Nat) : Int)), .sc (.int .i64 ((a4 : Nat) : Int)), .sc (.int .u32 ((a5 : Nat) : Int)), .sc (.int .u32 ((a6 : Nat) : Int)), .sc (.string a7)], .sc (.int .i64 ((d : Nat) : Int))] (.tup [.im 1 ((encB a0 a1 a2 a3 a4 a5 a6 a7.data.toList d).map byteAV), .sc (.int .i64 0)]) := by
  refine Spec.body Try.func13 rfl (Nat.le_of_ble_eq_true rfl) ?_
  refine W.seq ?_
  refine W.region ?_
  refine WO.opA rfl rfl rfl rfl (al_boxA rfl rfl) rfl rfl ?_
  refine WO.put 2 (.ptr 0 0) rfl ?_
  refine WO.op rfl rfl rfl rfl (as_nil rfl) ?_
  refine WO.op rfl rfl rfl rfl (as_sc rfl) ?_
  refine WO.nil ?_
  refine W.seq ?_
  refine W.to [(0, _), (1, _), (2, _), (4, _), (5, _)] [_] rfl ⟨(by exact sh_agg rfl), (by exact sh_sc rfl), (by exact sh_ptr rfl), (by exact sh_nil rfl), (by exact sh_sc rfl), trivial⟩ ?_
  refine W.region ?_
  refine WO.op rfl rfl rfl rfl (step_fieldR (k := 7) (FieldOff.mk (by kernel_rfl)) rfl rfl (by exact Nat.zero_add _)) ?_
  refine WO.op rfl rfl rfl rfl (step_load Try.isAgg9 rfl rfl rfl) ?_
  refine WO.op rfl rfl rfl rfl (step_lenS Try.runUnderlying9 rfl) ?_
  refine WO.op rfl rfl rfl rfl (step_addN (p := 20) rfl rfl (by (simp only [cap]; omega))) ?_
  refine WO.op rfl rfl rfl rfl (as_sc rfl) ?_
  refine WO.nil ?_
  refine W.seq ?_
  refine W.seq ?_
  refine W.to [(0, _), (1, _), (2, _), (4, _), (5, _), (6, _)] [_] rfl ⟨(by exact sh_agg rfl), (by exact sh_sc rfl), (by exact sh_ptr rfl), (by exact sh_nil rfl), (by exact sh_sc rfl), (by exact sh_sc rfl), trivial⟩ ?_
  refine W.region ?_
  refine WO.op rfl rfl rfl rfl (step_fieldR (k := 0) (FieldOff.mk (by kernel_rfl)) rfl rfl (by exact Nat.zero_add _)) ?_
  refine WO.op rfl rfl rfl rfl (step_load Try.isAgg3 rfl rfl rfl) ?_
  refine WO.op rfl rfl rfl rfl (step_pure Try.call29 rfl (by (repeat (first | exact Nl.nil | refine Nl.keep (by rfl) ?_))) (w_eight) rfl) ?_
  refine WO.op rfl rfl rfl rfl (step_not rfl) ?_
  refine WO.op rfl rfl rfl rfl (mv_sc rfl) ?_
  refine WO.spl 17 rfl (fun h1 => ?_) (fun h1 => ?_)
  · try simp only [decide_eq_true_eq, decide_eq_false_iff_not, Bool.not_eq_true', Bool.not_eq_false', beq_iff_eq, bne_iff_ne, beq_eq_false_iff_ne, bne_eq_false_iff_eq, gt_iff_lt, ge_iff_le, Int.not_lt, Int.not_le] at h1
    exact False.elim (by omega)
  · try simp only [decide_eq_true_eq, decide_eq_false_iff_not, Bool.not_eq_true', Bool.not_eq_false', beq_iff_eq, bne_iff_ne, beq_eq_false_iff_ne, bne_eq_false_iff_eq, gt_iff_lt, ge_iff_le, Int.not_lt, Int.not_le] at h1
    refine WO.op rfl rfl rfl rfl (step_fieldR (k := 3) (FieldOff.mk (by kernel_rfl)) rfl rfl (by exact Nat.zero_add _)) ?_
    refine WO.op rfl rfl rfl rfl (step_load Try.isAgg3 rfl rfl rfl) ?_
    refine WO.op rfl rfl rfl rfl (step_pure Try.call29 rfl (by (repeat (first | exact Nl.nil | refine Nl.keep (by rfl) ?_))) (w_eight) rfl) ?_
    refine WO.op rfl rfl rfl rfl (step_not rfl) ?_
    refine WO.op rfl rfl rfl rfl (pk_f rfl rfl rfl) ?_
    refine WO.op rfl rfl rfl rfl (mv_sc rfl) ?_
    refine WO.spl 23 rfl (fun h2 => ?_) (fun h2 => ?_)
    · try simp only [decide_eq_true_eq, decide_eq_false_iff_not, Bool.not_eq_true', Bool.not_eq_false', beq_iff_eq, bne_iff_ne, beq_eq_false_iff_ne, bne_eq_false_iff_eq, gt_iff_lt, ge_iff_le, Int.not_lt, Int.not_le] at h2
      exact False.elim (by omega)
    · try simp only [decide_eq_true_eq, decide_eq_false_iff_not, Bool.not_eq_true', Bool.not_eq_false', beq_iff_eq, bne_iff_ne, beq_eq_false_iff_ne, bne_eq_false_iff_eq, gt_iff_lt, ge_iff_le, Int.not_lt, Int.not_le] at h2
      refine WO.op rfl rfl rfl rfl (step_fieldR (k := 4) (FieldOff.mk (by kernel_rfl)) rfl rfl (by exact Nat.zero_add _)) ?_
      refine WO.op rfl rfl rfl rfl (step_load Try.isAgg3 rfl rfl rfl) ?_
      refine WO.op rfl rfl rfl rfl (step_pure Try.call29 rfl (by (repeat (first | exact Nl.nil | refine Nl.keep (by rfl) ?_))) (w_eight) rfl) ?_
      refine WO.op rfl rfl rfl rfl (step_not rfl) ?_
      refine WO.op rfl rfl rfl rfl (pk_f rfl rfl rfl) ?_
      refine WO.op rfl rfl rfl rfl (mv_sc rfl) ?_
      refine WO.spl 29 rfl (fun h3 => ?_) (fun h3 => ?_)
      · try simp only [decide_eq_true_eq, decide_eq_false_iff_not, Bool.not_eq_true', Bool.not_eq_false', beq_iff_eq, bne_iff_ne, beq_eq_false_iff_ne, bne_eq_false_iff_eq, gt_iff_lt, ge_iff_le, Int.not_lt, Int.not_le] at h3
        exact False.elim (by omega)
      · try simp only [decide_eq_true_eq, decide_eq_false_iff_not, Bool.not_eq_true', Bool.not_eq_false', beq_iff_eq, bne_iff_ne, beq_eq_false_iff_ne, bne_eq_false_iff_eq, gt_iff_lt, ge_iff_le, Int.not_lt, Int.not_le] at h3
        refine WO.op rfl rfl rfl rfl (step_fieldR (k := 1) (FieldOff.mk (by kernel_rfl)) rfl rfl (by exact Nat.zero_add _)) ?_
        refine WO.op rfl rfl rfl rfl (step_load Try.isAgg3 rfl rfl rfl) ?_
        refine WO.op rfl rfl rfl rfl (step_pure Try.call30 rfl (by (repeat (first | exact Nl.nil | refine Nl.keep (by rfl) ?_))) (w_sixteen) rfl) ?_
        refine WO.op rfl rfl rfl rfl (step_not rfl) ?_
        refine WO.op rfl rfl rfl rfl (pk_f rfl rfl rfl) ?_
        refine WO.op rfl rfl rfl rfl (mv_sc rfl) ?_
        refine WO.spl 35 rfl (fun h4 => ?_) (fun h4 => ?_)
        · try simp only [decide_eq_true_eq, decide_eq_false_iff_not, Bool.not_eq_true', Bool.not_eq_false', beq_iff_eq, bne_iff_ne, beq_eq_false_iff_ne, bne_eq_false_iff_eq, gt_iff_lt, ge_iff_le, Int.not_lt, Int.not_le] at h4
          exact False.elim (by omega)
        · try simp only [decide_eq_true_eq, decide_eq_false_iff_not, Bool.not_eq_true', Bool.not_eq_false', beq_iff_eq, bne_iff_ne, beq_eq_false_iff_ne, bne_eq_false_iff_eq, gt_iff_lt, ge_iff_le, Int.not_lt, Int.not_le] at h4
          refine WO.op rfl rfl rfl rfl (step_fieldR (k := 2) (FieldOff.mk (by kernel_rfl)) rfl rfl (by exact Nat.zero_add _)) ?_
          refine WO.op rfl rfl rfl rfl (step_load Try.isAgg3 rfl rfl rfl) ?_
          refine WO.op rfl rfl rfl rfl (step_pure Try.call30 rfl (by (repeat (first | exact Nl.nil | refine Nl.keep (by rfl) ?_))) (w_sixteen) rfl) ?_
          refine WO.op rfl rfl rfl rfl (step_not rfl) ?_
          refine WO.op rfl rfl rfl rfl (pk_f rfl rfl rfl) ?_
          refine WO.op rfl rfl rfl rfl (mv_sc rfl) ?_
          refine WO.spl 41 rfl (fun h5 => ?_) (fun h5 => ?_)
          · try simp only [decide_eq_true_eq, decide_eq_false_iff_not, Bool.not_eq_true', Bool.not_eq_false', beq_iff_eq, bne_iff_ne, beq_eq_false_iff_ne, bne_eq_false_iff_eq, gt_iff_lt, ge_iff_le, Int.not_lt, Int.not_le] at h5
            exact False.elim (by omega)
          · try simp only [decide_eq_true_eq, decide_eq_false_iff_not, Bool.not_eq_true', Bool.not_eq_false', beq_iff_eq, bne_iff_ne, beq_eq_false_iff_ne, bne_eq_false_iff_eq, gt_iff_lt, ge_iff_le, Int.not_lt, Int.not_le] at h5
            refine WO.op rfl rfl rfl rfl (step_fieldR (k := 7) (FieldOff.mk (by kernel_rfl)) rfl rfl (by exact Nat.zero_add _)) ?_
            refine WO.op rfl rfl rfl rfl (step_load Try.isAgg9 rfl rfl rfl) ?_
            refine WO.op rfl rfl rfl rfl (step_lenS Try.runUnderlying9 rfl) ?_
            refine WO.op rfl rfl rfl rfl (step_int2 rfl rfl rfl) ?_
            refine WO.op rfl rfl rfl rfl (pk_f rfl rfl rfl) ?_
            refine WO.op rfl rfl rfl rfl (mv_sc rfl) ?_
            refine WO.spl 47 rfl (fun h6 => ?_) (fun h6 => ?_)
            · try simp only [decide_eq_true_eq, decide_eq_false_iff_not, Bool.not_eq_true', Bool.not_eq_false', beq_iff_eq, bne_iff_ne, beq_eq_false_iff_ne, bne_eq_false_iff_eq, gt_iff_lt, ge_iff_le, Int.not_lt, Int.not_le] at h6
              exact False.elim (by omega)
            · try simp only [decide_eq_true_eq, decide_eq_false_iff_not, Bool.not_eq_true', Bool.not_eq_false', beq_iff_eq, bne_iff_ne, beq_eq_false_iff_ne, bne_eq_false_iff_eq, gt_iff_lt, ge_iff_le, Int.not_lt, Int.not_le] at h6
              refine WO.op rfl rfl rfl rfl (step_fieldR (k := 7) (FieldOff.mk (by kernel_rfl)) rfl rfl (by exact Nat.zero_add _)) ?_
              refine WO.op rfl rfl rfl rfl (step_load Try.isAgg9 rfl rfl rfl) ?_
              refine WO.op rfl rfl rfl rfl (step_lenS Try.runUnderlying9 rfl) ?_
              refine WO.op rfl rfl rfl rfl (step_remN (q := 4) rfl rfl (by omega)) ?_
              refine WO.op rfl rfl rfl rfl (step_int2 rfl rfl rfl) ?_
              refine WO.op rfl rfl rfl rfl (pk_f rfl rfl rfl) ?_
              refine WO.op rfl rfl rfl rfl (mv_sc rfl) ?_
              refine WO.spl 54 rfl (fun h7 => ?_) (fun h7 => ?_)
              · try simp only [decide_eq_true_eq, decide_eq_false_iff_not, Bool.not_eq_true', Bool.not_eq_false', beq_iff_eq, bne_iff_ne, beq_eq_false_iff_ne, bne_eq_false_iff_eq, gt_iff_lt, ge_iff_le, Int.not_lt, Int.not_le] at h7
                exact False.elim (by omega)
              · try simp only [decide_eq_true_eq, decide_eq_false_iff_not, Bool.not_eq_true', Bool.not_eq_false', beq_iff_eq, bne_iff_ne, beq_eq_false_iff_ne, bne_eq_false_iff_eq, gt_iff_lt, ge_iff_le, Int.not_lt, Int.not_le] at h7
                refine WO.op rfl rfl rfl rfl (mv_sc rfl) ?_
                refine WO.op rfl rfl rfl rfl (step_int2 rfl rfl rfl) ?_
                refine WO.op rfl rfl rfl rfl (pk_f rfl rfl rfl) ?_
                refine WO.op rfl rfl rfl rfl (mv_sc rfl) ?_
                refine WO.spl 58 rfl (fun h8 => ?_) (fun h8 => ?_)
                · try simp only [decide_eq_true_eq, decide_eq_false_iff_not, Bool.not_eq_true', Bool.not_eq_false', beq_iff_eq, bne_iff_ne, beq_eq_false_iff_ne, bne_eq_false_iff_eq, gt_iff_lt, ge_iff_le, Int.not_lt, Int.not_le] at h8
                  exact False.elim (by omega)
                · try simp only [decide_eq_true_eq, decide_eq_false_iff_not, Bool.not_eq_true', Bool.not_eq_false', beq_iff_eq, bne_iff_ne, beq_eq_false_iff_ne, bne_eq_false_iff_eq, gt_iff_lt, ge_iff_le, Int.not_lt, Int.not_le] at h8
                  refine WO.op rfl rfl rfl rfl (mv_sc rfl) ?_
                  refine WO.op rfl rfl rfl rfl (mv_sc rfl) ?_
                  refine WO.op rfl rfl rfl rfl (step_subN (p := 65535) rfl rfl (by omega) (by (simp only [cap]; omega))) ?_
                  refine WO.op rfl rfl rfl rfl (step_int2 rfl rfl rfl) ?_
                  refine WO.op rfl rfl rfl rfl (pk_f rfl rfl rfl) ?_
                  refine WO.nil ?_
                  refine W.cond rfl (fun h9 => ?_) (fun h9 => ?_)
                  · try simp only [decide_eq_true_eq, decide_eq_false_iff_not, Bool.not_eq_true', Bool.not_eq_false', beq_iff_eq, bne_iff_ne, beq_eq_false_iff_ne, bne_eq_false_iff_eq, gt_iff_lt, ge_iff_le, Int.not_lt, Int.not_le] at h9
                    exact False.elim (by omega)
                  · try simp only [decide_eq_true_eq, decide_eq_false_iff_not, Bool.not_eq_true', Bool.not_eq_false', beq_iff_eq, bne_iff_ne, beq_eq_false_iff_ne, bne_eq_false_iff_eq, gt_iff_lt, ge_iff_le, Int.not_lt, Int.not_le] at h9
                    refine W.skip ?_
                    refine W.seq ?_
                    refine W.to [(0, _), (1, _), (2, _), (4, _), (5, _), (6, _), (63, _)] [_] rfl ⟨(by exact sh_agg rfl), (by exact sh_sc rfl), (by exact sh_ptr rfl), (by exact sh_nil rfl), (by exact sh_sc rfl), (by exact sh_sc rfl), (by exact sh_sc rfl), trivial⟩ ?_
                    refine W.region ?_
                    refine WO.op rfl rfl rfl rfl (mv_sc rfl) ?_
                    refine WO.op rfl rfl rfl rfl (step_quoN (q := 4) rfl rfl (by omega) (by (simp only [cap]; omega))) ?_
                    refine WO.op rfl rfl rfl rfl (step_addN (p := 64) rfl rfl (by (simp only [cap]; omega))) ?_
                    refine WO.op rfl rfl rfl rfl (step_convR Try.runUnderlying3 Try.runUnderlying5 rfl (by exact convN (by (simp only [cap]; omega)))) ?_
                    refine WO.op rfl rfl rfl rfl (step_fieldR (k := 0) (FieldOff.mk (by kernel_rfl)) rfl rfl (by exact Nat.zero_add _)) ?_
                    refine WO.op rfl rfl rfl rfl (step_load Try.isAgg3 rfl rfl rfl) ?_
                    refine WO.op rfl rfl rfl rfl (step_convR Try.runUnderlying3 Try.runUnderlying5 rfl (by exact convN (by (simp only [cap]; omega)))) ?_
                    refine WO.opA rfl rfl rfl rfl (al_buildSlice Try.runUnderlying22 (z := (Value.int IntKind.u8 0)) (bs := 1) (esz := 1) (EI.mk (by kernel_rfl)) rfl (by decide) rfl rfl) rfl rfl ?_
                    refine WO.put 71 (.sl 1 0 _) rfl ?_
                    refine WO.op rfl rfl rfl rfl (as_sl rfl) ?_
                    refine WO.nil ?_
                    refine W.seq ?_
                    refine W.to [(0, _), (1, _), (2, _), (4, _), (5, _), (6, _), (7, _), (63, _)] [_, _] rfl ⟨(by exact sh_agg rfl), (by exact sh_sc rfl), (by exact sh_ptr rfl), (by exact sh_nil rfl), (by exact sh_sc rfl), (by exact sh_sc rfl), (by exact sh_sl rfl), (by exact sh_sc rfl), trivial⟩ ?_
                    refine W.gatC [_] [] [UInt8.ofNat (64 + (20 + a7.size) / 4), UInt8.ofNat a0] rfl (cong2 (fun x y : Int => [AV.sc (.int .u8 x), AV.sc (.int .u8 y)]) (by exact u8_nat (by omega)) (by exact u8_nat (by omega))) ?_
                    intro L5 hL5
                    have hl5 : L5.length = 2 := by rw [hL5]; simp only [List.length_append, List.length_cons, List.length_nil, bysN_len, List.length_set, Array.length_toList, ByteArray.size_data, List.length_map] <;> omega
                    refine W.region ?_
                    refine WO.op rfl rfl rfl rfl (mv_sl rfl) ?_
                    refine WO.op rfl rfl rfl rfl (mv_sc rfl) ?_
                    refine WO.op rfl rfl rfl rfl (mv_sc rfl) ?_
                    refine WO.op rfl rfl rfl rfl (step_addN rfl rfl (by (simp only [cap]; omega))) ?_
                    refine WO.op rfl rfl rfl rfl (step_convR Try.runUnderlying3 Try.runUnderlying45 rfl (by exact convN (by (simp only [cap]; omega)))) ?_
                    refine WO.op rfl rfl rfl rfl (step_pure Try.call31 rfl (by (repeat (first | exact Nl.nil | refine Nl.keep (by rfl) ?_))) (w_Bytes (n := 2) (by omega) (by omega)) rfl) ?_
                    refine WO.op rfl rfl rfl rfl (step_appB Try.runUnderlying22 (EI.mk (by kernel_rfl)) Try.runUnderlying22 (.inl ⟨_, rfl⟩) rfl rfl (by omega) (Src.imB rfl) (by (simp only [List.length_map, List.length_append, List.length_take, List.length_drop, List.length_set, List.length_cons, List.length_nil, List.length_replicate, bysN_len, Array.length_toList, ByteArray.size_data] <;> omega)) rfl) ?_
                    refine WO.put 78 (.sl 2 0 _) rfl ?_
                    refine WO.op rfl rfl rfl rfl (as_sl rfl) ?_
                    refine WO.put 7 (.sl 2 0 (4)) (congrArg (AV.sl 2 0) (by simp only [bysN_len] <;> omega)) ?_
                    refine WO.nil ?_
                    refine W.seq ?_
                    refine W.to [(0, _), (1, _), (2, _), (4, _), (5, _), (6, _), (7, _), (63, _)] [_, _, _] rfl ⟨(by exact sh_agg rfl), (by exact sh_sc rfl), (by exact sh_ptr rfl), (by exact sh_nil rfl), (by exact sh_sc rfl), (by exact sh_sc rfl), (by exact sh_sl rfl), (by exact sh_sc rfl), trivial⟩ ?_
                    refine W.gatC [_, _] [] _ rfl (rfl) ?_
                    intro L6 hL6
                    have hl6 : L6.length = 4 := by rw [hL6]; simp only [List.length_append, List.length_cons, List.length_nil, bysN_len, List.length_set, Array.length_toList, ByteArray.size_data, List.length_map] <;> omega
                    refine W.region ?_
                    refine WO.op rfl rfl rfl rfl (mv_sl rfl) ?_
                    refine WO.op rfl rfl rfl rfl (step_fieldR (k := 1) (FieldOff.mk (by kernel_rfl)) rfl rfl (by exact Nat.zero_add _)) ?_
                    refine WO.op rfl rfl rfl rfl (step_load Try.isAgg3 rfl rfl rfl) ?_
                    refine WO.op rfl rfl rfl rfl (step_convR Try.runUnderlying3 Try.runUnderlying45 rfl (by exact convN (by (simp only [cap]; omega)))) ?_
                    refine WO.op rfl rfl rfl rfl (step_pure Try.call31 rfl (by (repeat (first | exact Nl.nil | refine Nl.keep (by rfl) ?_))) (w_Bytes (n := 2) (by omega) (by omega)) rfl) ?_
                    refine WO.op rfl rfl rfl rfl (step_appB Try.runUnderlying22 (EI.mk (by kernel_rfl)) Try.runUnderlying22 (.inl ⟨_, rfl⟩) rfl rfl (by omega) (Src.imB rfl) (by (simp only [List.length_map, List.length_append, List.length_take, List.length_drop, List.length_set, List.length_cons, List.length_nil, List.length_replicate, bysN_len, Array.length_toList, ByteArray.size_data] <;> omega)) rfl) ?_
                    refine WO.put 84 (.sl 3 0 _) rfl ?_
                    refine WO.op rfl rfl rfl rfl (as_sl rfl) ?_
                    refine WO.put 7 (.sl 3 0 (6)) (congrArg (AV.sl 3 0) (by simp only [bysN_len] <;> omega)) ?_
                    refine WO.nil ?_
                    refine W.seq ?_
                    refine W.to [(0, _), (1, _), (2, _), (4, _), (5, _), (6, _), (7, _), (63, _)] [_, _, _, _] rfl ⟨(by exact sh_agg rfl), (by exact sh_sc rfl), (by exact sh_ptr rfl), (by exact sh_nil rfl), (by exact sh_sc rfl), (by exact sh_sc rfl), (by exact sh_sl rfl), (by exact sh_sc rfl), trivial⟩ ?_
                    refine W.gatC [_, _, _] [] _ rfl (rfl) ?_
                    intro L7 hL7
                    have hl7 : L7.length = 6 := by rw [hL7]; simp only [List.length_append, List.length_cons, List.length_nil, bysN_len, List.length_set, Array.length_toList, ByteArray.size_data, List.length_map] <;> omega
                    refine W.region ?_
                    refine WO.op rfl rfl rfl rfl (mv_sl rfl) ?_
                    refine WO.op rfl rfl rfl rfl (step_fieldR (k := 2) (FieldOff.mk (by kernel_rfl)) rfl rfl (by exact Nat.zero_add _)) ?_
                    refine WO.op rfl rfl rfl rfl (step_load Try.isAgg3 rfl rfl rfl) ?_
                    refine WO.op rfl rfl rfl rfl (step_convR Try.runUnderlying3 Try.runUnderlying45 rfl (by exact convN (by (simp only [cap]; omega)))) ?_
                    refine WO.op rfl rfl rfl rfl (step_pure Try.call31 rfl (by (repeat (first | exact Nl.nil | refine Nl.keep (by rfl) ?_))) (w_Bytes (n := 2) (by omega) (by omega)) rfl) ?_
                    refine WO.op rfl rfl rfl rfl (step_appB Try.runUnderlying22 (EI.mk (by kernel_rfl)) Try.runUnderlying22 (.inl ⟨_, rfl⟩) rfl rfl (by omega) (Src.imB rfl) (by (simp only [List.length_map, List.length_append, List.length_take, List.length_drop, List.length_set, List.length_cons, List.length_nil, List.length_replicate, bysN_len, Array.length_toList, ByteArray.size_data] <;> omega)) rfl) ?_
                    refine WO.put 90 (.sl 4 0 _) rfl ?_
                    refine WO.op rfl rfl rfl rfl (as_sl rfl) ?_
                    refine WO.put 7 (.sl 4 0 (8)) (congrArg (AV.sl 4 0) (by simp only [bysN_len] <;> omega)) ?_
                    refine WO.nil ?_
                    refine W.seq ?_
                    refine W.to [(0, _), (1, _), (2, _), (4, _), (5, _), (6, _), (7, _), (63, _)] [_, _, _, _, _] rfl ⟨(by exact sh_agg rfl), (by exact sh_sc rfl), (by exact sh_ptr rfl), (by exact sh_nil rfl), (by exact sh_sc rfl), (by exact sh_sc rfl), (by exact sh_sl rfl), (by exact sh_sc rfl), trivial⟩ ?_
                    refine W.gatC [_, _, _, _] [] _ rfl (rfl) ?_
                    intro L8 hL8
                    have hl8 : L8.length = 8 := by rw [hL8]; simp only [List.length_append, List.length_cons, List.length_nil, bysN_len, List.length_set, Array.length_toList, ByteArray.size_data, List.length_map] <;> omega
                    refine W.region ?_
                    refine WO.op rfl rfl rfl rfl (mv_sl rfl) ?_
                    refine WO.op rfl rfl rfl rfl (step_fieldR (k := 3) (FieldOff.mk (by kernel_rfl)) rfl rfl (by exact Nat.zero_add _)) ?_
                    refine WO.op rfl rfl rfl rfl (step_load Try.isAgg3 rfl rfl rfl) ?_
                    refine WO.op rfl rfl rfl rfl (step_convR Try.runUnderlying3 Try.runUnderlying5 rfl (by exact convN (by (simp only [cap]; omega)))) ?_
                    refine WO.op rfl rfl rfl rfl (step_fieldR (k := 4) (FieldOff.mk (by kernel_rfl)) rfl rfl (by exact Nat.zero_add _)) ?_
                    refine WO.op rfl rfl rfl rfl (step_load Try.isAgg3 rfl rfl rfl) ?_
                    refine WO.op rfl rfl rfl rfl (step_convR Try.runUnderlying3 Try.runUnderlying5 rfl (by exact convN (by (simp only [cap]; omega)))) ?_
                    refine WO.opA rfl rfl rfl rfl (al_buildSlice Try.runUnderlying22 (z := (Value.int IntKind.u8 0)) (bs := 1) (esz := 1) (EI.mk (by kernel_rfl)) rfl (by decide) rfl rfl) rfl rfl ?_
                    refine WO.put 98 (.sl 5 0 _) rfl ?_
                    refine WO.gatC [_, _, _, _, _] [] [UInt8.ofNat a3, UInt8.ofNat a4, 0, 0] rfl (cong2 (fun x y : Int => [AV.sc (.int .u8 x), AV.sc (.int .u8 y), AV.sc (.int .u8 0), AV.sc (.int .u8 0)]) (by exact u8_nat (by omega)) (by exact u8_nat (by omega))) ?_
                    intro M8 hM8
                    have hm8 : M8.length = 4 := by rw [hM8]; rfl
                    refine WO.op rfl rfl rfl rfl (step_appB Try.runUnderlying22 (EI.mk (by kernel_rfl)) Try.runUnderlying22 (.inl ⟨_, rfl⟩) rfl rfl (by omega) (Src.ownB rfl rfl (by (exact take_whole (by omega))) (by (simp only [List.length_map, List.length_append, List.length_take, List.length_drop, List.length_set, List.length_cons, List.length_nil, List.length_replicate, bysN_len, Array.length_toList, ByteArray.size_data] <;> omega))) (by omega) rfl) ?_
                    refine WO.put 99 (.sl 6 0 _) rfl ?_
                    refine WO.op rfl rfl rfl rfl (as_sl rfl) ?_
                    refine WO.put 7 (.sl 6 0 (12)) (congrArg (AV.sl 6 0) (by simp only [bysN_len] <;> omega)) ?_
                    refine WO.nil ?_
                    refine W.seq ?_
                    refine W.to [(0, _), (1, _), (2, _), (4, _), (5, _), (6, _), (7, _), (63, _)] [_, _, _, _, _, _, _] rfl ⟨(by exact sh_agg rfl), (by exact sh_sc rfl), (by exact sh_ptr rfl), (by exact sh_nil rfl), (by exact sh_sc rfl), (by exact sh_sc rfl), (by exact sh_sl rfl), (by exact sh_sc rfl), trivial⟩ ?_
                    refine W.gatC [_, _, _, _, _, _] [] _ rfl (rfl) ?_
                    intro L9 hL9
                    have hl9 : L9.length = 12 := by rw [hL9]; simp only [List.length_append, List.length_cons, List.length_nil, bysN_len, List.length_set, Array.length_toList, ByteArray.size_data, List.length_map] <;> omega
                    refine W.region ?_
                    refine WO.op rfl rfl rfl rfl (mv_sl rfl) ?_
                    refine WO.op rfl rfl rfl rfl (step_fieldR (k := 5) (FieldOff.mk (by kernel_rfl)) rfl rfl (by exact Nat.zero_add _)) ?_
                    refine WO.op rfl rfl rfl rfl (step_load Try.isAgg29 rfl rfl rfl) ?_
                    refine WO.op rfl rfl rfl rfl (step_convR Try.runUnderlying29 Try.runUnderlying45 rfl (by exact convN (by (simp only [cap]; omega)))) ?_
                    refine WO.op rfl rfl rfl rfl (step_pure Try.call31 rfl (by (repeat (first | exact Nl.nil | refine Nl.keep (by rfl) ?_))) (w_Bytes (n := 4) (by omega) (by omega)) rfl) ?_
                    refine WO.op rfl rfl rfl rfl (step_appB Try.runUnderlying22 (EI.mk (by kernel_rfl)) Try.runUnderlying22 (.inl ⟨_, rfl⟩) rfl rfl (by omega) (Src.imB rfl) (by (simp only [List.length_map, List.length_append, List.length_take, List.length_drop, List.length_set, List.length_cons, List.length_nil, List.length_replicate, bysN_len, Array.length_toList, ByteArray.size_data] <;> omega)) rfl) ?_
                    refine WO.put 105 (.sl 7 0 _) rfl ?_
                    refine WO.op rfl rfl rfl rfl (as_sl rfl) ?_
                    refine WO.put 7 (.sl 7 0 (16)) (congrArg (AV.sl 7 0) (by simp only [bysN_len] <;> omega)) ?_
                    refine WO.nil ?_
                    refine W.seq ?_
                    refine W.to [(0, _), (1, _), (2, _), (4, _), (5, _), (6, _), (7, _), (63, _)] [_, _, _, _, _, _, _, _] rfl ⟨(by exact sh_agg rfl), (by exact sh_sc rfl), (by exact sh_ptr rfl), (by exact sh_nil rfl), (by exact sh_sc rfl), (by exact sh_sc rfl), (by exact sh_sl rfl), (by exact sh_sc rfl), trivial⟩ ?_
                    refine W.gatC [_, _, _, _, _, _, _] [] _ rfl (rfl) ?_
                    intro L10 hL10
                    have hl10 : L10.length = 16 := by rw [hL10]; simp only [List.length_append, List.length_cons, List.length_nil, bysN_len, List.length_set, Array.length_toList, ByteArray.size_data, List.length_map] <;> omega
                    refine W.region ?_
                    refine WO.op rfl rfl rfl rfl (mv_sl rfl) ?_
                    refine WO.op rfl rfl rfl rfl (step_fieldR (k := 6) (FieldOff.mk (by kernel_rfl)) rfl rfl (by exact Nat.zero_add _)) ?_
                    refine WO.op rfl rfl rfl rfl (step_load Try.isAgg29 rfl rfl rfl) ?_
                    refine WO.op rfl rfl rfl rfl (step_convR Try.runUnderlying29 Try.runUnderlying45 rfl (by exact convN (by (simp only [cap]; omega)))) ?_
                    refine WO.op rfl rfl rfl rfl (step_pure Try.call31 rfl (by (repeat (first | exact Nl.nil | refine Nl.keep (by rfl) ?_))) (w_Bytes (n := 4) (by omega) (by omega)) rfl) ?_
                    refine WO.op rfl rfl rfl rfl (step_appB Try.runUnderlying22 (EI.mk (by kernel_rfl)) Try.runUnderlying22 (.inl ⟨_, rfl⟩) rfl rfl (by omega) (Src.imB rfl) (by (simp only [List.length_map, List.length_append, List.length_take, List.length_drop, List.length_set, List.length_cons, List.length_nil, List.length_replicate, bysN_len, Array.length_toList, ByteArray.size_data] <;> omega)) rfl) ?_
                    refine WO.put 111 (.sl 8 0 _) rfl ?_
                    refine WO.op rfl rfl rfl rfl (as_sl rfl) ?_
                    refine WO.put 7 (.sl 8 0 (20)) (congrArg (AV.sl 8 0) (by simp only [bysN_len] <;> omega)) ?_
                    refine WO.nil ?_
                    refine W.seq ?_
                    refine W.to [(0, _), (1, _), (2, _), (4, _), (5, _), (6, _), (7, _), (63, _)] [_, _, _, _, _, _, _, _, _] rfl ⟨(by exact sh_agg rfl), (by exact sh_sc rfl), (by exact sh_ptr rfl), (by exact sh_nil rfl), (by exact sh_sc rfl), (by exact sh_sc rfl), (by exact sh_sl rfl), (by exact sh_sc rfl), trivial⟩ ?_
                    refine W.gatC [_, _, _, _, _, _, _, _] [] _ rfl (rfl) ?_
                    intro L11 hL11
                    have hl11 : L11.length = 20 := by rw [hL11]; simp only [List.length_append, List.length_cons, List.length_nil, bysN_len, List.length_set, Array.length_toList, ByteArray.size_data, List.length_map] <;> omega
                    refine W.region ?_
                    refine WO.op rfl rfl rfl rfl (mv_sl rfl) ?_
                    refine WO.op rfl rfl rfl rfl (step_fieldR (k := 7) (FieldOff.mk (by kernel_rfl)) rfl rfl (by exact Nat.zero_add _)) ?_
                    refine WO.op rfl rfl rfl rfl (step_load Try.isAgg9 rfl rfl rfl) ?_
                    refine WO.op rfl rfl rfl rfl (step_appB Try.runUnderlying22 (EI.mk (by kernel_rfl)) Try.runUnderlying9 (.inr rfl) rfl rfl (by omega) (Src.str rfl) (by omega) rfl) ?_
                    refine WO.put 115 (.sl 9 0 _) rfl ?_
                    refine WO.op rfl rfl rfl rfl (as_sl rfl) ?_
                    refine WO.put 7 (.sl 9 0 (20 + a7.size)) (congrArg (AV.sl 9 0) (by simp only [bysN_len] <;> omega)) ?_
                    refine WO.nil ?_
                    refine W.seq ?_
                    refine W.to [(0, _), (1, _), (2, _), (4, _), (5, _), (6, _), (7, _), (63, _)] [_, _, _, _, _, _, _, _, _, _] rfl ⟨(by exact sh_agg rfl), (by exact sh_sc rfl), (by exact sh_ptr rfl), (by exact sh_nil rfl), (by exact sh_sc rfl), (by exact sh_sc rfl), (by exact sh_sl rfl), (by exact sh_sc rfl), trivial⟩ ?_
                    refine W.gatC [_, _, _, _, _, _, _, _, _] [] _ rfl (rfl) ?_
                    intro L12 hL12
                    have hl12 : L12.length = 20 + a7.size := by rw [hL12]; simp only [List.length_append, List.length_cons, List.length_nil, bysN_len, List.length_set, Array.length_toList, ByteArray.size_data, List.length_map] <;> omega
                    refine W.region ?_
                    refine WO.op rfl rfl rfl rfl (mv_sl rfl) ?_
                    refine WO.op rfl rfl rfl rfl (step_lent Try.call32 rfl (by (repeat (first | exact Bw.nil | refine Bw.slB rfl (by (exact take_whole (by omega))) (by (simp only [List.length_map, List.length_append, List.length_take, List.length_drop, List.length_set, List.length_cons, List.length_nil, List.length_replicate, bysN_len, Array.length_toList, ByteArray.size_data] <;> omega)) ?_))) (w_refCheck (by omega)) rfl) ?_
                    refine WO.op rfl rfl rfl rfl (as_sc rfl) ?_
                    refine WO.nil ?_
                    refine W.seq ?_
                    refine W.to [(0, _), (1, _), (2, _), (4, _), (5, _), (6, _), (7, _), (8, _), (63, _)] [_, _, _, _, _, _, _, _, _, _] rfl ⟨(by exact sh_agg rfl), (by exact sh_sc rfl), (by exact sh_ptr rfl), (by exact sh_nil rfl), (by exact sh_sc rfl), (by exact sh_sc rfl), (by exact sh_sl rfl), (by exact sh_sc rfl), (by exact sh_sc rfl), trivial⟩ ?_
                    refine W.region ?_
                    refine WO.op rfl rfl rfl rfl (mv_sl rfl) ?_
                    refine WO.op rfl rfl rfl rfl (mv_sl rfl) ?_
                    refine WO.op rfl rfl rfl rfl (mv_sc rfl) ?_
                    refine WO.op rfl rfl rfl rfl (step_quoN (q := 256) rfl rfl (by omega) (by (simp only [cap]; omega))) ?_
                    refine WO.op rfl rfl rfl rfl (step_convR Try.runUnderlying26 Try.runUnderlying5 rfl (by exact convN (by (simp only [cap]; omega)))) ?_
                    refine WO.op rfl rfl rfl rfl (mv_sc rfl) ?_
                    refine WO.op rfl rfl rfl rfl (step_remN (q := 256) rfl rfl (by omega)) ?_
                    refine WO.op rfl rfl rfl rfl (step_convR Try.runUnderlying26 Try.runUnderlying5 rfl (by exact convN (by (simp only [cap]; omega)))) ?_
                    refine WO.op rfl rfl rfl rfl (step_idxO (j := 10) Try.runUnderlying22 Try.sizeOf5 rfl rfl rfl (by (exact rfl)) (by omega) (by exact Nat.zero_add _)) ?_
                    refine WO.op0 rfl rfl rfl (step_storeB (b := _) Try.sizeOf5 rfl rfl rfl (by (exact u8_nat (by omega))) (by omega)) ?_
                    refine WO.op rfl rfl rfl rfl (step_idxO (j := 11) Try.runUnderlying22 Try.sizeOf5 rfl rfl rfl (by (exact rfl)) (by omega) (by exact Nat.zero_add _)) ?_
                    refine WO.op0 rfl rfl rfl (step_storeB (b := _) Try.sizeOf5 rfl rfl rfl (by (exact u8_mod _)) (by (simp only [List.length_map, List.length_append, List.length_take, List.length_drop, List.length_set, List.length_cons, List.length_nil, List.length_replicate, bysN_len, Array.length_toList, ByteArray.size_data] <;> omega))) ?_
                    refine WO.nil ?_
                    refine W.seq ?_
                    refine W.to [(0, _), (1, _), (2, _), (4, _), (5, _), (6, _), (7, _), (8, _), (63, _)] [_, _, _, _, _, _, _, _, _, _] rfl ⟨(by exact sh_agg rfl), (by exact sh_sc rfl), (by exact sh_ptr rfl), (by exact sh_nil rfl), (by exact sh_sc rfl), (by exact sh_sc rfl), (by exact sh_sl rfl), (by exact sh_sc rfl), (by exact sh_sc rfl), trivial⟩ ?_
                    refine W.gatC [_, _, _, _, _, _, _, _, _] [] _ rfl (rfl) ?_
                    intro L14 hL14
                    have hl14 : L14.length = 20 + a7.size := by rw [hL14]; simp only [List.length_append, List.length_cons, List.length_nil, bysN_len, List.length_set, Array.length_toList, ByteArray.size_data, List.length_map] <;> omega
                    refine W.region ?_
                    refine WO.op rfl rfl rfl rfl (mv_sl rfl) ?_
                    refine WO.op rfl rfl rfl rfl (as_sl rfl) ?_
                    refine WO.op rfl rfl rfl rfl (as_sc rfl) ?_
                    refine WO.nil ?_
                    refine W.ret ?_
                    refine ⟨.inl rfl, ?_⟩
                    have e : encB a0 a1 a2 a3 a4 a5 a6 a7.data.toList d = L14 := by
                      rw [hL14]; exact (ref_enc (by simp) hL5 hL6 hL7 hL8 hM8 hL9 hL10 hL11 hL12).symm
                    rw [e]
                    exact ret0 (Res.tmp rfl (Res.tmp rfl Res.nil)) (.tup (.cons (Fz.bytes rfl (Nat.zero_le _) (take_whole (by omega)) (by rw [List.length_map]; omega)) (.cons (.keep rfl) .nil)))

end Go.Proofs.Ytejoccabclibeaa
