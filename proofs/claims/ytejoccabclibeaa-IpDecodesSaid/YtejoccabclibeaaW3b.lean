/-
  Contracts of functions of chapter 03: each theorem says what a call of one function answers, for all arguments that its hypotheses let in.
-/
import Derived.Test.YtejoccabclibeaaW3a
set_option linter.unusedVariables false
set_option linter.unusedSimpArgs false
set_option maxRecDepth 100000
set_option maxHeartbeats 1000000
namespace Go.Proofs.Ytejoccabclibeaa
open Go Go.SL Go.Proofs

/-- May these be encoded? -/
def encOK (a0 a1 a2 a3 a4 : Int) (a7 : ByteArray) (d : Int) : Prop :=
  (0 ≤ a0 ∧ a0 ≤ 255) ∧ (0 ≤ a3 ∧ a3 ≤ 255) ∧ (0 ≤ a4 ∧ a4 ≤ 255) ∧ (0 ≤ a1 ∧ a1 ≤ 65535) ∧ (0 ≤ a2 ∧ a2 ≤ 65535) ∧ a7.size ≤ 40 ∧ a7.size % 4 = 0 ∧ (0 ≤ d ∧ d ≤ 65535 - (20 + a7.size))
def b2 (x : Nat) : List UInt8 := [byteOf x 8, byteOf x 0]
def b4 (x : Nat) : List UInt8 := [byteOf x 24, byteOf x 16, byteOf x 8, byteOf x 0]
/-- The head's bytes, with no check sum. -/
def enc0 (a0 a1 a2 a3 a4 a5 a6 : Nat) (o : List UInt8) (d : Nat) : List UInt8 :=
  [UInt8.ofNat (64 + (20 + o.length) / 4), UInt8.ofNat a0] ++ b2 (20 + o.length + d) ++ b2 a1 ++ b2 a2 ++ [UInt8.ofNat a3, UInt8.ofNat a4, 0, 0] ++ b4 a5 ++ b4 a6 ++ o
def encB (a0 a1 a2 a3 a4 a5 a6 : Nat) (o : List UInt8) (d : Nat) : List UInt8 :=
  let l := enc0 a0 a1 a2 a3 a4 a5 a6 o d
  (l.set 10 (byteOf (65535 - fo (ws l l.length)) 8)).set 11 (byteOf (65535 - fo (ws l l.length)) 0)
theorem or64 {x : Nat} (h : x < 64) : 64 ||| x = 64 + x := (Nat.two_pow_add_eq_or_of_lt (i := 6) h 1).symm
theorem splice_end {p o : List UInt8} {k n : Nat} (hp : p.length = n) (hk : k = o.length) : splice (p ++ List.replicate k 0) n o = p ++ o := by
  subst hp; subst hk
  unfold splice
  rw [List.take_left, List.drop_eq_nil_of_le (by simp), List.append_nil]
theorem ip_enc {a0 a1 a2 a3 a4 a5 a6 d k : Nat} {o L6 L10 L13 : List UInt8} (hk : k = o.length) (h40 : k ≤ 40)
  (h6 : L6 = ((List.replicate (20 + k) 0).set 0 (UInt8.ofNat (64 ||| (20 + k) / 4))).set 1 (UInt8.ofNat a0))
  (h10 : L10 = ((putN (putN (putN L6 2 2 (20 + k + d) 2) 4 2 a1 2) 6 2 a2 2).set 8 (UInt8.ofNat a3)).set 9 (UInt8.ofNat a4))
  (h13 : L13 = splice (putN (putN L10 12 4 a5 4) 16 4 a6 4) 20 o) :
  putN L13 10 2 (65535 - fo (ws L13 L13.length)) 2 = encB a0 a1 a2 a3 a4 a5 a6 o d := by
  subst hk
  have e1 : putN (putN L10 12 4 a5 4) 16 4 a6 4 = [UInt8.ofNat (64 + (20 + o.length) / 4), UInt8.ofNat a0, byteOf (20 + o.length + d) 8, byteOf (20 + o.length + d) 0, byteOf a1 8, byteOf a1 0, byteOf a2 8, byteOf a2 0, UInt8.ofNat a3, UInt8.ofNat a4, 0, 0, byteOf a5 24, byteOf a5 16, byteOf a5 8, byteOf a5 0, byteOf a6 24, byteOf a6 16, byteOf a6 8, byteOf a6 0] ++ List.replicate o.length 0 := by
    rw [h10, h6, or64 (by omega), ← List.replicate_append_replicate]
    rfl
  have e2 : L13 = enc0 a0 a1 a2 a3 a4 a5 a6 o d := by
    rw [h13, e1, splice_end (n := 20) (k := o.length) rfl rfl]
    rfl
  rw [e2]
  rfl

theorem w_EncG {a0 a1 a2 a3 a4 a5 a6 d : Nat} {a7 : ByteArray} (h0 : a0 ≤ 255) (h3 : a3 ≤ 255) (h4 : a4 ≤ 255) (h1 : a1 ≤ 65535) (h2 : a2 ≤ 65535) (h5 : a5 < 4294967296) (h6 : a6 < 4294967296) (hs : a7.size ≤ 40) (h8 : a7.size % 4 = 0) (hd : d + 20 + a7.size ≤ 65535) : Spec0 Try.prog 12 [.agg [.sc (.int .i64 ((a0 : Nat) : Int)), .sc (.int .i64 ((a1 : Nat) : Int)), .sc (.int .i64 ((a2 : Nat) : Int)), .sc (.int .i64 ((a3 : Nat) : Int)), .sc (.int .i64 ((a4 : Nat) : Int)), .sc (.int .u32 ((a5 : Nat) : Int)), .sc (.int .u32 ((a6 : Nat) : Int)), .sc (.string a7)], .sc (.int .i64 ((d : Nat) : Int))] (.tup [.im 1 ((encB a0 a1 a2 a3 a4 a5 a6 a7.data.toList d).map byteAV), .sc (.int .i64 0)]) := by
  refine Spec.body Try.func12 rfl (Nat.le_of_ble_eq_true rfl) ?_
  refine W.seq ?_
  refine W.region ?_
  refine WO.opA rfl rfl rfl rfl (al_boxA rfl rfl) rfl rfl ?_
  refine WO.put 2 (.ptr 0 0) rfl ?_
  refine WO.op rfl rfl rfl rfl (as_nil rfl) ?_
  refine WO.op rfl rfl rfl rfl (as_sc rfl) ?_
  refine WO.nil ?_
  refine W.seq ?_
  refine W.to [(0, _), (1, _), (2, _), (4, _), (5, _)] [_] rfl ⟨(by exact sh_agg rfl), (by exact sh_sc rfl), (by exact sh_ptr rfl), (by exact sh_nil rfl), (by exact sh_sc rfl), trivial⟩ ?_
  refine W.region ?_
  refine WO.op rfl rfl rfl rfl (step_fieldR (k := 7) (FieldOff.mk (by kernel_rfl)) rfl rfl (by exact Nat.zero_add _)) ?_
  refine WO.op rfl rfl rfl rfl (step_load Try.isAgg9 rfl rfl rfl) ?_
  refine WO.op rfl rfl rfl rfl (step_lenS Try.runUnderlying9 rfl) ?_
  refine WO.op rfl rfl rfl rfl (step_addN (p := 20) rfl rfl (by (simp only [cap]; omega))) ?_
  refine WO.op rfl rfl rfl rfl (as_sc rfl) ?_
  refine WO.nil ?_
  refine W.seq ?_
  refine W.seq ?_
  refine W.to [(0, _), (1, _), (2, _), (4, _), (5, _), (6, _)] [_] rfl ⟨(by exact sh_agg rfl), (by exact sh_sc rfl), (by exact sh_ptr rfl), (by exact sh_nil rfl), (by exact sh_sc rfl), (by exact sh_sc rfl), trivial⟩ ?_
  refine W.region ?_
  refine WO.op rfl rfl rfl rfl (step_fieldR (k := 0) (FieldOff.mk (by kernel_rfl)) rfl rfl (by exact Nat.zero_add _)) ?_
  refine WO.op rfl rfl rfl rfl (step_load Try.isAgg3 rfl rfl rfl) ?_
  refine WO.op rfl rfl rfl rfl (step_pure Try.call27 rfl (by (repeat (first | exact Nl.nil | refine Nl.keep (by rfl) ?_))) (w_within) rfl) ?_
  refine WO.op rfl rfl rfl rfl (step_not rfl) ?_
  refine WO.op rfl rfl rfl rfl (mv_sc rfl) ?_
  refine WO.spl 16 rfl (fun h1 => ?_) (fun h1 => ?_)
  · try simp only [decide_eq_true_eq, decide_eq_false_iff_not, Bool.not_eq_true', Bool.not_eq_false', beq_iff_eq, bne_iff_ne, beq_eq_false_iff_ne, bne_eq_false_iff_eq, gt_iff_lt, ge_iff_le, Int.not_lt, Int.not_le] at h1
    exact False.elim (by omega)
  · try simp only [decide_eq_true_eq, decide_eq_false_iff_not, Bool.not_eq_true', Bool.not_eq_false', beq_iff_eq, bne_iff_ne, beq_eq_false_iff_ne, bne_eq_false_iff_eq, gt_iff_lt, ge_iff_le, Int.not_lt, Int.not_le] at h1
    refine WO.op rfl rfl rfl rfl (step_fieldR (k := 3) (FieldOff.mk (by kernel_rfl)) rfl rfl (by exact Nat.zero_add _)) ?_
    refine WO.op rfl rfl rfl rfl (step_load Try.isAgg3 rfl rfl rfl) ?_
    refine WO.op rfl rfl rfl rfl (step_pure Try.call27 rfl (by (repeat (first | exact Nl.nil | refine Nl.keep (by rfl) ?_))) (w_within) rfl) ?_
    refine WO.op rfl rfl rfl rfl (step_not rfl) ?_
    refine WO.op rfl rfl rfl rfl (pk_f rfl rfl rfl) ?_
    refine WO.op rfl rfl rfl rfl (mv_sc rfl) ?_
    refine WO.spl 22 rfl (fun h2 => ?_) (fun h2 => ?_)
    · try simp only [decide_eq_true_eq, decide_eq_false_iff_not, Bool.not_eq_true', Bool.not_eq_false', beq_iff_eq, bne_iff_ne, beq_eq_false_iff_ne, bne_eq_false_iff_eq, gt_iff_lt, ge_iff_le, Int.not_lt, Int.not_le] at h2
      exact False.elim (by omega)
    · try simp only [decide_eq_true_eq, decide_eq_false_iff_not, Bool.not_eq_true', Bool.not_eq_false', beq_iff_eq, bne_iff_ne, beq_eq_false_iff_ne, bne_eq_false_iff_eq, gt_iff_lt, ge_iff_le, Int.not_lt, Int.not_le] at h2
      refine WO.op rfl rfl rfl rfl (step_fieldR (k := 4) (FieldOff.mk (by kernel_rfl)) rfl rfl (by exact Nat.zero_add _)) ?_
      refine WO.op rfl rfl rfl rfl (step_load Try.isAgg3 rfl rfl rfl) ?_
      refine WO.op rfl rfl rfl rfl (step_pure Try.call27 rfl (by (repeat (first | exact Nl.nil | refine Nl.keep (by rfl) ?_))) (w_within) rfl) ?_
      refine WO.op rfl rfl rfl rfl (step_not rfl) ?_
      refine WO.op rfl rfl rfl rfl (pk_f rfl rfl rfl) ?_
      refine WO.op rfl rfl rfl rfl (mv_sc rfl) ?_
      refine WO.spl 28 rfl (fun h3 => ?_) (fun h3 => ?_)
      · try simp only [decide_eq_true_eq, decide_eq_false_iff_not, Bool.not_eq_true', Bool.not_eq_false', beq_iff_eq, bne_iff_ne, beq_eq_false_iff_ne, bne_eq_false_iff_eq, gt_iff_lt, ge_iff_le, Int.not_lt, Int.not_le] at h3
        exact False.elim (by omega)
      · try simp only [decide_eq_true_eq, decide_eq_false_iff_not, Bool.not_eq_true', Bool.not_eq_false', beq_iff_eq, bne_iff_ne, beq_eq_false_iff_ne, bne_eq_false_iff_eq, gt_iff_lt, ge_iff_le, Int.not_lt, Int.not_le] at h3
        refine WO.op rfl rfl rfl rfl (step_fieldR (k := 1) (FieldOff.mk (by kernel_rfl)) rfl rfl (by exact Nat.zero_add _)) ?_
        refine WO.op rfl rfl rfl rfl (step_load Try.isAgg3 rfl rfl rfl) ?_
        refine WO.op rfl rfl rfl rfl (step_pure Try.call27 rfl (by (repeat (first | exact Nl.nil | refine Nl.keep (by rfl) ?_))) (w_within) rfl) ?_
        refine WO.op rfl rfl rfl rfl (step_not rfl) ?_
        refine WO.op rfl rfl rfl rfl (pk_f rfl rfl rfl) ?_
        refine WO.op rfl rfl rfl rfl (mv_sc rfl) ?_
        refine WO.spl 34 rfl (fun h4 => ?_) (fun h4 => ?_)
        · try simp only [decide_eq_true_eq, decide_eq_false_iff_not, Bool.not_eq_true', Bool.not_eq_false', beq_iff_eq, bne_iff_ne, beq_eq_false_iff_ne, bne_eq_false_iff_eq, gt_iff_lt, ge_iff_le, Int.not_lt, Int.not_le] at h4
          exact False.elim (by omega)
        · try simp only [decide_eq_true_eq, decide_eq_false_iff_not, Bool.not_eq_true', Bool.not_eq_false', beq_iff_eq, bne_iff_ne, beq_eq_false_iff_ne, bne_eq_false_iff_eq, gt_iff_lt, ge_iff_le, Int.not_lt, Int.not_le] at h4
          refine WO.op rfl rfl rfl rfl (step_fieldR (k := 2) (FieldOff.mk (by kernel_rfl)) rfl rfl (by exact Nat.zero_add _)) ?_
          refine WO.op rfl rfl rfl rfl (step_load Try.isAgg3 rfl rfl rfl) ?_
          refine WO.op rfl rfl rfl rfl (step_pure Try.call27 rfl (by (repeat (first | exact Nl.nil | refine Nl.keep (by rfl) ?_))) (w_within) rfl) ?_
          refine WO.op rfl rfl rfl rfl (step_not rfl) ?_
          refine WO.op rfl rfl rfl rfl (pk_f rfl rfl rfl) ?_
          refine WO.op rfl rfl rfl rfl (mv_sc rfl) ?_
          refine WO.spl 40 rfl (fun h5 => ?_) (fun h5 => ?_)
          · try simp only [decide_eq_true_eq, decide_eq_false_iff_not, Bool.not_eq_true', Bool.not_eq_false', beq_iff_eq, bne_iff_ne, beq_eq_false_iff_ne, bne_eq_false_iff_eq, gt_iff_lt, ge_iff_le, Int.not_lt, Int.not_le] at h5
            exact False.elim (by omega)
          · try simp only [decide_eq_true_eq, decide_eq_false_iff_not, Bool.not_eq_true', Bool.not_eq_false', beq_iff_eq, bne_iff_ne, beq_eq_false_iff_ne, bne_eq_false_iff_eq, gt_iff_lt, ge_iff_le, Int.not_lt, Int.not_le] at h5
            refine WO.op rfl rfl rfl rfl (step_fieldR (k := 7) (FieldOff.mk (by kernel_rfl)) rfl rfl (by exact Nat.zero_add _)) ?_
            refine WO.op rfl rfl rfl rfl (step_load Try.isAgg9 rfl rfl rfl) ?_
            refine WO.op rfl rfl rfl rfl (step_lenS Try.runUnderlying9 rfl) ?_
            refine WO.op rfl rfl rfl rfl (step_int2 rfl rfl rfl) ?_
            refine WO.op rfl rfl rfl rfl (pk_f rfl rfl rfl) ?_
            refine WO.op rfl rfl rfl rfl (mv_sc rfl) ?_
            refine WO.spl 46 rfl (fun h6 => ?_) (fun h6 => ?_)
            · try simp only [decide_eq_true_eq, decide_eq_false_iff_not, Bool.not_eq_true', Bool.not_eq_false', beq_iff_eq, bne_iff_ne, beq_eq_false_iff_ne, bne_eq_false_iff_eq, gt_iff_lt, ge_iff_le, Int.not_lt, Int.not_le] at h6
              exact False.elim (by omega)
            · try simp only [decide_eq_true_eq, decide_eq_false_iff_not, Bool.not_eq_true', Bool.not_eq_false', beq_iff_eq, bne_iff_ne, beq_eq_false_iff_ne, bne_eq_false_iff_eq, gt_iff_lt, ge_iff_le, Int.not_lt, Int.not_le] at h6
              refine WO.op rfl rfl rfl rfl (step_fieldR (k := 7) (FieldOff.mk (by kernel_rfl)) rfl rfl (by exact Nat.zero_add _)) ?_
              refine WO.op rfl rfl rfl rfl (step_load Try.isAgg9 rfl rfl rfl) ?_
              refine WO.op rfl rfl rfl rfl (step_lenS Try.runUnderlying9 rfl) ?_
              refine WO.op rfl rfl rfl rfl (step_remN (q := 4) rfl rfl (by omega)) ?_
              refine WO.op rfl rfl rfl rfl (step_int2 rfl rfl rfl) ?_
              refine WO.op rfl rfl rfl rfl (pk_f rfl rfl rfl) ?_
              refine WO.op rfl rfl rfl rfl (mv_sc rfl) ?_
              refine WO.spl 53 rfl (fun h7 => ?_) (fun h7 => ?_)
              · try simp only [decide_eq_true_eq, decide_eq_false_iff_not, Bool.not_eq_true', Bool.not_eq_false', beq_iff_eq, bne_iff_ne, beq_eq_false_iff_ne, bne_eq_false_iff_eq, gt_iff_lt, ge_iff_le, Int.not_lt, Int.not_le] at h7
                exact False.elim (by omega)
              · try simp only [decide_eq_true_eq, decide_eq_false_iff_not, Bool.not_eq_true', Bool.not_eq_false', beq_iff_eq, bne_iff_ne, beq_eq_false_iff_ne, bne_eq_false_iff_eq, gt_iff_lt, ge_iff_le, Int.not_lt, Int.not_le] at h7
                refine WO.op rfl rfl rfl rfl (mv_sc rfl) ?_
                refine WO.op rfl rfl rfl rfl (mv_sc rfl) ?_
                refine WO.op rfl rfl rfl rfl (step_subN (p := 65535) rfl rfl (by omega) (by (simp only [cap]; omega))) ?_
                refine WO.op rfl rfl rfl rfl (step_pure Try.call27 rfl (by (repeat (first | exact Nl.nil | refine Nl.keep (by rfl) ?_))) (w_within) rfl) ?_
                refine WO.op rfl rfl rfl rfl (step_not rfl) ?_
                refine WO.op rfl rfl rfl rfl (pk_f rfl rfl rfl) ?_
                refine WO.nil ?_
                refine W.cond rfl (fun h8 => ?_) (fun h8 => ?_)
                · try simp only [decide_eq_true_eq, decide_eq_false_iff_not, Bool.not_eq_true', Bool.not_eq_false', beq_iff_eq, bne_iff_ne, beq_eq_false_iff_ne, bne_eq_false_iff_eq, gt_iff_lt, ge_iff_le, Int.not_lt, Int.not_le] at h8
                  exact False.elim (by omega)
                · try simp only [decide_eq_true_eq, decide_eq_false_iff_not, Bool.not_eq_true', Bool.not_eq_false', beq_iff_eq, bne_iff_ne, beq_eq_false_iff_ne, bne_eq_false_iff_eq, gt_iff_lt, ge_iff_le, Int.not_lt, Int.not_le] at h8
                  refine W.skip ?_
                  refine W.seq ?_
                  refine W.to [(0, _), (1, _), (2, _), (4, _), (5, _), (6, _), (59, _)] [_] rfl ⟨(by exact sh_agg rfl), (by exact sh_sc rfl), (by exact sh_ptr rfl), (by exact sh_nil rfl), (by exact sh_sc rfl), (by exact sh_sc rfl), (by exact sh_sc rfl), trivial⟩ ?_
                  refine W.region ?_
                  refine WO.op rfl rfl rfl rfl (mv_sc rfl) ?_
                  refine WO.op rfl rfl rfl rfl (step_makeB Try.runUnderlying22 (EI.mk (by kernel_rfl)) rfl rfl (by (exact rfl)) (by (exact rfl)) (by omega)) ?_
                  refine WO.put 61 (.sl 1 0 _) rfl ?_
                  refine WO.op rfl rfl rfl rfl (as_sl rfl) ?_
                  refine WO.nil ?_
                  refine W.seq ?_
                  refine W.to [(0, _), (1, _), (2, _), (4, _), (5, _), (6, _), (7, _), (59, _)] [_, _] rfl ⟨(by exact sh_agg rfl), (by exact sh_sc rfl), (by exact sh_ptr rfl), (by exact sh_nil rfl), (by exact sh_sc rfl), (by exact sh_sc rfl), (by exact sh_sl rfl), (by exact sh_sc rfl), trivial⟩ ?_
                  refine W.draw (Checked.mixed Try.checked) ?_
                  refine DC.op rfl rfl rfl (fun _ => mv_sl rfl) ?_
                  refine DC.op rfl rfl rfl (fun _ => mv_sl rfl) ?_
                  refine DC.op rfl rfl rfl (fun _ => mv_sc rfl) ?_
                  refine DC.op rfl rfl rfl (fun _ => step_quoN (q := 4) rfl rfl (by omega) (by (simp only [cap]; omega))) ?_
                  refine DC.op rfl rfl rfl (fun _ => step_orN (p := 64) rfl rfl (by (simp only [cap]; omega)) (by (simp only [cap]; omega))) ?_
                  refine DC.op rfl rfl rfl (fun _ => step_convR Try.runUnderlying3 Try.runUnderlying5 rfl (by exact modN8 _)) ?_
                  refine DC.op1 rfl rfl rfl rfl (fun _ ho => step_fieldR (k := 0) (FieldOff.mk (by kernel_rfl)) rfl ho (by exact Nat.zero_add _)) ?_
                  refine DC.op1 rfl rfl rfl rfl (fun _ ho => step_load Try.isAgg3 rfl ho rfl) ?_
                  refine DC.op rfl rfl rfl (fun _ => step_convR Try.runUnderlying3 Try.runUnderlying5 rfl (by exact convN (by (simp only [cap]; omega)))) ?_
                  refine DC.op1 rfl rfl rfl rfl (fun _ ho => step_idxO (j := 0) Try.runUnderlying22 Try.sizeOf5 rfl ho rfl (by (exact rfl)) (by omega) (by exact Nat.zero_add _)) ?_
                  refine DC.opE0 rfl rfl (step_storeB (b := _) Try.sizeOf5 rfl rfl rfl (by (exact u8_mod _)) (by (simp only [List.length_map, List.length_append, List.length_take, List.length_drop, List.length_set, List.length_cons, List.length_nil, List.length_replicate, putN_len, splice, Array.length_toList, ByteArray.size_data] <;> omega))) (by simp) (by repeat (first | exact True.intro | refine And.intro (by rfl) ?_)) (by repeat (first | exact True.intro | refine And.intro (by first | exact rowLt_bytes | rfl) ?_)) ?_
                  refine DC.op1 rfl rfl rfl rfl (fun _ ho => step_idxO (j := 1) Try.runUnderlying22 Try.sizeOf5 rfl ho rfl (by (exact rfl)) (by omega) (by exact Nat.zero_add _)) ?_
                  refine DC.opE0 rfl rfl (step_storeB (b := _) Try.sizeOf5 rfl rfl rfl (by (exact u8_nat (by omega))) (by (simp only [List.length_map, List.length_append, List.length_take, List.length_drop, List.length_set, List.length_cons, List.length_nil, List.length_replicate, putN_len, splice, Array.length_toList, ByteArray.size_data] <;> omega))) (by simp) (by repeat (first | exact True.intro | refine And.intro (by rfl) ?_)) (by repeat (first | exact True.intro | refine And.intro (by first | exact rowLt_bytes | rfl) ?_)) ?_
                  refine DC.fin [(5, 0), (6, 0), (6, 1), (7, 0), (7, 1), (8, 0), (8, 1), (9, 0), (11, 1)] (by kernel_rfl) (by kernel_rfl) ?_ ?_
                  · repeat (first | exact True.intro | refine And.intro ?_ ?_ | kernel_rfl)
                  · refine W.seq ?_
                    refine W.to [(0, _), (1, _), (2, _), (4, _), (5, _), (6, _), (7, _), (59, _)] [_, _] rfl ⟨(by exact sh_agg rfl), (by exact sh_sc rfl), (by exact sh_ptr rfl), (by exact sh_nil rfl), (by exact sh_sc rfl), (by exact sh_sc rfl), (by exact sh_sl rfl), (by exact sh_sc rfl), trivial⟩ ?_
                    refine W.gen2 _ rfl ?_
                    intro L6 hL6
                    have hl6 : L6.length = 20 + a7.size := by rw [hL6]; simp only [putN_len, List.length_set, List.length_replicate, splice, List.length_append, List.length_take, List.length_drop, Array.length_toList, ByteArray.size_data] <;> omega
                    refine W.region ?_
                    refine WO.op rfl rfl rfl rfl (mv_sl rfl) ?_
                    refine WO.op rfl rfl rfl rfl (step_subO (m := 2) (a := 2) Try.runUnderlying22 Try.sizeOf5 rfl rfl (Bd.some (v := 2) rfl (by (exact rfl))) (Bd.some (v := 4) rfl (by (exact rfl))) (by omega) (by omega) (Nat.zero_add _) (by exact Nat.sub_zero _)) ?_
                    refine WO.op rfl rfl rfl rfl (mv_sc rfl) ?_
                    refine WO.op rfl rfl rfl rfl (mv_sc rfl) ?_
                    refine WO.op rfl rfl rfl rfl (step_addN rfl rfl (by (simp only [cap]; omega))) ?_
                    refine WO.op rfl rfl rfl rfl (step_convR Try.runUnderlying3 Try.runUnderlying29 rfl (by exact convN (by (simp only [cap]; omega)))) ?_
                    refine WO.op rfl rfl rfl rfl (step_over Try.call23 rfl rfl rfl noOwn_bytes noOwn_bytes rfl (w_put (by omega) (by omega) (by omega))) ?_
                    refine WO.nil ?_
                    refine W.seq ?_
                    refine W.to [(0, _), (1, _), (2, _), (4, _), (5, _), (6, _), (7, _), (59, _)] [_, _] rfl ⟨(by exact sh_agg rfl), (by exact sh_sc rfl), (by exact sh_ptr rfl), (by exact sh_nil rfl), (by exact sh_sc rfl), (by exact sh_sc rfl), (by exact sh_sl rfl), (by exact sh_sc rfl), trivial⟩ ?_
                    refine W.gen2 _ rfl ?_
                    intro L7 hL7
                    have hl7 : L7.length = 20 + a7.size := by rw [hL7]; simp only [putN_len, List.length_set, List.length_replicate, splice, List.length_append, List.length_take, List.length_drop, Array.length_toList, ByteArray.size_data] <;> omega
                    refine W.draw (Checked.mixed Try.checked) ?_
                    refine DC.op rfl rfl rfl (fun _ => mv_sl rfl) ?_
                    refine DC.op1 rfl rfl rfl rfl (fun _ ho => step_subO (m := 2) (a := 4) Try.runUnderlying22 Try.sizeOf5 rfl ho (Bd.some (v := 4) rfl (by (exact rfl))) (Bd.some (v := 6) rfl (by (exact rfl))) (by omega) (by omega) (Nat.zero_add _) (by exact Nat.sub_zero _)) ?_
                    refine DC.op1 rfl rfl rfl rfl (fun _ ho => step_fieldR (k := 1) (FieldOff.mk (by kernel_rfl)) rfl ho (by exact Nat.zero_add _)) ?_
                    refine DC.op1 rfl rfl rfl rfl (fun _ ho => step_load Try.isAgg3 rfl ho rfl) ?_
                    refine DC.op rfl rfl rfl (fun _ => step_convR Try.runUnderlying3 Try.runUnderlying29 rfl (by exact convN (by (simp only [cap]; omega)))) ?_
                    refine DC.opE rfl rfl rfl (step_over Try.call23 rfl rfl rfl noOwn_bytes noOwn_bytes rfl (w_put (by omega) (by omega) (by omega))) (by simp) (by repeat (first | exact True.intro | refine And.intro (by rfl) ?_)) (by repeat (first | exact True.intro | refine And.intro (by first | exact rowLt_bytes | rfl) ?_)) ?_
                    refine DC.fin [(1, 0), (2, 0), (3, 0), (4, 0)] (by kernel_rfl) (by kernel_rfl) ?_ ?_
                    · repeat (first | exact True.intro | refine And.intro ?_ ?_ | kernel_rfl)
                    · refine W.seq ?_
                      refine W.to [(0, _), (1, _), (2, _), (4, _), (5, _), (6, _), (7, _), (59, _)] [_, _] rfl ⟨(by exact sh_agg rfl), (by exact sh_sc rfl), (by exact sh_ptr rfl), (by exact sh_nil rfl), (by exact sh_sc rfl), (by exact sh_sc rfl), (by exact sh_sl rfl), (by exact sh_sc rfl), trivial⟩ ?_
                      refine W.gen2 _ rfl ?_
                      intro L8 hL8
                      have hl8 : L8.length = 20 + a7.size := by rw [hL8]; simp only [putN_len, List.length_set, List.length_replicate, splice, List.length_append, List.length_take, List.length_drop, Array.length_toList, ByteArray.size_data] <;> omega
                      refine W.draw (Checked.mixed Try.checked) ?_
                      refine DC.op rfl rfl rfl (fun _ => mv_sl rfl) ?_
                      refine DC.op1 rfl rfl rfl rfl (fun _ ho => step_subO (m := 2) (a := 6) Try.runUnderlying22 Try.sizeOf5 rfl ho (Bd.some (v := 6) rfl (by (exact rfl))) (Bd.some (v := 8) rfl (by (exact rfl))) (by omega) (by omega) (Nat.zero_add _) (by exact Nat.sub_zero _)) ?_
                      refine DC.op1 rfl rfl rfl rfl (fun _ ho => step_fieldR (k := 2) (FieldOff.mk (by kernel_rfl)) rfl ho (by exact Nat.zero_add _)) ?_
                      refine DC.op1 rfl rfl rfl rfl (fun _ ho => step_load Try.isAgg3 rfl ho rfl) ?_
                      refine DC.op rfl rfl rfl (fun _ => step_convR Try.runUnderlying3 Try.runUnderlying29 rfl (by exact convN (by (simp only [cap]; omega)))) ?_
                      refine DC.opE rfl rfl rfl (step_over Try.call23 rfl rfl rfl noOwn_bytes noOwn_bytes rfl (w_put (by omega) (by omega) (by omega))) (by simp) (by repeat (first | exact True.intro | refine And.intro (by rfl) ?_)) (by repeat (first | exact True.intro | refine And.intro (by first | exact rowLt_bytes | rfl) ?_)) ?_
                      refine DC.fin [(1, 0), (2, 0), (3, 0), (4, 0)] (by kernel_rfl) (by kernel_rfl) ?_ ?_
                      · repeat (first | exact True.intro | refine And.intro ?_ ?_ | kernel_rfl)
                      · refine W.seq ?_
                        refine W.to [(0, _), (1, _), (2, _), (4, _), (5, _), (6, _), (7, _), (59, _)] [_, _] rfl ⟨(by exact sh_agg rfl), (by exact sh_sc rfl), (by exact sh_ptr rfl), (by exact sh_nil rfl), (by exact sh_sc rfl), (by exact sh_sc rfl), (by exact sh_sl rfl), (by exact sh_sc rfl), trivial⟩ ?_
                        refine W.gen2 _ rfl ?_
                        intro L9 hL9
                        have hl9 : L9.length = 20 + a7.size := by rw [hL9]; simp only [putN_len, List.length_set, List.length_replicate, splice, List.length_append, List.length_take, List.length_drop, Array.length_toList, ByteArray.size_data] <;> omega
                        refine W.draw (Checked.mixed Try.checked) ?_
                        refine DC.op rfl rfl rfl (fun _ => mv_sl rfl) ?_
                        refine DC.op rfl rfl rfl (fun _ => mv_sl rfl) ?_
                        refine DC.op1 rfl rfl rfl rfl (fun _ ho => step_fieldR (k := 3) (FieldOff.mk (by kernel_rfl)) rfl ho (by exact Nat.zero_add _)) ?_
                        refine DC.op1 rfl rfl rfl rfl (fun _ ho => step_load Try.isAgg3 rfl ho rfl) ?_
                        refine DC.op rfl rfl rfl (fun _ => step_convR Try.runUnderlying3 Try.runUnderlying5 rfl (by exact convN (by (simp only [cap]; omega)))) ?_
                        refine DC.op1 rfl rfl rfl rfl (fun _ ho => step_fieldR (k := 4) (FieldOff.mk (by kernel_rfl)) rfl ho (by exact Nat.zero_add _)) ?_
                        refine DC.op1 rfl rfl rfl rfl (fun _ ho => step_load Try.isAgg3 rfl ho rfl) ?_
                        refine DC.op rfl rfl rfl (fun _ => step_convR Try.runUnderlying3 Try.runUnderlying5 rfl (by exact convN (by (simp only [cap]; omega)))) ?_
                        refine DC.op1 rfl rfl rfl rfl (fun _ ho => step_idxO (j := 8) Try.runUnderlying22 Try.sizeOf5 rfl ho rfl (by (exact rfl)) (by omega) (by exact Nat.zero_add _)) ?_
                        refine DC.opE0 rfl rfl (step_storeB (b := _) Try.sizeOf5 rfl rfl rfl (by (exact u8_nat (by omega))) (by omega)) (by simp) (by repeat (first | exact True.intro | refine And.intro (by rfl) ?_)) (by repeat (first | exact True.intro | refine And.intro (by first | exact rowLt_bytes | rfl) ?_)) ?_
                        refine DC.op1 rfl rfl rfl rfl (fun _ ho => step_idxO (j := 9) Try.runUnderlying22 Try.sizeOf5 rfl ho rfl (by (exact rfl)) (by omega) (by exact Nat.zero_add _)) ?_
                        refine DC.opE0 rfl rfl (step_storeB (b := _) Try.sizeOf5 rfl rfl rfl (by (exact u8_nat (by omega))) (by (simp only [List.length_map, List.length_append, List.length_take, List.length_drop, List.length_set, List.length_cons, List.length_nil, List.length_replicate, putN_len, splice, Array.length_toList, ByteArray.size_data] <;> omega))) (by simp) (by repeat (first | exact True.intro | refine And.intro (by rfl) ?_)) (by repeat (first | exact True.intro | refine And.intro (by first | exact rowLt_bytes | rfl) ?_)) ?_
                        refine DC.fin [(2, 0), (3, 0), (4, 0), (5, 0), (5, 1), (6, 0), (6, 1), (7, 0), (7, 1), (8, 0), (10, 1)] (by kernel_rfl) (by kernel_rfl) ?_ ?_
                        · repeat (first | exact True.intro | refine And.intro ?_ ?_ | kernel_rfl)
                        · refine W.seq ?_
                          refine W.to [(0, _), (1, _), (2, _), (4, _), (5, _), (6, _), (7, _), (59, _)] [_, _] rfl ⟨(by exact sh_agg rfl), (by exact sh_sc rfl), (by exact sh_ptr rfl), (by exact sh_nil rfl), (by exact sh_sc rfl), (by exact sh_sc rfl), (by exact sh_sl rfl), (by exact sh_sc rfl), trivial⟩ ?_
                          refine W.gen2 _ rfl ?_
                          intro L10 hL10
                          have hl10 : L10.length = 20 + a7.size := by rw [hL10]; simp only [putN_len, List.length_set, List.length_replicate, splice, List.length_append, List.length_take, List.length_drop, Array.length_toList, ByteArray.size_data] <;> omega
                          refine W.draw (Checked.mixed Try.checked) ?_
                          refine DC.op rfl rfl rfl (fun _ => mv_sl rfl) ?_
                          refine DC.op1 rfl rfl rfl rfl (fun _ ho => step_subO (m := 4) (a := 12) Try.runUnderlying22 Try.sizeOf5 rfl ho (Bd.some (v := 12) rfl (by (exact rfl))) (Bd.some (v := 16) rfl (by (exact rfl))) (by omega) (by omega) (Nat.zero_add _) (by exact Nat.sub_zero _)) ?_
                          refine DC.op1 rfl rfl rfl rfl (fun _ ho => step_fieldR (k := 5) (FieldOff.mk (by kernel_rfl)) rfl ho (by exact Nat.zero_add _)) ?_
                          refine DC.op1 rfl rfl rfl rfl (fun _ ho => step_load Try.isAgg29 rfl ho rfl) ?_
                          refine DC.opE rfl rfl rfl (step_over Try.call23 rfl rfl rfl noOwn_bytes noOwn_bytes rfl (w_put (by omega) (by omega) (by omega))) (by simp) (by repeat (first | exact True.intro | refine And.intro (by rfl) ?_)) (by repeat (first | exact True.intro | refine And.intro (by first | exact rowLt_bytes | rfl) ?_)) ?_
                          refine DC.fin [(1, 0), (2, 0), (3, 0)] (by kernel_rfl) (by kernel_rfl) ?_ ?_
                          · repeat (first | exact True.intro | refine And.intro ?_ ?_ | kernel_rfl)
                          · refine W.seq ?_
                            refine W.to [(0, _), (1, _), (2, _), (4, _), (5, _), (6, _), (7, _), (59, _)] [_, _] rfl ⟨(by exact sh_agg rfl), (by exact sh_sc rfl), (by exact sh_ptr rfl), (by exact sh_nil rfl), (by exact sh_sc rfl), (by exact sh_sc rfl), (by exact sh_sl rfl), (by exact sh_sc rfl), trivial⟩ ?_
                            refine W.gen2 _ rfl ?_
                            intro L11 hL11
                            have hl11 : L11.length = 20 + a7.size := by rw [hL11]; simp only [putN_len, List.length_set, List.length_replicate, splice, List.length_append, List.length_take, List.length_drop, Array.length_toList, ByteArray.size_data] <;> omega
                            refine W.draw (Checked.mixed Try.checked) ?_
                            refine DC.op rfl rfl rfl (fun _ => mv_sl rfl) ?_
                            refine DC.op1 rfl rfl rfl rfl (fun _ ho => step_subO (m := 4) (a := 16) Try.runUnderlying22 Try.sizeOf5 rfl ho (Bd.some (v := 16) rfl (by (exact rfl))) (Bd.some (v := 20) rfl (by (exact rfl))) (by omega) (by omega) (Nat.zero_add _) (by exact Nat.sub_zero _)) ?_
                            refine DC.op1 rfl rfl rfl rfl (fun _ ho => step_fieldR (k := 6) (FieldOff.mk (by kernel_rfl)) rfl ho (by exact Nat.zero_add _)) ?_
                            refine DC.op1 rfl rfl rfl rfl (fun _ ho => step_load Try.isAgg29 rfl ho rfl) ?_
                            refine DC.opE rfl rfl rfl (step_over Try.call23 rfl rfl rfl noOwn_bytes noOwn_bytes rfl (w_put (by omega) (by omega) (by omega))) (by simp) (by repeat (first | exact True.intro | refine And.intro (by rfl) ?_)) (by repeat (first | exact True.intro | refine And.intro (by first | exact rowLt_bytes | rfl) ?_)) ?_
                            refine DC.fin [(1, 0), (2, 0), (3, 0)] (by kernel_rfl) (by kernel_rfl) ?_ ?_
                            · repeat (first | exact True.intro | refine And.intro ?_ ?_ | kernel_rfl)
                            · refine W.seq ?_
                              refine W.to [(0, _), (1, _), (2, _), (4, _), (5, _), (6, _), (7, _), (59, _)] [_, _] rfl ⟨(by exact sh_agg rfl), (by exact sh_sc rfl), (by exact sh_ptr rfl), (by exact sh_nil rfl), (by exact sh_sc rfl), (by exact sh_sc rfl), (by exact sh_sl rfl), (by exact sh_sc rfl), trivial⟩ ?_
                              refine W.gen2 _ rfl ?_
                              intro L12 hL12
                              have hl12 : L12.length = 20 + a7.size := by rw [hL12]; simp only [putN_len, List.length_set, List.length_replicate, splice, List.length_append, List.length_take, List.length_drop, Array.length_toList, ByteArray.size_data] <;> omega
                              refine W.draw (Checked.mixed Try.checked) ?_
                              refine DC.op rfl rfl rfl (fun _ => mv_sl rfl) ?_
                              refine DC.op1 rfl rfl rfl rfl (fun _ ho => step_subO (a := 20) Try.runUnderlying22 Try.sizeOf5 rfl ho (Bd.some (v := 20) rfl (by (exact rfl))) Bd.none (by omega) (by omega) (Nat.zero_add _) (by exact Nat.sub_zero _)) ?_
                              refine DC.op1 rfl rfl rfl rfl (fun _ ho => step_fieldR (k := 7) (FieldOff.mk (by kernel_rfl)) rfl ho (by exact Nat.zero_add _)) ?_
                              refine DC.op1 rfl rfl rfl rfl (fun _ ho => step_load Try.isAgg9 rfl ho rfl) ?_
                              refine DC.opE rfl rfl rfl (step_copyS Try.runUnderlying22 (EI.mk (by kernel_rfl)) rfl rfl rfl (by (simp; omega)) (by (simp; omega))) (by simp) (by repeat (first | exact True.intro | refine And.intro (by rfl) ?_)) (by repeat (first | exact True.intro | refine And.intro (by first | exact rowLt_bytes | rfl) ?_)) ?_
                              refine DC.fin [(1, 0), (2, 0), (3, 0)] (by kernel_rfl) (by kernel_rfl) ?_ ?_
                              · repeat (first | exact True.intro | refine And.intro ?_ ?_ | kernel_rfl)
                              · refine W.seq ?_
                                refine W.to [(0, _), (1, _), (2, _), (4, _), (5, _), (6, _), (7, _), (59, _)] [_, _] rfl ⟨(by exact sh_agg rfl), (by exact sh_sc rfl), (by exact sh_ptr rfl), (by exact sh_nil rfl), (by exact sh_sc rfl), (by exact sh_sc rfl), (by exact sh_sl rfl), (by exact sh_sc rfl), trivial⟩ ?_
                                refine W.gen2 _ rfl ?_
                                intro L13 hL13
                                have hl13 : L13.length = 20 + a7.size := by rw [hL13]; simp only [putN_len, List.length_set, List.length_replicate, splice, List.length_append, List.length_take, List.length_drop, Array.length_toList, ByteArray.size_data] <;> omega
                                refine W.draw (Checked.mixed Try.checked) ?_
                                refine DC.op rfl rfl rfl (fun _ => mv_sl rfl) ?_
                                refine DC.op1 rfl rfl rfl rfl (fun _ ho => step_subO (m := 2) (a := 10) Try.runUnderlying22 Try.sizeOf5 rfl ho (Bd.some (v := 10) rfl (by (exact rfl))) (Bd.some (v := 12) rfl (by (exact rfl))) (by omega) (by omega) (Nat.zero_add _) (by exact Nat.sub_zero _)) ?_
                                refine DC.op rfl rfl rfl (fun _ => mv_sl rfl) ?_
                                refine DC.op1 (j := 1) rfl rfl rfl rfl (fun _ ho => step_lent Try.call28 rfl (by (repeat (first | exact Bw.nil | refine Bw.slB ho (by (exact take_whole (by omega))) (by (simp only [List.length_map, List.length_append, List.length_take, List.length_drop, List.length_set, List.length_cons, List.length_nil, List.length_replicate, putN_len, splice, Array.length_toList, ByteArray.size_data] <;> omega)) ?_))) (w_Check (by omega)) rfl) ?_
                                refine DC.op rfl rfl rfl (fun _ => step_convR Try.runUnderlying26 Try.runUnderlying29 rfl (by exact convN (by (simp only [cap]; omega)))) ?_
                                refine DC.opE rfl rfl rfl (step_over Try.call23 rfl rfl rfl noOwn_bytes noOwn_bytes rfl (w_put (by omega) (by omega) (by omega))) (by simp) (by repeat (first | exact True.intro | refine And.intro (by rfl) ?_)) (by repeat (first | exact True.intro | refine And.intro (by first | exact rowLt_bytes | rfl) ?_)) ?_
                                refine DC.fin [(1, 0), (3, 0), (4, 0)] (by kernel_rfl) (by kernel_rfl) ?_ ?_
                                · repeat (first | exact True.intro | refine And.intro ?_ ?_ | kernel_rfl)
                                · refine W.seq ?_
                                  refine W.to [(0, _), (1, _), (2, _), (4, _), (5, _), (6, _), (7, _), (59, _)] [_, _] rfl ⟨(by exact sh_agg rfl), (by exact sh_sc rfl), (by exact sh_ptr rfl), (by exact sh_nil rfl), (by exact sh_sc rfl), (by exact sh_sc rfl), (by exact sh_sl rfl), (by exact sh_sc rfl), trivial⟩ ?_
                                  refine W.gen2 _ rfl ?_
                                  intro L14 hL14
                                  have hl14 : L14.length = 20 + a7.size := by rw [hL14]; simp only [putN_len, List.length_set, List.length_replicate, splice, List.length_append, List.length_take, List.length_drop, Array.length_toList, ByteArray.size_data] <;> omega
                                  refine W.region ?_
                                  refine WO.op rfl rfl rfl rfl (mv_sl rfl) ?_
                                  refine WO.op rfl rfl rfl rfl (as_sl rfl) ?_
                                  refine WO.op rfl rfl rfl rfl (as_sc rfl) ?_
                                  refine WO.nil ?_
                                  refine W.ret ?_
                                  refine ⟨.inl rfl, ?_⟩
                                  have e : encB a0 a1 a2 a3 a4 a5 a6 a7.data.toList d = L14 := by rw [hL14]; exact (ip_enc (L6 := L6) (L10 := L10) (L13 := L13) (by simp) hs hL6 (by rw [hL10, hL9, hL8, hL7]) (by rw [hL13, hL12, hL11])).symm
                                  rw [e]
                                  exact ret0 (Res.tmp rfl (Res.tmp rfl Res.nil)) (.tup (.cons (Fz.bytes rfl (Nat.zero_le _) (take_whole (by omega)) (by rw [List.length_map]; omega)) (.cons (.keep rfl) .nil)))

theorem w_EncX {a0 a1 a2 a3 a4 a5 a6 d : Int} {a7 : ByteArray} (hz : a7.size ≤ 200000000000000) (hd : -9223372036854775808 ≤ d ∧ d ≤ 9223372036854775807) (h : ¬ encOK a0 a1 a2 a3 a4 a7 d) : Spec0 Try.prog 12 [.agg [.sc (.int .i64 a0), .sc (.int .i64 a1), .sc (.int .i64 a2), .sc (.int .i64 a3), .sc (.int .i64 a4), .sc (.int .u32 a5), .sc (.int .u32 a6), .sc (.string a7)], .sc (.int .i64 d)] (.tup [.im 1 (([] : List UInt8).map byteAV), .sc (.int .i64 1)]) := by
  refine Spec.body Try.func12 rfl (Nat.le_of_ble_eq_true rfl) ?_
  refine W.seq ?_
  refine W.region ?_
  refine WO.opA rfl rfl rfl rfl (al_boxA rfl rfl) rfl rfl ?_
  refine WO.put 2 (.ptr 0 0) rfl ?_
  refine WO.op rfl rfl rfl rfl (as_nil rfl) ?_
  refine WO.op rfl rfl rfl rfl (as_sc rfl) ?_
  refine WO.nil ?_
  refine W.seq ?_
  refine W.to [(0, _), (1, _), (2, _), (4, _), (5, _)] [_] rfl ⟨(by exact sh_agg rfl), (by exact sh_sc rfl), (by exact sh_ptr rfl), (by exact sh_nil rfl), (by exact sh_sc rfl), trivial⟩ ?_
  refine W.region ?_
  refine WO.op rfl rfl rfl rfl (step_fieldR (k := 7) (FieldOff.mk (by kernel_rfl)) rfl rfl (by exact Nat.zero_add _)) ?_
  refine WO.op rfl rfl rfl rfl (step_load Try.isAgg9 rfl rfl rfl) ?_
  refine WO.op rfl rfl rfl rfl (step_lenS Try.runUnderlying9 rfl) ?_
  refine WO.op rfl rfl rfl rfl (step_addN (p := 20) rfl rfl (by (simp only [cap]; omega))) ?_
  refine WO.op rfl rfl rfl rfl (as_sc rfl) ?_
  refine WO.nil ?_
  refine W.seq ?_
  refine W.seq ?_
  refine W.to [(0, _), (1, _), (2, _), (4, _), (5, _), (6, _)] [_] rfl ⟨(by exact sh_agg rfl), (by exact sh_sc rfl), (by exact sh_ptr rfl), (by exact sh_nil rfl), (by exact sh_sc rfl), (by exact sh_sc rfl), trivial⟩ ?_
  refine W.region ?_
  refine WO.op rfl rfl rfl rfl (step_fieldR (k := 0) (FieldOff.mk (by kernel_rfl)) rfl rfl (by exact Nat.zero_add _)) ?_
  refine WO.op rfl rfl rfl rfl (step_load Try.isAgg3 rfl rfl rfl) ?_
  refine WO.op rfl rfl rfl rfl (step_pure Try.call27 rfl (by (repeat (first | exact Nl.nil | refine Nl.keep (by rfl) ?_))) (w_within) rfl) ?_
  refine WO.op rfl rfl rfl rfl (step_not rfl) ?_
  refine WO.op rfl rfl rfl rfl (mv_sc rfl) ?_
  refine WO.spl 16 rfl (fun h1 => ?_) (fun h1 => ?_)
  · try simp only [decide_eq_true_eq, decide_eq_false_iff_not, Bool.not_eq_true', Bool.not_eq_false', beq_iff_eq, bne_iff_ne, beq_eq_false_iff_ne, bne_eq_false_iff_eq, gt_iff_lt, ge_iff_le, Int.not_lt, Int.not_le] at h1
    refine WO.sk rfl rfl rfl rfl ?_
    refine WO.sk rfl rfl rfl rfl ?_
    refine WO.sk rfl rfl rfl rfl ?_
    refine WO.sk rfl rfl rfl rfl ?_
    refine WO.op rfl rfl rfl rfl (pk_t rfl rfl rfl) ?_
    refine WO.op rfl rfl rfl rfl (mv_sc rfl) ?_
    refine WO.sk rfl rfl rfl rfl ?_
    refine WO.sk rfl rfl rfl rfl ?_
    refine WO.sk rfl rfl rfl rfl ?_
    refine WO.sk rfl rfl rfl rfl ?_
    refine WO.op rfl rfl rfl rfl (pk_t rfl rfl rfl) ?_
    refine WO.op rfl rfl rfl rfl (mv_sc rfl) ?_
    refine WO.sk rfl rfl rfl rfl ?_
    refine WO.sk rfl rfl rfl rfl ?_
    refine WO.sk rfl rfl rfl rfl ?_
    refine WO.sk rfl rfl rfl rfl ?_
    refine WO.op rfl rfl rfl rfl (pk_t rfl rfl rfl) ?_
    refine WO.op rfl rfl rfl rfl (mv_sc rfl) ?_
    refine WO.sk rfl rfl rfl rfl ?_
    refine WO.sk rfl rfl rfl rfl ?_
    refine WO.sk rfl rfl rfl rfl ?_
    refine WO.sk rfl rfl rfl rfl ?_
    refine WO.op rfl rfl rfl rfl (pk_t rfl rfl rfl) ?_
    refine WO.op rfl rfl rfl rfl (mv_sc rfl) ?_
    refine WO.sk rfl rfl rfl rfl ?_
    refine WO.sk rfl rfl rfl rfl ?_
    refine WO.sk rfl rfl rfl rfl ?_
    refine WO.sk rfl rfl rfl rfl ?_
    refine WO.op rfl rfl rfl rfl (pk_t rfl rfl rfl) ?_
    refine WO.op rfl rfl rfl rfl (mv_sc rfl) ?_
    refine WO.sk rfl rfl rfl rfl ?_
    refine WO.sk rfl rfl rfl rfl ?_
    refine WO.sk rfl rfl rfl rfl ?_
    refine WO.sk rfl rfl rfl rfl ?_
    refine WO.sk rfl rfl rfl rfl ?_
    refine WO.op rfl rfl rfl rfl (pk_t rfl rfl rfl) ?_
    refine WO.op rfl rfl rfl rfl (mv_sc rfl) ?_
    refine WO.sk rfl rfl rfl rfl ?_
    refine WO.sk rfl rfl rfl rfl ?_
    refine WO.sk rfl rfl rfl rfl ?_
    refine WO.sk rfl rfl rfl rfl ?_
    refine WO.sk rfl rfl rfl rfl ?_
    refine WO.op rfl rfl rfl rfl (pk_t rfl rfl rfl) ?_
    refine WO.nil ?_
    refine W.condT rfl ?_
    refine W.seq ?_
    refine W.to [(0, _), (1, _), (2, _), (4, _), (5, _), (6, _), (59, _)] [_] rfl ⟨(by exact sh_agg rfl), (by exact sh_sc rfl), (by exact sh_ptr rfl), (by exact sh_nil rfl), (by exact sh_sc rfl), (by exact sh_sc rfl), (by exact sh_sc rfl), trivial⟩ ?_
    refine W.region ?_
    refine WO.op rfl rfl rfl rfl (as_nil rfl) ?_
    refine WO.op rfl rfl rfl rfl (as_sc rfl) ?_
    refine WO.nil ?_
    refine W.wk 4 (.im 1 (([] : List UInt8).map byteAV)) Wk.noneB ?_
    refine W.ret ?_
    refine ⟨.inl rfl, ?_⟩
    exact ret0 (Res.tmp rfl (Res.tmp rfl Res.nil)) (.keep rfl)
  · try simp only [decide_eq_true_eq, decide_eq_false_iff_not, Bool.not_eq_true', Bool.not_eq_false', beq_iff_eq, bne_iff_ne, beq_eq_false_iff_ne, bne_eq_false_iff_eq, gt_iff_lt, ge_iff_le, Int.not_lt, Int.not_le] at h1
    refine WO.op rfl rfl rfl rfl (step_fieldR (k := 3) (FieldOff.mk (by kernel_rfl)) rfl rfl (by exact Nat.zero_add _)) ?_
    refine WO.op rfl rfl rfl rfl (step_load Try.isAgg3 rfl rfl rfl) ?_
    refine WO.op rfl rfl rfl rfl (step_pure Try.call27 rfl (by (repeat (first | exact Nl.nil | refine Nl.keep (by rfl) ?_))) (w_within) rfl) ?_
    refine WO.op rfl rfl rfl rfl (step_not rfl) ?_
    refine WO.op rfl rfl rfl rfl (pk_f rfl rfl rfl) ?_
    refine WO.op rfl rfl rfl rfl (mv_sc rfl) ?_
    refine WO.spl 22 rfl (fun h2 => ?_) (fun h2 => ?_)
    · try simp only [decide_eq_true_eq, decide_eq_false_iff_not, Bool.not_eq_true', Bool.not_eq_false', beq_iff_eq, bne_iff_ne, beq_eq_false_iff_ne, bne_eq_false_iff_eq, gt_iff_lt, ge_iff_le, Int.not_lt, Int.not_le] at h2
      refine WO.sk rfl rfl rfl rfl ?_
      refine WO.sk rfl rfl rfl rfl ?_
      refine WO.sk rfl rfl rfl rfl ?_
      refine WO.sk rfl rfl rfl rfl ?_
      refine WO.op rfl rfl rfl rfl (pk_t rfl rfl rfl) ?_
      refine WO.op rfl rfl rfl rfl (mv_sc rfl) ?_
      refine WO.sk rfl rfl rfl rfl ?_
      refine WO.sk rfl rfl rfl rfl ?_
      refine WO.sk rfl rfl rfl rfl ?_
      refine WO.sk rfl rfl rfl rfl ?_
      refine WO.op rfl rfl rfl rfl (pk_t rfl rfl rfl) ?_
      refine WO.op rfl rfl rfl rfl (mv_sc rfl) ?_
      refine WO.sk rfl rfl rfl rfl ?_
      refine WO.sk rfl rfl rfl rfl ?_
      refine WO.sk rfl rfl rfl rfl ?_
      refine WO.sk rfl rfl rfl rfl ?_
      refine WO.op rfl rfl rfl rfl (pk_t rfl rfl rfl) ?_
      refine WO.op rfl rfl rfl rfl (mv_sc rfl) ?_
      refine WO.sk rfl rfl rfl rfl ?_
      refine WO.sk rfl rfl rfl rfl ?_
      refine WO.sk rfl rfl rfl rfl ?_
      refine WO.sk rfl rfl rfl rfl ?_
      refine WO.op rfl rfl rfl rfl (pk_t rfl rfl rfl) ?_
      refine WO.op rfl rfl rfl rfl (mv_sc rfl) ?_
      refine WO.sk rfl rfl rfl rfl ?_
      refine WO.sk rfl rfl rfl rfl ?_
      refine WO.sk rfl rfl rfl rfl ?_
      refine WO.sk rfl rfl rfl rfl ?_
      refine WO.sk rfl rfl rfl rfl ?_
      refine WO.op rfl rfl rfl rfl (pk_t rfl rfl rfl) ?_
      refine WO.op rfl rfl rfl rfl (mv_sc rfl) ?_
      refine WO.sk rfl rfl rfl rfl ?_
      refine WO.sk rfl rfl rfl rfl ?_
      refine WO.sk rfl rfl rfl rfl ?_
      refine WO.sk rfl rfl rfl rfl ?_
      refine WO.sk rfl rfl rfl rfl ?_
      refine WO.op rfl rfl rfl rfl (pk_t rfl rfl rfl) ?_
      refine WO.nil ?_
      refine W.condT rfl ?_
      refine W.seq ?_
      refine W.to [(0, _), (1, _), (2, _), (4, _), (5, _), (6, _), (59, _)] [_] rfl ⟨(by exact sh_agg rfl), (by exact sh_sc rfl), (by exact sh_ptr rfl), (by exact sh_nil rfl), (by exact sh_sc rfl), (by exact sh_sc rfl), (by exact sh_sc rfl), trivial⟩ ?_
      refine W.region ?_
      refine WO.op rfl rfl rfl rfl (as_nil rfl) ?_
      refine WO.op rfl rfl rfl rfl (as_sc rfl) ?_
      refine WO.nil ?_
      refine W.wk 4 (.im 1 (([] : List UInt8).map byteAV)) Wk.noneB ?_
      refine W.ret ?_
      refine ⟨.inl rfl, ?_⟩
      exact ret0 (Res.tmp rfl (Res.tmp rfl Res.nil)) (.keep rfl)
    · try simp only [decide_eq_true_eq, decide_eq_false_iff_not, Bool.not_eq_true', Bool.not_eq_false', beq_iff_eq, bne_iff_ne, beq_eq_false_iff_ne, bne_eq_false_iff_eq, gt_iff_lt, ge_iff_le, Int.not_lt, Int.not_le] at h2
      refine WO.op rfl rfl rfl rfl (step_fieldR (k := 4) (FieldOff.mk (by kernel_rfl)) rfl rfl (by exact Nat.zero_add _)) ?_
      refine WO.op rfl rfl rfl rfl (step_load Try.isAgg3 rfl rfl rfl) ?_
      refine WO.op rfl rfl rfl rfl (step_pure Try.call27 rfl (by (repeat (first | exact Nl.nil | refine Nl.keep (by rfl) ?_))) (w_within) rfl) ?_
      refine WO.op rfl rfl rfl rfl (step_not rfl) ?_
      refine WO.op rfl rfl rfl rfl (pk_f rfl rfl rfl) ?_
      refine WO.op rfl rfl rfl rfl (mv_sc rfl) ?_
      refine WO.spl 28 rfl (fun h3 => ?_) (fun h3 => ?_)
      · try simp only [decide_eq_true_eq, decide_eq_false_iff_not, Bool.not_eq_true', Bool.not_eq_false', beq_iff_eq, bne_iff_ne, beq_eq_false_iff_ne, bne_eq_false_iff_eq, gt_iff_lt, ge_iff_le, Int.not_lt, Int.not_le] at h3
        refine WO.sk rfl rfl rfl rfl ?_
        refine WO.sk rfl rfl rfl rfl ?_
        refine WO.sk rfl rfl rfl rfl ?_
        refine WO.sk rfl rfl rfl rfl ?_
        refine WO.op rfl rfl rfl rfl (pk_t rfl rfl rfl) ?_
        refine WO.op rfl rfl rfl rfl (mv_sc rfl) ?_
        refine WO.sk rfl rfl rfl rfl ?_
        refine WO.sk rfl rfl rfl rfl ?_
        refine WO.sk rfl rfl rfl rfl ?_
        refine WO.sk rfl rfl rfl rfl ?_
        refine WO.op rfl rfl rfl rfl (pk_t rfl rfl rfl) ?_
        refine WO.op rfl rfl rfl rfl (mv_sc rfl) ?_
        refine WO.sk rfl rfl rfl rfl ?_
        refine WO.sk rfl rfl rfl rfl ?_
        refine WO.sk rfl rfl rfl rfl ?_
        refine WO.sk rfl rfl rfl rfl ?_
        refine WO.op rfl rfl rfl rfl (pk_t rfl rfl rfl) ?_
        refine WO.op rfl rfl rfl rfl (mv_sc rfl) ?_
        refine WO.sk rfl rfl rfl rfl ?_
        refine WO.sk rfl rfl rfl rfl ?_
        refine WO.sk rfl rfl rfl rfl ?_
        refine WO.sk rfl rfl rfl rfl ?_
        refine WO.sk rfl rfl rfl rfl ?_
        refine WO.op rfl rfl rfl rfl (pk_t rfl rfl rfl) ?_
        refine WO.op rfl rfl rfl rfl (mv_sc rfl) ?_
        refine WO.sk rfl rfl rfl rfl ?_
        refine WO.sk rfl rfl rfl rfl ?_
        refine WO.sk rfl rfl rfl rfl ?_
        refine WO.sk rfl rfl rfl rfl ?_
        refine WO.sk rfl rfl rfl rfl ?_
        refine WO.op rfl rfl rfl rfl (pk_t rfl rfl rfl) ?_
        refine WO.nil ?_
        refine W.condT rfl ?_
        refine W.seq ?_
        refine W.to [(0, _), (1, _), (2, _), (4, _), (5, _), (6, _), (59, _)] [_] rfl ⟨(by exact sh_agg rfl), (by exact sh_sc rfl), (by exact sh_ptr rfl), (by exact sh_nil rfl), (by exact sh_sc rfl), (by exact sh_sc rfl), (by exact sh_sc rfl), trivial⟩ ?_
        refine W.region ?_
        refine WO.op rfl rfl rfl rfl (as_nil rfl) ?_
        refine WO.op rfl rfl rfl rfl (as_sc rfl) ?_
        refine WO.nil ?_
        refine W.wk 4 (.im 1 (([] : List UInt8).map byteAV)) Wk.noneB ?_
        refine W.ret ?_
        refine ⟨.inl rfl, ?_⟩
        exact ret0 (Res.tmp rfl (Res.tmp rfl Res.nil)) (.keep rfl)
      · try simp only [decide_eq_true_eq, decide_eq_false_iff_not, Bool.not_eq_true', Bool.not_eq_false', beq_iff_eq, bne_iff_ne, beq_eq_false_iff_ne, bne_eq_false_iff_eq, gt_iff_lt, ge_iff_le, Int.not_lt, Int.not_le] at h3
        refine WO.op rfl rfl rfl rfl (step_fieldR (k := 1) (FieldOff.mk (by kernel_rfl)) rfl rfl (by exact Nat.zero_add _)) ?_
        refine WO.op rfl rfl rfl rfl (step_load Try.isAgg3 rfl rfl rfl) ?_
        refine WO.op rfl rfl rfl rfl (step_pure Try.call27 rfl (by (repeat (first | exact Nl.nil | refine Nl.keep (by rfl) ?_))) (w_within) rfl) ?_
        refine WO.op rfl rfl rfl rfl (step_not rfl) ?_
        refine WO.op rfl rfl rfl rfl (pk_f rfl rfl rfl) ?_
        refine WO.op rfl rfl rfl rfl (mv_sc rfl) ?_
        refine WO.spl 34 rfl (fun h4 => ?_) (fun h4 => ?_)
        · try simp only [decide_eq_true_eq, decide_eq_false_iff_not, Bool.not_eq_true', Bool.not_eq_false', beq_iff_eq, bne_iff_ne, beq_eq_false_iff_ne, bne_eq_false_iff_eq, gt_iff_lt, ge_iff_le, Int.not_lt, Int.not_le] at h4
          refine WO.sk rfl rfl rfl rfl ?_
          refine WO.sk rfl rfl rfl rfl ?_
          refine WO.sk rfl rfl rfl rfl ?_
          refine WO.sk rfl rfl rfl rfl ?_
          refine WO.op rfl rfl rfl rfl (pk_t rfl rfl rfl) ?_
          refine WO.op rfl rfl rfl rfl (mv_sc rfl) ?_
          refine WO.sk rfl rfl rfl rfl ?_
          refine WO.sk rfl rfl rfl rfl ?_
          refine WO.sk rfl rfl rfl rfl ?_
          refine WO.sk rfl rfl rfl rfl ?_
          refine WO.op rfl rfl rfl rfl (pk_t rfl rfl rfl) ?_
          refine WO.op rfl rfl rfl rfl (mv_sc rfl) ?_
          refine WO.sk rfl rfl rfl rfl ?_
          refine WO.sk rfl rfl rfl rfl ?_
          refine WO.sk rfl rfl rfl rfl ?_
          refine WO.sk rfl rfl rfl rfl ?_
          refine WO.sk rfl rfl rfl rfl ?_
          refine WO.op rfl rfl rfl rfl (pk_t rfl rfl rfl) ?_
          refine WO.op rfl rfl rfl rfl (mv_sc rfl) ?_
          refine WO.sk rfl rfl rfl rfl ?_
          refine WO.sk rfl rfl rfl rfl ?_
          refine WO.sk rfl rfl rfl rfl ?_
          refine WO.sk rfl rfl rfl rfl ?_
          refine WO.sk rfl rfl rfl rfl ?_
          refine WO.op rfl rfl rfl rfl (pk_t rfl rfl rfl) ?_
          refine WO.nil ?_
          refine W.condT rfl ?_
          refine W.seq ?_
          refine W.to [(0, _), (1, _), (2, _), (4, _), (5, _), (6, _), (59, _)] [_] rfl ⟨(by exact sh_agg rfl), (by exact sh_sc rfl), (by exact sh_ptr rfl), (by exact sh_nil rfl), (by exact sh_sc rfl), (by exact sh_sc rfl), (by exact sh_sc rfl), trivial⟩ ?_
          refine W.region ?_
          refine WO.op rfl rfl rfl rfl (as_nil rfl) ?_
          refine WO.op rfl rfl rfl rfl (as_sc rfl) ?_
          refine WO.nil ?_
          refine W.wk 4 (.im 1 (([] : List UInt8).map byteAV)) Wk.noneB ?_
          refine W.ret ?_
          refine ⟨.inl rfl, ?_⟩
          exact ret0 (Res.tmp rfl (Res.tmp rfl Res.nil)) (.keep rfl)
        · try simp only [decide_eq_true_eq, decide_eq_false_iff_not, Bool.not_eq_true', Bool.not_eq_false', beq_iff_eq, bne_iff_ne, beq_eq_false_iff_ne, bne_eq_false_iff_eq, gt_iff_lt, ge_iff_le, Int.not_lt, Int.not_le] at h4
          refine WO.op rfl rfl rfl rfl (step_fieldR (k := 2) (FieldOff.mk (by kernel_rfl)) rfl rfl (by exact Nat.zero_add _)) ?_
          refine WO.op rfl rfl rfl rfl (step_load Try.isAgg3 rfl rfl rfl) ?_
          refine WO.op rfl rfl rfl rfl (step_pure Try.call27 rfl (by (repeat (first | exact Nl.nil | refine Nl.keep (by rfl) ?_))) (w_within) rfl) ?_
          refine WO.op rfl rfl rfl rfl (step_not rfl) ?_
          refine WO.op rfl rfl rfl rfl (pk_f rfl rfl rfl) ?_
          refine WO.op rfl rfl rfl rfl (mv_sc rfl) ?_
          refine WO.spl 40 rfl (fun h5 => ?_) (fun h5 => ?_)
          · try simp only [decide_eq_true_eq, decide_eq_false_iff_not, Bool.not_eq_true', Bool.not_eq_false', beq_iff_eq, bne_iff_ne, beq_eq_false_iff_ne, bne_eq_false_iff_eq, gt_iff_lt, ge_iff_le, Int.not_lt, Int.not_le] at h5
            refine WO.sk rfl rfl rfl rfl ?_
            refine WO.sk rfl rfl rfl rfl ?_
            refine WO.sk rfl rfl rfl rfl ?_
            refine WO.sk rfl rfl rfl rfl ?_
            refine WO.op rfl rfl rfl rfl (pk_t rfl rfl rfl) ?_
            refine WO.op rfl rfl rfl rfl (mv_sc rfl) ?_
            refine WO.sk rfl rfl rfl rfl ?_
            refine WO.sk rfl rfl rfl rfl ?_
            refine WO.sk rfl rfl rfl rfl ?_
            refine WO.sk rfl rfl rfl rfl ?_
            refine WO.sk rfl rfl rfl rfl ?_
            refine WO.op rfl rfl rfl rfl (pk_t rfl rfl rfl) ?_
            refine WO.op rfl rfl rfl rfl (mv_sc rfl) ?_
            refine WO.sk rfl rfl rfl rfl ?_
            refine WO.sk rfl rfl rfl rfl ?_
            refine WO.sk rfl rfl rfl rfl ?_
            refine WO.sk rfl rfl rfl rfl ?_
            refine WO.sk rfl rfl rfl rfl ?_
            refine WO.op rfl rfl rfl rfl (pk_t rfl rfl rfl) ?_
            refine WO.nil ?_
            refine W.condT rfl ?_
            refine W.seq ?_
            refine W.to [(0, _), (1, _), (2, _), (4, _), (5, _), (6, _), (59, _)] [_] rfl ⟨(by exact sh_agg rfl), (by exact sh_sc rfl), (by exact sh_ptr rfl), (by exact sh_nil rfl), (by exact sh_sc rfl), (by exact sh_sc rfl), (by exact sh_sc rfl), trivial⟩ ?_
            refine W.region ?_
            refine WO.op rfl rfl rfl rfl (as_nil rfl) ?_
            refine WO.op rfl rfl rfl rfl (as_sc rfl) ?_
            refine WO.nil ?_
            refine W.wk 4 (.im 1 (([] : List UInt8).map byteAV)) Wk.noneB ?_
            refine W.ret ?_
            refine ⟨.inl rfl, ?_⟩
            exact ret0 (Res.tmp rfl (Res.tmp rfl Res.nil)) (.keep rfl)
          · try simp only [decide_eq_true_eq, decide_eq_false_iff_not, Bool.not_eq_true', Bool.not_eq_false', beq_iff_eq, bne_iff_ne, beq_eq_false_iff_ne, bne_eq_false_iff_eq, gt_iff_lt, ge_iff_le, Int.not_lt, Int.not_le] at h5
            refine WO.op rfl rfl rfl rfl (step_fieldR (k := 7) (FieldOff.mk (by kernel_rfl)) rfl rfl (by exact Nat.zero_add _)) ?_
            refine WO.op rfl rfl rfl rfl (step_load Try.isAgg9 rfl rfl rfl) ?_
            refine WO.op rfl rfl rfl rfl (step_lenS Try.runUnderlying9 rfl) ?_
            refine WO.op rfl rfl rfl rfl (step_int2 rfl rfl rfl) ?_
            refine WO.op rfl rfl rfl rfl (pk_f rfl rfl rfl) ?_
            refine WO.op rfl rfl rfl rfl (mv_sc rfl) ?_
            refine WO.spl 46 rfl (fun h6 => ?_) (fun h6 => ?_)
            · try simp only [decide_eq_true_eq, decide_eq_false_iff_not, Bool.not_eq_true', Bool.not_eq_false', beq_iff_eq, bne_iff_ne, beq_eq_false_iff_ne, bne_eq_false_iff_eq, gt_iff_lt, ge_iff_le, Int.not_lt, Int.not_le] at h6
              refine WO.sk rfl rfl rfl rfl ?_
              refine WO.sk rfl rfl rfl rfl ?_
              refine WO.sk rfl rfl rfl rfl ?_
              refine WO.sk rfl rfl rfl rfl ?_
              refine WO.sk rfl rfl rfl rfl ?_
              refine WO.op rfl rfl rfl rfl (pk_t rfl rfl rfl) ?_
              refine WO.op rfl rfl rfl rfl (mv_sc rfl) ?_
              refine WO.sk rfl rfl rfl rfl ?_
              refine WO.sk rfl rfl rfl rfl ?_
              refine WO.sk rfl rfl rfl rfl ?_
              refine WO.sk rfl rfl rfl rfl ?_
              refine WO.sk rfl rfl rfl rfl ?_
              refine WO.op rfl rfl rfl rfl (pk_t rfl rfl rfl) ?_
              refine WO.nil ?_
              refine W.condT rfl ?_
              refine W.seq ?_
              refine W.to [(0, _), (1, _), (2, _), (4, _), (5, _), (6, _), (59, _)] [_] rfl ⟨(by exact sh_agg rfl), (by exact sh_sc rfl), (by exact sh_ptr rfl), (by exact sh_nil rfl), (by exact sh_sc rfl), (by exact sh_sc rfl), (by exact sh_sc rfl), trivial⟩ ?_
              refine W.region ?_
              refine WO.op rfl rfl rfl rfl (as_nil rfl) ?_
              refine WO.op rfl rfl rfl rfl (as_sc rfl) ?_
              refine WO.nil ?_
              refine W.wk 4 (.im 1 (([] : List UInt8).map byteAV)) Wk.noneB ?_
              refine W.ret ?_
              refine ⟨.inl rfl, ?_⟩
              exact ret0 (Res.tmp rfl (Res.tmp rfl Res.nil)) (.keep rfl)
            · try simp only [decide_eq_true_eq, decide_eq_false_iff_not, Bool.not_eq_true', Bool.not_eq_false', beq_iff_eq, bne_iff_ne, beq_eq_false_iff_ne, bne_eq_false_iff_eq, gt_iff_lt, ge_iff_le, Int.not_lt, Int.not_le] at h6
              refine WO.op rfl rfl rfl rfl (step_fieldR (k := 7) (FieldOff.mk (by kernel_rfl)) rfl rfl (by exact Nat.zero_add _)) ?_
              refine WO.op rfl rfl rfl rfl (step_load Try.isAgg9 rfl rfl rfl) ?_
              refine WO.op rfl rfl rfl rfl (step_lenS Try.runUnderlying9 rfl) ?_
              refine WO.op rfl rfl rfl rfl (step_remN (q := 4) rfl rfl (by omega)) ?_
              refine WO.op rfl rfl rfl rfl (step_int2 rfl rfl rfl) ?_
              refine WO.op rfl rfl rfl rfl (pk_f rfl rfl rfl) ?_
              refine WO.op rfl rfl rfl rfl (mv_sc rfl) ?_
              refine WO.spl 53 rfl (fun h7 => ?_) (fun h7 => ?_)
              · try simp only [decide_eq_true_eq, decide_eq_false_iff_not, Bool.not_eq_true', Bool.not_eq_false', beq_iff_eq, bne_iff_ne, beq_eq_false_iff_ne, bne_eq_false_iff_eq, gt_iff_lt, ge_iff_le, Int.not_lt, Int.not_le] at h7
                refine WO.sk rfl rfl rfl rfl ?_
                refine WO.sk rfl rfl rfl rfl ?_
                refine WO.sk rfl rfl rfl rfl ?_
                refine WO.sk rfl rfl rfl rfl ?_
                refine WO.sk rfl rfl rfl rfl ?_
                refine WO.op rfl rfl rfl rfl (pk_t rfl rfl rfl) ?_
                refine WO.nil ?_
                refine W.condT rfl ?_
                refine W.seq ?_
                refine W.to [(0, _), (1, _), (2, _), (4, _), (5, _), (6, _), (59, _)] [_] rfl ⟨(by exact sh_agg rfl), (by exact sh_sc rfl), (by exact sh_ptr rfl), (by exact sh_nil rfl), (by exact sh_sc rfl), (by exact sh_sc rfl), (by exact sh_sc rfl), trivial⟩ ?_
                refine W.region ?_
                refine WO.op rfl rfl rfl rfl (as_nil rfl) ?_
                refine WO.op rfl rfl rfl rfl (as_sc rfl) ?_
                refine WO.nil ?_
                refine W.wk 4 (.im 1 (([] : List UInt8).map byteAV)) Wk.noneB ?_
                refine W.ret ?_
                refine ⟨.inl rfl, ?_⟩
                exact ret0 (Res.tmp rfl (Res.tmp rfl Res.nil)) (.keep rfl)
              · try simp only [decide_eq_true_eq, decide_eq_false_iff_not, Bool.not_eq_true', Bool.not_eq_false', beq_iff_eq, bne_iff_ne, beq_eq_false_iff_ne, bne_eq_false_iff_eq, gt_iff_lt, ge_iff_le, Int.not_lt, Int.not_le] at h7
                refine WO.op rfl rfl rfl rfl (mv_sc rfl) ?_
                refine WO.op rfl rfl rfl rfl (mv_sc rfl) ?_
                refine WO.op rfl rfl rfl rfl (step_subN (p := 65535) rfl rfl (by omega) (by (simp only [cap]; omega))) ?_
                refine WO.op rfl rfl rfl rfl (step_pure Try.call27 rfl (by (repeat (first | exact Nl.nil | refine Nl.keep (by rfl) ?_))) (w_within) rfl) ?_
                refine WO.op rfl rfl rfl rfl (step_not rfl) ?_
                refine WO.op rfl rfl rfl rfl (pk_f rfl rfl rfl) ?_
                refine WO.nil ?_
                refine W.cond rfl (fun h8 => ?_) (fun h8 => ?_)
                · try simp only [decide_eq_true_eq, decide_eq_false_iff_not, Bool.not_eq_true', Bool.not_eq_false', beq_iff_eq, bne_iff_ne, beq_eq_false_iff_ne, bne_eq_false_iff_eq, gt_iff_lt, ge_iff_le, Int.not_lt, Int.not_le] at h8
                  refine W.seq ?_
                  refine W.to [(0, _), (1, _), (2, _), (4, _), (5, _), (6, _), (59, _)] [_] rfl ⟨(by exact sh_agg rfl), (by exact sh_sc rfl), (by exact sh_ptr rfl), (by exact sh_nil rfl), (by exact sh_sc rfl), (by exact sh_sc rfl), (by exact sh_sc rfl), trivial⟩ ?_
                  refine W.region ?_
                  refine WO.op rfl rfl rfl rfl (as_nil rfl) ?_
                  refine WO.op rfl rfl rfl rfl (as_sc rfl) ?_
                  refine WO.nil ?_
                  refine W.wk 4 (.im 1 (([] : List UInt8).map byteAV)) Wk.noneB ?_
                  refine W.ret ?_
                  refine ⟨.inl rfl, ?_⟩
                  exact ret0 (Res.tmp rfl (Res.tmp rfl Res.nil)) (.keep rfl)
                · try simp only [decide_eq_true_eq, decide_eq_false_iff_not, Bool.not_eq_true', Bool.not_eq_false', beq_iff_eq, bne_iff_ne, beq_eq_false_iff_ne, bne_eq_false_iff_eq, gt_iff_lt, ge_iff_le, Int.not_lt, Int.not_le] at h8
                  exact False.elim (h ⟨by omega, by omega, by omega, by omega, by omega, by omega, by omega, by omega⟩)

theorem w_refEncX {a0 a1 a2 a3 a4 a5 a6 d : Int} {a7 : ByteArray} (hz : a7.size ≤ 200000000000000) (hd : -9223372036854775808 ≤ d ∧ d ≤ 9223372036854775807) (h : ¬ encOK a0 a1 a2 a3 a4 a7 d) : Spec0 Try.prog 13 [.agg [.sc (.int .i64 a0), .sc (.int .i64 a1), .sc (.int .i64 a2), .sc (.int .i64 a3), .sc (.int .i64 a4), .sc (.int .u32 a5), .sc (.int .u32 a6), .sc (.string a7)], .sc (.int .i64 d)] (.tup [.im 1 (([] : List UInt8).map byteAV), .sc (.int .i64 1)]) := by
  refine Spec.body Try.func13 rfl (Nat.le_of_ble_eq_true rfl) ?_
  refine W.seq ?_
  refine W.region ?_
  refine WO.opA rfl rfl rfl rfl (al_boxA rfl rfl) rfl rfl ?_
  refine WO.put 2 (.ptr 0 0) rfl ?_
  refine WO.op rfl rfl rfl rfl (as_nil rfl) ?_
  refine WO.op rfl rfl rfl rfl (as_sc rfl) ?_
  refine WO.nil ?_
  refine W.seq ?_
  refine W.to [(0, _), (1, _), (2, _), (4, _), (5, _)] [_] rfl ⟨(by exact sh_agg rfl), (by exact sh_sc rfl), (by exact sh_ptr rfl), (by exact sh_nil rfl), (by exact sh_sc rfl), trivial⟩ ?_
  refine W.region ?_
  refine WO.op rfl rfl rfl rfl (step_fieldR (k := 7) (FieldOff.mk (by kernel_rfl)) rfl rfl (by exact Nat.zero_add _)) ?_
  refine WO.op rfl rfl rfl rfl (step_load Try.isAgg9 rfl rfl rfl) ?_
  refine WO.op rfl rfl rfl rfl (step_lenS Try.runUnderlying9 rfl) ?_
  refine WO.op rfl rfl rfl rfl (step_addN (p := 20) rfl rfl (by (simp only [cap]; omega))) ?_
  refine WO.op rfl rfl rfl rfl (as_sc rfl) ?_
  refine WO.nil ?_
  refine W.seq ?_
  refine W.seq ?_
  refine W.to [(0, _), (1, _), (2, _), (4, _), (5, _), (6, _)] [_] rfl ⟨(by exact sh_agg rfl), (by exact sh_sc rfl), (by exact sh_ptr rfl), (by exact sh_nil rfl), (by exact sh_sc rfl), (by exact sh_sc rfl), trivial⟩ ?_
  refine W.region ?_
  refine WO.op rfl rfl rfl rfl (step_fieldR (k := 0) (FieldOff.mk (by kernel_rfl)) rfl rfl (by exact Nat.zero_add _)) ?_
  refine WO.op rfl rfl rfl rfl (step_load Try.isAgg3 rfl rfl rfl) ?_
  refine WO.op rfl rfl rfl rfl (step_pure Try.call29 rfl (by (repeat (first | exact Nl.nil | refine Nl.keep (by rfl) ?_))) (w_eight) rfl) ?_
  refine WO.op rfl rfl rfl rfl (step_not rfl) ?_
  refine WO.op rfl rfl rfl rfl (mv_sc rfl) ?_
  refine WO.spl 17 rfl (fun h1 => ?_) (fun h1 => ?_)
  · try simp only [decide_eq_true_eq, decide_eq_false_iff_not, Bool.not_eq_true', Bool.not_eq_false', beq_iff_eq, bne_iff_ne, beq_eq_false_iff_ne, bne_eq_false_iff_eq, gt_iff_lt, ge_iff_le, Int.not_lt, Int.not_le] at h1
    refine WO.sk rfl rfl rfl rfl ?_
    refine WO.sk rfl rfl rfl rfl ?_
    refine WO.sk rfl rfl rfl rfl ?_
    refine WO.sk rfl rfl rfl rfl ?_
    refine WO.op rfl rfl rfl rfl (pk_t rfl rfl rfl) ?_
    refine WO.op rfl rfl rfl rfl (mv_sc rfl) ?_
    refine WO.sk rfl rfl rfl rfl ?_
    refine WO.sk rfl rfl rfl rfl ?_
    refine WO.sk rfl rfl rfl rfl ?_
    refine WO.sk rfl rfl rfl rfl ?_
    refine WO.op rfl rfl rfl rfl (pk_t rfl rfl rfl) ?_
    refine WO.op rfl rfl rfl rfl (mv_sc rfl) ?_
    refine WO.sk rfl rfl rfl rfl ?_
    refine WO.sk rfl rfl rfl rfl ?_
    refine WO.sk rfl rfl rfl rfl ?_
    refine WO.sk rfl rfl rfl rfl ?_
    refine WO.op rfl rfl rfl rfl (pk_t rfl rfl rfl) ?_
    refine WO.op rfl rfl rfl rfl (mv_sc rfl) ?_
    refine WO.sk rfl rfl rfl rfl ?_
    refine WO.sk rfl rfl rfl rfl ?_
    refine WO.sk rfl rfl rfl rfl ?_
    refine WO.sk rfl rfl rfl rfl ?_
    refine WO.op rfl rfl rfl rfl (pk_t rfl rfl rfl) ?_
    refine WO.op rfl rfl rfl rfl (mv_sc rfl) ?_
    refine WO.sk rfl rfl rfl rfl ?_
    refine WO.sk rfl rfl rfl rfl ?_
    refine WO.sk rfl rfl rfl rfl ?_
    refine WO.sk rfl rfl rfl rfl ?_
    refine WO.op rfl rfl rfl rfl (pk_t rfl rfl rfl) ?_
    refine WO.op rfl rfl rfl rfl (mv_sc rfl) ?_
    refine WO.sk rfl rfl rfl rfl ?_
    refine WO.sk rfl rfl rfl rfl ?_
    refine WO.sk rfl rfl rfl rfl ?_
    refine WO.sk rfl rfl rfl rfl ?_
    refine WO.sk rfl rfl rfl rfl ?_
    refine WO.op rfl rfl rfl rfl (pk_t rfl rfl rfl) ?_
    refine WO.op rfl rfl rfl rfl (mv_sc rfl) ?_
    refine WO.sk rfl rfl rfl rfl ?_
    refine WO.sk rfl rfl rfl rfl ?_
    refine WO.op rfl rfl rfl rfl (pk_t rfl rfl rfl) ?_
    refine WO.op rfl rfl rfl rfl (mv_sc rfl) ?_
    refine WO.sk rfl rfl rfl rfl ?_
    refine WO.sk rfl rfl rfl rfl ?_
    refine WO.sk rfl rfl rfl rfl ?_
    refine WO.sk rfl rfl rfl rfl ?_
    refine WO.op rfl rfl rfl rfl (pk_t rfl rfl rfl) ?_
    refine WO.nil ?_
    refine W.condT rfl ?_
    refine W.seq ?_
    refine W.to [(0, _), (1, _), (2, _), (4, _), (5, _), (6, _), (63, _)] [_] rfl ⟨(by exact sh_agg rfl), (by exact sh_sc rfl), (by exact sh_ptr rfl), (by exact sh_nil rfl), (by exact sh_sc rfl), (by exact sh_sc rfl), (by exact sh_sc rfl), trivial⟩ ?_
    refine W.region ?_
    refine WO.op rfl rfl rfl rfl (as_nil rfl) ?_
    refine WO.op rfl rfl rfl rfl (as_sc rfl) ?_
    refine WO.nil ?_
    refine W.wk 4 (.im 1 (([] : List UInt8).map byteAV)) Wk.noneB ?_
    refine W.ret ?_
    refine ⟨.inl rfl, ?_⟩
    exact ret0 (Res.tmp rfl (Res.tmp rfl Res.nil)) (.keep rfl)
  · try simp only [decide_eq_true_eq, decide_eq_false_iff_not, Bool.not_eq_true', Bool.not_eq_false', beq_iff_eq, bne_iff_ne, beq_eq_false_iff_ne, bne_eq_false_iff_eq, gt_iff_lt, ge_iff_le, Int.not_lt, Int.not_le] at h1
    refine WO.op rfl rfl rfl rfl (step_fieldR (k := 3) (FieldOff.mk (by kernel_rfl)) rfl rfl (by exact Nat.zero_add _)) ?_
    refine WO.op rfl rfl rfl rfl (step_load Try.isAgg3 rfl rfl rfl) ?_
    refine WO.op rfl rfl rfl rfl (step_pure Try.call29 rfl (by (repeat (first | exact Nl.nil | refine Nl.keep (by rfl) ?_))) (w_eight) rfl) ?_
    refine WO.op rfl rfl rfl rfl (step_not rfl) ?_
    refine WO.op rfl rfl rfl rfl (pk_f rfl rfl rfl) ?_
    refine WO.op rfl rfl rfl rfl (mv_sc rfl) ?_
    refine WO.spl 23 rfl (fun h2 => ?_) (fun h2 => ?_)
    · try simp only [decide_eq_true_eq, decide_eq_false_iff_not, Bool.not_eq_true', Bool.not_eq_false', beq_iff_eq, bne_iff_ne, beq_eq_false_iff_ne, bne_eq_false_iff_eq, gt_iff_lt, ge_iff_le, Int.not_lt, Int.not_le] at h2
      refine WO.sk rfl rfl rfl rfl ?_
      refine WO.sk rfl rfl rfl rfl ?_
      refine WO.sk rfl rfl rfl rfl ?_
      refine WO.sk rfl rfl rfl rfl ?_
      refine WO.op rfl rfl rfl rfl (pk_t rfl rfl rfl) ?_
      refine WO.op rfl rfl rfl rfl (mv_sc rfl) ?_
      refine WO.sk rfl rfl rfl rfl ?_
      refine WO.sk rfl rfl rfl rfl ?_
      refine WO.sk rfl rfl rfl rfl ?_
      refine WO.sk rfl rfl rfl rfl ?_
      refine WO.op rfl rfl rfl rfl (pk_t rfl rfl rfl) ?_
      refine WO.op rfl rfl rfl rfl (mv_sc rfl) ?_
      refine WO.sk rfl rfl rfl rfl ?_
      refine WO.sk rfl rfl rfl rfl ?_
      refine WO.sk rfl rfl rfl rfl ?_
      refine WO.sk rfl rfl rfl rfl ?_
      refine WO.op rfl rfl rfl rfl (pk_t rfl rfl rfl) ?_
      refine WO.op rfl rfl rfl rfl (mv_sc rfl) ?_
      refine WO.sk rfl rfl rfl rfl ?_
      refine WO.sk rfl rfl rfl rfl ?_
      refine WO.sk rfl rfl rfl rfl ?_
      refine WO.sk rfl rfl rfl rfl ?_
      refine WO.op rfl rfl rfl rfl (pk_t rfl rfl rfl) ?_
      refine WO.op rfl rfl rfl rfl (mv_sc rfl) ?_
      refine WO.sk rfl rfl rfl rfl ?_
      refine WO.sk rfl rfl rfl rfl ?_
      refine WO.sk rfl rfl rfl rfl ?_
      refine WO.sk rfl rfl rfl rfl ?_
      refine WO.sk rfl rfl rfl rfl ?_
      refine WO.op rfl rfl rfl rfl (pk_t rfl rfl rfl) ?_
      refine WO.op rfl rfl rfl rfl (mv_sc rfl) ?_
      refine WO.sk rfl rfl rfl rfl ?_
      refine WO.sk rfl rfl rfl rfl ?_
      refine WO.op rfl rfl rfl rfl (pk_t rfl rfl rfl) ?_
      refine WO.op rfl rfl rfl rfl (mv_sc rfl) ?_
      refine WO.sk rfl rfl rfl rfl ?_
      refine WO.sk rfl rfl rfl rfl ?_
      refine WO.sk rfl rfl rfl rfl ?_
      refine WO.sk rfl rfl rfl rfl ?_
      refine WO.op rfl rfl rfl rfl (pk_t rfl rfl rfl) ?_
      refine WO.nil ?_
      refine W.condT rfl ?_
      refine W.seq ?_
      refine W.to [(0, _), (1, _), (2, _), (4, _), (5, _), (6, _), (63, _)] [_] rfl ⟨(by exact sh_agg rfl), (by exact sh_sc rfl), (by exact sh_ptr rfl), (by exact sh_nil rfl), (by exact sh_sc rfl), (by exact sh_sc rfl), (by exact sh_sc rfl), trivial⟩ ?_
      refine W.region ?_
      refine WO.op rfl rfl rfl rfl (as_nil rfl) ?_
      refine WO.op rfl rfl rfl rfl (as_sc rfl) ?_
      refine WO.nil ?_
      refine W.wk 4 (.im 1 (([] : List UInt8).map byteAV)) Wk.noneB ?_
      refine W.ret ?_
      refine ⟨.inl rfl, ?_⟩
      exact ret0 (Res.tmp rfl (Res.tmp rfl Res.nil)) (.keep rfl)
    · try simp only [decide_eq_true_eq, decide_eq_false_iff_not, Bool.not_eq_true', Bool.not_eq_false', beq_iff_eq, bne_iff_ne, beq_eq_false_iff_ne, bne_eq_false_iff_eq, gt_iff_lt, ge_iff_le, Int.not_lt, Int.not_le] at h2
      refine WO.op rfl rfl rfl rfl (step_fieldR (k := 4) (FieldOff.mk (by kernel_rfl)) rfl rfl (by exact Nat.zero_add _)) ?_
      refine WO.op rfl rfl rfl rfl (step_load Try.isAgg3 rfl rfl rfl) ?_
      refine WO.op rfl rfl rfl rfl (step_pure Try.call29 rfl (by (repeat (first | exact Nl.nil | refine Nl.keep (by rfl) ?_))) (w_eight) rfl) ?_
      refine WO.op rfl rfl rfl rfl (step_not rfl) ?_
      refine WO.op rfl rfl rfl rfl (pk_f rfl rfl rfl) ?_
      refine WO.op rfl rfl rfl rfl (mv_sc rfl) ?_
      refine WO.spl 29 rfl (fun h3 => ?_) (fun h3 => ?_)
      · try simp only [decide_eq_true_eq, decide_eq_false_iff_not, Bool.not_eq_true', Bool.not_eq_false', beq_iff_eq, bne_iff_ne, beq_eq_false_iff_ne, bne_eq_false_iff_eq, gt_iff_lt, ge_iff_le, Int.not_lt, Int.not_le] at h3
        refine WO.sk rfl rfl rfl rfl ?_
        refine WO.sk rfl rfl rfl rfl ?_
        refine WO.sk rfl rfl rfl rfl ?_
        refine WO.sk rfl rfl rfl rfl ?_
        refine WO.op rfl rfl rfl rfl (pk_t rfl rfl rfl) ?_
        refine WO.op rfl rfl rfl rfl (mv_sc rfl) ?_
        refine WO.sk rfl rfl rfl rfl ?_
        refine WO.sk rfl rfl rfl rfl ?_
        refine WO.sk rfl rfl rfl rfl ?_
        refine WO.sk rfl rfl rfl rfl ?_
        refine WO.op rfl rfl rfl rfl (pk_t rfl rfl rfl) ?_
        refine WO.op rfl rfl rfl rfl (mv_sc rfl) ?_
        refine WO.sk rfl rfl rfl rfl ?_
        refine WO.sk rfl rfl rfl rfl ?_
        refine WO.sk rfl rfl rfl rfl ?_
        refine WO.sk rfl rfl rfl rfl ?_
        refine WO.op rfl rfl rfl rfl (pk_t rfl rfl rfl) ?_
        refine WO.op rfl rfl rfl rfl (mv_sc rfl) ?_
        refine WO.sk rfl rfl rfl rfl ?_
        refine WO.sk rfl rfl rfl rfl ?_
        refine WO.sk rfl rfl rfl rfl ?_
        refine WO.sk rfl rfl rfl rfl ?_
        refine WO.sk rfl rfl rfl rfl ?_
        refine WO.op rfl rfl rfl rfl (pk_t rfl rfl rfl) ?_
        refine WO.op rfl rfl rfl rfl (mv_sc rfl) ?_
        refine WO.sk rfl rfl rfl rfl ?_
        refine WO.sk rfl rfl rfl rfl ?_
        refine WO.op rfl rfl rfl rfl (pk_t rfl rfl rfl) ?_
        refine WO.op rfl rfl rfl rfl (mv_sc rfl) ?_
        refine WO.sk rfl rfl rfl rfl ?_
        refine WO.sk rfl rfl rfl rfl ?_
        refine WO.sk rfl rfl rfl rfl ?_
        refine WO.sk rfl rfl rfl rfl ?_
        refine WO.op rfl rfl rfl rfl (pk_t rfl rfl rfl) ?_
        refine WO.nil ?_
        refine W.condT rfl ?_
        refine W.seq ?_
        refine W.to [(0, _), (1, _), (2, _), (4, _), (5, _), (6, _), (63, _)] [_] rfl ⟨(by exact sh_agg rfl), (by exact sh_sc rfl), (by exact sh_ptr rfl), (by exact sh_nil rfl), (by exact sh_sc rfl), (by exact sh_sc rfl), (by exact sh_sc rfl), trivial⟩ ?_
        refine W.region ?_
        refine WO.op rfl rfl rfl rfl (as_nil rfl) ?_
        refine WO.op rfl rfl rfl rfl (as_sc rfl) ?_
        refine WO.nil ?_
        refine W.wk 4 (.im 1 (([] : List UInt8).map byteAV)) Wk.noneB ?_
        refine W.ret ?_
        refine ⟨.inl rfl, ?_⟩
        exact ret0 (Res.tmp rfl (Res.tmp rfl Res.nil)) (.keep rfl)
      · try simp only [decide_eq_true_eq, decide_eq_false_iff_not, Bool.not_eq_true', Bool.not_eq_false', beq_iff_eq, bne_iff_ne, beq_eq_false_iff_ne, bne_eq_false_iff_eq, gt_iff_lt, ge_iff_le, Int.not_lt, Int.not_le] at h3
        refine WO.op rfl rfl rfl rfl (step_fieldR (k := 1) (FieldOff.mk (by kernel_rfl)) rfl rfl (by exact Nat.zero_add _)) ?_
        refine WO.op rfl rfl rfl rfl (step_load Try.isAgg3 rfl rfl rfl) ?_
        refine WO.op rfl rfl rfl rfl (step_pure Try.call30 rfl (by (repeat (first | exact Nl.nil | refine Nl.keep (by rfl) ?_))) (w_sixteen) rfl) ?_
        refine WO.op rfl rfl rfl rfl (step_not rfl) ?_
        refine WO.op rfl rfl rfl rfl (pk_f rfl rfl rfl) ?_
        refine WO.op rfl rfl rfl rfl (mv_sc rfl) ?_
        refine WO.spl 35 rfl (fun h4 => ?_) (fun h4 => ?_)
        · try simp only [decide_eq_true_eq, decide_eq_false_iff_not, Bool.not_eq_true', Bool.not_eq_false', beq_iff_eq, bne_iff_ne, beq_eq_false_iff_ne, bne_eq_false_iff_eq, gt_iff_lt, ge_iff_le, Int.not_lt, Int.not_le] at h4
          refine WO.sk rfl rfl rfl rfl ?_
          refine WO.sk rfl rfl rfl rfl ?_
          refine WO.sk rfl rfl rfl rfl ?_
          refine WO.sk rfl rfl rfl rfl ?_
          refine WO.op rfl rfl rfl rfl (pk_t rfl rfl rfl) ?_
          refine WO.op rfl rfl rfl rfl (mv_sc rfl) ?_
          refine WO.sk rfl rfl rfl rfl ?_
          refine WO.sk rfl rfl rfl rfl ?_
          refine WO.sk rfl rfl rfl rfl ?_
          refine WO.sk rfl rfl rfl rfl ?_
          refine WO.op rfl rfl rfl rfl (pk_t rfl rfl rfl) ?_
          refine WO.op rfl rfl rfl rfl (mv_sc rfl) ?_
          refine WO.sk rfl rfl rfl rfl ?_
          refine WO.sk rfl rfl rfl rfl ?_
          refine WO.sk rfl rfl rfl rfl ?_
          refine WO.sk rfl rfl rfl rfl ?_
          refine WO.sk rfl rfl rfl rfl ?_
          refine WO.op rfl rfl rfl rfl (pk_t rfl rfl rfl) ?_
          refine WO.op rfl rfl rfl rfl (mv_sc rfl) ?_
          refine WO.sk rfl rfl rfl rfl ?_
          refine WO.sk rfl rfl rfl rfl ?_
          refine WO.op rfl rfl rfl rfl (pk_t rfl rfl rfl) ?_
          refine WO.op rfl rfl rfl rfl (mv_sc rfl) ?_
          refine WO.sk rfl rfl rfl rfl ?_
          refine WO.sk rfl rfl rfl rfl ?_
          refine WO.sk rfl rfl rfl rfl ?_
          refine WO.sk rfl rfl rfl rfl ?_
          refine WO.op rfl rfl rfl rfl (pk_t rfl rfl rfl) ?_
          refine WO.nil ?_
          refine W.condT rfl ?_
          refine W.seq ?_
          refine W.to [(0, _), (1, _), (2, _), (4, _), (5, _), (6, _), (63, _)] [_] rfl ⟨(by exact sh_agg rfl), (by exact sh_sc rfl), (by exact sh_ptr rfl), (by exact sh_nil rfl), (by exact sh_sc rfl), (by exact sh_sc rfl), (by exact sh_sc rfl), trivial⟩ ?_
          refine W.region ?_
          refine WO.op rfl rfl rfl rfl (as_nil rfl) ?_
          refine WO.op rfl rfl rfl rfl (as_sc rfl) ?_
          refine WO.nil ?_
          refine W.wk 4 (.im 1 (([] : List UInt8).map byteAV)) Wk.noneB ?_
          refine W.ret ?_
          refine ⟨.inl rfl, ?_⟩
          exact ret0 (Res.tmp rfl (Res.tmp rfl Res.nil)) (.keep rfl)
        · try simp only [decide_eq_true_eq, decide_eq_false_iff_not, Bool.not_eq_true', Bool.not_eq_false', beq_iff_eq, bne_iff_ne, beq_eq_false_iff_ne, bne_eq_false_iff_eq, gt_iff_lt, ge_iff_le, Int.not_lt, Int.not_le] at h4
          refine WO.op rfl rfl rfl rfl (step_fieldR (k := 2) (FieldOff.mk (by kernel_rfl)) rfl rfl (by exact Nat.zero_add _)) ?_
          refine WO.op rfl rfl rfl rfl (step_load Try.isAgg3 rfl rfl rfl) ?_
          refine WO.op rfl rfl rfl rfl (step_pure Try.call30 rfl (by (repeat (first | exact Nl.nil | refine Nl.keep (by rfl) ?_))) (w_sixteen) rfl) ?_
          refine WO.op rfl rfl rfl rfl (step_not rfl) ?_
          refine WO.op rfl rfl rfl rfl (pk_f rfl rfl rfl) ?_
          refine WO.op rfl rfl rfl rfl (mv_sc rfl) ?_
          refine WO.spl 41 rfl (fun h5 => ?_) (fun h5 => ?_)
          · try simp only [decide_eq_true_eq, decide_eq_false_iff_not, Bool.not_eq_true', Bool.not_eq_false', beq_iff_eq, bne_iff_ne, beq_eq_false_iff_ne, bne_eq_false_iff_eq, gt_iff_lt, ge_iff_le, Int.not_lt, Int.not_le] at h5
            refine WO.sk rfl rfl rfl rfl ?_
            refine WO.sk rfl rfl rfl rfl ?_
            refine WO.sk rfl rfl rfl rfl ?_
            refine WO.sk rfl rfl rfl rfl ?_
            refine WO.op rfl rfl rfl rfl (pk_t rfl rfl rfl) ?_
            refine WO.op rfl rfl rfl rfl (mv_sc rfl) ?_
            refine WO.sk rfl rfl rfl rfl ?_
            refine WO.sk rfl rfl rfl rfl ?_
            refine WO.sk rfl rfl rfl rfl ?_
            refine WO.sk rfl rfl rfl rfl ?_
            refine WO.sk rfl rfl rfl rfl ?_
            refine WO.op rfl rfl rfl rfl (pk_t rfl rfl rfl) ?_
            refine WO.op rfl rfl rfl rfl (mv_sc rfl) ?_
            refine WO.sk rfl rfl rfl rfl ?_
            refine WO.sk rfl rfl rfl rfl ?_
            refine WO.op rfl rfl rfl rfl (pk_t rfl rfl rfl) ?_
            refine WO.op rfl rfl rfl rfl (mv_sc rfl) ?_
            refine WO.sk rfl rfl rfl rfl ?_
            refine WO.sk rfl rfl rfl rfl ?_
            refine WO.sk rfl rfl rfl rfl ?_
            refine WO.sk rfl rfl rfl rfl ?_
            refine WO.op rfl rfl rfl rfl (pk_t rfl rfl rfl) ?_
            refine WO.nil ?_
            refine W.condT rfl ?_
            refine W.seq ?_
            refine W.to [(0, _), (1, _), (2, _), (4, _), (5, _), (6, _), (63, _)] [_] rfl ⟨(by exact sh_agg rfl), (by exact sh_sc rfl), (by exact sh_ptr rfl), (by exact sh_nil rfl), (by exact sh_sc rfl), (by exact sh_sc rfl), (by exact sh_sc rfl), trivial⟩ ?_
            refine W.region ?_
            refine WO.op rfl rfl rfl rfl (as_nil rfl) ?_
            refine WO.op rfl rfl rfl rfl (as_sc rfl) ?_
            refine WO.nil ?_
            refine W.wk 4 (.im 1 (([] : List UInt8).map byteAV)) Wk.noneB ?_
            refine W.ret ?_
            refine ⟨.inl rfl, ?_⟩
            exact ret0 (Res.tmp rfl (Res.tmp rfl Res.nil)) (.keep rfl)
          · try simp only [decide_eq_true_eq, decide_eq_false_iff_not, Bool.not_eq_true', Bool.not_eq_false', beq_iff_eq, bne_iff_ne, beq_eq_false_iff_ne, bne_eq_false_iff_eq, gt_iff_lt, ge_iff_le, Int.not_lt, Int.not_le] at h5
            refine WO.op rfl rfl rfl rfl (step_fieldR (k := 7) (FieldOff.mk (by kernel_rfl)) rfl rfl (by exact Nat.zero_add _)) ?_
            refine WO.op rfl rfl rfl rfl (step_load Try.isAgg9 rfl rfl rfl) ?_
            refine WO.op rfl rfl rfl rfl (step_lenS Try.runUnderlying9 rfl) ?_
            refine WO.op rfl rfl rfl rfl (step_int2 rfl rfl rfl) ?_
            refine WO.op rfl rfl rfl rfl (pk_f rfl rfl rfl) ?_
            refine WO.op rfl rfl rfl rfl (mv_sc rfl) ?_
            refine WO.spl 47 rfl (fun h6 => ?_) (fun h6 => ?_)
            · try simp only [decide_eq_true_eq, decide_eq_false_iff_not, Bool.not_eq_true', Bool.not_eq_false', beq_iff_eq, bne_iff_ne, beq_eq_false_iff_ne, bne_eq_false_iff_eq, gt_iff_lt, ge_iff_le, Int.not_lt, Int.not_le] at h6
              refine WO.sk rfl rfl rfl rfl ?_
              refine WO.sk rfl rfl rfl rfl ?_
              refine WO.sk rfl rfl rfl rfl ?_
              refine WO.sk rfl rfl rfl rfl ?_
              refine WO.sk rfl rfl rfl rfl ?_
              refine WO.op rfl rfl rfl rfl (pk_t rfl rfl rfl) ?_
              refine WO.op rfl rfl rfl rfl (mv_sc rfl) ?_
              refine WO.sk rfl rfl rfl rfl ?_
              refine WO.sk rfl rfl rfl rfl ?_
              refine WO.op rfl rfl rfl rfl (pk_t rfl rfl rfl) ?_
              refine WO.op rfl rfl rfl rfl (mv_sc rfl) ?_
              refine WO.sk rfl rfl rfl rfl ?_
              refine WO.sk rfl rfl rfl rfl ?_
              refine WO.sk rfl rfl rfl rfl ?_
              refine WO.sk rfl rfl rfl rfl ?_
              refine WO.op rfl rfl rfl rfl (pk_t rfl rfl rfl) ?_
              refine WO.nil ?_
              refine W.condT rfl ?_
              refine W.seq ?_
              refine W.to [(0, _), (1, _), (2, _), (4, _), (5, _), (6, _), (63, _)] [_] rfl ⟨(by exact sh_agg rfl), (by exact sh_sc rfl), (by exact sh_ptr rfl), (by exact sh_nil rfl), (by exact sh_sc rfl), (by exact sh_sc rfl), (by exact sh_sc rfl), trivial⟩ ?_
              refine W.region ?_
              refine WO.op rfl rfl rfl rfl (as_nil rfl) ?_
              refine WO.op rfl rfl rfl rfl (as_sc rfl) ?_
              refine WO.nil ?_
              refine W.wk 4 (.im 1 (([] : List UInt8).map byteAV)) Wk.noneB ?_
              refine W.ret ?_
              refine ⟨.inl rfl, ?_⟩
              exact ret0 (Res.tmp rfl (Res.tmp rfl Res.nil)) (.keep rfl)
            · try simp only [decide_eq_true_eq, decide_eq_false_iff_not, Bool.not_eq_true', Bool.not_eq_false', beq_iff_eq, bne_iff_ne, beq_eq_false_iff_ne, bne_eq_false_iff_eq, gt_iff_lt, ge_iff_le, Int.not_lt, Int.not_le] at h6
              refine WO.op rfl rfl rfl rfl (step_fieldR (k := 7) (FieldOff.mk (by kernel_rfl)) rfl rfl (by exact Nat.zero_add _)) ?_
              refine WO.op rfl rfl rfl rfl (step_load Try.isAgg9 rfl rfl rfl) ?_
              refine WO.op rfl rfl rfl rfl (step_lenS Try.runUnderlying9 rfl) ?_
              refine WO.op rfl rfl rfl rfl (step_remN (q := 4) rfl rfl (by omega)) ?_
              refine WO.op rfl rfl rfl rfl (step_int2 rfl rfl rfl) ?_
              refine WO.op rfl rfl rfl rfl (pk_f rfl rfl rfl) ?_
              refine WO.op rfl rfl rfl rfl (mv_sc rfl) ?_
              refine WO.spl 54 rfl (fun h7 => ?_) (fun h7 => ?_)
              · try simp only [decide_eq_true_eq, decide_eq_false_iff_not, Bool.not_eq_true', Bool.not_eq_false', beq_iff_eq, bne_iff_ne, beq_eq_false_iff_ne, bne_eq_false_iff_eq, gt_iff_lt, ge_iff_le, Int.not_lt, Int.not_le] at h7
                refine WO.sk rfl rfl rfl rfl ?_
                refine WO.sk rfl rfl rfl rfl ?_
                refine WO.op rfl rfl rfl rfl (pk_t rfl rfl rfl) ?_
                refine WO.op rfl rfl rfl rfl (mv_sc rfl) ?_
                refine WO.sk rfl rfl rfl rfl ?_
                refine WO.sk rfl rfl rfl rfl ?_
                refine WO.sk rfl rfl rfl rfl ?_
                refine WO.sk rfl rfl rfl rfl ?_
                refine WO.op rfl rfl rfl rfl (pk_t rfl rfl rfl) ?_
                refine WO.nil ?_
                refine W.condT rfl ?_
                refine W.seq ?_
                refine W.to [(0, _), (1, _), (2, _), (4, _), (5, _), (6, _), (63, _)] [_] rfl ⟨(by exact sh_agg rfl), (by exact sh_sc rfl), (by exact sh_ptr rfl), (by exact sh_nil rfl), (by exact sh_sc rfl), (by exact sh_sc rfl), (by exact sh_sc rfl), trivial⟩ ?_
                refine W.region ?_
                refine WO.op rfl rfl rfl rfl (as_nil rfl) ?_
                refine WO.op rfl rfl rfl rfl (as_sc rfl) ?_
                refine WO.nil ?_
                refine W.wk 4 (.im 1 (([] : List UInt8).map byteAV)) Wk.noneB ?_
                refine W.ret ?_
                refine ⟨.inl rfl, ?_⟩
                exact ret0 (Res.tmp rfl (Res.tmp rfl Res.nil)) (.keep rfl)
              · try simp only [decide_eq_true_eq, decide_eq_false_iff_not, Bool.not_eq_true', Bool.not_eq_false', beq_iff_eq, bne_iff_ne, beq_eq_false_iff_ne, bne_eq_false_iff_eq, gt_iff_lt, ge_iff_le, Int.not_lt, Int.not_le] at h7
                refine WO.op rfl rfl rfl rfl (mv_sc rfl) ?_
                refine WO.op rfl rfl rfl rfl (step_int2 rfl rfl rfl) ?_
                refine WO.op rfl rfl rfl rfl (pk_f rfl rfl rfl) ?_
                refine WO.op rfl rfl rfl rfl (mv_sc rfl) ?_
                refine WO.spl 58 rfl (fun h8 => ?_) (fun h8 => ?_)
                · try simp only [decide_eq_true_eq, decide_eq_false_iff_not, Bool.not_eq_true', Bool.not_eq_false', beq_iff_eq, bne_iff_ne, beq_eq_false_iff_ne, bne_eq_false_iff_eq, gt_iff_lt, ge_iff_le, Int.not_lt, Int.not_le] at h8
                  refine WO.sk rfl rfl rfl rfl ?_
                  refine WO.sk rfl rfl rfl rfl ?_
                  refine WO.sk rfl rfl rfl rfl ?_
                  refine WO.sk rfl rfl rfl rfl ?_
                  refine WO.op rfl rfl rfl rfl (pk_t rfl rfl rfl) ?_
                  refine WO.nil ?_
                  refine W.condT rfl ?_
                  refine W.seq ?_
                  refine W.to [(0, _), (1, _), (2, _), (4, _), (5, _), (6, _), (63, _)] [_] rfl ⟨(by exact sh_agg rfl), (by exact sh_sc rfl), (by exact sh_ptr rfl), (by exact sh_nil rfl), (by exact sh_sc rfl), (by exact sh_sc rfl), (by exact sh_sc rfl), trivial⟩ ?_
                  refine W.region ?_
                  refine WO.op rfl rfl rfl rfl (as_nil rfl) ?_
                  refine WO.op rfl rfl rfl rfl (as_sc rfl) ?_
                  refine WO.nil ?_
                  refine W.wk 4 (.im 1 (([] : List UInt8).map byteAV)) Wk.noneB ?_
                  refine W.ret ?_
                  refine ⟨.inl rfl, ?_⟩
                  exact ret0 (Res.tmp rfl (Res.tmp rfl Res.nil)) (.keep rfl)
                · try simp only [decide_eq_true_eq, decide_eq_false_iff_not, Bool.not_eq_true', Bool.not_eq_false', beq_iff_eq, bne_iff_ne, beq_eq_false_iff_ne, bne_eq_false_iff_eq, gt_iff_lt, ge_iff_le, Int.not_lt, Int.not_le] at h8
                  refine WO.op rfl rfl rfl rfl (mv_sc rfl) ?_
                  refine WO.op rfl rfl rfl rfl (mv_sc rfl) ?_
                  refine WO.op rfl rfl rfl rfl (step_subN (p := 65535) rfl rfl (by omega) (by (simp only [cap]; omega))) ?_
                  refine WO.op rfl rfl rfl rfl (step_int2 rfl rfl rfl) ?_
                  refine WO.op rfl rfl rfl rfl (pk_f rfl rfl rfl) ?_
                  refine WO.nil ?_
                  refine W.cond rfl (fun h9 => ?_) (fun h9 => ?_)
                  · try simp only [decide_eq_true_eq, decide_eq_false_iff_not, Bool.not_eq_true', Bool.not_eq_false', beq_iff_eq, bne_iff_ne, beq_eq_false_iff_ne, bne_eq_false_iff_eq, gt_iff_lt, ge_iff_le, Int.not_lt, Int.not_le] at h9
                    refine W.seq ?_
                    refine W.to [(0, _), (1, _), (2, _), (4, _), (5, _), (6, _), (63, _)] [_] rfl ⟨(by exact sh_agg rfl), (by exact sh_sc rfl), (by exact sh_ptr rfl), (by exact sh_nil rfl), (by exact sh_sc rfl), (by exact sh_sc rfl), (by exact sh_sc rfl), trivial⟩ ?_
                    refine W.region ?_
                    refine WO.op rfl rfl rfl rfl (as_nil rfl) ?_
                    refine WO.op rfl rfl rfl rfl (as_sc rfl) ?_
                    refine WO.nil ?_
                    refine W.wk 4 (.im 1 (([] : List UInt8).map byteAV)) Wk.noneB ?_
                    refine W.ret ?_
                    refine ⟨.inl rfl, ?_⟩
                    exact ret0 (Res.tmp rfl (Res.tmp rfl Res.nil)) (.keep rfl)
                  · try simp only [decide_eq_true_eq, decide_eq_false_iff_not, Bool.not_eq_true', Bool.not_eq_false', beq_iff_eq, bne_iff_ne, beq_eq_false_iff_ne, bne_eq_false_iff_eq, gt_iff_lt, ge_iff_le, Int.not_lt, Int.not_le] at h9
                    exact False.elim (h ⟨by omega, by omega, by omega, by omega, by omega, by omega, by omega, by omega⟩)

end Go.Proofs.Ytejoccabclibeaa
