/-
  Contracts of functions of chapter 03: each theorem says what a call of one function answers, for all arguments that its hypotheses let in.
-/
import Derived.Test.YtejoccabclibeaaW3l
import Derived.Test.YtejoccabclibeaaW3i
import Derived.Test.YtejoccabclibeaaW3j
import Derived.Test.YtejoccabclibeaaW3e
set_option linter.unusedVariables false
set_option linter.unusedSimpArgs false
set_option maxRecDepth 100000
set_option maxHeartbeats 1000000
namespace Go.Proofs.Ytejoccabclibeaa
open Go Go.SL Go.Proofs

theorem w_DecX {l : List UInt8} (hl : l.length ≤ 200000000000000) (h : decE l ≠ 0) : Spec0 Try.prog 18 [.im 1 (l.map byteAV)] (.tup [.agg ip0, .sc (.int .i64 0), .sc (.int .i64 0), .sc (.int .i64 ((decE l : Nat) : Int))]) := by
  by_cases h0 : hdE l = 0
  · exact w_DecX2 hl h0 h
  · exact w_DecX1 hl h0

theorem w_IpDecodesG {l : List UInt8} (hl : l.length ≤ 200000000000000) (h : decE l = 0) : Spec0 Try.prog 5 [.im 1 (l.map byteAV)] (.sc (.bool true)) := by
  refine Spec.body Try.func5 rfl (Nat.le_of_ble_eq_true rfl) ?_
  obtain ⟨h0, hA, hB, hC⟩ := decE_ok h
  obtain ⟨q1, q2, q3⟩ := hd_ok h0
  have e2 : be (sub l 2 2) < 65536 := be2 (List.drop 2 l)
  have e4 : be (sub l 4 2) < 65536 := be2 (List.drop 4 l)
  have e6 : be (sub l 6 2) < 65536 := be2 (List.drop 6 l)
  have e12 : be (sub l 12 4) < 4294967296 := be4 (List.drop 12 l)
  have e16 : be (sub l 16 4) < 4294967296 := be4 (List.drop 16 l)
  have y1 := byte_le (l.getD 1 0)
  have y8 := byte_le (l.getD 8 0)
  have y9 := byte_le (l.getD 9 0)
  have z10 := byte_le (l.getD 10 0)
  have z11 := byte_le (l.getD 11 0)
  have y0 := byte_le (l.getD 0 0)
  have hS : hdS l = 4 * ((l.getD 0 0).toNat % 16) := rfl
  have hoz : (optS l).size ≤ 40 := by rw [optS_size]; simp only [sub, List.length_take, List.length_drop]; omega
  obtain ⟨c1, c2, c3⟩ := dec_enc h (c := cD l) rfl
  have c2' : ∀ i, i < hdS l → i ≠ 10 → i ≠ 11 → ((cD l).getD i 0).toNat = (l.getD i 0).toNat := fun i a b c => by rw [c2 i a b c]
  have c3' : ((l.getD 10 0).toNat = 255 ∧ (l.getD 11 0).toNat = 255) ∨ (((cD l).getD 10 0).toNat = (l.getD 10 0).toNat ∧ ((cD l).getD 11 0).toNat = (l.getD 11 0).toNat) := by
    rcases c3 with ⟨a, b⟩ | ⟨a, b⟩
    · left; rw [a, b]; exact ⟨rfl, rfl⟩
    · right; rw [a, b]; exact ⟨rfl, rfl⟩
  clear c3 c2
  refine W.seq ?_
  refine W.region ?_
  refine WO.op rfl rfl rfl rfl (as_sc rfl) ?_
  refine WO.nil ?_
  refine W.seq ?_
  refine W.to [(0, _), (2, _)] [] rfl ⟨(by exact sh_im rfl), (by exact sh_sc rfl), trivial⟩ ?_
  refine W.region ?_
  refine WO.opA rfl rfl rfl rfl (al_buildSlice Try.runUnderlying22 (z := (Value.int IntKind.u8 0)) (bs := 1) (esz := 1) (EI.mk (by kernel_rfl)) rfl (by decide) rfl rfl) rfl rfl ?_
  refine WO.put 14 (.sl 0 0 _) rfl ?_
  refine WO.op rfl rfl rfl rfl (mv_im rfl) ?_
  refine WO.op rfl rfl rfl rfl (step_appE Try.runUnderlying22 (EI.mk (by kernel_rfl)) Try.runUnderlying22 (.inl ⟨_, rfl⟩) rfl rfl (Src.imB rfl) (by omega)) ?_
  refine WO.put 16 (.sl 1 0 _) rfl ?_
  refine WO.op rfl rfl rfl rfl (as_sl rfl) ?_
  refine WO.nil ?_
  refine W.seq ?_
  refine W.to [(0, _), (2, _), (3, _)] [_, _] rfl ⟨(by exact sh_im rfl), (by exact sh_sc rfl), (by exact sh_sl rfl), trivial⟩ ?_
  refine W.region ?_
  refine WO.op rfl rfl rfl rfl (mv_sl rfl) ?_
  refine WO.op rfl rfl rfl rfl (step_lent Try.call18 rfl (by (repeat (first | exact Bw.nil | refine Bw.slB rfl (by (exact take_whole (by omega))) (by (simp only [List.length_map, List.length_append, List.length_take, List.length_drop, List.length_set, List.length_cons, List.length_nil, List.length_replicate] <;> omega)) ?_))) (w_DecG hl h) (by repeat (rfl))) ?_
  refine WO.op rfl rfl rfl rfl (mv_tup rfl) ?_
  refine WO.op rfl rfl rfl rfl (step_extract rfl rfl) ?_
  refine WO.op rfl rfl rfl rfl (step_extract rfl rfl) ?_
  refine WO.op rfl rfl rfl rfl (step_extract rfl rfl) ?_
  refine WO.op rfl rfl rfl rfl (step_extract rfl rfl) ?_
  refine WO.opA rfl rfl rfl rfl (al_alloc Try.zeroValue31) rfl rfl ?_
  refine WO.put 4 (.ptr 2 0) rfl ?_
  refine WO.op0 rfl rfl rfl (step_storeA Try.sizeOf31 rfl rfl rfl (by repeat (exact all_cell rfl rfl)) rfl rfl) ?_
  refine WO.op rfl rfl rfl rfl (as_sc rfl) ?_
  refine WO.op rfl rfl rfl rfl (as_sc rfl) ?_
  refine WO.op rfl rfl rfl rfl (as_sc rfl) ?_
  refine WO.nil ?_
  refine W.seq ?_
  refine W.to [(0, _), (2, _), (3, _), (4, _), (5, _), (6, _), (7, _)] [_, _, _] rfl ⟨(by exact sh_im rfl), (by exact sh_sc rfl), (by exact sh_sl rfl), (by exact sh_ptr rfl), (by exact sh_sc rfl), (by exact sh_sc rfl), (by exact sh_sc rfl), trivial⟩ ?_
  refine W.region ?_
  refine WO.op rfl rfl rfl rfl (mv_im rfl) ?_
  refine WO.op rfl rfl rfl rfl (step_pure Try.call19 rfl (by (repeat (first | exact Nl.nil | refine Nl.keep (by exact noOwn_im) ?_))) (w_refDecG hl h) (by repeat (first | with_reducible refine noOwn_tup ?_ | with_reducible refine noOwn_agg ?_ | with_reducible exact noOwnL_nil | with_reducible refine noOwnL_cons ?_ ?_ | rfl))) ?_
  refine WO.op rfl rfl rfl rfl (mv_tup rfl) ?_
  refine WO.op rfl rfl rfl rfl (step_extract rfl rfl) ?_
  refine WO.op rfl rfl rfl rfl (step_extract rfl rfl) ?_
  refine WO.op rfl rfl rfl rfl (step_extract rfl rfl) ?_
  refine WO.op rfl rfl rfl rfl (step_extract rfl rfl) ?_
  refine WO.opA rfl rfl rfl rfl (al_alloc Try.zeroValue31) rfl rfl ?_
  refine WO.put 8 (.ptr 3 0) rfl ?_
  refine WO.op0 rfl rfl rfl (step_storeA Try.sizeOf31 rfl rfl rfl (by repeat (exact all_cell rfl rfl)) rfl rfl) ?_
  refine WO.op rfl rfl rfl rfl (as_sc rfl) ?_
  refine WO.op rfl rfl rfl rfl (as_sc rfl) ?_
  refine WO.op rfl rfl rfl rfl (as_sc rfl) ?_
  refine WO.nil ?_
  refine W.seq ?_
  refine W.seq ?_
  refine W.to [(0, _), (2, _), (3, _), (4, _), (5, _), (6, _), (7, _), (8, _), (9, _), (10, _), (11, _)] [_, _, _, _] rfl ⟨(by exact sh_im rfl), (by exact sh_sc rfl), (by exact sh_sl rfl), (by exact sh_ptr rfl), (by exact sh_sc rfl), (by exact sh_sc rfl), (by exact sh_sc rfl), (by exact sh_ptr rfl), (by exact sh_sc rfl), (by exact sh_sc rfl), (by exact sh_sc rfl), trivial⟩ ?_
  refine W.region ?_
  refine WO.op rfl rfl rfl rfl (step_pure Try.call10 rfl (by (repeat (exact Nl.nil))) (w_lives) (by repeat (rfl))) ?_
  refine WO.op rfl rfl rfl rfl (step_not rfl) ?_
  refine WO.put 32 (.sc (.bool false)) (rfl) ?_
  refine WO.op rfl rfl rfl rfl (mv_sc rfl) ?_
  refine WO.op rfl rfl rfl rfl (step_loadA Try.isAgg31 Try.sizeOf31 rfl rfl (by exact Nat.le_refl _)) ?_
  refine WO.put 34 (.agg (decAV l)) (by kernel_rfl) ?_
  refine WO.op rfl rfl rfl rfl (step_loadA Try.isAgg31 Try.sizeOf31 rfl rfl (by exact Nat.le_refl _)) ?_
  refine WO.put 35 (.agg (decAV l)) (by kernel_rfl) ?_
  refine WO.op rfl rfl rfl rfl (ne_Ip (a0 := (l.getD 1 0).toNat) (a1 := be (sub l 4 2)) (a2 := be (sub l 6 2)) (a3 := (l.getD 8 0).toNat) (a4 := (l.getD 9 0).toNat) (a5 := be (sub l 12 4)) (a6 := be (sub l 16 4)) (a7 := optS l) (by constructor <;> omega) (by constructor <;> omega) (by constructor <;> omega) (by constructor <;> omega) (by constructor <;> omega) (by constructor <;> omega) (by constructor <;> omega) (by omega) rfl rfl) ?_
  refine WO.put 36 (.sc (.bool false)) (rfl) ?_
  refine WO.op rfl rfl rfl rfl (pk_f rfl rfl rfl) ?_
  refine WO.op rfl rfl rfl rfl (mv_sc rfl) ?_
  refine WO.op rfl rfl rfl rfl (mv_sc rfl) ?_
  refine WO.op rfl rfl rfl rfl (mv_sc rfl) ?_
  refine WO.op rfl rfl rfl rfl (step_int2 rfl rfl rfl) ?_
  refine WO.put 41 (.sc (.bool false)) (congrArg (fun b : Bool => AV.sc (.bool b)) (by simp)) ?_
  refine WO.op rfl rfl rfl rfl (pk_f rfl rfl rfl) ?_
  refine WO.op rfl rfl rfl rfl (mv_sc rfl) ?_
  refine WO.op rfl rfl rfl rfl (mv_sc rfl) ?_
  refine WO.op rfl rfl rfl rfl (mv_sc rfl) ?_
  refine WO.op rfl rfl rfl rfl (step_int2 rfl rfl rfl) ?_
  refine WO.put 46 (.sc (.bool false)) (congrArg (fun b : Bool => AV.sc (.bool b)) (by simp)) ?_
  refine WO.op rfl rfl rfl rfl (pk_f rfl rfl rfl) ?_
  refine WO.op rfl rfl rfl rfl (mv_sc rfl) ?_
  refine WO.op rfl rfl rfl rfl (mv_sc rfl) ?_
  refine WO.op rfl rfl rfl rfl (mv_sc rfl) ?_
  refine WO.op rfl rfl rfl rfl (step_int2 rfl rfl rfl) ?_
  refine WO.put 51 (.sc (.bool false)) (congrArg (fun b : Bool => AV.sc (.bool b)) (by rfl)) ?_
  refine WO.op rfl rfl rfl rfl (pk_f rfl rfl rfl) ?_
  refine WO.op rfl rfl rfl rfl (mv_sc rfl) ?_
  refine WO.op rfl rfl rfl rfl (mv_sl rfl) ?_
  refine WO.op rfl rfl rfl rfl (step_strO Try.underlying22 Try.underlying5 Try.underlying9 rfl rfl (by (exact take_whole (by omega))) (by (simp only [List.length_map, List.length_append, List.length_take, List.length_drop, List.length_set, List.length_cons, List.length_nil, List.length_replicate] <;> omega))) ?_
  refine WO.op rfl rfl rfl rfl (mv_im rfl) ?_
  refine WO.op rfl rfl rfl rfl (step_strI Try.underlying22 Try.underlying5 Try.underlying9 rfl) ?_
  refine WO.op rfl rfl rfl rfl (step_str2 rfl rfl rfl) ?_
  refine WO.put 58 (.sc (.bool false)) (congrArg (fun b : Bool => AV.sc (.bool b)) (by simp)) ?_
  refine WO.op rfl rfl rfl rfl (pk_f rfl rfl rfl) ?_
  refine WO.nil ?_
  refine W.condF rfl ?_
  refine W.skip ?_
  refine W.seq ?_
  refine W.seq ?_
  refine W.to [(0, _), (2, _), (3, _), (4, _), (5, _), (6, _), (7, _), (8, _), (9, _), (10, _), (11, _), (59, _)] [_, _, _, _] rfl ⟨(by exact sh_im rfl), (by exact sh_sc rfl), (by exact sh_sl rfl), (by exact sh_ptr rfl), (by exact sh_sc rfl), (by exact sh_sc rfl), (by exact sh_sc rfl), (by exact sh_ptr rfl), (by exact sh_sc rfl), (by exact sh_sc rfl), (by exact sh_sc rfl), (by exact sh_sc rfl), trivial⟩ ?_
  refine W.region ?_
  refine WO.op rfl rfl rfl rfl (mv_sc rfl) ?_
  refine WO.op rfl rfl rfl rfl (step_int2 rfl rfl rfl) ?_
  refine WO.put 61 (.sc (.bool false)) (by kernel_rfl) ?_
  refine WO.nil ?_
  refine W.condF rfl ?_
  refine W.skip ?_
  refine W.seq ?_
  refine W.to [(0, _), (2, _), (3, _), (4, _), (5, _), (6, _), (7, _), (8, _), (9, _), (10, _), (11, _), (59, _), (61, _)] [_, _, _, _] rfl ⟨(by exact sh_im rfl), (by exact sh_sc rfl), (by exact sh_sl rfl), (by exact sh_ptr rfl), (by exact sh_sc rfl), (by exact sh_sc rfl), (by exact sh_sc rfl), (by exact sh_ptr rfl), (by exact sh_sc rfl), (by exact sh_sc rfl), (by exact sh_sc rfl), (by exact sh_sc rfl), (by exact sh_sc rfl), trivial⟩ ?_
  refine W.region ?_
  refine WO.op rfl rfl rfl rfl (step_loadA Try.isAgg31 Try.sizeOf31 rfl rfl (by exact Nat.le_refl _)) ?_
  refine WO.put 63 (.agg (decAV l)) (by kernel_rfl) ?_
  refine WO.op rfl rfl rfl rfl (mv_sc rfl) ?_
  refine WO.op rfl rfl rfl rfl (mv_sc rfl) ?_
  refine WO.op rfl rfl rfl rfl (step_subN rfl rfl (by omega) (by (simp only [cap]; omega))) ?_
  refine WO.op rfl rfl rfl rfl (step_pure Try.call12 rfl (by (repeat (first | exact Nl.nil | refine Nl.keep (by rfl) ?_))) (w_EncD h) (by repeat (first | with_reducible exact noOwn_im | with_reducible refine noOwn_tup ?_ | with_reducible exact noOwnL_nil | with_reducible refine noOwnL_cons ?_ ?_ | rfl))) ?_
  refine WO.op rfl rfl rfl rfl (mv_tup rfl) ?_
  refine WO.op rfl rfl rfl rfl (step_extract rfl rfl) ?_
  refine WO.op rfl rfl rfl rfl (step_extract rfl rfl) ?_
  refine WO.op rfl rfl rfl rfl (as_im rfl) ?_
  refine WO.op rfl rfl rfl rfl (as_sc rfl) ?_
  refine WO.nil ?_
  refine W.seq ?_
  refine W.seq ?_
  refine W.to [(0, _), (2, _), (3, _), (4, _), (5, _), (6, _), (7, _), (8, _), (9, _), (10, _), (11, _), (12, _), (59, _), (61, _)] [_, _, _, _] rfl ⟨(by exact sh_im rfl), (by exact sh_sc rfl), (by exact sh_sl rfl), (by exact sh_ptr rfl), (by exact sh_sc rfl), (by exact sh_sc rfl), (by exact sh_sc rfl), (by exact sh_ptr rfl), (by exact sh_sc rfl), (by exact sh_sc rfl), (by exact sh_sc rfl), (by exact sh_im rfl), (by exact sh_sc rfl), (by exact sh_sc rfl), trivial⟩ ?_
  refine W.region ?_
  refine WO.op rfl rfl rfl rfl (mv_sc rfl) ?_
  refine WO.op rfl rfl rfl rfl (step_int2 rfl rfl rfl) ?_
  refine WO.put 71 (.sc (.bool false)) (by kernel_rfl) ?_
  refine WO.op rfl rfl rfl rfl (mv_sc rfl) ?_
  refine WO.op rfl rfl rfl rfl (mv_im rfl) ?_
  refine WO.op rfl rfl rfl rfl (step_lenB Try.runUnderlying22 rfl) ?_
  refine WO.op rfl rfl rfl rfl (mv_sc rfl) ?_
  refine WO.op rfl rfl rfl rfl (step_int2 rfl rfl rfl) ?_
  refine WO.put 76 (.sc (.bool false)) (congrArg (fun b : Bool => AV.sc (.bool b)) (by simp [c1])) ?_
  refine WO.op rfl rfl rfl rfl (pk_f rfl rfl rfl) ?_
  refine WO.nil ?_
  refine W.condF rfl ?_
  refine W.skip ?_
  refine W.seq ?_
  refine W.seq ?_
  refine W.to [(0, _), (2, _), (3, _), (4, _), (5, _), (6, _), (7, _), (8, _), (9, _), (10, _), (11, _), (12, _), (59, _), (61, _), (77, _)] [_, _, _, _] rfl ⟨(by exact sh_im rfl), (by exact sh_sc rfl), (by exact sh_sl rfl), (by exact sh_ptr rfl), (by exact sh_sc rfl), (by exact sh_sc rfl), (by exact sh_sc rfl), (by exact sh_ptr rfl), (by exact sh_sc rfl), (by exact sh_sc rfl), (by exact sh_sc rfl), (by exact sh_im rfl), (by exact sh_sc rfl), (by exact sh_sc rfl), (by exact sh_sc rfl), trivial⟩ ?_
  refine W.region ?_
  refine WO.op rfl rfl rfl rfl (as_sc rfl) ?_
  refine WO.nil ?_
  refine W.block ?_
  refine W.loop (α := Nat) (fun i => ⟨tbl [(0, .im 1 (l.map byteAV)), (5, .sc (.int .i64 ((hdS l : Nat) : Int))), (12, .im 1 ((cD l).map byteAV)), (13, .sc (.int .i64 ((i : Nat) : Int)))], [.dead, .row 1 (l.map byteAV), .row 1 (decAV l), .row 1 (decAV l)]⟩) (fun i => i ≤ hdS l) (fun i => hdS l - i) (0) (Nat.zero_le _) (Le.eqs rfl ⟨rfl, rfl, rfl, rfl, trivial⟩) ?_
  intro i hi
  refine W.seq ?_
  refine W.seq ?_
  refine W.to [(0, _), (5, _), (12, _), (13, _)] [_, _, _, _] rfl ⟨(by exact sh_im rfl), (by exact sh_sc rfl), (by exact sh_im rfl), (by exact sh_sc rfl), trivial⟩ ?_
  refine W.region ?_
  refine WO.op rfl rfl rfl rfl (mv_sc rfl) ?_
  refine WO.op rfl rfl rfl rfl (mv_sc rfl) ?_
  refine WO.op rfl rfl rfl rfl (step_int2 rfl rfl rfl) ?_
  refine WO.nil ?_
  refine W.cond rfl (fun h1 => ?_) (fun h1 => ?_)
  · try simp only [decide_eq_true_eq, decide_eq_false_iff_not, Bool.not_eq_true', Bool.not_eq_false', beq_iff_eq, bne_iff_ne, beq_eq_false_iff_ne, bne_eq_false_iff_eq, gt_iff_lt, ge_iff_le, Int.not_lt, Int.not_le] at h1
    refine W.skip ?_
    refine W.seq ?_
    refine W.block ?_
    refine W.seq ?_
    refine W.to [(0, _), (5, _), (12, _), (13, _), (80, _)] [_, _, _, _] rfl ⟨(by exact sh_im rfl), (by exact sh_sc rfl), (by exact sh_im rfl), (by exact sh_sc rfl), (by exact sh_sc rfl), trivial⟩ ?_
    refine W.draw (Checked.mixed Try.checked) ?_
    refine DC.op rfl rfl rfl (fun _ => mv_im rfl) ?_
    refine DC.op rfl rfl rfl (fun _ => mv_sc rfl) ?_
    refine DC.op rfl rfl rfl (fun _ => step_idxB Try.runUnderlying22 Try.sizeOf5 rfl rfl (by (exact rfl)) (by omega)) ?_
    refine DC.op rfl rfl rfl (fun _ => step_loadB Try.isAgg5 rfl (by omega)) ?_
    refine DC.op rfl rfl rfl (fun _ => mv_im rfl) ?_
    refine DC.op rfl rfl rfl (fun _ => mv_sc rfl) ?_
    refine DC.op rfl rfl rfl (fun _ => step_idxB Try.runUnderlying22 Try.sizeOf5 rfl rfl (by (exact rfl)) (by omega)) ?_
    refine DC.op rfl rfl rfl (fun _ => step_loadB Try.isAgg5 rfl (by omega)) ?_
    refine DC.op rfl rfl rfl (fun _ => step_int2 rfl rfl rfl) ?_
    refine DC.op rfl rfl rfl (fun _ => mv_sc rfl) ?_
    refine DC.split 92 rfl (fun h2 => ?_) (fun h2 => ?_)
    · try simp only [decide_eq_true_eq, decide_eq_false_iff_not, Bool.not_eq_true', Bool.not_eq_false', beq_iff_eq, bne_iff_ne, beq_eq_false_iff_ne, bne_eq_false_iff_eq, gt_iff_lt, ge_iff_le, Int.not_lt, Int.not_le] at h2
      refine DC.op rfl rfl rfl (fun _ => mv_sc rfl) ?_
      refine DC.op rfl rfl rfl (fun _ => step_int2 rfl rfl rfl) ?_
      refine DC.op rfl rfl rfl (fun _ => pk_t rfl rfl rfl) ?_
      refine DC.op rfl rfl rfl (fun _ => mv_sc rfl) ?_
      refine DC.split 96 rfl (fun h3 => ?_) (fun h3 => ?_)
      · try simp only [decide_eq_true_eq, decide_eq_false_iff_not, Bool.not_eq_true', Bool.not_eq_false', beq_iff_eq, bne_iff_ne, beq_eq_false_iff_ne, bne_eq_false_iff_eq, gt_iff_lt, ge_iff_le, Int.not_lt, Int.not_le] at h3
        refine DC.op rfl rfl rfl (fun _ => mv_sc rfl) ?_
        refine DC.op rfl rfl rfl (fun _ => step_int2 rfl rfl rfl) ?_
        refine DC.op rfl rfl rfl (fun _ => pk_t rfl rfl rfl) ?_
        refine DC.fin [(2, 0), (3, 0), (6, 0), (7, 0)] (by kernel_rfl) (by kernel_rfl) ?_ ?_
        · repeat (first | exact True.intro | refine And.intro ?_ ?_)
        · refine W.cond rfl (fun h4 => ?_) (fun h4 => ?_)
          · try simp only [decide_eq_true_eq, decide_eq_false_iff_not, Bool.not_eq_true', Bool.not_eq_false', beq_iff_eq, bne_iff_ne, beq_eq_false_iff_ne, bne_eq_false_iff_eq, gt_iff_lt, ge_iff_le, Int.not_lt, Int.not_le] at h4
            exact False.elim (by have := c2' i (by omega) (by omega) (by omega); omega)
          · try simp only [decide_eq_true_eq, decide_eq_false_iff_not, Bool.not_eq_true', Bool.not_eq_false', beq_iff_eq, bne_iff_ne, beq_eq_false_iff_ne, bne_eq_false_iff_eq, gt_iff_lt, ge_iff_le, Int.not_lt, Int.not_le] at h4
            refine W.skip ?_
            refine W.to [(0, _), (5, _), (12, _), (13, _), (80, _), (99, _)] [_, _, _, _] rfl ⟨(by exact sh_im rfl), (by exact sh_sc rfl), (by exact sh_im rfl), (by exact sh_sc rfl), (by exact sh_sc rfl), (by exact sh_sc rfl), trivial⟩ ?_
            refine W.region ?_
            refine WO.op rfl rfl rfl rfl (mv_sc rfl) ?_
            refine WO.op rfl rfl rfl rfl (step_addN (q := 1) rfl rfl (by (simp only [cap]; omega))) ?_
            refine WO.op rfl rfl rfl rfl (as_sc rfl) ?_
            refine WO.nil ?_
            exact ⟨i + 1, (by omega), (by omega), Le.eqs rfl ⟨rfl, rfl, rfl, rfl, trivial⟩⟩
      · try simp only [decide_eq_true_eq, decide_eq_false_iff_not, Bool.not_eq_true', Bool.not_eq_false', beq_iff_eq, bne_iff_ne, beq_eq_false_iff_ne, bne_eq_false_iff_eq, gt_iff_lt, ge_iff_le, Int.not_lt, Int.not_le] at h3
        refine DC.skp rfl rfl rfl ?_
        refine DC.skp rfl rfl rfl ?_
        refine DC.op rfl rfl rfl (fun _ => pk_f rfl rfl rfl) ?_
        refine DC.fin [(2, 0), (3, 0), (6, 0), (7, 0)] (by kernel_rfl) (by kernel_rfl) ?_ ?_
        · repeat (first | exact True.intro | refine And.intro ?_ ?_)
        · refine W.condF rfl ?_
          refine W.skip ?_
          refine W.to [(0, _), (5, _), (12, _), (13, _), (80, _), (99, _)] [_, _, _, _] rfl ⟨(by exact sh_im rfl), (by exact sh_sc rfl), (by exact sh_im rfl), (by exact sh_sc rfl), (by exact sh_sc rfl), (by exact sh_sc rfl), trivial⟩ ?_
          refine W.region ?_
          refine WO.op rfl rfl rfl rfl (mv_sc rfl) ?_
          refine WO.op rfl rfl rfl rfl (step_addN (q := 1) rfl rfl (by (simp only [cap]; omega))) ?_
          refine WO.op rfl rfl rfl rfl (as_sc rfl) ?_
          refine WO.nil ?_
          exact ⟨i + 1, (by omega), (by omega), Le.eqs rfl ⟨rfl, rfl, rfl, rfl, trivial⟩⟩
    · try simp only [decide_eq_true_eq, decide_eq_false_iff_not, Bool.not_eq_true', Bool.not_eq_false', beq_iff_eq, bne_iff_ne, beq_eq_false_iff_ne, bne_eq_false_iff_eq, gt_iff_lt, ge_iff_le, Int.not_lt, Int.not_le] at h2
      refine DC.skp rfl rfl rfl ?_
      refine DC.skp rfl rfl rfl ?_
      refine DC.op rfl rfl rfl (fun _ => pk_f rfl rfl rfl) ?_
      refine DC.op rfl rfl rfl (fun _ => mv_sc rfl) ?_
      refine DC.skp rfl rfl rfl ?_
      refine DC.skp rfl rfl rfl ?_
      refine DC.op rfl rfl rfl (fun _ => pk_f rfl rfl rfl) ?_
      refine DC.fin [(2, 0), (3, 0), (6, 0), (7, 0)] (by kernel_rfl) (by kernel_rfl) ?_ ?_
      · repeat (first | exact True.intro | refine And.intro ?_ ?_)
      · refine W.condF rfl ?_
        refine W.skip ?_
        refine W.to [(0, _), (5, _), (12, _), (13, _), (80, _), (99, _)] [_, _, _, _] rfl ⟨(by exact sh_im rfl), (by exact sh_sc rfl), (by exact sh_im rfl), (by exact sh_sc rfl), (by exact sh_sc rfl), (by exact sh_sc rfl), trivial⟩ ?_
        refine W.region ?_
        refine WO.op rfl rfl rfl rfl (mv_sc rfl) ?_
        refine WO.op rfl rfl rfl rfl (step_addN (q := 1) rfl rfl (by (simp only [cap]; omega))) ?_
        refine WO.op rfl rfl rfl rfl (as_sc rfl) ?_
        refine WO.nil ?_
        exact ⟨i + 1, (by omega), (by omega), Le.eqs rfl ⟨rfl, rfl, rfl, rfl, trivial⟩⟩
  · try simp only [decide_eq_true_eq, decide_eq_false_iff_not, Bool.not_eq_true', Bool.not_eq_false', beq_iff_eq, bne_iff_ne, beq_eq_false_iff_ne, bne_eq_false_iff_eq, gt_iff_lt, ge_iff_le, Int.not_lt, Int.not_le] at h1
    refine W.exit ?_
    refine W.seq ?_
    refine W.to [(0, _), (5, _), (12, _), (13, _), (80, _)] [_, _, _, _] rfl ⟨(by exact sh_im rfl), (by exact sh_sc rfl), (by exact sh_im rfl), (by exact sh_sc rfl), (by exact sh_sc rfl), trivial⟩ ?_
    refine W.draw (Checked.mixed Try.checked) ?_
    refine DC.op rfl rfl rfl (fun _ => mv_im rfl) ?_
    refine DC.op rfl rfl rfl (fun _ => step_idxB (j := 10) Try.runUnderlying22 Try.sizeOf5 rfl rfl (by (exact rfl)) (by omega)) ?_
    refine DC.op rfl rfl rfl (fun _ => step_loadB Try.isAgg5 rfl (by omega)) ?_
    refine DC.op rfl rfl rfl (fun _ => step_int2 rfl rfl rfl) ?_
    refine DC.op rfl rfl rfl (fun _ => mv_sc rfl) ?_
    refine DC.split 104 rfl (fun h5 => ?_) (fun h5 => ?_)
    · try simp only [decide_eq_true_eq, decide_eq_false_iff_not, Bool.not_eq_true', Bool.not_eq_false', beq_iff_eq, bne_iff_ne, beq_eq_false_iff_ne, bne_eq_false_iff_eq, gt_iff_lt, ge_iff_le, Int.not_lt, Int.not_le] at h5
      refine DC.op rfl rfl rfl (fun _ => mv_im rfl) ?_
      refine DC.op rfl rfl rfl (fun _ => step_idxB (j := 11) Try.runUnderlying22 Try.sizeOf5 rfl rfl (by (exact rfl)) (by omega)) ?_
      refine DC.op rfl rfl rfl (fun _ => step_loadB Try.isAgg5 rfl (by omega)) ?_
      refine DC.op rfl rfl rfl (fun _ => step_int2 rfl rfl rfl) ?_
      refine DC.op rfl rfl rfl (fun _ => pk_t rfl rfl rfl) ?_
      refine DC.op rfl rfl rfl (fun _ => mv_sc rfl) ?_
      refine DC.split 110 rfl (fun h6 => ?_) (fun h6 => ?_)
      · try simp only [decide_eq_true_eq, decide_eq_false_iff_not, Bool.not_eq_true', Bool.not_eq_false', beq_iff_eq, bne_iff_ne, beq_eq_false_iff_ne, bne_eq_false_iff_eq, gt_iff_lt, ge_iff_le, Int.not_lt, Int.not_le] at h6
        refine DC.skp rfl rfl rfl ?_
        refine DC.skp rfl rfl rfl ?_
        refine DC.skp rfl rfl rfl ?_
        refine DC.skp rfl rfl rfl ?_
        refine DC.skp rfl rfl rfl ?_
        refine DC.skp rfl rfl rfl ?_
        refine DC.skp rfl rfl rfl ?_
        refine DC.skp rfl rfl rfl ?_
        refine DC.skp rfl rfl rfl ?_
        refine DC.skp rfl rfl rfl ?_
        refine DC.skp rfl rfl rfl ?_
        refine DC.skp rfl rfl rfl ?_
        refine DC.skp rfl rfl rfl ?_
        refine DC.skp rfl rfl rfl ?_
        refine DC.skp rfl rfl rfl ?_
        refine DC.skp rfl rfl rfl ?_
        refine DC.op rfl rfl rfl (fun _ => pk_t rfl rfl rfl) ?_
        refine DC.op rfl rfl rfl (fun _ => as_sc rfl) ?_
        refine DC.fin [(1, 0), (2, 0), (6, 0), (7, 0), (12, 0), (13, 0), (15, 0), (16, 0), (20, 0), (21, 0), (23, 0), (24, 0)] (by kernel_rfl) (by kernel_rfl) ?_ ?_
        · repeat (first | exact True.intro | refine And.intro ?_ ?_)
        · refine W.ret ?_
          refine ⟨.inl rfl, ?_⟩
          exact ret0 (Res.tmp rfl Res.nil) (.keep rfl)
      · try simp only [decide_eq_true_eq, decide_eq_false_iff_not, Bool.not_eq_true', Bool.not_eq_false', beq_iff_eq, bne_iff_ne, beq_eq_false_iff_ne, bne_eq_false_iff_eq, gt_iff_lt, ge_iff_le, Int.not_lt, Int.not_le] at h6
        refine DC.op rfl rfl rfl (fun _ => mv_im rfl) ?_
        refine DC.op rfl rfl rfl (fun _ => step_idxB (j := 10) Try.runUnderlying22 Try.sizeOf5 rfl rfl (by (exact rfl)) (by omega)) ?_
        refine DC.op rfl rfl rfl (fun _ => step_loadB Try.isAgg5 rfl (by omega)) ?_
        refine DC.op rfl rfl rfl (fun _ => mv_im rfl) ?_
        refine DC.op rfl rfl rfl (fun _ => step_idxB (j := 10) Try.runUnderlying22 Try.sizeOf5 rfl rfl (by (exact rfl)) (by omega)) ?_
        refine DC.op rfl rfl rfl (fun _ => step_loadB Try.isAgg5 rfl (by omega)) ?_
        refine DC.op rfl rfl rfl (fun _ => step_int2 rfl rfl rfl) ?_
        refine DC.op rfl rfl rfl (fun _ => mv_sc rfl) ?_
        refine DC.split 118 rfl (fun h7 => ?_) (fun h7 => ?_)
        · try simp only [decide_eq_true_eq, decide_eq_false_iff_not, Bool.not_eq_true', Bool.not_eq_false', beq_iff_eq, bne_iff_ne, beq_eq_false_iff_ne, bne_eq_false_iff_eq, gt_iff_lt, ge_iff_le, Int.not_lt, Int.not_le] at h7
          refine DC.op rfl rfl rfl (fun _ => mv_im rfl) ?_
          refine DC.op rfl rfl rfl (fun _ => step_idxB (j := 11) Try.runUnderlying22 Try.sizeOf5 rfl rfl (by (exact rfl)) (by omega)) ?_
          refine DC.op rfl rfl rfl (fun _ => step_loadB Try.isAgg5 rfl (by omega)) ?_
          refine DC.op rfl rfl rfl (fun _ => mv_im rfl) ?_
          refine DC.op rfl rfl rfl (fun _ => step_idxB (j := 11) Try.runUnderlying22 Try.sizeOf5 rfl rfl (by (exact rfl)) (by omega)) ?_
          refine DC.op rfl rfl rfl (fun _ => step_loadB Try.isAgg5 rfl (by omega)) ?_
          refine DC.op rfl rfl rfl (fun _ => step_int2 rfl rfl rfl) ?_
          refine DC.set 125 (.sc (.bool true)) (congrArg (fun b : Bool => AV.sc (.bool b)) (by exact decide_eq_true (by omega))) ?_
          refine DC.op rfl rfl rfl (fun _ => pk_t rfl rfl rfl) ?_
          refine DC.op rfl rfl rfl (fun _ => pk_f rfl rfl rfl) ?_
          refine DC.op rfl rfl rfl (fun _ => as_sc rfl) ?_
          refine DC.fin [(1, 0), (2, 0), (6, 0), (7, 0), (12, 0), (13, 0), (15, 0), (16, 0), (20, 0), (21, 0), (23, 0), (24, 0)] (by kernel_rfl) (by kernel_rfl) ?_ ?_
          · repeat (first | exact True.intro | refine And.intro ?_ ?_)
          · refine W.ret ?_
            refine ⟨.inl rfl, ?_⟩
            exact ret0 (Res.tmp rfl Res.nil) (.keep rfl)
        · try simp only [decide_eq_true_eq, decide_eq_false_iff_not, Bool.not_eq_true', Bool.not_eq_false', beq_iff_eq, bne_iff_ne, beq_eq_false_iff_ne, bne_eq_false_iff_eq, gt_iff_lt, ge_iff_le, Int.not_lt, Int.not_le] at h7
          exact False.elim (by omega)
    · try simp only [decide_eq_true_eq, decide_eq_false_iff_not, Bool.not_eq_true', Bool.not_eq_false', beq_iff_eq, bne_iff_ne, beq_eq_false_iff_ne, bne_eq_false_iff_eq, gt_iff_lt, ge_iff_le, Int.not_lt, Int.not_le] at h5
      refine DC.skp rfl rfl rfl ?_
      refine DC.skp rfl rfl rfl ?_
      refine DC.skp rfl rfl rfl ?_
      refine DC.skp rfl rfl rfl ?_
      refine DC.op rfl rfl rfl (fun _ => pk_f rfl rfl rfl) ?_
      refine DC.op rfl rfl rfl (fun _ => mv_sc rfl) ?_
      refine DC.op rfl rfl rfl (fun _ => mv_im rfl) ?_
      refine DC.op rfl rfl rfl (fun _ => step_idxB (j := 10) Try.runUnderlying22 Try.sizeOf5 rfl rfl (by (exact rfl)) (by omega)) ?_
      refine DC.op rfl rfl rfl (fun _ => step_loadB Try.isAgg5 rfl (by omega)) ?_
      refine DC.op rfl rfl rfl (fun _ => mv_im rfl) ?_
      refine DC.op rfl rfl rfl (fun _ => step_idxB (j := 10) Try.runUnderlying22 Try.sizeOf5 rfl rfl (by (exact rfl)) (by omega)) ?_
      refine DC.op rfl rfl rfl (fun _ => step_loadB Try.isAgg5 rfl (by omega)) ?_
      refine DC.op rfl rfl rfl (fun _ => step_int2 rfl rfl rfl) ?_
      refine DC.op rfl rfl rfl (fun _ => mv_sc rfl) ?_
      refine DC.split 118 rfl (fun h8 => ?_) (fun h8 => ?_)
      · try simp only [decide_eq_true_eq, decide_eq_false_iff_not, Bool.not_eq_true', Bool.not_eq_false', beq_iff_eq, bne_iff_ne, beq_eq_false_iff_ne, bne_eq_false_iff_eq, gt_iff_lt, ge_iff_le, Int.not_lt, Int.not_le] at h8
        refine DC.op rfl rfl rfl (fun _ => mv_im rfl) ?_
        refine DC.op rfl rfl rfl (fun _ => step_idxB (j := 11) Try.runUnderlying22 Try.sizeOf5 rfl rfl (by (exact rfl)) (by omega)) ?_
        refine DC.op rfl rfl rfl (fun _ => step_loadB Try.isAgg5 rfl (by omega)) ?_
        refine DC.op rfl rfl rfl (fun _ => mv_im rfl) ?_
        refine DC.op rfl rfl rfl (fun _ => step_idxB (j := 11) Try.runUnderlying22 Try.sizeOf5 rfl rfl (by (exact rfl)) (by omega)) ?_
        refine DC.op rfl rfl rfl (fun _ => step_loadB Try.isAgg5 rfl (by omega)) ?_
        refine DC.op rfl rfl rfl (fun _ => step_int2 rfl rfl rfl) ?_
        refine DC.set 125 (.sc (.bool true)) (congrArg (fun b : Bool => AV.sc (.bool b)) (by exact decide_eq_true (by omega))) ?_
        refine DC.op rfl rfl rfl (fun _ => pk_t rfl rfl rfl) ?_
        refine DC.op rfl rfl rfl (fun _ => pk_f rfl rfl rfl) ?_
        refine DC.op rfl rfl rfl (fun _ => as_sc rfl) ?_
        refine DC.fin [(1, 0), (2, 0), (6, 0), (7, 0), (12, 0), (13, 0), (15, 0), (16, 0), (20, 0), (21, 0), (23, 0), (24, 0)] (by kernel_rfl) (by kernel_rfl) ?_ ?_
        · repeat (first | exact True.intro | refine And.intro ?_ ?_)
        · refine W.ret ?_
          refine ⟨.inl rfl, ?_⟩
          exact ret0 (Res.tmp rfl Res.nil) (.keep rfl)
      · try simp only [decide_eq_true_eq, decide_eq_false_iff_not, Bool.not_eq_true', Bool.not_eq_false', beq_iff_eq, bne_iff_ne, beq_eq_false_iff_ne, bne_eq_false_iff_eq, gt_iff_lt, ge_iff_le, Int.not_lt, Int.not_le] at h8
        exact False.elim (by omega)

theorem w_IpDecodesX {l : List UInt8} (hl : l.length ≤ 200000000000000) (h : decE l ≠ 0) : Spec0 Try.prog 5 [.im 1 (l.map byteAV)] (.sc (.bool true)) := by
  refine Spec.body Try.func5 rfl (Nat.le_of_ble_eq_true rfl) ?_
  refine W.seq ?_
  refine W.region ?_
  refine WO.op rfl rfl rfl rfl (as_sc rfl) ?_
  refine WO.nil ?_
  refine W.seq ?_
  refine W.to [(0, _), (2, _)] [] rfl ⟨(by exact sh_im rfl), (by exact sh_sc rfl), trivial⟩ ?_
  refine W.region ?_
  refine WO.opA rfl rfl rfl rfl (al_buildSlice Try.runUnderlying22 (z := (Value.int IntKind.u8 0)) (bs := 1) (esz := 1) (EI.mk (by kernel_rfl)) rfl (by decide) rfl rfl) rfl rfl ?_
  refine WO.put 14 (.sl 0 0 _) rfl ?_
  refine WO.op rfl rfl rfl rfl (mv_im rfl) ?_
  refine WO.op rfl rfl rfl rfl (step_appE Try.runUnderlying22 (EI.mk (by kernel_rfl)) Try.runUnderlying22 (.inl ⟨_, rfl⟩) rfl rfl (Src.imB rfl) (by omega)) ?_
  refine WO.put 16 (.sl 1 0 _) rfl ?_
  refine WO.op rfl rfl rfl rfl (as_sl rfl) ?_
  refine WO.nil ?_
  refine W.seq ?_
  refine W.to [(0, _), (2, _), (3, _)] [_, _] rfl ⟨(by exact sh_im rfl), (by exact sh_sc rfl), (by exact sh_sl rfl), trivial⟩ ?_
  refine W.region ?_
  refine WO.op rfl rfl rfl rfl (mv_sl rfl) ?_
  refine WO.op rfl rfl rfl rfl (step_lent Try.call18 rfl (by (repeat (first | exact Bw.nil | refine Bw.slB rfl (by (exact take_whole (by omega))) (by (simp only [List.length_map, List.length_append, List.length_take, List.length_drop, List.length_set, List.length_cons, List.length_nil, List.length_replicate] <;> omega)) ?_))) (w_DecX hl h) (by repeat (rfl))) ?_
  refine WO.op rfl rfl rfl rfl (mv_tup rfl) ?_
  refine WO.op rfl rfl rfl rfl (step_extract rfl rfl) ?_
  refine WO.op rfl rfl rfl rfl (step_extract rfl rfl) ?_
  refine WO.op rfl rfl rfl rfl (step_extract rfl rfl) ?_
  refine WO.op rfl rfl rfl rfl (step_extract rfl rfl) ?_
  refine WO.opA rfl rfl rfl rfl (al_alloc Try.zeroValue31) rfl rfl ?_
  refine WO.put 4 (.ptr 2 0) rfl ?_
  refine WO.op0 rfl rfl rfl (step_storeA Try.sizeOf31 rfl rfl rfl (by repeat (exact all_cell rfl rfl)) rfl rfl) ?_
  refine WO.op rfl rfl rfl rfl (as_sc rfl) ?_
  refine WO.op rfl rfl rfl rfl (as_sc rfl) ?_
  refine WO.op rfl rfl rfl rfl (as_sc rfl) ?_
  refine WO.nil ?_
  refine W.seq ?_
  refine W.to [(0, _), (2, _), (3, _), (4, _), (5, _), (6, _), (7, _)] [_, _, _] rfl ⟨(by exact sh_im rfl), (by exact sh_sc rfl), (by exact sh_sl rfl), (by exact sh_ptr rfl), (by exact sh_sc rfl), (by exact sh_sc rfl), (by exact sh_sc rfl), trivial⟩ ?_
  refine W.region ?_
  refine WO.op rfl rfl rfl rfl (mv_im rfl) ?_
  refine WO.op rfl rfl rfl rfl (step_pure Try.call19 rfl (by (repeat (first | exact Nl.nil | refine Nl.keep (by exact noOwn_im) ?_))) (w_refDecX hl h) (by repeat (first | with_reducible refine noOwn_tup ?_ | with_reducible refine noOwn_agg ?_ | with_reducible exact noOwnL_nil | with_reducible refine noOwnL_cons ?_ ?_ | rfl))) ?_
  refine WO.op rfl rfl rfl rfl (mv_tup rfl) ?_
  refine WO.op rfl rfl rfl rfl (step_extract rfl rfl) ?_
  refine WO.op rfl rfl rfl rfl (step_extract rfl rfl) ?_
  refine WO.op rfl rfl rfl rfl (step_extract rfl rfl) ?_
  refine WO.op rfl rfl rfl rfl (step_extract rfl rfl) ?_
  refine WO.opA rfl rfl rfl rfl (al_alloc Try.zeroValue31) rfl rfl ?_
  refine WO.put 8 (.ptr 3 0) rfl ?_
  refine WO.op0 rfl rfl rfl (step_storeA Try.sizeOf31 rfl rfl rfl (by repeat (exact all_cell rfl rfl)) rfl rfl) ?_
  refine WO.op rfl rfl rfl rfl (as_sc rfl) ?_
  refine WO.op rfl rfl rfl rfl (as_sc rfl) ?_
  refine WO.op rfl rfl rfl rfl (as_sc rfl) ?_
  refine WO.nil ?_
  refine W.seq ?_
  refine W.seq ?_
  refine W.to [(0, _), (2, _), (3, _), (4, _), (5, _), (6, _), (7, _), (8, _), (9, _), (10, _), (11, _)] [_, _, _, _] rfl ⟨(by exact sh_im rfl), (by exact sh_sc rfl), (by exact sh_sl rfl), (by exact sh_ptr rfl), (by exact sh_sc rfl), (by exact sh_sc rfl), (by exact sh_sc rfl), (by exact sh_ptr rfl), (by exact sh_sc rfl), (by exact sh_sc rfl), (by exact sh_sc rfl), trivial⟩ ?_
  refine W.region ?_
  refine WO.op rfl rfl rfl rfl (step_pure Try.call10 rfl (by (repeat (exact Nl.nil))) (w_lives) (by repeat (rfl))) ?_
  refine WO.op rfl rfl rfl rfl (step_not rfl) ?_
  refine WO.put 32 (.sc (.bool false)) (rfl) ?_
  refine WO.op rfl rfl rfl rfl (mv_sc rfl) ?_
  refine WO.op rfl rfl rfl rfl (step_loadA Try.isAgg31 Try.sizeOf31 rfl rfl (by exact Nat.le_refl _)) ?_
  refine WO.put 34 (.agg (ip0)) (by kernel_rfl) ?_
  refine WO.op rfl rfl rfl rfl (step_loadA Try.isAgg31 Try.sizeOf31 rfl rfl (by exact Nat.le_refl _)) ?_
  refine WO.put 35 (.agg (ip0)) (by kernel_rfl) ?_
  refine WO.op rfl rfl rfl rfl (ne_Ip (a0 := 0) (a1 := 0) (a2 := 0) (a3 := 0) (a4 := 0) (a5 := 0) (a6 := 0) (a7 := ⟨#[]⟩) (by constructor <;> decide) (by constructor <;> decide) (by constructor <;> decide) (by constructor <;> decide) (by constructor <;> decide) (by constructor <;> decide) (by constructor <;> decide) (by decide) rfl rfl) ?_
  refine WO.put 36 (.sc (.bool false)) (rfl) ?_
  refine WO.op rfl rfl rfl rfl (pk_f rfl rfl rfl) ?_
  refine WO.op rfl rfl rfl rfl (mv_sc rfl) ?_
  refine WO.op rfl rfl rfl rfl (mv_sc rfl) ?_
  refine WO.op rfl rfl rfl rfl (mv_sc rfl) ?_
  refine WO.op rfl rfl rfl rfl (step_int2 rfl rfl rfl) ?_
  refine WO.put 41 (.sc (.bool false)) (congrArg (fun b : Bool => AV.sc (.bool b)) (by rfl)) ?_
  refine WO.op rfl rfl rfl rfl (pk_f rfl rfl rfl) ?_
  refine WO.op rfl rfl rfl rfl (mv_sc rfl) ?_
  refine WO.op rfl rfl rfl rfl (mv_sc rfl) ?_
  refine WO.op rfl rfl rfl rfl (mv_sc rfl) ?_
  refine WO.op rfl rfl rfl rfl (step_int2 rfl rfl rfl) ?_
  refine WO.put 46 (.sc (.bool false)) (congrArg (fun b : Bool => AV.sc (.bool b)) (by rfl)) ?_
  refine WO.op rfl rfl rfl rfl (pk_f rfl rfl rfl) ?_
  refine WO.op rfl rfl rfl rfl (mv_sc rfl) ?_
  refine WO.op rfl rfl rfl rfl (mv_sc rfl) ?_
  refine WO.op rfl rfl rfl rfl (mv_sc rfl) ?_
  refine WO.op rfl rfl rfl rfl (step_int2 rfl rfl rfl) ?_
  refine WO.put 51 (.sc (.bool false)) (congrArg (fun b : Bool => AV.sc (.bool b)) (by simp)) ?_
  refine WO.op rfl rfl rfl rfl (pk_f rfl rfl rfl) ?_
  refine WO.op rfl rfl rfl rfl (mv_sc rfl) ?_
  refine WO.op rfl rfl rfl rfl (mv_sl rfl) ?_
  refine WO.op rfl rfl rfl rfl (step_strO Try.underlying22 Try.underlying5 Try.underlying9 rfl rfl (by (exact take_whole (by omega))) (by (simp only [List.length_map, List.length_append, List.length_take, List.length_drop, List.length_set, List.length_cons, List.length_nil, List.length_replicate] <;> omega))) ?_
  refine WO.op rfl rfl rfl rfl (mv_im rfl) ?_
  refine WO.op rfl rfl rfl rfl (step_strI Try.underlying22 Try.underlying5 Try.underlying9 rfl) ?_
  refine WO.op rfl rfl rfl rfl (step_str2 rfl rfl rfl) ?_
  refine WO.put 58 (.sc (.bool false)) (congrArg (fun b : Bool => AV.sc (.bool b)) (by simp)) ?_
  refine WO.op rfl rfl rfl rfl (pk_f rfl rfl rfl) ?_
  refine WO.nil ?_
  refine W.condF rfl ?_
  refine W.skip ?_
  refine W.seq ?_
  refine W.seq ?_
  refine W.to [(0, _), (2, _), (3, _), (4, _), (5, _), (6, _), (7, _), (8, _), (9, _), (10, _), (11, _), (59, _)] [_, _, _, _] rfl ⟨(by exact sh_im rfl), (by exact sh_sc rfl), (by exact sh_sl rfl), (by exact sh_ptr rfl), (by exact sh_sc rfl), (by exact sh_sc rfl), (by exact sh_sc rfl), (by exact sh_ptr rfl), (by exact sh_sc rfl), (by exact sh_sc rfl), (by exact sh_sc rfl), (by exact sh_sc rfl), trivial⟩ ?_
  refine W.region ?_
  refine WO.op rfl rfl rfl rfl (mv_sc rfl) ?_
  refine WO.op rfl rfl rfl rfl (step_int2 rfl rfl rfl) ?_
  refine WO.put 61 (.sc (.bool true)) (congrArg (fun b : Bool => AV.sc (.bool b)) (by (simp; omega))) ?_
  refine WO.nil ?_
  refine W.condT rfl ?_
  refine W.seq ?_
  refine W.to [(0, _), (2, _), (3, _), (4, _), (5, _), (6, _), (7, _), (8, _), (9, _), (10, _), (11, _), (59, _), (61, _)] [_, _, _, _] rfl ⟨(by exact sh_im rfl), (by exact sh_sc rfl), (by exact sh_sl rfl), (by exact sh_ptr rfl), (by exact sh_sc rfl), (by exact sh_sc rfl), (by exact sh_sc rfl), (by exact sh_ptr rfl), (by exact sh_sc rfl), (by exact sh_sc rfl), (by exact sh_sc rfl), (by exact sh_sc rfl), (by exact sh_sc rfl), trivial⟩ ?_
  refine W.region ?_
  refine WO.op rfl rfl rfl rfl (as_sc rfl) ?_
  refine WO.nil ?_
  refine W.ret ?_
  refine ⟨.inl rfl, ?_⟩
  exact ret0 (Res.tmp rfl Res.nil) (.keep rfl)


theorem w_IpDecodes {l : List UInt8} (hl : l.length ≤ 200000000000000) : Spec0 Try.prog 5 [.im 1 (l.map byteAV)] (.sc (.bool true)) := by
  by_cases h : decE l = 0
  · exact w_IpDecodesG hl h
  · exact w_IpDecodesX hl h

end Go.Proofs.Ytejoccabclibeaa
