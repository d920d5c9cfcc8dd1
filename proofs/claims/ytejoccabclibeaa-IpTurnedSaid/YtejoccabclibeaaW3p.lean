/-
  Contracts of functions of chapter 03: each theorem says what a call of one function answers, for all arguments that its hypotheses let in.
-/
import Derived.Test.YtejoccabclibeaaW3o
import Derived.Test.YtejoccabclibeaaW3e
import Derived.Test.YtejoccabclibeaaW3m
set_option linter.unusedVariables false
set_option linter.unusedSimpArgs false
set_option maxRecDepth 100000
set_option maxHeartbeats 1000000
namespace Go.Proofs.Ytejoccabclibeaa
open Go Go.SL Go.Proofs
theorem w_IpTurnedG {a0 a1 a2 a3 a4 a5 a6 : Nat} {bit : Int} {a7 : ByteArray} (h0 : a0 ≤ 255) (h3 : a3 ≤ 255) (h4 : a4 ≤ 255) (h1 : a1 ≤ 65535) (h2 : a2 ≤ 65535) (h5 : a5 < 4294967296) (h6 : a6 < 4294967296) (hs : a7.size ≤ 40) (h8 : a7.size % 4 = 0) (hd : 0 + 20 + a7.size ≤ 65535) (hbit : -9223372036854775808 ≤ bit ∧ bit ≤ 9223372036854775807) : Spec0 Try.prog 7 [.agg [.sc (.int .i64 ((a0 : Nat) : Int)), .sc (.int .i64 ((a1 : Nat) : Int)), .sc (.int .i64 ((a2 : Nat) : Int)), .sc (.int .i64 ((a3 : Nat) : Int)), .sc (.int .i64 ((a4 : Nat) : Int)), .sc (.int .u32 ((a5 : Nat) : Int)), .sc (.int .u32 ((a6 : Nat) : Int)), .sc (.string a7)], .sc (.int .i64 bit)] (.sc (.bool true)) := by
  refine Spec.body Try.func7 rfl (Nat.le_of_ble_eq_true rfl) ?_
  have k0 := h0
  have k1 := h1
  have k2 := h2
  have k3 := h3
  have k4 := h4
  have k5 := h5
  have k6 := h6
  have hoz : a7.data.toList.length = a7.size := by rw [Array.length_toList]; rfl
  obtain ⟨kk, hkk⟩ : ∃ k : Int, k = bit.tmod (8 * ((20 + a7.size : Nat) - 1 : Int)) := ⟨_, rfl⟩
  have hrng := tmod_rng (x := bit) (m := 8 * ((20 + a7.size : Nat) - 1 : Int)) (by omega)
  rw [← hkk] at hrng
  refine W.seq ?_
  refine W.region ?_
  refine WO.opA rfl rfl rfl rfl (al_boxA rfl rfl) rfl rfl ?_
  refine WO.put 2 (.ptr 0 0) rfl ?_
  refine WO.op rfl rfl rfl rfl (as_sc rfl) ?_
  refine WO.nil ?_
  refine W.seq ?_
  refine W.to [(0, _), (1, _), (2, _), (4, _)] [_] rfl ⟨(by exact sh_agg rfl), (by exact sh_sc rfl), (by exact sh_ptr rfl), (by exact sh_sc rfl), trivial⟩ ?_
  refine W.region ?_
  refine WO.op rfl rfl rfl rfl (step_loadA Try.isAgg31 Try.sizeOf31 rfl rfl (by exact Nat.le_refl _)) ?_
  refine WO.op rfl rfl rfl rfl (step_own Try.call12 rfl (by repeat (first | exact Nl.nil | refine Nl.keep rfl ?_)) (w_EncO0 h0 h3 h4 h1 h2 h5 h6 hs h8 hd) noOwn_bytes rfl) ?_
  skip
  refine WO.op rfl rfl rfl rfl (mv_tup rfl) ?_
  refine WO.op rfl rfl rfl rfl (step_extract rfl rfl) ?_
  refine WO.op rfl rfl rfl rfl (step_extract rfl rfl) ?_
  refine WO.op rfl rfl rfl rfl (as_sl rfl) ?_
  refine WO.op rfl rfl rfl rfl (as_sc rfl) ?_
  refine WO.nil ?_
  refine W.seq ?_
  refine W.seq ?_
  refine W.to [(0, _), (1, _), (2, _), (4, _), (5, _), (6, _)] [_, _] rfl ⟨(by exact sh_agg rfl), (by exact sh_sc rfl), (by exact sh_ptr rfl), (by exact sh_sc rfl), (by exact sh_sl rfl), (by exact sh_sc rfl), trivial⟩ ?_
  refine W.region ?_
  refine WO.op rfl rfl rfl rfl (step_pure Try.call10 rfl (by (repeat (exact Nl.nil))) (w_lives) (by repeat (rfl))) ?_
  refine WO.op rfl rfl rfl rfl (step_not rfl) ?_
  refine WO.put 14 (.sc (.bool false)) (rfl) ?_
  refine WO.nil ?_
  refine W.condF rfl ?_
  refine W.skip ?_
  refine W.seq ?_
  refine W.seq ?_
  refine W.to [(0, _), (1, _), (2, _), (4, _), (5, _), (6, _), (14, _)] [_, _] rfl ⟨(by exact sh_agg rfl), (by exact sh_sc rfl), (by exact sh_ptr rfl), (by exact sh_sc rfl), (by exact sh_sl rfl), (by exact sh_sc rfl), (by exact sh_sc rfl), trivial⟩ ?_
  refine W.region ?_
  refine WO.op rfl rfl rfl rfl (mv_sc rfl) ?_
  refine WO.op rfl rfl rfl rfl (step_int2 rfl rfl rfl) ?_
  refine WO.put 16 (.sc (.bool false)) (by kernel_rfl) ?_
  refine WO.nil ?_
  refine W.condF rfl ?_
  refine W.skip ?_
  refine W.seq ?_
  refine W.to [(0, _), (1, _), (2, _), (4, _), (5, _), (6, _), (14, _), (16, _)] [_, _] rfl ⟨(by exact sh_agg rfl), (by exact sh_sc rfl), (by exact sh_ptr rfl), (by exact sh_sc rfl), (by exact sh_sl rfl), (by exact sh_sc rfl), (by exact sh_sc rfl), (by exact sh_sc rfl), trivial⟩ ?_
  refine W.gatC [_] [] _ rfl rfl ?_
  intro L1 hL1
  have hl1 : L1.length = 20 + a7.size := by rw [hL1]; simp only [List.length_set, encB_len, hoz]
  refine W.region ?_
  refine WO.op rfl rfl rfl rfl (mv_sc rfl) ?_
  refine WO.op rfl rfl rfl rfl (mv_sl rfl) ?_
  refine WO.op rfl rfl rfl rfl (step_lenL Try.runUnderlying22 rfl rfl) ?_
  refine WO.op rfl rfl rfl rfl (step_subN (q := 1) rfl rfl (by omega) (by (simp only [cap]; omega))) ?_
  refine WO.op rfl rfl rfl rfl (step_mulN (p := 8) rfl rfl (by (simp only [cap]; omega))) ?_
  refine WO.op rfl rfl rfl rfl (step_rem rfl rfl (by omega)) ?_
  refine WO.put 25 (.sc (.int .i64 kk)) (congrArg (fun z : Int => AV.sc (.int .i64 z)) (by (rw [hkk]; congr 1; omega))) ?_
  refine WO.op rfl rfl rfl rfl (as_sc rfl) ?_
  refine WO.nil ?_
  refine W.seq ?_
  refine W.seq ?_
  refine W.to [(0, _), (1, _), (2, _), (4, _), (5, _), (6, _), (7, _), (14, _), (16, _)] [_, _] rfl ⟨(by exact sh_agg rfl), (by exact sh_sc rfl), (by exact sh_ptr rfl), (by exact sh_sc rfl), (by exact sh_sl rfl), (by exact sh_sc rfl), (by exact sh_sc rfl), (by exact sh_sc rfl), (by exact sh_sc rfl), trivial⟩ ?_
  refine W.region ?_
  refine WO.op rfl rfl rfl rfl (mv_sc rfl) ?_
  refine WO.op rfl rfl rfl rfl (step_int2 rfl rfl rfl) ?_
  refine WO.nil ?_
  refine W.cond rfl (fun h1 => ?_) (fun h1 => ?_)
  · try simp only [decide_eq_true_eq, decide_eq_false_iff_not, Bool.not_eq_true', Bool.not_eq_false', beq_iff_eq, bne_iff_ne, beq_eq_false_iff_ne, bne_eq_false_iff_eq, gt_iff_lt, ge_iff_le, Int.not_lt, Int.not_le] at h1
    obtain ⟨j, hj⟩ : ∃ j : Nat, kk + 8 * ((20 + a7.size : Nat) - 1 : Int) + 8 = (j : Int) := ⟨(kk + 8 * ((20 + a7.size : Nat) - 1 : Int) + 8).toNat, by omega⟩
    have hj1 : 8 ≤ j := by omega
    have hj2 : j < 8 * (20 + a7.size) := by omega
    refine W.to [(0, _), (1, _), (2, _), (4, _), (5, _), (6, _), (7, _), (14, _), (16, _), (27, _)] [_, _] rfl ⟨(by exact sh_agg rfl), (by exact sh_sc rfl), (by exact sh_ptr rfl), (by exact sh_sc rfl), (by exact sh_sl rfl), (by exact sh_sc rfl), (by exact sh_sc rfl), (by exact sh_sc rfl), (by exact sh_sc rfl), (by exact sh_sc rfl), trivial⟩ ?_
    refine W.region ?_
    refine WO.op rfl rfl rfl rfl (mv_sc rfl) ?_
    refine WO.op rfl rfl rfl rfl (mv_sl rfl) ?_
    refine WO.op rfl rfl rfl rfl (step_lenL Try.runUnderlying22 rfl rfl) ?_
    refine WO.op rfl rfl rfl rfl (step_subN (q := 1) rfl rfl (by omega) (by (simp only [cap]; omega))) ?_
    refine WO.op rfl rfl rfl rfl (step_mulN (p := 8) rfl rfl (by (simp only [cap]; omega))) ?_
    refine WO.op rfl rfl rfl rfl (step_int2 rfl rfl (int2_add (by exact IntWalk.i64_in _ (by omega)))) ?_
    refine WO.op rfl rfl rfl rfl (as_sc rfl) ?_
    refine WO.nil ?_
    refine W.seq ?_
    refine W.to [(0, _), (1, _), (2, _), (4, _), (5, _), (6, _), (7, _), (14, _), (16, _), (27, _)] [_, _] rfl ⟨(by exact sh_agg rfl), (by exact sh_sc rfl), (by exact sh_ptr rfl), (by exact sh_sc rfl), (by exact sh_sl rfl), (by exact sh_sc rfl), (by exact sh_sc rfl), (by exact sh_sc rfl), (by exact sh_sc rfl), (by exact sh_sc rfl), trivial⟩ ?_
    refine W.region ?_
    refine WO.op rfl rfl rfl rfl (mv_sc rfl) ?_
    refine WO.op rfl rfl rfl rfl (step_int2 rfl rfl (int2_add (by exact IntWalk.i64_in _ (by omega)))) ?_
    refine WO.put 35 (.sc (.int .i64 ((j : Nat) : Int))) (congrArg (fun z : Int => AV.sc (.int .i64 z)) (by omega)) ?_
    refine WO.op rfl rfl rfl rfl (as_sc rfl) ?_
    refine WO.nil ?_
    refine W.seq ?_
    refine W.to [(0, _), (1, _), (2, _), (4, _), (5, _), (6, _), (7, _), (14, _), (16, _), (27, _)] [_, _] rfl ⟨(by exact sh_agg rfl), (by exact sh_sc rfl), (by exact sh_ptr rfl), (by exact sh_sc rfl), (by exact sh_sl rfl), (by exact sh_sc rfl), (by exact sh_sc rfl), (by exact sh_sc rfl), (by exact sh_sc rfl), (by exact sh_sc rfl), trivial⟩ ?_
    have hby := byte_le (L1.getD (j / 8) 0)
    refine W.draw (Checked.mixed Try.checked) ?_
    refine DC.op rfl rfl rfl (fun _ => mv_sl rfl) ?_
    refine DC.op rfl rfl rfl (fun _ => mv_sc rfl) ?_
    refine DC.op rfl rfl rfl (fun _ => step_quoN (q := 8) rfl rfl (by omega) (by (simp only [cap]; omega))) ?_
    refine DC.op rfl rfl rfl (fun _ => mv_sl rfl) ?_
    refine DC.op rfl rfl rfl (fun _ => mv_sc rfl) ?_
    refine DC.op rfl rfl rfl (fun _ => step_quoN (q := 8) rfl rfl (by omega) (by (simp only [cap]; omega))) ?_
    refine DC.op1 rfl rfl rfl rfl (fun _ ho => step_idxO Try.runUnderlying22 Try.sizeOf5 rfl ho rfl (by (exact rfl)) (by omega) (by exact Nat.zero_add _)) ?_
    refine DC.op1 rfl rfl rfl rfl (fun _ ho => step_loadO Try.isAgg5 rfl ho (by omega)) ?_
    refine DC.op rfl rfl rfl (fun _ => mv_sc rfl) ?_
    refine DC.op rfl rfl rfl (fun _ => step_remN (q := 8) rfl rfl (by omega)) ?_
    refine DC.op rfl rfl rfl (fun _ => step_shl rfl rfl (by omega)) ?_
    refine DC.set 46 (.sc (.int .u8 ((1 * 2 ^ (j % 8) % 256 : Nat) : Int))) (congrArg (fun z : Int => AV.sc (.int .u8 z)) (shl8 (by omega))) ?_
    refine DC.op rfl rfl rfl (fun _ => step_xorN rfl rfl (by (simp only [cap]; omega)) (by (simp only [cap]; omega))) ?_
    refine DC.set 47 (.sc (.int .u8 (((UInt8.ofNat ((L1.getD (j / 8) 0).toNat ^^^ (1 * 2 ^ (j % 8) % 256))).toNat : Nat) : Int))) (congrArg (fun z : Nat => AV.sc (.int .u8 (z : Int))) (xor_u8 (j := j) hby).symm) ?_
    refine DC.op1 rfl rfl rfl rfl (fun _ ho => step_idxO Try.runUnderlying22 Try.sizeOf5 rfl ho rfl (by (exact rfl)) (by omega) (by exact Nat.zero_add _)) ?_
    refine DC.opE0 rfl rfl (step_storeB (b := _) Try.sizeOf5 rfl rfl rfl (by (exact rfl)) (by omega)) (by simp) (by repeat (first | exact True.intro | refine And.intro (by rfl) ?_)) (by repeat (first | exact True.intro | refine And.intro (by first | exact rowLt_bytes | rfl) ?_)) ?_
    refine DC.fin [(6, 0), (7, 0), (12, 0)] (by kernel_rfl) (by kernel_rfl) ?_ ?_
    · repeat (first | exact True.intro | refine And.intro ?_ ?_ | kernel_rfl)
    · refine W.seq ?_
      refine W.to [(0, _), (1, _), (2, _), (4, _), (5, _), (6, _), (7, _), (14, _), (16, _), (27, _)] [_, _] rfl ⟨(by exact sh_agg rfl), (by exact sh_sc rfl), (by exact sh_ptr rfl), (by exact sh_sc rfl), (by exact sh_sl rfl), (by exact sh_sc rfl), (by exact sh_sc rfl), (by exact sh_sc rfl), (by exact sh_sc rfl), (by exact sh_sc rfl), trivial⟩ ?_
      refine W.gatC [_] [] _ rfl rfl ?_
      intro L2 hL2
      have hl2 : L2.length = 20 + a7.size := by rw [hL2]; simp only [List.length_set, encB_len, hl1]
      have hne : decE L2 ≠ 0 := by rw [hL2]; exact turned (d := 0) k0 k3 k4 k1 k2 k5 k6 (by omega) (by omega) hL1 (by omega) (by omega) (by omega)
      refine W.region ?_
      refine WO.op rfl rfl rfl rfl (mv_sl rfl) ?_
      refine WO.op rfl rfl rfl rfl (step_lent Try.call18 rfl (by (repeat (first | exact Bw.nil | refine Bw.slB rfl (by (exact take_whole (by omega))) (by (simp only [List.length_map, List.length_append, List.length_take, List.length_drop, List.length_set, List.length_cons, List.length_nil, List.length_replicate] <;> omega)) ?_))) (w_DecX (by omega) hne) (by repeat (rfl))) ?_
      refine WO.op rfl rfl rfl rfl (mv_tup rfl) ?_
      refine WO.op rfl rfl rfl rfl (step_extract rfl rfl) ?_
      refine WO.op rfl rfl rfl rfl (step_extract rfl rfl) ?_
      refine WO.op rfl rfl rfl rfl (step_extract rfl rfl) ?_
      refine WO.op rfl rfl rfl rfl (step_extract rfl rfl) ?_
      refine WO.op rfl rfl rfl rfl (as_sc rfl) ?_
      refine WO.nil ?_
      refine W.seq ?_
      refine W.to [(0, _), (1, _), (2, _), (4, _), (5, _), (6, _), (7, _), (14, _), (16, _), (27, _)] [_, _] rfl ⟨(by exact sh_agg rfl), (by exact sh_sc rfl), (by exact sh_ptr rfl), (by exact sh_sc rfl), (by exact sh_sl rfl), (by exact sh_sc rfl), (by exact sh_sc rfl), (by exact sh_sc rfl), (by exact sh_sc rfl), (by exact sh_sc rfl), trivial⟩ ?_
      refine W.region ?_
      refine WO.op rfl rfl rfl rfl (mv_sc rfl) ?_
      refine WO.op rfl rfl rfl rfl (step_int2 rfl rfl rfl) ?_
      refine WO.put 57 (.sc (.bool true)) (congrArg (fun b : Bool => AV.sc (.bool b)) (by simp; omega)) ?_
      refine WO.op rfl rfl rfl rfl (as_sc rfl) ?_
      refine WO.nil ?_
      refine W.ret ?_
      refine ⟨.inl rfl, ?_⟩
      exact ret0 (Res.tmp rfl Res.nil) (.keep rfl)
  · try simp only [decide_eq_true_eq, decide_eq_false_iff_not, Bool.not_eq_true', Bool.not_eq_false', beq_iff_eq, bne_iff_ne, beq_eq_false_iff_ne, bne_eq_false_iff_eq, gt_iff_lt, ge_iff_le, Int.not_lt, Int.not_le] at h1
    obtain ⟨j, hj⟩ : ∃ j : Nat, kk + 8 = (j : Int) := ⟨(kk + 8).toNat, by omega⟩
    have hj1 : 8 ≤ j := by omega
    have hj2 : j < 8 * (20 + a7.size) := by omega
    refine W.skip ?_
    refine W.seq ?_
    refine W.to [(0, _), (1, _), (2, _), (4, _), (5, _), (6, _), (7, _), (14, _), (16, _), (27, _)] [_, _] rfl ⟨(by exact sh_agg rfl), (by exact sh_sc rfl), (by exact sh_ptr rfl), (by exact sh_sc rfl), (by exact sh_sl rfl), (by exact sh_sc rfl), (by exact sh_sc rfl), (by exact sh_sc rfl), (by exact sh_sc rfl), (by exact sh_sc rfl), trivial⟩ ?_
    refine W.region ?_
    refine WO.op rfl rfl rfl rfl (mv_sc rfl) ?_
    refine WO.op rfl rfl rfl rfl (step_int2 rfl rfl (int2_add (by exact IntWalk.i64_in _ (by omega)))) ?_
    refine WO.put 35 (.sc (.int .i64 ((j : Nat) : Int))) (congrArg (fun z : Int => AV.sc (.int .i64 z)) (by exact hj)) ?_
    refine WO.op rfl rfl rfl rfl (as_sc rfl) ?_
    refine WO.nil ?_
    refine W.seq ?_
    refine W.to [(0, _), (1, _), (2, _), (4, _), (5, _), (6, _), (7, _), (14, _), (16, _), (27, _)] [_, _] rfl ⟨(by exact sh_agg rfl), (by exact sh_sc rfl), (by exact sh_ptr rfl), (by exact sh_sc rfl), (by exact sh_sl rfl), (by exact sh_sc rfl), (by exact sh_sc rfl), (by exact sh_sc rfl), (by exact sh_sc rfl), (by exact sh_sc rfl), trivial⟩ ?_
    have hby := byte_le (L1.getD (j / 8) 0)
    refine W.draw (Checked.mixed Try.checked) ?_
    refine DC.op rfl rfl rfl (fun _ => mv_sl rfl) ?_
    refine DC.op rfl rfl rfl (fun _ => mv_sc rfl) ?_
    refine DC.op rfl rfl rfl (fun _ => step_quoN (q := 8) rfl rfl (by omega) (by (simp only [cap]; omega))) ?_
    refine DC.op rfl rfl rfl (fun _ => mv_sl rfl) ?_
    refine DC.op rfl rfl rfl (fun _ => mv_sc rfl) ?_
    refine DC.op rfl rfl rfl (fun _ => step_quoN (q := 8) rfl rfl (by omega) (by (simp only [cap]; omega))) ?_
    refine DC.op1 rfl rfl rfl rfl (fun _ ho => step_idxO Try.runUnderlying22 Try.sizeOf5 rfl ho rfl (by (exact rfl)) (by omega) (by exact Nat.zero_add _)) ?_
    refine DC.op1 rfl rfl rfl rfl (fun _ ho => step_loadO Try.isAgg5 rfl ho (by omega)) ?_
    refine DC.op rfl rfl rfl (fun _ => mv_sc rfl) ?_
    refine DC.op rfl rfl rfl (fun _ => step_remN (q := 8) rfl rfl (by omega)) ?_
    refine DC.op rfl rfl rfl (fun _ => step_shl rfl rfl (by omega)) ?_
    refine DC.set 46 (.sc (.int .u8 ((1 * 2 ^ (j % 8) % 256 : Nat) : Int))) (congrArg (fun z : Int => AV.sc (.int .u8 z)) (shl8 (by omega))) ?_
    refine DC.op rfl rfl rfl (fun _ => step_xorN rfl rfl (by (simp only [cap]; omega)) (by (simp only [cap]; omega))) ?_
    refine DC.set 47 (.sc (.int .u8 (((UInt8.ofNat ((L1.getD (j / 8) 0).toNat ^^^ (1 * 2 ^ (j % 8) % 256))).toNat : Nat) : Int))) (congrArg (fun z : Nat => AV.sc (.int .u8 (z : Int))) (xor_u8 (j := j) hby).symm) ?_
    refine DC.op1 rfl rfl rfl rfl (fun _ ho => step_idxO Try.runUnderlying22 Try.sizeOf5 rfl ho rfl (by (exact rfl)) (by omega) (by exact Nat.zero_add _)) ?_
    refine DC.opE0 rfl rfl (step_storeB (b := _) Try.sizeOf5 rfl rfl rfl (by (exact rfl)) (by omega)) (by simp) (by repeat (first | exact True.intro | refine And.intro (by rfl) ?_)) (by repeat (first | exact True.intro | refine And.intro (by first | exact rowLt_bytes | rfl) ?_)) ?_
    refine DC.fin [(6, 0), (7, 0), (12, 0)] (by kernel_rfl) (by kernel_rfl) ?_ ?_
    · repeat (first | exact True.intro | refine And.intro ?_ ?_ | kernel_rfl)
    · refine W.seq ?_
      refine W.to [(0, _), (1, _), (2, _), (4, _), (5, _), (6, _), (7, _), (14, _), (16, _), (27, _)] [_, _] rfl ⟨(by exact sh_agg rfl), (by exact sh_sc rfl), (by exact sh_ptr rfl), (by exact sh_sc rfl), (by exact sh_sl rfl), (by exact sh_sc rfl), (by exact sh_sc rfl), (by exact sh_sc rfl), (by exact sh_sc rfl), (by exact sh_sc rfl), trivial⟩ ?_
      refine W.gatC [_] [] _ rfl rfl ?_
      intro L2 hL2
      have hl2 : L2.length = 20 + a7.size := by rw [hL2]; simp only [List.length_set, encB_len, hl1]
      have hne : decE L2 ≠ 0 := by rw [hL2]; exact turned (d := 0) k0 k3 k4 k1 k2 k5 k6 (by omega) (by omega) hL1 (by omega) (by omega) (by omega)
      refine W.region ?_
      refine WO.op rfl rfl rfl rfl (mv_sl rfl) ?_
      refine WO.op rfl rfl rfl rfl (step_lent Try.call18 rfl (by (repeat (first | exact Bw.nil | refine Bw.slB rfl (by (exact take_whole (by omega))) (by (simp only [List.length_map, List.length_append, List.length_take, List.length_drop, List.length_set, List.length_cons, List.length_nil, List.length_replicate] <;> omega)) ?_))) (w_DecX (by omega) hne) (by repeat (rfl))) ?_
      refine WO.op rfl rfl rfl rfl (mv_tup rfl) ?_
      refine WO.op rfl rfl rfl rfl (step_extract rfl rfl) ?_
      refine WO.op rfl rfl rfl rfl (step_extract rfl rfl) ?_
      refine WO.op rfl rfl rfl rfl (step_extract rfl rfl) ?_
      refine WO.op rfl rfl rfl rfl (step_extract rfl rfl) ?_
      refine WO.op rfl rfl rfl rfl (as_sc rfl) ?_
      refine WO.nil ?_
      refine W.seq ?_
      refine W.to [(0, _), (1, _), (2, _), (4, _), (5, _), (6, _), (7, _), (14, _), (16, _), (27, _)] [_, _] rfl ⟨(by exact sh_agg rfl), (by exact sh_sc rfl), (by exact sh_ptr rfl), (by exact sh_sc rfl), (by exact sh_sl rfl), (by exact sh_sc rfl), (by exact sh_sc rfl), (by exact sh_sc rfl), (by exact sh_sc rfl), (by exact sh_sc rfl), trivial⟩ ?_
      refine W.region ?_
      refine WO.op rfl rfl rfl rfl (mv_sc rfl) ?_
      refine WO.op rfl rfl rfl rfl (step_int2 rfl rfl rfl) ?_
      refine WO.put 57 (.sc (.bool true)) (congrArg (fun b : Bool => AV.sc (.bool b)) (by simp; omega)) ?_
      refine WO.op rfl rfl rfl rfl (as_sc rfl) ?_
      refine WO.nil ?_
      refine W.ret ?_
      refine ⟨.inl rfl, ?_⟩
      exact ret0 (Res.tmp rfl Res.nil) (.keep rfl)

theorem w_IpTurnedX {a0 a1 a2 a3 a4 a5 a6 bit : Int} {a7 : ByteArray} (hz : a7.size ≤ 200000000000000)  (h : ¬ encOK a0 a1 a2 a3 a4 a7 0) : Spec0 Try.prog 7 [.agg [.sc (.int .i64 a0), .sc (.int .i64 a1), .sc (.int .i64 a2), .sc (.int .i64 a3), .sc (.int .i64 a4), .sc (.int .u32 a5), .sc (.int .u32 a6), .sc (.string a7)], .sc (.int .i64 bit)] (.sc (.bool true)) := by
  refine Spec.body Try.func7 rfl (Nat.le_of_ble_eq_true rfl) ?_
  refine W.seq ?_
  refine W.region ?_
  refine WO.opA rfl rfl rfl rfl (al_boxA rfl rfl) rfl rfl ?_
  refine WO.put 2 (.ptr 0 0) rfl ?_
  refine WO.op rfl rfl rfl rfl (as_sc rfl) ?_
  refine WO.nil ?_
  refine W.seq ?_
  refine W.to [(0, _), (1, _), (2, _), (4, _)] [_] rfl ⟨(by exact sh_agg rfl), (by exact sh_sc rfl), (by exact sh_ptr rfl), (by exact sh_sc rfl), trivial⟩ ?_
  refine W.region ?_
  refine WO.op rfl rfl rfl rfl (step_loadA Try.isAgg31 Try.sizeOf31 rfl rfl (by exact Nat.le_refl _)) ?_
  refine WO.op rfl rfl rfl rfl (step_pure Try.call12 rfl (by (repeat (first | exact Nl.nil | refine Nl.keep (by rfl) ?_))) (w_EncX (d := 0) hz (by decide) h) (by repeat (first | with_reducible exact noOwn_im | with_reducible refine noOwn_tup ?_ | with_reducible exact noOwnL_nil | with_reducible refine noOwnL_cons ?_ ?_ | rfl))) ?_
  refine WO.op rfl rfl rfl rfl (mv_tup rfl) ?_
  refine WO.op rfl rfl rfl rfl (step_extract rfl rfl) ?_
  refine WO.op rfl rfl rfl rfl (step_extract rfl rfl) ?_
  refine WO.op rfl rfl rfl rfl (as_im rfl) ?_
  refine WO.op rfl rfl rfl rfl (as_sc rfl) ?_
  refine WO.nil ?_
  refine W.seq ?_
  refine W.seq ?_
  refine W.to [(0, _), (1, _), (2, _), (4, _), (5, _), (6, _)] [_] rfl ⟨(by exact sh_agg rfl), (by exact sh_sc rfl), (by exact sh_ptr rfl), (by exact sh_sc rfl), (by exact sh_im rfl), (by exact sh_sc rfl), trivial⟩ ?_
  refine W.region ?_
  refine WO.op rfl rfl rfl rfl (step_pure Try.call10 rfl (by (repeat (exact Nl.nil))) (w_lives) (by repeat (rfl))) ?_
  refine WO.op rfl rfl rfl rfl (step_not rfl) ?_
  refine WO.put 14 (.sc (.bool false)) (rfl) ?_
  refine WO.nil ?_
  refine W.condF rfl ?_
  refine W.skip ?_
  refine W.seq ?_
  refine W.seq ?_
  refine W.to [(0, _), (1, _), (2, _), (4, _), (5, _), (6, _), (14, _)] [_] rfl ⟨(by exact sh_agg rfl), (by exact sh_sc rfl), (by exact sh_ptr rfl), (by exact sh_sc rfl), (by exact sh_im rfl), (by exact sh_sc rfl), (by exact sh_sc rfl), trivial⟩ ?_
  refine W.region ?_
  refine WO.op rfl rfl rfl rfl (mv_sc rfl) ?_
  refine WO.op rfl rfl rfl rfl (step_int2 rfl rfl rfl) ?_
  refine WO.put 16 (.sc (.bool true)) (by kernel_rfl) ?_
  refine WO.nil ?_
  refine W.condT rfl ?_
  refine W.seq ?_
  refine W.to [(0, _), (1, _), (2, _), (4, _), (5, _), (6, _), (14, _), (16, _)] [_] rfl ⟨(by exact sh_agg rfl), (by exact sh_sc rfl), (by exact sh_ptr rfl), (by exact sh_sc rfl), (by exact sh_im rfl), (by exact sh_sc rfl), (by exact sh_sc rfl), (by exact sh_sc rfl), trivial⟩ ?_
  refine W.region ?_
  refine WO.op rfl rfl rfl rfl (mv_im rfl) ?_
  refine WO.op rfl rfl rfl rfl (step_lenB Try.runUnderlying22 rfl) ?_
  refine WO.op rfl rfl rfl rfl (step_int2 rfl rfl rfl) ?_
  refine WO.put 19 (.sc (.bool true)) (by kernel_rfl) ?_
  refine WO.op rfl rfl rfl rfl (as_sc rfl) ?_
  refine WO.nil ?_
  refine W.ret ?_
  refine ⟨.inl rfl, ?_⟩
  exact ret0 (Res.tmp rfl Res.nil) (.keep rfl)


theorem w_IpTurned {a0 a1 a2 a3 a4 a5 a6 bit : Int} {a7 : ByteArray} (hz : a7.size ≤ 200000000000000) (hb : -9223372036854775808 ≤ bit ∧ bit ≤ 9223372036854775807) (g5 : 0 ≤ a5 ∧ a5 < 4294967296) (g6 : 0 ≤ a6 ∧ a6 < 4294967296) :
    Spec0 Try.prog 7 [.agg [.sc (.int .i64 a0), .sc (.int .i64 a1), .sc (.int .i64 a2), .sc (.int .i64 a3), .sc (.int .i64 a4), .sc (.int .u32 a5), .sc (.int .u32 a6), .sc (.string a7)], .sc (.int .i64 bit)] (.sc (.bool true)) := by
  by_cases h : encOK a0 a1 a2 a3 a4 a7 0
  · obtain ⟨h0, h3, h4, h1, h2, h5, h6, h7⟩ := h
    obtain ⟨b0, rfl⟩ := Int.eq_ofNat_of_zero_le h0.1
    obtain ⟨b1, rfl⟩ := Int.eq_ofNat_of_zero_le h1.1
    obtain ⟨b2, rfl⟩ := Int.eq_ofNat_of_zero_le h2.1
    obtain ⟨b3, rfl⟩ := Int.eq_ofNat_of_zero_le h3.1
    obtain ⟨b4, rfl⟩ := Int.eq_ofNat_of_zero_le h4.1
    obtain ⟨b5, rfl⟩ := Int.eq_ofNat_of_zero_le g5.1
    obtain ⟨b6, rfl⟩ := Int.eq_ofNat_of_zero_le g6.1
    exact w_IpTurnedG (by omega) (by omega) (by omega) (by omega) (by omega) (by omega) (by omega) h5 h6 (by omega) hb
  · exact w_IpTurnedX hz h

end Go.Proofs.Ytejoccabclibeaa
