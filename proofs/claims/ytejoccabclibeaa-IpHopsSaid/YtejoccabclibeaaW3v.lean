/-
  Contracts of functions of chapter 03: each theorem says what a call of one function answers, for all arguments that its hypotheses let in.
-/
import Derived.Test.YtejoccabclibeaaW3u
import Derived.Test.YtejoccabclibeaaW3e
set_option linter.unusedVariables false
set_option linter.unusedSimpArgs false
set_option maxRecDepth 100000
set_option maxHeartbeats 1000000
namespace Go.Proofs.Ytejoccabclibeaa
open Go Go.SL Go.Proofs
theorem w_IpHops {l : List UInt8} (hl : l.length ≤ 200000000000000) : Spec0 Try.prog 3 [.im 1 (l.map byteAV)] (.sc (.bool true)) := by
  refine Spec.body Try.func3 rfl (Nat.le_of_ble_eq_true rfl) ?_
  refine W.seq ?_
  refine W.region ?_
  refine WO.op rfl rfl rfl rfl (as_sc rfl) ?_
  refine WO.nil ?_
  refine W.seq ?_
  refine W.to [(0, _), (2, _)] [] rfl ⟨(by exact sh_im rfl), (by exact sh_sc rfl), trivial⟩ ?_
  refine W.region ?_
  refine WO.opA rfl rfl rfl rfl (al_buildSlice Try.runUnderlying22 (z := (Value.int IntKind.u8 0)) (bs := 1) (esz := 1) (EI.mk (by kernel_rfl)) rfl (by decide) rfl rfl) rfl rfl ?_
  refine WO.put 9 (.sl 0 0 _) rfl ?_
  refine WO.op rfl rfl rfl rfl (mv_im rfl) ?_
  refine WO.op rfl rfl rfl rfl (step_appE Try.runUnderlying22 (EI.mk (by kernel_rfl)) Try.runUnderlying22 (.inl ⟨_, rfl⟩) rfl rfl (Src.imB rfl) (by omega)) ?_
  refine WO.put 11 (.sl 1 0 _) rfl ?_
  refine WO.frz [(0, .im 1 (l.map byteAV)), (2, .sc (.bool false)), (11, .im 1 (l.map byteAV))] ⟨.keep noOwn_im, .keep rfl, (Fz.bytes rfl (Nat.zero_le _) (by rw [List.drop_zero, List.take_of_length_le (by rw [List.length_map]; exact Nat.le_refl _)]) (by rw [List.length_map]; omega)), trivial⟩ ?_
  refine WO.op rfl rfl rfl rfl (step_pure Try.call8 rfl (by (repeat (first | exact Nl.nil | refine Nl.keep (by exact noOwn_im) ?_))) (w_Hop (by omega)) (by repeat (first | with_reducible exact noOwn_im | with_reducible refine noOwn_tup ?_ | with_reducible exact noOwnL_nil | with_reducible refine noOwnL_cons ?_ ?_ | rfl))) ?_
  refine WO.op rfl rfl rfl rfl (mv_tup rfl) ?_
  refine WO.op rfl rfl rfl rfl (step_extract rfl rfl) ?_
  refine WO.op rfl rfl rfl rfl (step_extract rfl rfl) ?_
  refine WO.op rfl rfl rfl rfl (as_im rfl) ?_
  refine WO.op rfl rfl rfl rfl (as_sc rfl) ?_
  refine WO.nil ?_
  refine W.seq ?_
  refine W.to [(0, _), (2, _), (3, _), (4, _)] [_, _] rfl ⟨(by exact sh_im rfl), (by exact sh_sc rfl), (by exact sh_im rfl), (by exact sh_sc rfl), trivial⟩ ?_
  refine W.region ?_
  refine WO.op rfl rfl rfl rfl (mv_im rfl) ?_
  refine WO.op rfl rfl rfl rfl (step_pure Try.call9 rfl (by (repeat (first | exact Nl.nil | refine Nl.keep (by exact noOwn_im) ?_))) (w_refHop hl) (by repeat (first | with_reducible exact noOwn_im | with_reducible refine noOwn_tup ?_ | with_reducible exact noOwnL_nil | with_reducible refine noOwnL_cons ?_ ?_ | rfl))) ?_
  refine WO.op rfl rfl rfl rfl (mv_tup rfl) ?_
  refine WO.op rfl rfl rfl rfl (step_extract rfl rfl) ?_
  refine WO.op rfl rfl rfl rfl (step_extract rfl rfl) ?_
  refine WO.op rfl rfl rfl rfl (as_im rfl) ?_
  refine WO.op rfl rfl rfl rfl (as_sc rfl) ?_
  refine WO.nil ?_
  refine W.seq ?_
  refine W.seq ?_
  refine W.to [(0, _), (2, _), (3, _), (4, _), (5, _), (6, _)] [_, _] rfl ⟨(by exact sh_im rfl), (by exact sh_sc rfl), (by exact sh_im rfl), (by exact sh_sc rfl), (by exact sh_im rfl), (by exact sh_sc rfl), trivial⟩ ?_
  refine W.region ?_
  refine WO.op rfl rfl rfl rfl (step_pure Try.call10 rfl (by (repeat (exact Nl.nil))) (w_lives) (by repeat (rfl))) ?_
  refine WO.op rfl rfl rfl rfl (step_not rfl) ?_
  refine WO.put 21 (.sc (.bool false)) (rfl) ?_
  refine WO.op rfl rfl rfl rfl (mv_sc rfl) ?_
  refine WO.op rfl rfl rfl rfl (mv_im rfl) ?_
  refine WO.op rfl rfl rfl rfl (step_strI Try.underlying22 Try.underlying5 Try.underlying9 rfl) ?_
  refine WO.op rfl rfl rfl rfl (mv_im rfl) ?_
  refine WO.op rfl rfl rfl rfl (step_strI Try.underlying22 Try.underlying5 Try.underlying9 rfl) ?_
  refine WO.op rfl rfl rfl rfl (step_str2 rfl rfl rfl) ?_
  refine WO.put 27 (.sc (.bool false)) (congrArg (fun b : Bool => AV.sc (.bool b)) (by simp)) ?_
  refine WO.op rfl rfl rfl rfl (pk_f rfl rfl rfl) ?_
  refine WO.op rfl rfl rfl rfl (mv_sc rfl) ?_
  refine WO.op rfl rfl rfl rfl (mv_sc rfl) ?_
  refine WO.op rfl rfl rfl rfl (mv_sc rfl) ?_
  refine WO.op rfl rfl rfl rfl (step_neBool Try.runUnderlying4 rfl rfl) ?_
  refine WO.put 32 (.sc (.bool false)) (congrArg (fun b : Bool => AV.sc (.bool b)) (by simp)) ?_
  refine WO.op rfl rfl rfl rfl (pk_f rfl rfl rfl) ?_
  refine WO.nil ?_
  refine W.condF rfl ?_
  refine W.skip ?_
  refine W.seq ?_
  refine W.seq ?_
  refine W.to [(0, _), (2, _), (3, _), (4, _), (5, _), (6, _), (33, _)] [_, _] rfl ⟨(by exact sh_im rfl), (by exact sh_sc rfl), (by exact sh_im rfl), (by exact sh_sc rfl), (by exact sh_im rfl), (by exact sh_sc rfl), (by exact sh_sc rfl), trivial⟩ ?_
  refine W.region ?_
  refine WO.op rfl rfl rfl rfl (as_sc rfl) ?_
  refine WO.nil ?_
  refine W.block ?_
  refine W.loop (α := Nat × Bool × List UInt8) (fun q => ⟨tbl [(2, .sc (.bool false)), (3, .im 1 (q.2.2.map byteAV)), (4, .sc (.bool q.2.1)), (7, .sc (.int .i64 ((q.1 : Nat) : Int)))], [.dead, .dead]⟩) (fun q => q.1 ≤ 256 ∧ (q.2.1 = true → good q.2.2 ∧ (q.2.2.getD 8 0).toNat + q.1 ≤ 254 ∧ q.2.2.length ≤ 200000000000000)) (fun q => 256 - q.1) ((0, hopT l, hopR l)) (hop_start hl) (Le.eqs rfl ⟨rfl, rfl, rfl, rfl, trivial⟩) ?_
  intro q hq
  obtain ⟨n, ok, c⟩ := q
  obtain ⟨hn, hok⟩ := hq
  simp only at hn hok
  refine W.seq ?_
  refine W.seq ?_
  refine W.to [(2, _), (3, _), (4, _), (7, _)] [_, _] rfl ⟨(by exact sh_sc rfl), (by exact sh_im rfl), (by exact sh_sc rfl), (by exact sh_sc rfl), trivial⟩ ?_
  refine W.region ?_
  refine WO.op rfl rfl rfl rfl (mv_sc rfl) ?_
  refine WO.op rfl rfl rfl rfl (mv_sc rfl) ?_
  refine WO.spl 35 rfl (fun h1 => ?_) (fun h1 => ?_)
  · try simp only [decide_eq_true_eq, decide_eq_false_iff_not, Bool.not_eq_true', Bool.not_eq_false', beq_iff_eq, bne_iff_ne, beq_eq_false_iff_ne, bne_eq_false_iff_eq, gt_iff_lt, ge_iff_le, Int.not_lt, Int.not_le] at h1
    obtain ⟨hg, hgt, hgl⟩ := hok (by simpa using h1)
    obtain ⟨g0, g1, g2⟩ := hg
    obtain ⟨q1, q2, q3⟩ := hd_ok g0
    have y0 := byte_le (c.getD 0 0)
    have hS : hdS c = 4 * ((c.getD 0 0).toNat % 16) := rfl
    have hg : good c := ⟨g0, g1, g2⟩
    refine WO.op rfl rfl rfl rfl (mv_sc rfl) ?_
    refine WO.op rfl rfl rfl rfl (step_int2 rfl rfl rfl) ?_
    refine WO.op rfl rfl rfl rfl (pk_t rfl rfl rfl) ?_
    refine WO.nil ?_
    refine W.cond rfl (fun h2 => ?_) (fun h2 => ?_)
    · try simp only [decide_eq_true_eq, decide_eq_false_iff_not, Bool.not_eq_true', Bool.not_eq_false', beq_iff_eq, bne_iff_ne, beq_eq_false_iff_ne, bne_eq_false_iff_eq, gt_iff_lt, ge_iff_le, Int.not_lt, Int.not_le] at h2
      have hn1 : n + 1 ≤ 256 := by omega
      refine W.skip ?_
      refine W.seq ?_
      refine W.block ?_
      refine W.seq ?_
      refine W.seq ?_
      refine W.to [(2, _), (3, _), (4, _), (7, _), (38, _)] [_, _] rfl ⟨(by exact sh_sc rfl), (by exact sh_im rfl), (by exact sh_sc rfl), (by exact sh_sc rfl), (by exact sh_sc rfl), trivial⟩ ?_
      refine W.region ?_
      refine WO.op rfl rfl rfl rfl (mv_im rfl) ?_
      refine WO.op rfl rfl rfl rfl (mv_im rfl) ?_
      refine WO.op rfl rfl rfl rfl (step_idxB (j := 0) Try.runUnderlying22 Try.sizeOf5 rfl rfl (by (exact rfl)) (by (simp only [List.length_map, List.length_append, List.length_take, List.length_drop, List.length_set, List.length_cons, List.length_nil, List.length_replicate] <;> omega))) ?_
      refine WO.op rfl rfl rfl rfl (step_loadB Try.isAgg5 rfl (by (simp only [List.length_map, List.length_append, List.length_take, List.length_drop, List.length_set, List.length_cons, List.length_nil, List.length_replicate] <;> omega))) ?_
      refine WO.op rfl rfl rfl rfl (step_andN (q := 15) rfl rfl (by (simp only [cap]; omega)) (by (simp only [cap]; omega))) ?_
      refine WO.put 45 (.sc (.int .u8 (((c.getD 0 0).toNat % 16 : Nat) : Int))) (congrArg (fun z : Nat => AV.sc (.int .u8 (z : Int))) (Nat.and_two_pow_sub_one_eq_mod _ 4)) ?_
      refine WO.op rfl rfl rfl rfl (step_convR Try.runUnderlying5 Try.runUnderlying3 rfl (by exact convN (by (simp only [cap]; omega)))) ?_
      refine WO.op rfl rfl rfl rfl (step_mulN (p := 4) rfl rfl (by (simp only [cap]; omega))) ?_
      refine WO.put 47 (.sc (.int .i64 ((hdS c : Nat) : Int))) (rfl) ?_
      refine WO.op rfl rfl rfl rfl (step_subB Try.runUnderlying22 Try.sizeOf5 rfl Bd.none (Bd.some rfl (by (exact rfl))) (by omega) (by omega) (by exact Nat.sub_zero _) rfl) ?_
      refine WO.op rfl rfl rfl rfl (step_pure Try.call11 rfl (by (repeat (first | exact Nl.nil | refine Nl.keep (by exact noOwn_im) ?_))) (w_Sum (by (simp only [List.length_take, List.length_drop]; omega))) (by repeat (rfl))) ?_
      refine WO.op rfl rfl rfl rfl (step_int2 rfl rfl rfl) ?_
      refine WO.put 50 (.sc (.bool false)) (congrArg (fun b : Bool => AV.sc (.bool b)) (by rw [good_sum hg]; rfl)) ?_
      refine WO.nil ?_
      refine W.condF rfl ?_
      refine W.skip ?_
      refine W.to [(2, _), (3, _), (4, _), (7, _), (38, _), (50, _)] [_, _] rfl ⟨(by exact sh_sc rfl), (by exact sh_im rfl), (by exact sh_sc rfl), (by exact sh_sc rfl), (by exact sh_sc rfl), (by exact sh_sc rfl), trivial⟩ ?_
      refine W.region ?_
      refine WO.op rfl rfl rfl rfl (mv_im rfl) ?_
      refine WO.op rfl rfl rfl rfl (step_pure Try.call8 rfl (by (repeat (first | exact Nl.nil | refine Nl.keep (by exact noOwn_im) ?_))) (w_Hop (by omega)) (by repeat (first | with_reducible exact noOwn_im | with_reducible refine noOwn_tup ?_ | with_reducible exact noOwnL_nil | with_reducible refine noOwnL_cons ?_ ?_ | rfl))) ?_
      refine WO.op rfl rfl rfl rfl (mv_tup rfl) ?_
      refine WO.op rfl rfl rfl rfl (step_extract rfl rfl) ?_
      refine WO.op rfl rfl rfl rfl (step_extract rfl rfl) ?_
      refine WO.op rfl rfl rfl rfl (as_im rfl) ?_
      refine WO.op rfl rfl rfl rfl (as_sc rfl) ?_
      refine WO.nil ?_
      refine W.to [(2, _), (3, _), (4, _), (7, _), (38, _), (50, _)] [_, _] rfl ⟨(by exact sh_sc rfl), (by exact sh_im rfl), (by exact sh_sc rfl), (by exact sh_sc rfl), (by exact sh_sc rfl), (by exact sh_sc rfl), trivial⟩ ?_
      refine W.region ?_
      refine WO.op rfl rfl rfl rfl (mv_sc rfl) ?_
      refine WO.op rfl rfl rfl rfl (step_addN (q := 1) rfl rfl (by (simp only [cap]; omega))) ?_
      refine WO.op rfl rfl rfl rfl (as_sc rfl) ?_
      refine WO.nil ?_
      exact ⟨(n + 1, hopT c, hopR c), (hop_next hn1 hg hgt hgl), (by simp only; omega), Le.eqs rfl ⟨rfl, rfl, rfl, rfl, trivial⟩⟩
    · try simp only [decide_eq_true_eq, decide_eq_false_iff_not, Bool.not_eq_true', Bool.not_eq_false', beq_iff_eq, bne_iff_ne, beq_eq_false_iff_ne, bne_eq_false_iff_eq, gt_iff_lt, ge_iff_le, Int.not_lt, Int.not_le] at h2
      exact False.elim (by omega)
  · try simp only [decide_eq_true_eq, decide_eq_false_iff_not, Bool.not_eq_true', Bool.not_eq_false', beq_iff_eq, bne_iff_ne, beq_eq_false_iff_ne, bne_eq_false_iff_eq, gt_iff_lt, ge_iff_le, Int.not_lt, Int.not_le] at h1
    refine WO.sk rfl rfl rfl rfl ?_
    refine WO.sk rfl rfl rfl rfl ?_
    refine WO.op rfl rfl rfl rfl (pk_f rfl rfl rfl) ?_
    refine WO.nil ?_
    refine W.condF rfl ?_
    refine W.exit ?_
    refine W.seq ?_
    refine W.to [(2, _), (3, _), (4, _), (7, _), (38, _)] [_, _] rfl ⟨(by exact sh_sc rfl), (by exact sh_im rfl), (by exact sh_sc rfl), (by exact sh_sc rfl), (by exact sh_sc rfl), trivial⟩ ?_
    refine W.region ?_
    refine WO.op rfl rfl rfl rfl (mv_sc rfl) ?_
    refine WO.op rfl rfl rfl rfl (step_not rfl) ?_
    refine WO.put 57 (.sc (.bool true)) (congrArg (fun b : Bool => AV.sc (.bool b)) (by simp_all)) ?_
    refine WO.op rfl rfl rfl rfl (as_sc rfl) ?_
    refine WO.nil ?_
    refine W.ret ?_
    refine ⟨.inl rfl, ?_⟩
    exact ret0 (Res.tmp rfl Res.nil) (.keep rfl)

end Go.Proofs.Ytejoccabclibeaa
