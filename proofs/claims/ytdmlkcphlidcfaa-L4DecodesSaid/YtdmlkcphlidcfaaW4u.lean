/-
  Contracts of functions of chapter 04: each theorem says what a call of one function answers, for all arguments that its hypotheses let in.
-/
import Derived.Test.YtdmlkcphlidcfaaW4g
set_option linter.unusedVariables false
set_option linter.unusedSimpArgs false
set_option maxRecDepth 100000
set_option maxHeartbeats 1000000
namespace Go.Proofs.Ytdmlkcphlidcfaa
open Go Go.SL Go.Proofs
theorem w_L4DecG {src dst : Nat} {p : Int} {l c : List UInt8} {a0 : Int} {a1 : Int} {a2 : Int} {a3 : Int} {a4 : Int} {a5 : Int} {a6 : Bool} {a7 : Int} {a8 : Int} {a9 : Int} {a10 : Int} {a11 : Int} {a12 : ByteArray} {a13 : ByteArray} (g0 : isI a0) (g1 : isI a1) (g2 : isI a2) (g3 : isU a3) (g4 : isI a4) (g5 : isI a5) (g7 : isU a7) (g8 : isU a8) (g9 : isI a9) (g10 : isI a10) (g11 : isI a11) (g12 : a12.size ≤ 200000000000000) (g13 : a13.size ≤ 200000000000000) (hl : l.length ≤ 200000000000000) (hD : Spec0 Try.prog 8 [.sc (.int .u32 ((src : Nat) : Int)), .sc (.int .u32 ((dst : Nat) : Int)), .sc (.int .i64 p), .im 1 (l.map byteAV)] (.tup [.agg [.sc (.int .i64 a0), .sc (.int .i64 a1), .sc (.int .i64 a2), .sc (.int .u32 a3), .sc (.int .i64 a4), .sc (.int .i64 a5), .sc (.bool a6), .sc (.int .u32 a7), .sc (.int .u32 a8), .sc (.int .i64 a9), .sc (.int .i64 a10), .sc (.int .i64 a11), .sc (.string a12), .sc (.string a13)], .sc (.int .i64 0)])) (hR : Spec0 Try.prog 9 [.sc (.int .u32 ((src : Nat) : Int)), .sc (.int .u32 ((dst : Nat) : Int)), .sc (.int .i64 p), .im 1 (l.map byteAV)] (.tup [.agg [.sc (.int .i64 a0), .sc (.int .i64 a1), .sc (.int .i64 a2), .sc (.int .u32 a3), .sc (.int .i64 a4), .sc (.int .i64 a5), .sc (.bool a6), .sc (.int .u32 a7), .sc (.int .u32 a8), .sc (.int .i64 a9), .sc (.int .i64 a10), .sc (.int .i64 a11), .sc (.string a12), .sc (.string a13)], .sc (.int .i64 0)])) (hE : l.length ≤ 65515 → Spec0 Try.prog 11 [.sc (.int .u32 ((src : Nat) : Int)), .sc (.int .u32 ((dst : Nat) : Int)), .agg [.sc (.int .i64 a0), .sc (.int .i64 a1), .sc (.int .i64 a2), .sc (.int .u32 a3), .sc (.int .i64 a4), .sc (.int .i64 a5), .sc (.bool a6), .sc (.int .u32 a7), .sc (.int .u32 a8), .sc (.int .i64 a9), .sc (.int .i64 a10), .sc (.int .i64 a11), .sc (.string a12), .sc (.string a13)]] (.tup [.im 1 (c.map byteAV), .sc (.int .i64 0)])) (hcl : l.length ≤ 65515 → c.length = l.length) (hback0 : l.length ≤ 65515 → ∀ i, i < l.length → (c.getD i 0).toNat = (l.getD i 0).toNat ∨ (((a0 = 1 ∧ i / 2 = 1) ∨ (a0 = 3 ∧ i / 2 = 8)) ∧ (l.getD (i - i % 2) 0).toNat = 255 ∧ (l.getD (i - i % 2 + 1) 0).toNat = 255 ∧ i - i % 2 + 1 < l.length)) : Spec0 Try.prog 3 [.sc (.int .u32 ((src : Nat) : Int)), .sc (.int .u32 ((dst : Nat) : Int)), .sc (.int .i64 p), .im 1 (l.map byteAV)] (.sc (.bool true)) := by
  refine Spec.body Try.func3 rfl (Nat.le_of_ble_eq_true rfl) ?_
  refine W.seq ?_
  refine W.region ?_
  refine WO.op rfl rfl rfl rfl (as_sc rfl) ?_
  refine WO.nil ?_
  refine W.seq ?_
  refine W.to [(0, _), (1, _), (2, _), (3, _), (8, _)] [] rfl ⟨(by exact sh_sc rfl), (by exact sh_sc rfl), (by exact sh_sc rfl), (by exact sh_im rfl), (by exact sh_sc rfl), trivial⟩ ?_
  refine W.region ?_
  refine WO.opA rfl rfl rfl rfl (al_buildSlice Try.runUnderlying23 (z := (Value.int IntKind.u8 0)) (bs := 1) (esz := 1) (EI.mk (by kernel_rfl)) rfl (by decide) rfl rfl) rfl rfl ?_
  refine WO.put 17 (.sl 0 0 _) rfl ?_
  refine WO.op rfl rfl rfl rfl (mv_im rfl) ?_
  refine WO.op rfl rfl rfl rfl (step_appE Try.runUnderlying23 (EI.mk (by kernel_rfl)) Try.runUnderlying23 (.inl ⟨_, rfl⟩) rfl rfl (Src.imB rfl) (by omega)) ?_
  refine WO.put 19 (.sl 1 0 _) rfl ?_
  refine WO.op rfl rfl rfl rfl (as_sl rfl) ?_
  refine WO.nil ?_
  refine W.seq ?_
  refine W.to [(0, _), (1, _), (2, _), (3, _), (8, _), (9, _)] [_, _] rfl ⟨(by exact sh_sc rfl), (by exact sh_sc rfl), (by exact sh_sc rfl), (by exact sh_im rfl), (by exact sh_sc rfl), (by exact sh_sl rfl), trivial⟩ ?_
  refine W.region ?_
  refine WO.op rfl rfl rfl rfl (mv_sc rfl) ?_
  refine WO.op rfl rfl rfl rfl (mv_sc rfl) ?_
  refine WO.op rfl rfl rfl rfl (mv_sc rfl) ?_
  refine WO.op rfl rfl rfl rfl (mv_sl rfl) ?_
  refine WO.op rfl rfl rfl rfl (step_lent Try.call8 rfl (by (repeat (first | exact Bw.nil | refine Bw.keep (by rfl) ?_ | refine Bw.slB rfl (by (exact take_whole (by omega))) (by (simp only [List.length_map, List.length_append, List.length_take, List.length_drop, List.length_set, List.length_cons, List.length_nil, List.length_replicate] <;> omega)) ?_))) (hD) (by repeat (rfl))) ?_
  refine WO.op rfl rfl rfl rfl (mv_tup rfl) ?_
  refine WO.op rfl rfl rfl rfl (step_extract rfl rfl) ?_
  refine WO.op rfl rfl rfl rfl (step_extract rfl rfl) ?_
  refine WO.opA rfl rfl rfl rfl (al_alloc Try.zeroValue25) rfl rfl ?_
  refine WO.put 10 (.ptr 2 0) rfl ?_
  refine WO.op0 rfl rfl rfl (step_storeA Try.sizeOf25 rfl rfl rfl (by repeat (exact all_cell rfl rfl)) rfl rfl) ?_
  refine WO.op rfl rfl rfl rfl (as_sc rfl) ?_
  refine WO.nil ?_
  refine W.seq ?_
  refine W.to [(0, _), (1, _), (2, _), (3, _), (8, _), (9, _), (10, _), (11, _)] [_, _, _] rfl ⟨(by exact sh_sc rfl), (by exact sh_sc rfl), (by exact sh_sc rfl), (by exact sh_im rfl), (by exact sh_sc rfl), (by exact sh_sl rfl), (by exact sh_ptr rfl), (by exact sh_sc rfl), trivial⟩ ?_
  refine W.region ?_
  refine WO.op rfl rfl rfl rfl (mv_sc rfl) ?_
  refine WO.op rfl rfl rfl rfl (mv_sc rfl) ?_
  refine WO.op rfl rfl rfl rfl (mv_sc rfl) ?_
  refine WO.op rfl rfl rfl rfl (mv_im rfl) ?_
  refine WO.op rfl rfl rfl rfl (step_pure Try.call9 rfl (by (repeat (first | exact Nl.nil | refine Nl.keep (by first | rfl | exact noOwn_im) ?_))) (hR) (by repeat (first | with_reducible refine noOwn_tup ?_ | with_reducible refine noOwn_agg ?_ | with_reducible exact noOwnL_nil | with_reducible refine noOwnL_cons ?_ ?_ | rfl))) ?_
  refine WO.op rfl rfl rfl rfl (mv_tup rfl) ?_
  refine WO.op rfl rfl rfl rfl (step_extract rfl rfl) ?_
  refine WO.op rfl rfl rfl rfl (step_extract rfl rfl) ?_
  refine WO.opA rfl rfl rfl rfl (al_alloc Try.zeroValue25) rfl rfl ?_
  refine WO.put 12 (.ptr 3 0) rfl ?_
  refine WO.op0 rfl rfl rfl (step_storeA Try.sizeOf25 rfl rfl rfl (by repeat (exact all_cell rfl rfl)) rfl rfl) ?_
  refine WO.op rfl rfl rfl rfl (as_sc rfl) ?_
  refine WO.nil ?_
  refine W.seq ?_
  refine W.seq ?_
  refine W.to [(0, _), (1, _), (2, _), (3, _), (8, _), (9, _), (10, _), (11, _), (12, _), (13, _)] [_, _, _, _] rfl ⟨(by exact sh_sc rfl), (by exact sh_sc rfl), (by exact sh_sc rfl), (by exact sh_im rfl), (by exact sh_sc rfl), (by exact sh_sl rfl), (by exact sh_ptr rfl), (by exact sh_sc rfl), (by exact sh_ptr rfl), (by exact sh_sc rfl), trivial⟩ ?_
  refine W.region ?_
  refine WO.op rfl rfl rfl rfl (step_pure Try.call10 rfl (by (repeat (exact Nl.nil))) (w_lives) (by repeat (rfl))) ?_
  refine WO.op rfl rfl rfl rfl (step_not rfl) ?_
  refine WO.put 37 (.sc (.bool false)) (rfl) ?_
  refine WO.op rfl rfl rfl rfl (mv_sc rfl) ?_
  refine WO.op rfl rfl rfl rfl (step_loadA Try.isAgg25 Try.sizeOf25 rfl rfl (by exact Nat.le_refl _)) ?_
  refine WO.put 39 (.agg [.sc (.int .i64 a0), .sc (.int .i64 a1), .sc (.int .i64 a2), .sc (.int .u32 a3), .sc (.int .i64 a4), .sc (.int .i64 a5), .sc (.bool a6), .sc (.int .u32 a7), .sc (.int .u32 a8), .sc (.int .i64 a9), .sc (.int .i64 a10), .sc (.int .i64 a11), .sc (.string a12), .sc (.string a13)]) (by kernel_rfl) ?_
  refine WO.op rfl rfl rfl rfl (step_loadA Try.isAgg25 Try.sizeOf25 rfl rfl (by exact Nat.le_refl _)) ?_
  refine WO.put 40 (.agg [.sc (.int .i64 a0), .sc (.int .i64 a1), .sc (.int .i64 a2), .sc (.int .u32 a3), .sc (.int .i64 a4), .sc (.int .i64 a5), .sc (.bool a6), .sc (.int .u32 a7), .sc (.int .u32 a8), .sc (.int .i64 a9), .sc (.int .i64 a10), .sc (.int .i64 a11), .sc (.string a12), .sc (.string a13)]) (by kernel_rfl) ?_
  refine WO.op rfl rfl rfl rfl (ne_L4 g0 g1 g2 g3 g4 g5 g7 g8 g9 g10 g11 g12 g13 rfl rfl) ?_
  refine WO.put 41 (.sc (.bool false)) (rfl) ?_
  refine WO.op rfl rfl rfl rfl (pk_f rfl rfl rfl) ?_
  refine WO.op rfl rfl rfl rfl (mv_sc rfl) ?_
  refine WO.op rfl rfl rfl rfl (mv_sc rfl) ?_
  refine WO.op rfl rfl rfl rfl (mv_sc rfl) ?_
  refine WO.op rfl rfl rfl rfl (step_int2 rfl rfl rfl) ?_
  refine WO.put 46 (.sc (.bool false)) (congrArg (fun b : Bool => AV.sc (.bool b)) (by rfl)) ?_
  refine WO.op rfl rfl rfl rfl (pk_f rfl rfl rfl) ?_
  refine WO.op rfl rfl rfl rfl (mv_sc rfl) ?_
  refine WO.op rfl rfl rfl rfl (mv_sl rfl) ?_
  refine WO.op rfl rfl rfl rfl (step_strO Try.underlying23 Try.underlying5 Try.underlying9 rfl rfl (by (exact take_whole (by omega))) (by (simp only [List.length_map, List.length_append, List.length_take, List.length_drop, List.length_set, List.length_cons, List.length_nil, List.length_replicate] <;> omega))) ?_
  refine WO.op rfl rfl rfl rfl (mv_im rfl) ?_
  refine WO.op rfl rfl rfl rfl (step_strI Try.underlying23 Try.underlying5 Try.underlying9 rfl) ?_
  refine WO.op rfl rfl rfl rfl (step_str2 rfl rfl rfl) ?_
  refine WO.put 53 (.sc (.bool false)) (congrArg (fun b : Bool => AV.sc (.bool b)) (by simp)) ?_
  refine WO.op rfl rfl rfl rfl (pk_f rfl rfl rfl) ?_
  refine WO.nil ?_
  refine W.condF rfl ?_
  refine W.skip ?_
  refine W.seq ?_
  refine W.seq ?_
  refine W.to [(0, _), (1, _), (2, _), (3, _), (8, _), (9, _), (10, _), (11, _), (12, _), (13, _), (54, _)] [_, _, _, _] rfl ⟨(by exact sh_sc rfl), (by exact sh_sc rfl), (by exact sh_sc rfl), (by exact sh_im rfl), (by exact sh_sc rfl), (by exact sh_sl rfl), (by exact sh_ptr rfl), (by exact sh_sc rfl), (by exact sh_ptr rfl), (by exact sh_sc rfl), (by exact sh_sc rfl), trivial⟩ ?_
  refine W.region ?_
  refine WO.op rfl rfl rfl rfl (mv_sc rfl) ?_
  refine WO.op rfl rfl rfl rfl (step_int2 rfl rfl rfl) ?_
  refine WO.put 56 (.sc (.bool false)) (by kernel_rfl) ?_
  refine WO.op rfl rfl rfl rfl (mv_sc rfl) ?_
  refine WO.op rfl rfl rfl rfl (mv_im rfl) ?_
  refine WO.op rfl rfl rfl rfl (step_lenB Try.runUnderlying23 rfl) ?_
  refine WO.op rfl rfl rfl rfl (step_int2 rfl rfl rfl) ?_
  refine WO.op rfl rfl rfl rfl (pk_f rfl rfl rfl) ?_
  refine WO.nil ?_
  refine W.cond rfl (fun h1 => ?_) (fun h1 => ?_)
  · try simp only [decide_eq_true_eq, decide_eq_false_iff_not, Bool.not_eq_true', Bool.not_eq_false', beq_iff_eq, bne_iff_ne, beq_eq_false_iff_ne, bne_eq_false_iff_eq, gt_iff_lt, ge_iff_le, Int.not_lt, Int.not_le] at h1
    refine W.seq ?_
    refine W.to [(0, _), (1, _), (2, _), (3, _), (8, _), (9, _), (10, _), (11, _), (12, _), (13, _), (54, _), (61, _)] [_, _, _, _] rfl ⟨(by exact sh_sc rfl), (by exact sh_sc rfl), (by exact sh_sc rfl), (by exact sh_im rfl), (by exact sh_sc rfl), (by exact sh_sl rfl), (by exact sh_ptr rfl), (by exact sh_sc rfl), (by exact sh_ptr rfl), (by exact sh_sc rfl), (by exact sh_sc rfl), (by exact sh_sc rfl), trivial⟩ ?_
    refine W.region ?_
    refine WO.op rfl rfl rfl rfl (as_sc rfl) ?_
    refine WO.nil ?_
    refine W.ret ?_
    refine ⟨.inl rfl, ?_⟩
    exact ret0 (Res.tmp rfl Res.nil) (.keep rfl)
  · try simp only [decide_eq_true_eq, decide_eq_false_iff_not, Bool.not_eq_true', Bool.not_eq_false', beq_iff_eq, bne_iff_ne, beq_eq_false_iff_ne, bne_eq_false_iff_eq, gt_iff_lt, ge_iff_le, Int.not_lt, Int.not_le] at h1
    have hn : l.length ≤ 65515 := by omega
    have hE' := hE hn
    have hcl' := hcl hn
    have hback := hback0 hn
    refine W.skip ?_
    refine W.seq ?_
    refine W.to [(0, _), (1, _), (2, _), (3, _), (8, _), (9, _), (10, _), (11, _), (12, _), (13, _), (54, _), (61, _)] [_, _, _, _] rfl ⟨(by exact sh_sc rfl), (by exact sh_sc rfl), (by exact sh_sc rfl), (by exact sh_im rfl), (by exact sh_sc rfl), (by exact sh_sl rfl), (by exact sh_ptr rfl), (by exact sh_sc rfl), (by exact sh_ptr rfl), (by exact sh_sc rfl), (by exact sh_sc rfl), (by exact sh_sc rfl), trivial⟩ ?_
    refine W.region ?_
    refine WO.op rfl rfl rfl rfl (mv_sc rfl) ?_
    refine WO.op rfl rfl rfl rfl (mv_sc rfl) ?_
    refine WO.op rfl rfl rfl rfl (step_loadA Try.isAgg25 Try.sizeOf25 rfl rfl (by exact Nat.le_refl _)) ?_
    refine WO.put 65 (.agg [.sc (.int .i64 a0), .sc (.int .i64 a1), .sc (.int .i64 a2), .sc (.int .u32 a3), .sc (.int .i64 a4), .sc (.int .i64 a5), .sc (.bool a6), .sc (.int .u32 a7), .sc (.int .u32 a8), .sc (.int .i64 a9), .sc (.int .i64 a10), .sc (.int .i64 a11), .sc (.string a12), .sc (.string a13)]) (by kernel_rfl) ?_
    refine WO.op rfl rfl rfl rfl (step_pure Try.call11 rfl (by (repeat (first | exact Nl.nil | refine Nl.keep (by rfl) ?_))) (hE') (by repeat (first | with_reducible exact noOwn_im | with_reducible refine noOwn_tup ?_ | with_reducible exact noOwnL_nil | with_reducible refine noOwnL_cons ?_ ?_ | rfl))) ?_
    refine WO.op rfl rfl rfl rfl (mv_tup rfl) ?_
    refine WO.op rfl rfl rfl rfl (step_extract rfl rfl) ?_
    refine WO.op rfl rfl rfl rfl (step_extract rfl rfl) ?_
    refine WO.op rfl rfl rfl rfl (as_im rfl) ?_
    refine WO.op rfl rfl rfl rfl (as_sc rfl) ?_
    refine WO.nil ?_
    refine W.seq ?_
    refine W.seq ?_
    refine W.to [(0, _), (1, _), (2, _), (3, _), (8, _), (9, _), (10, _), (11, _), (12, _), (13, _), (14, _), (54, _), (61, _)] [_, _, _, _] rfl ⟨(by exact sh_sc rfl), (by exact sh_sc rfl), (by exact sh_sc rfl), (by exact sh_im rfl), (by exact sh_sc rfl), (by exact sh_sl rfl), (by exact sh_ptr rfl), (by exact sh_sc rfl), (by exact sh_ptr rfl), (by exact sh_sc rfl), (by exact sh_im rfl), (by exact sh_sc rfl), (by exact sh_sc rfl), trivial⟩ ?_
    refine W.region ?_
    refine WO.op rfl rfl rfl rfl (mv_sc rfl) ?_
    refine WO.op rfl rfl rfl rfl (step_int2 rfl rfl rfl) ?_
    refine WO.put 70 (.sc (.bool false)) (by kernel_rfl) ?_
    refine WO.op rfl rfl rfl rfl (mv_sc rfl) ?_
    refine WO.op rfl rfl rfl rfl (mv_im rfl) ?_
    refine WO.op rfl rfl rfl rfl (step_lenB Try.runUnderlying23 rfl) ?_
    refine WO.op rfl rfl rfl rfl (mv_im rfl) ?_
    refine WO.op rfl rfl rfl rfl (step_lenB Try.runUnderlying23 rfl) ?_
    refine WO.op rfl rfl rfl rfl (step_int2 rfl rfl rfl) ?_
    refine WO.put 76 (.sc (.bool false)) (congrArg (fun b : Bool => AV.sc (.bool b)) (by simp [hcl'])) ?_
    refine WO.op rfl rfl rfl rfl (pk_f rfl rfl rfl) ?_
    refine WO.nil ?_
    refine W.condF rfl ?_
    refine W.skip ?_
    refine W.seq ?_
    refine W.seq ?_
    refine W.to [(0, _), (1, _), (2, _), (3, _), (8, _), (9, _), (10, _), (11, _), (12, _), (13, _), (14, _), (54, _), (61, _), (77, _)] [_, _, _, _] rfl ⟨(by exact sh_sc rfl), (by exact sh_sc rfl), (by exact sh_sc rfl), (by exact sh_im rfl), (by exact sh_sc rfl), (by exact sh_sl rfl), (by exact sh_ptr rfl), (by exact sh_sc rfl), (by exact sh_ptr rfl), (by exact sh_sc rfl), (by exact sh_im rfl), (by exact sh_sc rfl), (by exact sh_sc rfl), (by exact sh_sc rfl), trivial⟩ ?_
    refine W.region ?_
    refine WO.op rfl rfl rfl rfl (as_sc rfl) ?_
    refine WO.nil ?_
    refine W.block ?_
    refine W.loop (α := Nat) (fun i => ⟨tbl [(3, .im 1 (l.map byteAV)), (8, .sc (.bool false)), (10, .ptr 2 0), (14, .im 1 (c.map byteAV)), (15, .sc (.int .i64 ((i : Nat) : Int)))], [.dead, .row 1 (l.map byteAV), .row 1 [.sc (.int .i64 a0), .sc (.int .i64 a1), .sc (.int .i64 a2), .sc (.int .u32 a3), .sc (.int .i64 a4), .sc (.int .i64 a5), .sc (.bool a6), .sc (.int .u32 a7), .sc (.int .u32 a8), .sc (.int .i64 a9), .sc (.int .i64 a10), .sc (.int .i64 a11), .sc (.string a12), .sc (.string a13)], .row 1 [.sc (.int .i64 a0), .sc (.int .i64 a1), .sc (.int .i64 a2), .sc (.int .u32 a3), .sc (.int .i64 a4), .sc (.int .i64 a5), .sc (.bool a6), .sc (.int .u32 a7), .sc (.int .u32 a8), .sc (.int .i64 a9), .sc (.int .i64 a10), .sc (.int .i64 a11), .sc (.string a12), .sc (.string a13)]]⟩) (fun i => i ≤ l.length) (fun i => l.length - i) (0) (Nat.zero_le _) (Le.eqs rfl ⟨rfl, rfl, rfl, rfl, rfl, trivial⟩) ?_
    intro i hi
    refine W.seq ?_
    refine W.seq ?_
    refine W.to [(3, _), (8, _), (10, _), (14, _), (15, _)] [_, _, _, _] rfl ⟨(by exact sh_im rfl), (by exact sh_sc rfl), (by exact sh_ptr rfl), (by exact sh_im rfl), (by exact sh_sc rfl), trivial⟩ ?_
    refine W.region ?_
    refine WO.op rfl rfl rfl rfl (mv_sc rfl) ?_
    refine WO.op rfl rfl rfl rfl (mv_im rfl) ?_
    refine WO.op rfl rfl rfl rfl (step_lenB Try.runUnderlying23 rfl) ?_
    refine WO.op rfl rfl rfl rfl (step_int2 rfl rfl rfl) ?_
    refine WO.nil ?_
    refine W.cond rfl (fun h2 => ?_) (fun h2 => ?_)
    · try simp only [decide_eq_true_eq, decide_eq_false_iff_not, Bool.not_eq_true', Bool.not_eq_false', beq_iff_eq, bne_iff_ne, beq_eq_false_iff_ne, bne_eq_false_iff_eq, gt_iff_lt, ge_iff_le, Int.not_lt, Int.not_le] at h2
      refine W.skip ?_
      refine W.seq ?_
      refine W.block ?_
      refine W.seq ?_
      refine W.to [(3, _), (8, _), (10, _), (14, _), (15, _), (81, _)] [_, _, _, _] rfl ⟨(by exact sh_im rfl), (by exact sh_sc rfl), (by exact sh_ptr rfl), (by exact sh_im rfl), (by exact sh_sc rfl), (by exact sh_sc rfl), trivial⟩ ?_
      refine W.region ?_
      refine WO.op rfl rfl rfl rfl (step_fieldR (k := 0) (FieldOff.mk (by kernel_rfl)) rfl rfl (by exact Nat.zero_add _)) ?_
      refine WO.op rfl rfl rfl rfl (step_load Try.isAgg3 rfl rfl rfl) ?_
      refine WO.op rfl rfl rfl rfl (step_int2 rfl rfl rfl) ?_
      refine WO.op rfl rfl rfl rfl (mv_sc rfl) ?_
      refine WO.spl 87 rfl (fun h3 => ?_) (fun h3 => ?_)
      · try simp only [decide_eq_true_eq, decide_eq_false_iff_not, Bool.not_eq_true', Bool.not_eq_false', beq_iff_eq, bne_iff_ne, beq_eq_false_iff_ne, bne_eq_false_iff_eq, gt_iff_lt, ge_iff_le, Int.not_lt, Int.not_le] at h3
        refine WO.op rfl rfl rfl rfl (mv_sc rfl) ?_
        refine WO.op rfl rfl rfl rfl (step_quoN (q := 2) rfl rfl (by omega) (by (simp only [cap]; omega))) ?_
        refine WO.op rfl rfl rfl rfl (step_int2 rfl rfl rfl) ?_
        refine WO.op rfl rfl rfl rfl (pk_t rfl rfl rfl) ?_
        refine WO.op rfl rfl rfl rfl (mv_sc rfl) ?_
        refine WO.spl 92 rfl (fun h4 => ?_) (fun h4 => ?_)
        · try simp only [decide_eq_true_eq, decide_eq_false_iff_not, Bool.not_eq_true', Bool.not_eq_false', beq_iff_eq, bne_iff_ne, beq_eq_false_iff_ne, bne_eq_false_iff_eq, gt_iff_lt, ge_iff_le, Int.not_lt, Int.not_le] at h4
          refine WO.sk rfl rfl rfl rfl ?_
          refine WO.sk rfl rfl rfl rfl ?_
          refine WO.sk rfl rfl rfl rfl ?_
          refine WO.sk rfl rfl rfl rfl ?_
          refine WO.sk rfl rfl rfl rfl ?_
          refine WO.sk rfl rfl rfl rfl ?_
          refine WO.sk rfl rfl rfl rfl ?_
          refine WO.sk rfl rfl rfl rfl ?_
          refine WO.op rfl rfl rfl rfl (pk_t rfl rfl rfl) ?_
          refine WO.op rfl rfl rfl rfl (as_sc rfl) ?_
          refine WO.nil ?_
          refine W.seq ?_
          refine W.to [(3, _), (8, _), (10, _), (14, _), (15, _), (16, _), (81, _)] [_, _, _, _] rfl ⟨(by exact sh_im rfl), (by exact sh_sc rfl), (by exact sh_ptr rfl), (by exact sh_im rfl), (by exact sh_sc rfl), (by exact sh_sc rfl), (by exact sh_sc rfl), trivial⟩ ?_
          have hb := hback i (by omega)
          have z1 := byte_le (c.getD i 0)
          have z2 := byte_le (l.getD i 0)
          refine W.draw (Checked.mixed Try.checked) ?_
          refine DC.op rfl rfl rfl (fun _ => mv_im rfl) ?_
          refine DC.op rfl rfl rfl (fun _ => mv_sc rfl) ?_
          refine DC.op rfl rfl rfl (fun _ => step_idxB Try.runUnderlying23 Try.sizeOf5 rfl rfl (by (exact rfl)) (by omega)) ?_
          refine DC.op rfl rfl rfl (fun _ => step_loadB Try.isAgg5 rfl (by omega)) ?_
          refine DC.op rfl rfl rfl (fun _ => mv_im rfl) ?_
          refine DC.op rfl rfl rfl (fun _ => mv_sc rfl) ?_
          refine DC.op rfl rfl rfl (fun _ => step_idxB Try.runUnderlying23 Try.sizeOf5 rfl rfl (by (exact rfl)) (by omega)) ?_
          refine DC.op rfl rfl rfl (fun _ => step_loadB Try.isAgg5 rfl (by omega)) ?_
          refine DC.op rfl rfl rfl (fun _ => step_int2 rfl rfl rfl) ?_
          refine DC.op rfl rfl rfl (fun _ => mv_sc rfl) ?_
          refine DC.split 111 rfl (fun h5 => ?_) (fun h5 => ?_)
          · try simp only [decide_eq_true_eq, decide_eq_false_iff_not, Bool.not_eq_true', Bool.not_eq_false', beq_iff_eq, bne_iff_ne, beq_eq_false_iff_ne, bne_eq_false_iff_eq, gt_iff_lt, ge_iff_le, Int.not_lt, Int.not_le] at h5
            refine DC.op rfl rfl rfl (fun _ => mv_sc rfl) ?_
            refine DC.op rfl rfl rfl (fun _ => step_not rfl) ?_
            refine DC.op rfl rfl rfl (fun _ => mv_sc rfl) ?_
            refine DC.op rfl rfl rfl (fun _ => mv_im rfl) ?_
            refine DC.op rfl rfl rfl (fun _ => mv_sc rfl) ?_
            refine DC.op rfl rfl rfl (fun _ => mv_sc rfl) ?_
            refine DC.op rfl rfl rfl (fun _ => step_remN (q := 2) rfl rfl (by omega)) ?_
            refine DC.op rfl rfl rfl (fun _ => step_subN rfl rfl (by omega) (by (simp only [cap]; omega))) ?_
            refine DC.op rfl rfl rfl (fun _ => step_idxB Try.runUnderlying23 Try.sizeOf5 rfl rfl (by (exact rfl)) (by omega)) ?_
            refine DC.op rfl rfl rfl (fun _ => step_loadB Try.isAgg5 rfl (by omega)) ?_
            refine DC.op rfl rfl rfl (fun _ => step_int2 rfl rfl rfl) ?_
            refine DC.op rfl rfl rfl (fun _ => pk_f rfl rfl rfl) ?_
            refine DC.op rfl rfl rfl (fun _ => mv_sc rfl) ?_
            refine DC.split 124 rfl (fun h6 => ?_) (fun h6 => ?_)
            · try simp only [decide_eq_true_eq, decide_eq_false_iff_not, Bool.not_eq_true', Bool.not_eq_false', beq_iff_eq, bne_iff_ne, beq_eq_false_iff_ne, bne_eq_false_iff_eq, gt_iff_lt, ge_iff_le, Int.not_lt, Int.not_le] at h6
              exact False.elim (by omega)
            · try simp only [decide_eq_true_eq, decide_eq_false_iff_not, Bool.not_eq_true', Bool.not_eq_false', beq_iff_eq, bne_iff_ne, beq_eq_false_iff_ne, bne_eq_false_iff_eq, gt_iff_lt, ge_iff_le, Int.not_lt, Int.not_le] at h6
              refine DC.op rfl rfl rfl (fun _ => mv_im rfl) ?_
              refine DC.op rfl rfl rfl (fun _ => mv_sc rfl) ?_
              refine DC.op rfl rfl rfl (fun _ => mv_sc rfl) ?_
              refine DC.op rfl rfl rfl (fun _ => step_remN (q := 2) rfl rfl (by omega)) ?_
              refine DC.op rfl rfl rfl (fun _ => step_subN rfl rfl (by omega) (by (simp only [cap]; omega))) ?_
              refine DC.op rfl rfl rfl (fun _ => step_addN (q := 1) rfl rfl (by (simp only [cap]; omega))) ?_
              refine DC.op rfl rfl rfl (fun _ => step_idxB Try.runUnderlying23 Try.sizeOf5 rfl rfl (by (exact rfl)) (by omega)) ?_
              refine DC.op rfl rfl rfl (fun _ => step_loadB Try.isAgg5 rfl (by omega)) ?_
              refine DC.op rfl rfl rfl (fun _ => step_int2 rfl rfl rfl) ?_
              refine DC.op rfl rfl rfl (fun _ => pk_f rfl rfl rfl) ?_
              refine DC.op rfl rfl rfl (fun _ => pk_t rfl rfl rfl) ?_
              refine DC.fin [(2, 0), (3, 0), (6, 0), (7, 0), (18, 0), (19, 0), (29, 0), (30, 0)] (by kernel_rfl) (by kernel_rfl) ?_ ?_
              · repeat (first | exact True.intro | refine And.intro ?_ ?_)
              · refine W.cond rfl (fun h7 => ?_) (fun h7 => ?_)
                · try simp only [decide_eq_true_eq, decide_eq_false_iff_not, Bool.not_eq_true', Bool.not_eq_false', beq_iff_eq, bne_iff_ne, beq_eq_false_iff_ne, bne_eq_false_iff_eq, gt_iff_lt, ge_iff_le, Int.not_lt, Int.not_le] at h7
                  exact False.elim (by omega)
                · try simp only [decide_eq_true_eq, decide_eq_false_iff_not, Bool.not_eq_true', Bool.not_eq_false', beq_iff_eq, bne_iff_ne, beq_eq_false_iff_ne, bne_eq_false_iff_eq, gt_iff_lt, ge_iff_le, Int.not_lt, Int.not_le] at h7
                  refine W.skip ?_
                  refine W.to [(3, _), (8, _), (10, _), (14, _), (15, _), (16, _), (81, _), (135, _)] [_, _, _, _] rfl ⟨(by exact sh_im rfl), (by exact sh_sc rfl), (by exact sh_ptr rfl), (by exact sh_im rfl), (by exact sh_sc rfl), (by exact sh_sc rfl), (by exact sh_sc rfl), (by exact sh_sc rfl), trivial⟩ ?_
                  refine W.region ?_
                  refine WO.op rfl rfl rfl rfl (mv_sc rfl) ?_
                  refine WO.op rfl rfl rfl rfl (step_addN (q := 1) rfl rfl (by (simp only [cap]; omega))) ?_
                  refine WO.op rfl rfl rfl rfl (as_sc rfl) ?_
                  refine WO.nil ?_
                  exact ⟨i + 1, (by omega), (by omega), Le.eqs rfl ⟨rfl, rfl, rfl, rfl, rfl, trivial⟩⟩
          · try simp only [decide_eq_true_eq, decide_eq_false_iff_not, Bool.not_eq_true', Bool.not_eq_false', beq_iff_eq, bne_iff_ne, beq_eq_false_iff_ne, bne_eq_false_iff_eq, gt_iff_lt, ge_iff_le, Int.not_lt, Int.not_le] at h5
            refine DC.skp rfl rfl rfl ?_
            refine DC.skp rfl rfl rfl ?_
            refine DC.skp rfl rfl rfl ?_
            refine DC.skp rfl rfl rfl ?_
            refine DC.skp rfl rfl rfl ?_
            refine DC.skp rfl rfl rfl ?_
            refine DC.skp rfl rfl rfl ?_
            refine DC.skp rfl rfl rfl ?_
            refine DC.skp rfl rfl rfl ?_
            refine DC.skp rfl rfl rfl ?_
            refine DC.skp rfl rfl rfl ?_
            refine DC.skp rfl rfl rfl ?_
            refine DC.skp rfl rfl rfl ?_
            refine DC.skp rfl rfl rfl ?_
            refine DC.skp rfl rfl rfl ?_
            refine DC.skp rfl rfl rfl ?_
            refine DC.skp rfl rfl rfl ?_
            refine DC.skp rfl rfl rfl ?_
            refine DC.skp rfl rfl rfl ?_
            refine DC.skp rfl rfl rfl ?_
            refine DC.skp rfl rfl rfl ?_
            refine DC.skp rfl rfl rfl ?_
            refine DC.skp rfl rfl rfl ?_
            refine DC.op rfl rfl rfl (fun _ => pk_f rfl rfl rfl) ?_
            refine DC.fin [(2, 0), (3, 0), (6, 0), (7, 0), (18, 0), (19, 0), (29, 0), (30, 0)] (by kernel_rfl) (by kernel_rfl) ?_ ?_
            · repeat (first | exact True.intro | refine And.intro ?_ ?_)
            · refine W.condF rfl ?_
              refine W.skip ?_
              refine W.to [(3, _), (8, _), (10, _), (14, _), (15, _), (16, _), (81, _), (135, _)] [_, _, _, _] rfl ⟨(by exact sh_im rfl), (by exact sh_sc rfl), (by exact sh_ptr rfl), (by exact sh_im rfl), (by exact sh_sc rfl), (by exact sh_sc rfl), (by exact sh_sc rfl), (by exact sh_sc rfl), trivial⟩ ?_
              refine W.region ?_
              refine WO.op rfl rfl rfl rfl (mv_sc rfl) ?_
              refine WO.op rfl rfl rfl rfl (step_addN (q := 1) rfl rfl (by (simp only [cap]; omega))) ?_
              refine WO.op rfl rfl rfl rfl (as_sc rfl) ?_
              refine WO.nil ?_
              exact ⟨i + 1, (by omega), (by omega), Le.eqs rfl ⟨rfl, rfl, rfl, rfl, rfl, trivial⟩⟩
        · try simp only [decide_eq_true_eq, decide_eq_false_iff_not, Bool.not_eq_true', Bool.not_eq_false', beq_iff_eq, bne_iff_ne, beq_eq_false_iff_ne, bne_eq_false_iff_eq, gt_iff_lt, ge_iff_le, Int.not_lt, Int.not_le] at h4
          refine WO.op rfl rfl rfl rfl (step_fieldR (k := 0) (FieldOff.mk (by kernel_rfl)) rfl rfl (by exact Nat.zero_add _)) ?_
          refine WO.op rfl rfl rfl rfl (step_load Try.isAgg3 rfl rfl rfl) ?_
          refine WO.op rfl rfl rfl rfl (step_int2 rfl rfl rfl) ?_
          refine WO.op rfl rfl rfl rfl (mv_sc rfl) ?_
          refine WO.spl 96 rfl (fun h8 => ?_) (fun h8 => ?_)
          · try simp only [decide_eq_true_eq, decide_eq_false_iff_not, Bool.not_eq_true', Bool.not_eq_false', beq_iff_eq, bne_iff_ne, beq_eq_false_iff_ne, bne_eq_false_iff_eq, gt_iff_lt, ge_iff_le, Int.not_lt, Int.not_le] at h8
            refine WO.op rfl rfl rfl rfl (mv_sc rfl) ?_
            refine WO.op rfl rfl rfl rfl (step_quoN (q := 2) rfl rfl (by omega) (by (simp only [cap]; omega))) ?_
            refine WO.op rfl rfl rfl rfl (step_int2 rfl rfl rfl) ?_
            refine WO.op rfl rfl rfl rfl (pk_t rfl rfl rfl) ?_
            refine WO.op rfl rfl rfl rfl (pk_f rfl rfl rfl) ?_
            refine WO.op rfl rfl rfl rfl (as_sc rfl) ?_
            refine WO.nil ?_
            refine W.seq ?_
            refine W.to [(3, _), (8, _), (10, _), (14, _), (15, _), (16, _), (81, _)] [_, _, _, _] rfl ⟨(by exact sh_im rfl), (by exact sh_sc rfl), (by exact sh_ptr rfl), (by exact sh_im rfl), (by exact sh_sc rfl), (by exact sh_sc rfl), (by exact sh_sc rfl), trivial⟩ ?_
            have hb := hback i (by omega)
            have z1 := byte_le (c.getD i 0)
            have z2 := byte_le (l.getD i 0)
            refine W.draw (Checked.mixed Try.checked) ?_
            refine DC.op rfl rfl rfl (fun _ => mv_im rfl) ?_
            refine DC.op rfl rfl rfl (fun _ => mv_sc rfl) ?_
            refine DC.op rfl rfl rfl (fun _ => step_idxB Try.runUnderlying23 Try.sizeOf5 rfl rfl (by (exact rfl)) (by omega)) ?_
            refine DC.op rfl rfl rfl (fun _ => step_loadB Try.isAgg5 rfl (by omega)) ?_
            refine DC.op rfl rfl rfl (fun _ => mv_im rfl) ?_
            refine DC.op rfl rfl rfl (fun _ => mv_sc rfl) ?_
            refine DC.op rfl rfl rfl (fun _ => step_idxB Try.runUnderlying23 Try.sizeOf5 rfl rfl (by (exact rfl)) (by omega)) ?_
            refine DC.op rfl rfl rfl (fun _ => step_loadB Try.isAgg5 rfl (by omega)) ?_
            refine DC.op rfl rfl rfl (fun _ => step_int2 rfl rfl rfl) ?_
            refine DC.op rfl rfl rfl (fun _ => mv_sc rfl) ?_
            refine DC.split 111 rfl (fun h9 => ?_) (fun h9 => ?_)
            · try simp only [decide_eq_true_eq, decide_eq_false_iff_not, Bool.not_eq_true', Bool.not_eq_false', beq_iff_eq, bne_iff_ne, beq_eq_false_iff_ne, bne_eq_false_iff_eq, gt_iff_lt, ge_iff_le, Int.not_lt, Int.not_le] at h9
              refine DC.op rfl rfl rfl (fun _ => mv_sc rfl) ?_
              refine DC.op rfl rfl rfl (fun _ => step_not rfl) ?_
              refine DC.op rfl rfl rfl (fun _ => mv_sc rfl) ?_
              refine DC.split 114 rfl (fun h10 => ?_) (fun h10 => ?_)
              · try simp only [decide_eq_true_eq, decide_eq_false_iff_not, Bool.not_eq_true', Bool.not_eq_false', beq_iff_eq, bne_iff_ne, beq_eq_false_iff_ne, bne_eq_false_iff_eq, gt_iff_lt, ge_iff_le, Int.not_lt, Int.not_le] at h10
                exact False.elim (by omega)
              · try simp only [decide_eq_true_eq, decide_eq_false_iff_not, Bool.not_eq_true', Bool.not_eq_false', beq_iff_eq, bne_iff_ne, beq_eq_false_iff_ne, bne_eq_false_iff_eq, gt_iff_lt, ge_iff_le, Int.not_lt, Int.not_le] at h10
                refine DC.op rfl rfl rfl (fun _ => mv_im rfl) ?_
                refine DC.op rfl rfl rfl (fun _ => mv_sc rfl) ?_
                refine DC.op rfl rfl rfl (fun _ => mv_sc rfl) ?_
                refine DC.op rfl rfl rfl (fun _ => step_remN (q := 2) rfl rfl (by omega)) ?_
                refine DC.op rfl rfl rfl (fun _ => step_subN rfl rfl (by omega) (by (simp only [cap]; omega))) ?_
                refine DC.op rfl rfl rfl (fun _ => step_idxB Try.runUnderlying23 Try.sizeOf5 rfl rfl (by (exact rfl)) (by omega)) ?_
                refine DC.op rfl rfl rfl (fun _ => step_loadB Try.isAgg5 rfl (by omega)) ?_
                refine DC.op rfl rfl rfl (fun _ => step_int2 rfl rfl rfl) ?_
                refine DC.op rfl rfl rfl (fun _ => pk_f rfl rfl rfl) ?_
                refine DC.op rfl rfl rfl (fun _ => mv_sc rfl) ?_
                refine DC.split 124 rfl (fun h11 => ?_) (fun h11 => ?_)
                · try simp only [decide_eq_true_eq, decide_eq_false_iff_not, Bool.not_eq_true', Bool.not_eq_false', beq_iff_eq, bne_iff_ne, beq_eq_false_iff_ne, bne_eq_false_iff_eq, gt_iff_lt, ge_iff_le, Int.not_lt, Int.not_le] at h11
                  exact False.elim (by omega)
                · try simp only [decide_eq_true_eq, decide_eq_false_iff_not, Bool.not_eq_true', Bool.not_eq_false', beq_iff_eq, bne_iff_ne, beq_eq_false_iff_ne, bne_eq_false_iff_eq, gt_iff_lt, ge_iff_le, Int.not_lt, Int.not_le] at h11
                  refine DC.op rfl rfl rfl (fun _ => mv_im rfl) ?_
                  refine DC.op rfl rfl rfl (fun _ => mv_sc rfl) ?_
                  refine DC.op rfl rfl rfl (fun _ => mv_sc rfl) ?_
                  refine DC.op rfl rfl rfl (fun _ => step_remN (q := 2) rfl rfl (by omega)) ?_
                  refine DC.op rfl rfl rfl (fun _ => step_subN rfl rfl (by omega) (by (simp only [cap]; omega))) ?_
                  refine DC.op rfl rfl rfl (fun _ => step_addN (q := 1) rfl rfl (by (simp only [cap]; omega))) ?_
                  refine DC.op rfl rfl rfl (fun _ => step_idxB Try.runUnderlying23 Try.sizeOf5 rfl rfl (by (exact rfl)) (by omega)) ?_
                  refine DC.op rfl rfl rfl (fun _ => step_loadB Try.isAgg5 rfl (by omega)) ?_
                  refine DC.op rfl rfl rfl (fun _ => step_int2 rfl rfl rfl) ?_
                  refine DC.op rfl rfl rfl (fun _ => pk_f rfl rfl rfl) ?_
                  refine DC.op rfl rfl rfl (fun _ => pk_t rfl rfl rfl) ?_
                  refine DC.fin [(2, 0), (3, 0), (6, 0), (7, 0), (18, 0), (19, 0), (29, 0), (30, 0)] (by kernel_rfl) (by kernel_rfl) ?_ ?_
                  · repeat (first | exact True.intro | refine And.intro ?_ ?_)
                  · refine W.cond rfl (fun h12 => ?_) (fun h12 => ?_)
                    · try simp only [decide_eq_true_eq, decide_eq_false_iff_not, Bool.not_eq_true', Bool.not_eq_false', beq_iff_eq, bne_iff_ne, beq_eq_false_iff_ne, bne_eq_false_iff_eq, gt_iff_lt, ge_iff_le, Int.not_lt, Int.not_le] at h12
                      exact False.elim (by omega)
                    · try simp only [decide_eq_true_eq, decide_eq_false_iff_not, Bool.not_eq_true', Bool.not_eq_false', beq_iff_eq, bne_iff_ne, beq_eq_false_iff_ne, bne_eq_false_iff_eq, gt_iff_lt, ge_iff_le, Int.not_lt, Int.not_le] at h12
                      refine W.skip ?_
                      refine W.to [(3, _), (8, _), (10, _), (14, _), (15, _), (16, _), (81, _), (135, _)] [_, _, _, _] rfl ⟨(by exact sh_im rfl), (by exact sh_sc rfl), (by exact sh_ptr rfl), (by exact sh_im rfl), (by exact sh_sc rfl), (by exact sh_sc rfl), (by exact sh_sc rfl), (by exact sh_sc rfl), trivial⟩ ?_
                      refine W.region ?_
                      refine WO.op rfl rfl rfl rfl (mv_sc rfl) ?_
                      refine WO.op rfl rfl rfl rfl (step_addN (q := 1) rfl rfl (by (simp only [cap]; omega))) ?_
                      refine WO.op rfl rfl rfl rfl (as_sc rfl) ?_
                      refine WO.nil ?_
                      exact ⟨i + 1, (by omega), (by omega), Le.eqs rfl ⟨rfl, rfl, rfl, rfl, rfl, trivial⟩⟩
            · try simp only [decide_eq_true_eq, decide_eq_false_iff_not, Bool.not_eq_true', Bool.not_eq_false', beq_iff_eq, bne_iff_ne, beq_eq_false_iff_ne, bne_eq_false_iff_eq, gt_iff_lt, ge_iff_le, Int.not_lt, Int.not_le] at h9
              refine DC.skp rfl rfl rfl ?_
              refine DC.skp rfl rfl rfl ?_
              refine DC.skp rfl rfl rfl ?_
              refine DC.skp rfl rfl rfl ?_
              refine DC.skp rfl rfl rfl ?_
              refine DC.skp rfl rfl rfl ?_
              refine DC.skp rfl rfl rfl ?_
              refine DC.skp rfl rfl rfl ?_
              refine DC.skp rfl rfl rfl ?_
              refine DC.skp rfl rfl rfl ?_
              refine DC.skp rfl rfl rfl ?_
              refine DC.skp rfl rfl rfl ?_
              refine DC.skp rfl rfl rfl ?_
              refine DC.skp rfl rfl rfl ?_
              refine DC.skp rfl rfl rfl ?_
              refine DC.skp rfl rfl rfl ?_
              refine DC.skp rfl rfl rfl ?_
              refine DC.skp rfl rfl rfl ?_
              refine DC.skp rfl rfl rfl ?_
              refine DC.skp rfl rfl rfl ?_
              refine DC.skp rfl rfl rfl ?_
              refine DC.skp rfl rfl rfl ?_
              refine DC.skp rfl rfl rfl ?_
              refine DC.op rfl rfl rfl (fun _ => pk_f rfl rfl rfl) ?_
              refine DC.fin [(2, 0), (3, 0), (6, 0), (7, 0), (18, 0), (19, 0), (29, 0), (30, 0)] (by kernel_rfl) (by kernel_rfl) ?_ ?_
              · repeat (first | exact True.intro | refine And.intro ?_ ?_)
              · refine W.condF rfl ?_
                refine W.skip ?_
                refine W.to [(3, _), (8, _), (10, _), (14, _), (15, _), (16, _), (81, _), (135, _)] [_, _, _, _] rfl ⟨(by exact sh_im rfl), (by exact sh_sc rfl), (by exact sh_ptr rfl), (by exact sh_im rfl), (by exact sh_sc rfl), (by exact sh_sc rfl), (by exact sh_sc rfl), (by exact sh_sc rfl), trivial⟩ ?_
                refine W.region ?_
                refine WO.op rfl rfl rfl rfl (mv_sc rfl) ?_
                refine WO.op rfl rfl rfl rfl (step_addN (q := 1) rfl rfl (by (simp only [cap]; omega))) ?_
                refine WO.op rfl rfl rfl rfl (as_sc rfl) ?_
                refine WO.nil ?_
                exact ⟨i + 1, (by omega), (by omega), Le.eqs rfl ⟨rfl, rfl, rfl, rfl, rfl, trivial⟩⟩
          · try simp only [decide_eq_true_eq, decide_eq_false_iff_not, Bool.not_eq_true', Bool.not_eq_false', beq_iff_eq, bne_iff_ne, beq_eq_false_iff_ne, bne_eq_false_iff_eq, gt_iff_lt, ge_iff_le, Int.not_lt, Int.not_le] at h8
            refine WO.sk rfl rfl rfl rfl ?_
            refine WO.sk rfl rfl rfl rfl ?_
            refine WO.sk rfl rfl rfl rfl ?_
            refine WO.op rfl rfl rfl rfl (pk_f rfl rfl rfl) ?_
            refine WO.op rfl rfl rfl rfl (pk_f rfl rfl rfl) ?_
            refine WO.op rfl rfl rfl rfl (as_sc rfl) ?_
            refine WO.nil ?_
            refine W.seq ?_
            refine W.to [(3, _), (8, _), (10, _), (14, _), (15, _), (16, _), (81, _)] [_, _, _, _] rfl ⟨(by exact sh_im rfl), (by exact sh_sc rfl), (by exact sh_ptr rfl), (by exact sh_im rfl), (by exact sh_sc rfl), (by exact sh_sc rfl), (by exact sh_sc rfl), trivial⟩ ?_
            have hb := hback i (by omega)
            have z1 := byte_le (c.getD i 0)
            have z2 := byte_le (l.getD i 0)
            refine W.draw (Checked.mixed Try.checked) ?_
            refine DC.op rfl rfl rfl (fun _ => mv_im rfl) ?_
            refine DC.op rfl rfl rfl (fun _ => mv_sc rfl) ?_
            refine DC.op rfl rfl rfl (fun _ => step_idxB Try.runUnderlying23 Try.sizeOf5 rfl rfl (by (exact rfl)) (by omega)) ?_
            refine DC.op rfl rfl rfl (fun _ => step_loadB Try.isAgg5 rfl (by omega)) ?_
            refine DC.op rfl rfl rfl (fun _ => mv_im rfl) ?_
            refine DC.op rfl rfl rfl (fun _ => mv_sc rfl) ?_
            refine DC.op rfl rfl rfl (fun _ => step_idxB Try.runUnderlying23 Try.sizeOf5 rfl rfl (by (exact rfl)) (by omega)) ?_
            refine DC.op rfl rfl rfl (fun _ => step_loadB Try.isAgg5 rfl (by omega)) ?_
            refine DC.op rfl rfl rfl (fun _ => step_int2 rfl rfl rfl) ?_
            refine DC.op rfl rfl rfl (fun _ => mv_sc rfl) ?_
            refine DC.split 111 rfl (fun h13 => ?_) (fun h13 => ?_)
            · try simp only [decide_eq_true_eq, decide_eq_false_iff_not, Bool.not_eq_true', Bool.not_eq_false', beq_iff_eq, bne_iff_ne, beq_eq_false_iff_ne, bne_eq_false_iff_eq, gt_iff_lt, ge_iff_le, Int.not_lt, Int.not_le] at h13
              exact False.elim (by omega)
            · try simp only [decide_eq_true_eq, decide_eq_false_iff_not, Bool.not_eq_true', Bool.not_eq_false', beq_iff_eq, bne_iff_ne, beq_eq_false_iff_ne, bne_eq_false_iff_eq, gt_iff_lt, ge_iff_le, Int.not_lt, Int.not_le] at h13
              refine DC.skp rfl rfl rfl ?_
              refine DC.skp rfl rfl rfl ?_
              refine DC.skp rfl rfl rfl ?_
              refine DC.skp rfl rfl rfl ?_
              refine DC.skp rfl rfl rfl ?_
              refine DC.skp rfl rfl rfl ?_
              refine DC.skp rfl rfl rfl ?_
              refine DC.skp rfl rfl rfl ?_
              refine DC.skp rfl rfl rfl ?_
              refine DC.skp rfl rfl rfl ?_
              refine DC.skp rfl rfl rfl ?_
              refine DC.skp rfl rfl rfl ?_
              refine DC.skp rfl rfl rfl ?_
              refine DC.skp rfl rfl rfl ?_
              refine DC.skp rfl rfl rfl ?_
              refine DC.skp rfl rfl rfl ?_
              refine DC.skp rfl rfl rfl ?_
              refine DC.skp rfl rfl rfl ?_
              refine DC.skp rfl rfl rfl ?_
              refine DC.skp rfl rfl rfl ?_
              refine DC.skp rfl rfl rfl ?_
              refine DC.skp rfl rfl rfl ?_
              refine DC.skp rfl rfl rfl ?_
              refine DC.op rfl rfl rfl (fun _ => pk_f rfl rfl rfl) ?_
              refine DC.fin [(2, 0), (3, 0), (6, 0), (7, 0), (18, 0), (19, 0), (29, 0), (30, 0)] (by kernel_rfl) (by kernel_rfl) ?_ ?_
              · repeat (first | exact True.intro | refine And.intro ?_ ?_)
              · refine W.condF rfl ?_
                refine W.skip ?_
                refine W.to [(3, _), (8, _), (10, _), (14, _), (15, _), (16, _), (81, _), (135, _)] [_, _, _, _] rfl ⟨(by exact sh_im rfl), (by exact sh_sc rfl), (by exact sh_ptr rfl), (by exact sh_im rfl), (by exact sh_sc rfl), (by exact sh_sc rfl), (by exact sh_sc rfl), (by exact sh_sc rfl), trivial⟩ ?_
                refine W.region ?_
                refine WO.op rfl rfl rfl rfl (mv_sc rfl) ?_
                refine WO.op rfl rfl rfl rfl (step_addN (q := 1) rfl rfl (by (simp only [cap]; omega))) ?_
                refine WO.op rfl rfl rfl rfl (as_sc rfl) ?_
                refine WO.nil ?_
                exact ⟨i + 1, (by omega), (by omega), Le.eqs rfl ⟨rfl, rfl, rfl, rfl, rfl, trivial⟩⟩
      · try simp only [decide_eq_true_eq, decide_eq_false_iff_not, Bool.not_eq_true', Bool.not_eq_false', beq_iff_eq, bne_iff_ne, beq_eq_false_iff_ne, bne_eq_false_iff_eq, gt_iff_lt, ge_iff_le, Int.not_lt, Int.not_le] at h3
        refine WO.sk rfl rfl rfl rfl ?_
        refine WO.sk rfl rfl rfl rfl ?_
        refine WO.sk rfl rfl rfl rfl ?_
        refine WO.op rfl rfl rfl rfl (pk_f rfl rfl rfl) ?_
        refine WO.op rfl rfl rfl rfl (mv_sc rfl) ?_
        refine WO.op rfl rfl rfl rfl (step_fieldR (k := 0) (FieldOff.mk (by kernel_rfl)) rfl rfl (by exact Nat.zero_add _)) ?_
        refine WO.op rfl rfl rfl rfl (step_load Try.isAgg3 rfl rfl rfl) ?_
        refine WO.op rfl rfl rfl rfl (step_int2 rfl rfl rfl) ?_
        refine WO.op rfl rfl rfl rfl (mv_sc rfl) ?_
        refine WO.spl 96 rfl (fun h14 => ?_) (fun h14 => ?_)
        · try simp only [decide_eq_true_eq, decide_eq_false_iff_not, Bool.not_eq_true', Bool.not_eq_false', beq_iff_eq, bne_iff_ne, beq_eq_false_iff_ne, bne_eq_false_iff_eq, gt_iff_lt, ge_iff_le, Int.not_lt, Int.not_le] at h14
          refine WO.op rfl rfl rfl rfl (mv_sc rfl) ?_
          refine WO.op rfl rfl rfl rfl (step_quoN (q := 2) rfl rfl (by omega) (by (simp only [cap]; omega))) ?_
          refine WO.op rfl rfl rfl rfl (step_int2 rfl rfl rfl) ?_
          refine WO.op rfl rfl rfl rfl (pk_t rfl rfl rfl) ?_
          refine WO.op rfl rfl rfl rfl (pk_f rfl rfl rfl) ?_
          refine WO.op rfl rfl rfl rfl (as_sc rfl) ?_
          refine WO.nil ?_
          refine W.seq ?_
          refine W.to [(3, _), (8, _), (10, _), (14, _), (15, _), (16, _), (81, _)] [_, _, _, _] rfl ⟨(by exact sh_im rfl), (by exact sh_sc rfl), (by exact sh_ptr rfl), (by exact sh_im rfl), (by exact sh_sc rfl), (by exact sh_sc rfl), (by exact sh_sc rfl), trivial⟩ ?_
          have hb := hback i (by omega)
          have z1 := byte_le (c.getD i 0)
          have z2 := byte_le (l.getD i 0)
          refine W.draw (Checked.mixed Try.checked) ?_
          refine DC.op rfl rfl rfl (fun _ => mv_im rfl) ?_
          refine DC.op rfl rfl rfl (fun _ => mv_sc rfl) ?_
          refine DC.op rfl rfl rfl (fun _ => step_idxB Try.runUnderlying23 Try.sizeOf5 rfl rfl (by (exact rfl)) (by omega)) ?_
          refine DC.op rfl rfl rfl (fun _ => step_loadB Try.isAgg5 rfl (by omega)) ?_
          refine DC.op rfl rfl rfl (fun _ => mv_im rfl) ?_
          refine DC.op rfl rfl rfl (fun _ => mv_sc rfl) ?_
          refine DC.op rfl rfl rfl (fun _ => step_idxB Try.runUnderlying23 Try.sizeOf5 rfl rfl (by (exact rfl)) (by omega)) ?_
          refine DC.op rfl rfl rfl (fun _ => step_loadB Try.isAgg5 rfl (by omega)) ?_
          refine DC.op rfl rfl rfl (fun _ => step_int2 rfl rfl rfl) ?_
          refine DC.op rfl rfl rfl (fun _ => mv_sc rfl) ?_
          refine DC.split 111 rfl (fun h15 => ?_) (fun h15 => ?_)
          · try simp only [decide_eq_true_eq, decide_eq_false_iff_not, Bool.not_eq_true', Bool.not_eq_false', beq_iff_eq, bne_iff_ne, beq_eq_false_iff_ne, bne_eq_false_iff_eq, gt_iff_lt, ge_iff_le, Int.not_lt, Int.not_le] at h15
            refine DC.op rfl rfl rfl (fun _ => mv_sc rfl) ?_
            refine DC.op rfl rfl rfl (fun _ => step_not rfl) ?_
            refine DC.op rfl rfl rfl (fun _ => mv_sc rfl) ?_
            refine DC.split 114 rfl (fun h16 => ?_) (fun h16 => ?_)
            · try simp only [decide_eq_true_eq, decide_eq_false_iff_not, Bool.not_eq_true', Bool.not_eq_false', beq_iff_eq, bne_iff_ne, beq_eq_false_iff_ne, bne_eq_false_iff_eq, gt_iff_lt, ge_iff_le, Int.not_lt, Int.not_le] at h16
              exact False.elim (by omega)
            · try simp only [decide_eq_true_eq, decide_eq_false_iff_not, Bool.not_eq_true', Bool.not_eq_false', beq_iff_eq, bne_iff_ne, beq_eq_false_iff_ne, bne_eq_false_iff_eq, gt_iff_lt, ge_iff_le, Int.not_lt, Int.not_le] at h16
              refine DC.op rfl rfl rfl (fun _ => mv_im rfl) ?_
              refine DC.op rfl rfl rfl (fun _ => mv_sc rfl) ?_
              refine DC.op rfl rfl rfl (fun _ => mv_sc rfl) ?_
              refine DC.op rfl rfl rfl (fun _ => step_remN (q := 2) rfl rfl (by omega)) ?_
              refine DC.op rfl rfl rfl (fun _ => step_subN rfl rfl (by omega) (by (simp only [cap]; omega))) ?_
              refine DC.op rfl rfl rfl (fun _ => step_idxB Try.runUnderlying23 Try.sizeOf5 rfl rfl (by (exact rfl)) (by omega)) ?_
              refine DC.op rfl rfl rfl (fun _ => step_loadB Try.isAgg5 rfl (by omega)) ?_
              refine DC.op rfl rfl rfl (fun _ => step_int2 rfl rfl rfl) ?_
              refine DC.op rfl rfl rfl (fun _ => pk_f rfl rfl rfl) ?_
              refine DC.op rfl rfl rfl (fun _ => mv_sc rfl) ?_
              refine DC.split 124 rfl (fun h17 => ?_) (fun h17 => ?_)
              · try simp only [decide_eq_true_eq, decide_eq_false_iff_not, Bool.not_eq_true', Bool.not_eq_false', beq_iff_eq, bne_iff_ne, beq_eq_false_iff_ne, bne_eq_false_iff_eq, gt_iff_lt, ge_iff_le, Int.not_lt, Int.not_le] at h17
                exact False.elim (by omega)
              · try simp only [decide_eq_true_eq, decide_eq_false_iff_not, Bool.not_eq_true', Bool.not_eq_false', beq_iff_eq, bne_iff_ne, beq_eq_false_iff_ne, bne_eq_false_iff_eq, gt_iff_lt, ge_iff_le, Int.not_lt, Int.not_le] at h17
                refine DC.op rfl rfl rfl (fun _ => mv_im rfl) ?_
                refine DC.op rfl rfl rfl (fun _ => mv_sc rfl) ?_
                refine DC.op rfl rfl rfl (fun _ => mv_sc rfl) ?_
                refine DC.op rfl rfl rfl (fun _ => step_remN (q := 2) rfl rfl (by omega)) ?_
                refine DC.op rfl rfl rfl (fun _ => step_subN rfl rfl (by omega) (by (simp only [cap]; omega))) ?_
                refine DC.op rfl rfl rfl (fun _ => step_addN (q := 1) rfl rfl (by (simp only [cap]; omega))) ?_
                refine DC.op rfl rfl rfl (fun _ => step_idxB Try.runUnderlying23 Try.sizeOf5 rfl rfl (by (exact rfl)) (by omega)) ?_
                refine DC.op rfl rfl rfl (fun _ => step_loadB Try.isAgg5 rfl (by omega)) ?_
                refine DC.op rfl rfl rfl (fun _ => step_int2 rfl rfl rfl) ?_
                refine DC.op rfl rfl rfl (fun _ => pk_f rfl rfl rfl) ?_
                refine DC.op rfl rfl rfl (fun _ => pk_t rfl rfl rfl) ?_
                refine DC.fin [(2, 0), (3, 0), (6, 0), (7, 0), (18, 0), (19, 0), (29, 0), (30, 0)] (by kernel_rfl) (by kernel_rfl) ?_ ?_
                · repeat (first | exact True.intro | refine And.intro ?_ ?_)
                · refine W.cond rfl (fun h18 => ?_) (fun h18 => ?_)
                  · try simp only [decide_eq_true_eq, decide_eq_false_iff_not, Bool.not_eq_true', Bool.not_eq_false', beq_iff_eq, bne_iff_ne, beq_eq_false_iff_ne, bne_eq_false_iff_eq, gt_iff_lt, ge_iff_le, Int.not_lt, Int.not_le] at h18
                    exact False.elim (by omega)
                  · try simp only [decide_eq_true_eq, decide_eq_false_iff_not, Bool.not_eq_true', Bool.not_eq_false', beq_iff_eq, bne_iff_ne, beq_eq_false_iff_ne, bne_eq_false_iff_eq, gt_iff_lt, ge_iff_le, Int.not_lt, Int.not_le] at h18
                    refine W.skip ?_
                    refine W.to [(3, _), (8, _), (10, _), (14, _), (15, _), (16, _), (81, _), (135, _)] [_, _, _, _] rfl ⟨(by exact sh_im rfl), (by exact sh_sc rfl), (by exact sh_ptr rfl), (by exact sh_im rfl), (by exact sh_sc rfl), (by exact sh_sc rfl), (by exact sh_sc rfl), (by exact sh_sc rfl), trivial⟩ ?_
                    refine W.region ?_
                    refine WO.op rfl rfl rfl rfl (mv_sc rfl) ?_
                    refine WO.op rfl rfl rfl rfl (step_addN (q := 1) rfl rfl (by (simp only [cap]; omega))) ?_
                    refine WO.op rfl rfl rfl rfl (as_sc rfl) ?_
                    refine WO.nil ?_
                    exact ⟨i + 1, (by omega), (by omega), Le.eqs rfl ⟨rfl, rfl, rfl, rfl, rfl, trivial⟩⟩
          · try simp only [decide_eq_true_eq, decide_eq_false_iff_not, Bool.not_eq_true', Bool.not_eq_false', beq_iff_eq, bne_iff_ne, beq_eq_false_iff_ne, bne_eq_false_iff_eq, gt_iff_lt, ge_iff_le, Int.not_lt, Int.not_le] at h15
            refine DC.skp rfl rfl rfl ?_
            refine DC.skp rfl rfl rfl ?_
            refine DC.skp rfl rfl rfl ?_
            refine DC.skp rfl rfl rfl ?_
            refine DC.skp rfl rfl rfl ?_
            refine DC.skp rfl rfl rfl ?_
            refine DC.skp rfl rfl rfl ?_
            refine DC.skp rfl rfl rfl ?_
            refine DC.skp rfl rfl rfl ?_
            refine DC.skp rfl rfl rfl ?_
            refine DC.skp rfl rfl rfl ?_
            refine DC.skp rfl rfl rfl ?_
            refine DC.skp rfl rfl rfl ?_
            refine DC.skp rfl rfl rfl ?_
            refine DC.skp rfl rfl rfl ?_
            refine DC.skp rfl rfl rfl ?_
            refine DC.skp rfl rfl rfl ?_
            refine DC.skp rfl rfl rfl ?_
            refine DC.skp rfl rfl rfl ?_
            refine DC.skp rfl rfl rfl ?_
            refine DC.skp rfl rfl rfl ?_
            refine DC.skp rfl rfl rfl ?_
            refine DC.skp rfl rfl rfl ?_
            refine DC.op rfl rfl rfl (fun _ => pk_f rfl rfl rfl) ?_
            refine DC.fin [(2, 0), (3, 0), (6, 0), (7, 0), (18, 0), (19, 0), (29, 0), (30, 0)] (by kernel_rfl) (by kernel_rfl) ?_ ?_
            · repeat (first | exact True.intro | refine And.intro ?_ ?_)
            · refine W.condF rfl ?_
              refine W.skip ?_
              refine W.to [(3, _), (8, _), (10, _), (14, _), (15, _), (16, _), (81, _), (135, _)] [_, _, _, _] rfl ⟨(by exact sh_im rfl), (by exact sh_sc rfl), (by exact sh_ptr rfl), (by exact sh_im rfl), (by exact sh_sc rfl), (by exact sh_sc rfl), (by exact sh_sc rfl), (by exact sh_sc rfl), trivial⟩ ?_
              refine W.region ?_
              refine WO.op rfl rfl rfl rfl (mv_sc rfl) ?_
              refine WO.op rfl rfl rfl rfl (step_addN (q := 1) rfl rfl (by (simp only [cap]; omega))) ?_
              refine WO.op rfl rfl rfl rfl (as_sc rfl) ?_
              refine WO.nil ?_
              exact ⟨i + 1, (by omega), (by omega), Le.eqs rfl ⟨rfl, rfl, rfl, rfl, rfl, trivial⟩⟩
        · try simp only [decide_eq_true_eq, decide_eq_false_iff_not, Bool.not_eq_true', Bool.not_eq_false', beq_iff_eq, bne_iff_ne, beq_eq_false_iff_ne, bne_eq_false_iff_eq, gt_iff_lt, ge_iff_le, Int.not_lt, Int.not_le] at h14
          refine WO.sk rfl rfl rfl rfl ?_
          refine WO.sk rfl rfl rfl rfl ?_
          refine WO.sk rfl rfl rfl rfl ?_
          refine WO.op rfl rfl rfl rfl (pk_f rfl rfl rfl) ?_
          refine WO.op rfl rfl rfl rfl (pk_f rfl rfl rfl) ?_
          refine WO.op rfl rfl rfl rfl (as_sc rfl) ?_
          refine WO.nil ?_
          refine W.seq ?_
          refine W.to [(3, _), (8, _), (10, _), (14, _), (15, _), (16, _), (81, _)] [_, _, _, _] rfl ⟨(by exact sh_im rfl), (by exact sh_sc rfl), (by exact sh_ptr rfl), (by exact sh_im rfl), (by exact sh_sc rfl), (by exact sh_sc rfl), (by exact sh_sc rfl), trivial⟩ ?_
          have hb := hback i (by omega)
          have z1 := byte_le (c.getD i 0)
          have z2 := byte_le (l.getD i 0)
          refine W.draw (Checked.mixed Try.checked) ?_
          refine DC.op rfl rfl rfl (fun _ => mv_im rfl) ?_
          refine DC.op rfl rfl rfl (fun _ => mv_sc rfl) ?_
          refine DC.op rfl rfl rfl (fun _ => step_idxB Try.runUnderlying23 Try.sizeOf5 rfl rfl (by (exact rfl)) (by omega)) ?_
          refine DC.op rfl rfl rfl (fun _ => step_loadB Try.isAgg5 rfl (by omega)) ?_
          refine DC.op rfl rfl rfl (fun _ => mv_im rfl) ?_
          refine DC.op rfl rfl rfl (fun _ => mv_sc rfl) ?_
          refine DC.op rfl rfl rfl (fun _ => step_idxB Try.runUnderlying23 Try.sizeOf5 rfl rfl (by (exact rfl)) (by omega)) ?_
          refine DC.op rfl rfl rfl (fun _ => step_loadB Try.isAgg5 rfl (by omega)) ?_
          refine DC.op rfl rfl rfl (fun _ => step_int2 rfl rfl rfl) ?_
          refine DC.op rfl rfl rfl (fun _ => mv_sc rfl) ?_
          refine DC.split 111 rfl (fun h19 => ?_) (fun h19 => ?_)
          · try simp only [decide_eq_true_eq, decide_eq_false_iff_not, Bool.not_eq_true', Bool.not_eq_false', beq_iff_eq, bne_iff_ne, beq_eq_false_iff_ne, bne_eq_false_iff_eq, gt_iff_lt, ge_iff_le, Int.not_lt, Int.not_le] at h19
            exact False.elim (by omega)
          · try simp only [decide_eq_true_eq, decide_eq_false_iff_not, Bool.not_eq_true', Bool.not_eq_false', beq_iff_eq, bne_iff_ne, beq_eq_false_iff_ne, bne_eq_false_iff_eq, gt_iff_lt, ge_iff_le, Int.not_lt, Int.not_le] at h19
            refine DC.skp rfl rfl rfl ?_
            refine DC.skp rfl rfl rfl ?_
            refine DC.skp rfl rfl rfl ?_
            refine DC.skp rfl rfl rfl ?_
            refine DC.skp rfl rfl rfl ?_
            refine DC.skp rfl rfl rfl ?_
            refine DC.skp rfl rfl rfl ?_
            refine DC.skp rfl rfl rfl ?_
            refine DC.skp rfl rfl rfl ?_
            refine DC.skp rfl rfl rfl ?_
            refine DC.skp rfl rfl rfl ?_
            refine DC.skp rfl rfl rfl ?_
            refine DC.skp rfl rfl rfl ?_
            refine DC.skp rfl rfl rfl ?_
            refine DC.skp rfl rfl rfl ?_
            refine DC.skp rfl rfl rfl ?_
            refine DC.skp rfl rfl rfl ?_
            refine DC.skp rfl rfl rfl ?_
            refine DC.skp rfl rfl rfl ?_
            refine DC.skp rfl rfl rfl ?_
            refine DC.skp rfl rfl rfl ?_
            refine DC.skp rfl rfl rfl ?_
            refine DC.skp rfl rfl rfl ?_
            refine DC.op rfl rfl rfl (fun _ => pk_f rfl rfl rfl) ?_
            refine DC.fin [(2, 0), (3, 0), (6, 0), (7, 0), (18, 0), (19, 0), (29, 0), (30, 0)] (by kernel_rfl) (by kernel_rfl) ?_ ?_
            · repeat (first | exact True.intro | refine And.intro ?_ ?_)
            · refine W.condF rfl ?_
              refine W.skip ?_
              refine W.to [(3, _), (8, _), (10, _), (14, _), (15, _), (16, _), (81, _), (135, _)] [_, _, _, _] rfl ⟨(by exact sh_im rfl), (by exact sh_sc rfl), (by exact sh_ptr rfl), (by exact sh_im rfl), (by exact sh_sc rfl), (by exact sh_sc rfl), (by exact sh_sc rfl), (by exact sh_sc rfl), trivial⟩ ?_
              refine W.region ?_
              refine WO.op rfl rfl rfl rfl (mv_sc rfl) ?_
              refine WO.op rfl rfl rfl rfl (step_addN (q := 1) rfl rfl (by (simp only [cap]; omega))) ?_
              refine WO.op rfl rfl rfl rfl (as_sc rfl) ?_
              refine WO.nil ?_
              exact ⟨i + 1, (by omega), (by omega), Le.eqs rfl ⟨rfl, rfl, rfl, rfl, rfl, trivial⟩⟩
    · try simp only [decide_eq_true_eq, decide_eq_false_iff_not, Bool.not_eq_true', Bool.not_eq_false', beq_iff_eq, bne_iff_ne, beq_eq_false_iff_ne, bne_eq_false_iff_eq, gt_iff_lt, ge_iff_le, Int.not_lt, Int.not_le] at h2
      refine W.exit ?_
      refine W.seq ?_
      refine W.to [(3, _), (8, _), (10, _), (14, _), (15, _), (81, _)] [_, _, _, _] rfl ⟨(by exact sh_im rfl), (by exact sh_sc rfl), (by exact sh_ptr rfl), (by exact sh_im rfl), (by exact sh_sc rfl), (by exact sh_sc rfl), trivial⟩ ?_
      refine W.region ?_
      refine WO.op rfl rfl rfl rfl (as_sc rfl) ?_
      refine WO.nil ?_
      refine W.ret ?_
      refine ⟨.inl rfl, ?_⟩
      exact ret0 (Res.tmp rfl Res.nil) (.keep rfl)

theorem w_L4DecX {src dst e : Nat} {p : Int} {l : List UInt8} (hl : l.length ≤ 200000000000000) (hD : Spec0 Try.prog 8 [.sc (.int .u32 ((src : Nat) : Int)), .sc (.int .u32 ((dst : Nat) : Int)), .sc (.int .i64 p), .im 1 (l.map byteAV)] (.tup [.agg [.sc (.int .i64 0), .sc (.int .i64 0), .sc (.int .i64 0), .sc (.int .u32 0), .sc (.int .i64 0), .sc (.int .i64 0), .sc (.bool false), .sc (.int .u32 0), .sc (.int .u32 0), .sc (.int .i64 0), .sc (.int .i64 0), .sc (.int .i64 0), .sc (.string ⟨#[]⟩), .sc (.string ⟨#[]⟩)], .sc (.int .i64 ((e : Nat) : Int))])) (hR : Spec0 Try.prog 9 [.sc (.int .u32 ((src : Nat) : Int)), .sc (.int .u32 ((dst : Nat) : Int)), .sc (.int .i64 p), .im 1 (l.map byteAV)] (.tup [.agg [.sc (.int .i64 0), .sc (.int .i64 0), .sc (.int .i64 0), .sc (.int .u32 0), .sc (.int .i64 0), .sc (.int .i64 0), .sc (.bool false), .sc (.int .u32 0), .sc (.int .u32 0), .sc (.int .i64 0), .sc (.int .i64 0), .sc (.int .i64 0), .sc (.string ⟨#[]⟩), .sc (.string ⟨#[]⟩)], .sc (.int .i64 ((e : Nat) : Int))])) (he : e ≠ 0) : Spec0 Try.prog 3 [.sc (.int .u32 ((src : Nat) : Int)), .sc (.int .u32 ((dst : Nat) : Int)), .sc (.int .i64 p), .im 1 (l.map byteAV)] (.sc (.bool true)) := by
  refine Spec.body Try.func3 rfl (Nat.le_of_ble_eq_true rfl) ?_
  refine W.seq ?_
  refine W.region ?_
  refine WO.op rfl rfl rfl rfl (as_sc rfl) ?_
  refine WO.nil ?_
  refine W.seq ?_
  refine W.to [(0, _), (1, _), (2, _), (3, _), (8, _)] [] rfl ⟨(by exact sh_sc rfl), (by exact sh_sc rfl), (by exact sh_sc rfl), (by exact sh_im rfl), (by exact sh_sc rfl), trivial⟩ ?_
  refine W.region ?_
  refine WO.opA rfl rfl rfl rfl (al_buildSlice Try.runUnderlying23 (z := (Value.int IntKind.u8 0)) (bs := 1) (esz := 1) (EI.mk (by kernel_rfl)) rfl (by decide) rfl rfl) rfl rfl ?_
  refine WO.put 17 (.sl 0 0 _) rfl ?_
  refine WO.op rfl rfl rfl rfl (mv_im rfl) ?_
  refine WO.op rfl rfl rfl rfl (step_appE Try.runUnderlying23 (EI.mk (by kernel_rfl)) Try.runUnderlying23 (.inl ⟨_, rfl⟩) rfl rfl (Src.imB rfl) (by omega)) ?_
  refine WO.put 19 (.sl 1 0 _) rfl ?_
  refine WO.op rfl rfl rfl rfl (as_sl rfl) ?_
  refine WO.nil ?_
  refine W.seq ?_
  refine W.to [(0, _), (1, _), (2, _), (3, _), (8, _), (9, _)] [_, _] rfl ⟨(by exact sh_sc rfl), (by exact sh_sc rfl), (by exact sh_sc rfl), (by exact sh_im rfl), (by exact sh_sc rfl), (by exact sh_sl rfl), trivial⟩ ?_
  refine W.region ?_
  refine WO.op rfl rfl rfl rfl (mv_sc rfl) ?_
  refine WO.op rfl rfl rfl rfl (mv_sc rfl) ?_
  refine WO.op rfl rfl rfl rfl (mv_sc rfl) ?_
  refine WO.op rfl rfl rfl rfl (mv_sl rfl) ?_
  refine WO.op rfl rfl rfl rfl (step_lent Try.call8 rfl (by (repeat (first | exact Bw.nil | refine Bw.keep (by rfl) ?_ | refine Bw.slB rfl (by (exact take_whole (by omega))) (by (simp only [List.length_map, List.length_append, List.length_take, List.length_drop, List.length_set, List.length_cons, List.length_nil, List.length_replicate] <;> omega)) ?_))) (hD) (by repeat (rfl))) ?_
  refine WO.op rfl rfl rfl rfl (mv_tup rfl) ?_
  refine WO.op rfl rfl rfl rfl (step_extract rfl rfl) ?_
  refine WO.op rfl rfl rfl rfl (step_extract rfl rfl) ?_
  refine WO.opA rfl rfl rfl rfl (al_alloc Try.zeroValue25) rfl rfl ?_
  refine WO.put 10 (.ptr 2 0) rfl ?_
  refine WO.op0 rfl rfl rfl (step_storeA Try.sizeOf25 rfl rfl rfl (by repeat (exact all_cell rfl rfl)) rfl rfl) ?_
  refine WO.op rfl rfl rfl rfl (as_sc rfl) ?_
  refine WO.nil ?_
  refine W.seq ?_
  refine W.to [(0, _), (1, _), (2, _), (3, _), (8, _), (9, _), (10, _), (11, _)] [_, _, _] rfl ⟨(by exact sh_sc rfl), (by exact sh_sc rfl), (by exact sh_sc rfl), (by exact sh_im rfl), (by exact sh_sc rfl), (by exact sh_sl rfl), (by exact sh_ptr rfl), (by exact sh_sc rfl), trivial⟩ ?_
  refine W.region ?_
  refine WO.op rfl rfl rfl rfl (mv_sc rfl) ?_
  refine WO.op rfl rfl rfl rfl (mv_sc rfl) ?_
  refine WO.op rfl rfl rfl rfl (mv_sc rfl) ?_
  refine WO.op rfl rfl rfl rfl (mv_im rfl) ?_
  refine WO.op rfl rfl rfl rfl (step_pure Try.call9 rfl (by (repeat (first | exact Nl.nil | refine Nl.keep (by first | rfl | exact noOwn_im) ?_))) (hR) (by repeat (first | with_reducible refine noOwn_tup ?_ | with_reducible refine noOwn_agg ?_ | with_reducible exact noOwnL_nil | with_reducible refine noOwnL_cons ?_ ?_ | rfl))) ?_
  refine WO.op rfl rfl rfl rfl (mv_tup rfl) ?_
  refine WO.op rfl rfl rfl rfl (step_extract rfl rfl) ?_
  refine WO.op rfl rfl rfl rfl (step_extract rfl rfl) ?_
  refine WO.opA rfl rfl rfl rfl (al_alloc Try.zeroValue25) rfl rfl ?_
  refine WO.put 12 (.ptr 3 0) rfl ?_
  refine WO.op0 rfl rfl rfl (step_storeA Try.sizeOf25 rfl rfl rfl (by repeat (exact all_cell rfl rfl)) rfl rfl) ?_
  refine WO.op rfl rfl rfl rfl (as_sc rfl) ?_
  refine WO.nil ?_
  refine W.seq ?_
  refine W.seq ?_
  refine W.to [(0, _), (1, _), (2, _), (3, _), (8, _), (9, _), (10, _), (11, _), (12, _), (13, _)] [_, _, _, _] rfl ⟨(by exact sh_sc rfl), (by exact sh_sc rfl), (by exact sh_sc rfl), (by exact sh_im rfl), (by exact sh_sc rfl), (by exact sh_sl rfl), (by exact sh_ptr rfl), (by exact sh_sc rfl), (by exact sh_ptr rfl), (by exact sh_sc rfl), trivial⟩ ?_
  refine W.region ?_
  refine WO.op rfl rfl rfl rfl (step_pure Try.call10 rfl (by (repeat (exact Nl.nil))) (w_lives) (by repeat (rfl))) ?_
  refine WO.op rfl rfl rfl rfl (step_not rfl) ?_
  refine WO.put 37 (.sc (.bool false)) (rfl) ?_
  refine WO.op rfl rfl rfl rfl (mv_sc rfl) ?_
  refine WO.op rfl rfl rfl rfl (step_loadA Try.isAgg25 Try.sizeOf25 rfl rfl (by exact Nat.le_refl _)) ?_
  refine WO.put 39 (.agg [.sc (.int .i64 0), .sc (.int .i64 0), .sc (.int .i64 0), .sc (.int .u32 0), .sc (.int .i64 0), .sc (.int .i64 0), .sc (.bool false), .sc (.int .u32 0), .sc (.int .u32 0), .sc (.int .i64 0), .sc (.int .i64 0), .sc (.int .i64 0), .sc (.string ⟨#[]⟩), .sc (.string ⟨#[]⟩)]) (by kernel_rfl) ?_
  refine WO.op rfl rfl rfl rfl (step_loadA Try.isAgg25 Try.sizeOf25 rfl rfl (by exact Nat.le_refl _)) ?_
  refine WO.put 40 (.agg [.sc (.int .i64 0), .sc (.int .i64 0), .sc (.int .i64 0), .sc (.int .u32 0), .sc (.int .i64 0), .sc (.int .i64 0), .sc (.bool false), .sc (.int .u32 0), .sc (.int .u32 0), .sc (.int .i64 0), .sc (.int .i64 0), .sc (.int .i64 0), .sc (.string ⟨#[]⟩), .sc (.string ⟨#[]⟩)]) (by kernel_rfl) ?_
  refine WO.op rfl rfl rfl rfl (ne_L4 (a0 := 0) (a1 := 0) (a2 := 0) (a3 := 0) (a4 := 0) (a5 := 0) (a6 := false) (a7 := 0) (a8 := 0) (a9 := 0) (a10 := 0) (a11 := 0) (a12 := ⟨#[]⟩) (a13 := ⟨#[]⟩) (by (constructor <;> omega)) (by (constructor <;> omega)) (by (constructor <;> omega)) (by (constructor <;> omega)) (by (constructor <;> omega)) (by (constructor <;> omega)) (by (constructor <;> omega)) (by (constructor <;> omega)) (by (constructor <;> omega)) (by (constructor <;> omega)) (by (constructor <;> omega)) (by decide) (by decide) rfl rfl) ?_
  refine WO.put 41 (.sc (.bool false)) (rfl) ?_
  refine WO.op rfl rfl rfl rfl (pk_f rfl rfl rfl) ?_
  refine WO.op rfl rfl rfl rfl (mv_sc rfl) ?_
  refine WO.op rfl rfl rfl rfl (mv_sc rfl) ?_
  refine WO.op rfl rfl rfl rfl (mv_sc rfl) ?_
  refine WO.op rfl rfl rfl rfl (step_int2 rfl rfl rfl) ?_
  refine WO.put 46 (.sc (.bool false)) (congrArg (fun b : Bool => AV.sc (.bool b)) (by simp)) ?_
  refine WO.op rfl rfl rfl rfl (pk_f rfl rfl rfl) ?_
  refine WO.op rfl rfl rfl rfl (mv_sc rfl) ?_
  refine WO.op rfl rfl rfl rfl (mv_sl rfl) ?_
  refine WO.op rfl rfl rfl rfl (step_strO Try.underlying23 Try.underlying5 Try.underlying9 rfl rfl (by (exact take_whole (by omega))) (by (simp only [List.length_map, List.length_append, List.length_take, List.length_drop, List.length_set, List.length_cons, List.length_nil, List.length_replicate] <;> omega))) ?_
  refine WO.op rfl rfl rfl rfl (mv_im rfl) ?_
  refine WO.op rfl rfl rfl rfl (step_strI Try.underlying23 Try.underlying5 Try.underlying9 rfl) ?_
  refine WO.op rfl rfl rfl rfl (step_str2 rfl rfl rfl) ?_
  refine WO.put 53 (.sc (.bool false)) (congrArg (fun b : Bool => AV.sc (.bool b)) (by simp)) ?_
  refine WO.op rfl rfl rfl rfl (pk_f rfl rfl rfl) ?_
  refine WO.nil ?_
  refine W.condF rfl ?_
  refine W.skip ?_
  refine W.seq ?_
  refine W.seq ?_
  refine W.to [(0, _), (1, _), (2, _), (3, _), (8, _), (9, _), (10, _), (11, _), (12, _), (13, _), (54, _)] [_, _, _, _] rfl ⟨(by exact sh_sc rfl), (by exact sh_sc rfl), (by exact sh_sc rfl), (by exact sh_im rfl), (by exact sh_sc rfl), (by exact sh_sl rfl), (by exact sh_ptr rfl), (by exact sh_sc rfl), (by exact sh_ptr rfl), (by exact sh_sc rfl), (by exact sh_sc rfl), trivial⟩ ?_
  refine W.region ?_
  refine WO.op rfl rfl rfl rfl (mv_sc rfl) ?_
  refine WO.op rfl rfl rfl rfl (step_int2 rfl rfl rfl) ?_
  refine WO.put 56 (.sc (.bool true)) (congrArg (fun b : Bool => AV.sc (.bool b)) (by simp; omega)) ?_
  refine WO.op rfl rfl rfl rfl (mv_sc rfl) ?_
  refine WO.sk rfl rfl rfl rfl ?_
  refine WO.sk rfl rfl rfl rfl ?_
  refine WO.sk rfl rfl rfl rfl ?_
  refine WO.op rfl rfl rfl rfl (pk_t rfl rfl rfl) ?_
  refine WO.nil ?_
  refine W.condT rfl ?_
  refine W.seq ?_
  refine W.to [(0, _), (1, _), (2, _), (3, _), (8, _), (9, _), (10, _), (11, _), (12, _), (13, _), (54, _), (61, _)] [_, _, _, _] rfl ⟨(by exact sh_sc rfl), (by exact sh_sc rfl), (by exact sh_sc rfl), (by exact sh_im rfl), (by exact sh_sc rfl), (by exact sh_sl rfl), (by exact sh_ptr rfl), (by exact sh_sc rfl), (by exact sh_ptr rfl), (by exact sh_sc rfl), (by exact sh_sc rfl), (by exact sh_sc rfl), trivial⟩ ?_
  refine W.region ?_
  refine WO.op rfl rfl rfl rfl (as_sc rfl) ?_
  refine WO.nil ?_
  refine W.ret ?_
  refine ⟨.inl rfl, ?_⟩
  exact ret0 (Res.tmp rfl Res.nil) (.keep rfl)

end Go.Proofs.Ytdmlkcphlidcfaa
