/-
  Contracts of functions of chapter 04: each theorem says what a call of one function answers, for all arguments that its hypotheses let in.
-/
import Derived.Test.YtdmlkcphlidcfaaW4i
set_option linter.unusedVariables false
set_option linter.unusedSimpArgs false
set_option maxRecDepth 100000
set_option maxHeartbeats 1000000
namespace Go.Proofs.Ytdmlkcphlidcfaa
open Go Go.SL Go.Proofs
theorem w_Enc3 {src dst : Nat} (hsrc : src < 4294967296) (hdst : dst < 4294967296) {sp dp se ac fl wi ur : Nat} {op da : ByteArray} (hsp : sp ≤ 65535) (hdp : dp ≤ 65535) (hse : se < 4294967296) (hac : ac < 4294967296) (hfl : fl ≤ 4095) (hwi : wi ≤ 65535) (hur : ur ≤ 65535) (hop : op.size ≤ 40) (hop4 : op.size % 4 = 0) (hda : da.size + 20 + op.size ≤ 65515) : Spec0 Try.prog 11 [.sc (.int .u32 ((src : Nat) : Int)), .sc (.int .u32 ((dst : Nat) : Int)), .agg [.sc (.int .i64 3), .sc (.int .i64 0), .sc (.int .i64 0), .sc (.int .u32 0), .sc (.int .i64 ((sp : Nat) : Int)), .sc (.int .i64 ((dp : Nat) : Int)), .sc (.bool false), .sc (.int .u32 ((se : Nat) : Int)), .sc (.int .u32 ((ac : Nat) : Int)), .sc (.int .i64 ((fl : Nat) : Int)), .sc (.int .i64 ((wi : Nat) : Int)), .sc (.int .i64 ((ur : Nat) : Int)), .sc (.string op), .sc (.string da)]] (.tup [.im 1 ((encT src dst sp dp se ac fl wi ur op.data.toList da.data.toList).map byteAV), .sc (.int .i64 0)]) := by
  refine Spec.body Try.func11 rfl (Nat.le_of_ble_eq_true rfl) ?_
  have hoz : da.data.toList.length = da.size := by rw [Array.length_toList]; rfl
  have hpz : op.data.toList.length = op.size := by rw [Array.length_toList]; rfl
  refine W.seq ?_
  refine W.region ?_
  refine WO.opA rfl rfl rfl rfl (al_boxA rfl rfl) rfl rfl ?_
  refine WO.put 5 (.ptr 0 0) rfl ?_
  refine WO.op rfl rfl rfl rfl (as_nil rfl) ?_
  refine WO.op rfl rfl rfl rfl (as_sc rfl) ?_
  refine WO.nil ?_
  refine W.seq ?_
  refine W.seq ?_
  refine W.to [(0, _), (1, _), (2, _), (5, _), (6, _), (7, _)] [_] rfl ⟨(by exact sh_sc rfl), (by exact sh_sc rfl), (by exact sh_agg rfl), (by exact sh_ptr rfl), (by exact sh_nil rfl), (by exact sh_sc rfl), trivial⟩ ?_
  refine W.region ?_
  refine WO.op rfl rfl rfl rfl (step_loadA Try.isAgg25 Try.sizeOf25 rfl rfl (by exact Nat.le_refl _)) ?_
  refine WO.put 14 (.agg [.sc (.int .i64 3), .sc (.int .i64 0), .sc (.int .i64 0), .sc (.int .u32 0), .sc (.int .i64 ((sp : Nat) : Int)), .sc (.int .i64 ((dp : Nat) : Int)), .sc (.bool false), .sc (.int .u32 ((se : Nat) : Int)), .sc (.int .u32 ((ac : Nat) : Int)), .sc (.int .i64 ((fl : Nat) : Int)), .sc (.int .i64 ((wi : Nat) : Int)), .sc (.int .i64 ((ur : Nat) : Int)), .sc (.string op), .sc (.string da)]) (by kernel_rfl) ?_
  refine WO.op rfl rfl rfl rfl (step_pure Try.call13 rfl (by (repeat (first | exact Nl.nil | refine Nl.keep (by rfl) ?_))) (w_Chk3 hsp hdp hse hac hfl hwi hur hop hop4 hda) (by repeat (rfl))) ?_
  refine WO.op rfl rfl rfl rfl (as_sc rfl) ?_
  refine WO.nil ?_
  refine W.seq ?_
  refine W.to [(0, _), (1, _), (2, _), (5, _), (6, _), (7, _), (8, _)] [_] rfl ⟨(by exact sh_sc rfl), (by exact sh_sc rfl), (by exact sh_agg rfl), (by exact sh_ptr rfl), (by exact sh_nil rfl), (by exact sh_sc rfl), (by exact sh_sc rfl), trivial⟩ ?_
  refine W.region ?_
  refine WO.op rfl rfl rfl rfl (mv_sc rfl) ?_
  refine WO.op rfl rfl rfl rfl (step_int2 rfl rfl rfl) ?_
  refine WO.put 17 (.sc (.bool false)) (by kernel_rfl) ?_
  refine WO.nil ?_
  refine W.condF rfl ?_
  refine W.skip ?_
  refine W.seq ?_
  refine W.to [(0, _), (1, _), (2, _), (5, _), (6, _), (7, _), (8, _), (17, _)] [_] rfl ⟨(by exact sh_sc rfl), (by exact sh_sc rfl), (by exact sh_agg rfl), (by exact sh_ptr rfl), (by exact sh_nil rfl), (by exact sh_sc rfl), (by exact sh_sc rfl), (by exact sh_sc rfl), trivial⟩ ?_
  refine W.region ?_
  refine WO.op rfl rfl rfl rfl (step_loadA Try.isAgg25 Try.sizeOf25 rfl rfl (by exact Nat.le_refl _)) ?_
  refine WO.put 20 (.agg [.sc (.int .i64 3), .sc (.int .i64 0), .sc (.int .i64 0), .sc (.int .u32 0), .sc (.int .i64 ((sp : Nat) : Int)), .sc (.int .i64 ((dp : Nat) : Int)), .sc (.bool false), .sc (.int .u32 ((se : Nat) : Int)), .sc (.int .u32 ((ac : Nat) : Int)), .sc (.int .i64 ((fl : Nat) : Int)), .sc (.int .i64 ((wi : Nat) : Int)), .sc (.int .i64 ((ur : Nat) : Int)), .sc (.string op), .sc (.string da)]) (by kernel_rfl) ?_
  refine WO.op rfl rfl rfl rfl (step_pure Try.call26 rfl (by (repeat (first | exact Nl.nil | refine Nl.keep (by rfl) ?_))) (w_own3 hop) (by repeat (first | with_reducible refine noOwn_tup ?_ | with_reducible refine noOwn_agg ?_ | with_reducible exact noOwnL_nil | with_reducible refine noOwnL_cons ?_ ?_ | rfl))) ?_
  refine WO.op rfl rfl rfl rfl (mv_tup rfl) ?_
  refine WO.op rfl rfl rfl rfl (step_extract rfl rfl) ?_
  refine WO.put 22 (.agg [.sc (.int .i64 3), .sc (.int .i64 0), .sc (.int .i64 0), .sc (.int .u32 0), .sc (.int .i64 ((sp : Nat) : Int)), .sc (.int .i64 ((dp : Nat) : Int)), .sc (.bool false), .sc (.int .u32 ((se : Nat) : Int)), .sc (.int .u32 ((ac : Nat) : Int)), .sc (.int .i64 ((fl : Nat) : Int)), .sc (.int .i64 ((wi : Nat) : Int)), .sc (.int .i64 ((ur : Nat) : Int)), .sc (.string op), .sc (.string da)]) (by kernel_rfl) ?_
  refine WO.op rfl rfl rfl rfl (step_extract rfl rfl) ?_
  refine WO.op rfl rfl rfl rfl (step_extract rfl rfl) ?_
  refine WO.opA rfl rfl rfl rfl (al_alloc Try.zeroValue25) rfl rfl ?_
  refine WO.put 9 (.ptr 1 0) rfl ?_
  refine WO.op0 rfl rfl rfl (step_storeA Try.sizeOf25 rfl rfl rfl (by repeat (exact all_cell rfl rfl)) rfl rfl) ?_
  refine WO.op rfl rfl rfl rfl (as_sc rfl) ?_
  refine WO.op rfl rfl rfl rfl (as_sc rfl) ?_
  refine WO.nil ?_
  refine W.seq ?_
  refine W.to [(0, _), (1, _), (2, _), (5, _), (6, _), (7, _), (8, _), (10, _), (17, _)] [_, _] rfl ⟨(by exact sh_sc rfl), (by exact sh_sc rfl), (by exact sh_agg rfl), (by exact sh_ptr rfl), (by exact sh_nil rfl), (by exact sh_sc rfl), (by exact sh_sc rfl), (by exact sh_sc rfl), (by exact sh_sc rfl), trivial⟩ ?_
  refine W.draw (Checked.mixed Try.checked) ?_
  refine DC.op rfl rfl rfl (fun _ => mv_sc rfl) ?_
  refine DC.opE rfl rfl rfl (step_makeB Try.runUnderlying23 (EI.mk (by kernel_rfl)) rfl rfl (by (exact rfl)) (by (exact rfl)) (by omega)) (by simp) (by repeat (first | exact True.intro | refine And.intro (by rfl) ?_)) (by repeat (first | exact True.intro | refine And.intro (by rfl) ?_)) ?_
  refine DC.set 26 (.sl 2 0 _) rfl ?_
  refine DC.op1 rfl rfl rfl rfl (fun _ ho => step_fieldR (k := 13) (FieldOff.mk (by kernel_rfl)) rfl ho (by exact Nat.zero_add _)) ?_
  refine DC.op1 rfl rfl rfl rfl (fun _ ho => step_load Try.isAgg9 rfl ho rfl) ?_
  refine DC.opE rfl rfl rfl (step_appB Try.runUnderlying23 (EI.mk (by kernel_rfl)) Try.runUnderlying9 (.inr rfl) rfl rfl (by (simp only [List.length_map, List.length_append, List.length_take, List.length_drop, List.length_set, List.length_cons, List.length_nil, List.length_replicate, put2_len, put4L_len, hoz] <;> omega)) (Src.str rfl) (by omega) rfl) (by simp) (by repeat (first | exact True.intro | refine And.intro (by rfl) ?_)) (by repeat (first | exact True.intro | refine And.intro (by first | exact rowLt_bytes | rfl) ?_)) ?_
  refine DC.set 29 (.sl 3 0 _) rfl ?_
  refine DC.op rfl rfl rfl (fun _ => as_sl rfl) ?_
  refine DC.set 12 (.sl 3 0 (20 + op.size + da.size)) (congrArg (AV.sl 3 0) (by rfl)) ?_
  refine DC.fin [(2, 0), (2, 1), (3, 0), (3, 1)] (by kernel_rfl) (by kernel_rfl) ?_ ?_
  · repeat (first | exact True.intro | refine And.intro ?_ ?_ | kernel_rfl)
  · refine W.seq ?_
    refine W.seq ?_
    refine W.to [(0, _), (1, _), (2, _), (5, _), (6, _), (7, _), (8, _), (10, _), (12, _), (17, _)] [_, _, _, _] rfl ⟨(by exact sh_sc rfl), (by exact sh_sc rfl), (by exact sh_agg rfl), (by exact sh_ptr rfl), (by exact sh_nil rfl), (by exact sh_sc rfl), (by exact sh_sc rfl), (by exact sh_sc rfl), (by exact sh_sl rfl), (by exact sh_sc rfl), trivial⟩ ?_
    refine W.region ?_
    refine WO.op rfl rfl rfl rfl (step_fieldR (k := 0) (FieldOff.mk (by kernel_rfl)) rfl rfl (by exact Nat.zero_add _)) ?_
    refine WO.op rfl rfl rfl rfl (step_load Try.isAgg3 rfl rfl rfl) ?_
    refine WO.nil ?_
    refine W.block ?_
    refine W.seq ?_
    refine W.to [(0, _), (1, _), (2, _), (5, _), (6, _), (7, _), (8, _), (10, _), (12, _), (17, _), (31, _)] [_, _, _, _] rfl ⟨(by exact sh_sc rfl), (by exact sh_sc rfl), (by exact sh_agg rfl), (by exact sh_ptr rfl), (by exact sh_nil rfl), (by exact sh_sc rfl), (by exact sh_sc rfl), (by exact sh_sc rfl), (by exact sh_sl rfl), (by exact sh_sc rfl), (by exact sh_sc rfl), trivial⟩ ?_
    refine W.region ?_
    refine WO.op rfl rfl rfl rfl (step_int2 rfl rfl rfl) ?_
    refine WO.put 33 (.sc (.bool false)) (by kernel_rfl) ?_
    refine WO.op rfl rfl rfl rfl (as_sc rfl) ?_
    refine WO.nil ?_
    refine W.condF rfl ?_
    refine W.seq ?_
    refine W.to [(0, _), (1, _), (2, _), (5, _), (6, _), (7, _), (8, _), (10, _), (12, _), (17, _), (31, _), (32, _)] [_, _, _, _] rfl ⟨(by exact sh_sc rfl), (by exact sh_sc rfl), (by exact sh_agg rfl), (by exact sh_ptr rfl), (by exact sh_nil rfl), (by exact sh_sc rfl), (by exact sh_sc rfl), (by exact sh_sc rfl), (by exact sh_sl rfl), (by exact sh_sc rfl), (by exact sh_sc rfl), (by exact sh_sc rfl), trivial⟩ ?_
    refine W.region ?_
    refine WO.op rfl rfl rfl rfl (step_int2 rfl rfl rfl) ?_
    refine WO.put 54 (.sc (.bool false)) (by kernel_rfl) ?_
    refine WO.op rfl rfl rfl rfl (as_sc rfl) ?_
    refine WO.nil ?_
    refine W.condF rfl ?_
    refine W.seq ?_
    refine W.to [(0, _), (1, _), (2, _), (5, _), (6, _), (7, _), (8, _), (10, _), (12, _), (17, _), (31, _), (32, _), (53, _)] [_, _, _, _] rfl ⟨(by exact sh_sc rfl), (by exact sh_sc rfl), (by exact sh_agg rfl), (by exact sh_ptr rfl), (by exact sh_nil rfl), (by exact sh_sc rfl), (by exact sh_sc rfl), (by exact sh_sc rfl), (by exact sh_sl rfl), (by exact sh_sc rfl), (by exact sh_sc rfl), (by exact sh_sc rfl), (by exact sh_sc rfl), trivial⟩ ?_
    refine W.region ?_
    refine WO.op rfl rfl rfl rfl (step_int2 rfl rfl rfl) ?_
    refine WO.put 89 (.sc (.bool true)) (by kernel_rfl) ?_
    refine WO.op rfl rfl rfl rfl (as_sc rfl) ?_
    refine WO.nil ?_
    refine W.condT rfl ?_
    refine W.seq ?_
    refine W.to [(0, _), (1, _), (2, _), (5, _), (6, _), (7, _), (8, _), (10, _), (12, _), (17, _), (31, _), (32, _), (53, _), (88, _)] [_, _, _, _] rfl ⟨(by exact sh_sc rfl), (by exact sh_sc rfl), (by exact sh_agg rfl), (by exact sh_ptr rfl), (by exact sh_nil rfl), (by exact sh_sc rfl), (by exact sh_sc rfl), (by exact sh_sc rfl), (by exact sh_sl rfl), (by exact sh_sc rfl), (by exact sh_sc rfl), (by exact sh_sc rfl), (by exact sh_sc rfl), (by exact sh_sc rfl), trivial⟩ ?_
    refine W.gatC [_, _, _] [] _ rfl rfl ?_
    intro L21 hL21
    have hl21 : L21.length = 20 + op.size + da.size := by rw [hL21]; simp only [put2_len, put4L_len, List.length_set, List.length_append, List.length_replicate, hoz, hoz] <;> omega
    refine W.region ?_
    refine WO.op rfl rfl rfl rfl (mv_sl rfl) ?_
    refine WO.op rfl rfl rfl rfl (step_fieldR (k := 4) (FieldOff.mk (by kernel_rfl)) rfl rfl (by exact Nat.zero_add _)) ?_
    refine WO.op rfl rfl rfl rfl (step_load Try.isAgg3 rfl rfl rfl) ?_
    refine WO.op rfl rfl rfl rfl (step_over Try.call28 rfl rfl rfl noOwn_bytes noOwn_bytes rfl (w_put (i := 0) (by omega) (by omega) (by omega) (by omega))) ?_
    refine WO.nil ?_
    refine W.seq ?_
    refine W.to [(0, _), (1, _), (2, _), (5, _), (6, _), (7, _), (8, _), (10, _), (12, _), (17, _), (31, _), (32, _), (53, _), (88, _)] [_, _, _, _] rfl ⟨(by exact sh_sc rfl), (by exact sh_sc rfl), (by exact sh_agg rfl), (by exact sh_ptr rfl), (by exact sh_nil rfl), (by exact sh_sc rfl), (by exact sh_sc rfl), (by exact sh_sc rfl), (by exact sh_sl rfl), (by exact sh_sc rfl), (by exact sh_sc rfl), (by exact sh_sc rfl), (by exact sh_sc rfl), (by exact sh_sc rfl), trivial⟩ ?_
    refine W.gatC [_, _, _] [] _ rfl rfl ?_
    intro L22 hL22
    have hl22 : L22.length = 20 + op.size + da.size := by rw [hL22]; simp only [put2_len, put4L_len, List.length_set, List.length_append, List.length_replicate, hoz, hl21] <;> omega
    refine W.region ?_
    refine WO.op rfl rfl rfl rfl (mv_sl rfl) ?_
    refine WO.op rfl rfl rfl rfl (step_fieldR (k := 5) (FieldOff.mk (by kernel_rfl)) rfl rfl (by exact Nat.zero_add _)) ?_
    refine WO.op rfl rfl rfl rfl (step_load Try.isAgg3 rfl rfl rfl) ?_
    refine WO.op rfl rfl rfl rfl (step_over Try.call28 rfl rfl rfl noOwn_bytes noOwn_bytes rfl (w_put (i := 2) (by omega) (by omega) (by omega) (by omega))) ?_
    refine WO.nil ?_
    refine W.seq ?_
    refine W.to [(0, _), (1, _), (2, _), (5, _), (6, _), (7, _), (8, _), (10, _), (12, _), (17, _), (31, _), (32, _), (53, _), (88, _)] [_, _, _, _] rfl ⟨(by exact sh_sc rfl), (by exact sh_sc rfl), (by exact sh_agg rfl), (by exact sh_ptr rfl), (by exact sh_nil rfl), (by exact sh_sc rfl), (by exact sh_sc rfl), (by exact sh_sc rfl), (by exact sh_sl rfl), (by exact sh_sc rfl), (by exact sh_sc rfl), (by exact sh_sc rfl), (by exact sh_sc rfl), (by exact sh_sc rfl), trivial⟩ ?_
    refine W.gatC [_, _, _] [] _ rfl rfl ?_
    intro L23 hL23
    have hl23 : L23.length = 20 + op.size + da.size := by rw [hL23]; simp only [put2_len, put4L_len, List.length_set, List.length_append, List.length_replicate, hoz, hl21, hl22] <;> omega
    refine W.region ?_
    refine WO.op rfl rfl rfl rfl (mv_sl rfl) ?_
    refine WO.op rfl rfl rfl rfl (step_fieldR (k := 7) (FieldOff.mk (by kernel_rfl)) rfl rfl (by exact Nat.zero_add _)) ?_
    refine WO.op rfl rfl rfl rfl (step_load Try.isAgg22 rfl rfl rfl) ?_
    refine WO.op rfl rfl rfl rfl (step_over Try.call27 rfl rfl rfl noOwn_bytes noOwn_bytes rfl (w_put4 (i := 4) (by omega) (by omega) (by omega) (by omega))) ?_
    refine WO.nil ?_
    refine W.seq ?_
    refine W.to [(0, _), (1, _), (2, _), (5, _), (6, _), (7, _), (8, _), (10, _), (12, _), (17, _), (31, _), (32, _), (53, _), (88, _)] [_, _, _, _] rfl ⟨(by exact sh_sc rfl), (by exact sh_sc rfl), (by exact sh_agg rfl), (by exact sh_ptr rfl), (by exact sh_nil rfl), (by exact sh_sc rfl), (by exact sh_sc rfl), (by exact sh_sc rfl), (by exact sh_sl rfl), (by exact sh_sc rfl), (by exact sh_sc rfl), (by exact sh_sc rfl), (by exact sh_sc rfl), (by exact sh_sc rfl), trivial⟩ ?_
    refine W.gatC [_, _, _] [] _ rfl rfl ?_
    intro L24 hL24
    have hl24 : L24.length = 20 + op.size + da.size := by rw [hL24]; simp only [put2_len, put4L_len, List.length_set, List.length_append, List.length_replicate, hoz, hl21, hl22, hl23] <;> omega
    refine W.region ?_
    refine WO.op rfl rfl rfl rfl (mv_sl rfl) ?_
    refine WO.op rfl rfl rfl rfl (step_fieldR (k := 8) (FieldOff.mk (by kernel_rfl)) rfl rfl (by exact Nat.zero_add _)) ?_
    refine WO.op rfl rfl rfl rfl (step_load Try.isAgg22 rfl rfl rfl) ?_
    refine WO.op rfl rfl rfl rfl (step_over Try.call27 rfl rfl rfl noOwn_bytes noOwn_bytes rfl (w_put4 (i := 8) (by omega) (by omega) (by omega) (by omega))) ?_
    refine WO.nil ?_
    refine W.seq ?_
    refine W.to [(0, _), (1, _), (2, _), (5, _), (6, _), (7, _), (8, _), (10, _), (12, _), (17, _), (31, _), (32, _), (53, _), (88, _)] [_, _, _, _] rfl ⟨(by exact sh_sc rfl), (by exact sh_sc rfl), (by exact sh_agg rfl), (by exact sh_ptr rfl), (by exact sh_nil rfl), (by exact sh_sc rfl), (by exact sh_sc rfl), (by exact sh_sc rfl), (by exact sh_sl rfl), (by exact sh_sc rfl), (by exact sh_sc rfl), (by exact sh_sc rfl), (by exact sh_sc rfl), (by exact sh_sc rfl), trivial⟩ ?_
    refine W.gatC [_, _, _] [] _ rfl rfl ?_
    intro L25 hL25
    have hl25 : L25.length = 20 + op.size + da.size := by rw [hL25]; simp only [put2_len, put4L_len, List.length_set, List.length_append, List.length_replicate, hoz, hl21, hl22, hl23, hl24] <;> omega
    refine W.region ?_
    refine WO.op rfl rfl rfl rfl (mv_sl rfl) ?_
    refine WO.op rfl rfl rfl rfl (mv_sc rfl) ?_
    refine WO.op rfl rfl rfl rfl (step_quoN (q := 4) rfl rfl (by omega) (by (simp only [cap]; omega))) ?_
    refine WO.op rfl rfl rfl rfl (step_shlN (s := 12) rfl rfl (by decide) (by (simp only [cap]; omega))) ?_
    refine WO.op rfl rfl rfl rfl (step_fieldR (k := 9) (FieldOff.mk (by kernel_rfl)) rfl rfl (by exact Nat.zero_add _)) ?_
    refine WO.op rfl rfl rfl rfl (step_load Try.isAgg3 rfl rfl rfl) ?_
    refine WO.op rfl rfl rfl rfl (step_orN rfl rfl (by (simp only [cap]; omega)) (by (simp only [cap]; omega))) ?_
    refine WO.put 112 (.sc (.int .i64 (((20 + op.size) / 4 * 4096 + fl : Nat) : Int))) (congrArg (fun z : Nat => AV.sc (.int .i64 (z : Int))) (or12 (by omega))) ?_
    refine WO.op rfl rfl rfl rfl (step_over Try.call28 rfl rfl rfl noOwn_bytes noOwn_bytes rfl (w_put (i := 12) (by omega) (by omega) (by omega) (by omega))) ?_
    refine WO.nil ?_
    refine W.seq ?_
    refine W.to [(0, _), (1, _), (2, _), (5, _), (6, _), (7, _), (8, _), (10, _), (12, _), (17, _), (31, _), (32, _), (53, _), (88, _)] [_, _, _, _] rfl ⟨(by exact sh_sc rfl), (by exact sh_sc rfl), (by exact sh_agg rfl), (by exact sh_ptr rfl), (by exact sh_nil rfl), (by exact sh_sc rfl), (by exact sh_sc rfl), (by exact sh_sc rfl), (by exact sh_sl rfl), (by exact sh_sc rfl), (by exact sh_sc rfl), (by exact sh_sc rfl), (by exact sh_sc rfl), (by exact sh_sc rfl), trivial⟩ ?_
    refine W.gatC [_, _, _] [] _ rfl rfl ?_
    intro L26 hL26
    have hl26 : L26.length = 20 + op.size + da.size := by rw [hL26]; simp only [put2_len, put4L_len, List.length_set, List.length_append, List.length_replicate, hoz, hl21, hl22, hl23, hl24, hl25] <;> omega
    refine W.region ?_
    refine WO.op rfl rfl rfl rfl (mv_sl rfl) ?_
    refine WO.op rfl rfl rfl rfl (step_fieldR (k := 10) (FieldOff.mk (by kernel_rfl)) rfl rfl (by exact Nat.zero_add _)) ?_
    refine WO.op rfl rfl rfl rfl (step_load Try.isAgg3 rfl rfl rfl) ?_
    refine WO.op rfl rfl rfl rfl (step_over Try.call28 rfl rfl rfl noOwn_bytes noOwn_bytes rfl (w_put (i := 14) (by omega) (by omega) (by omega) (by omega))) ?_
    refine WO.nil ?_
    refine W.seq ?_
    refine W.to [(0, _), (1, _), (2, _), (5, _), (6, _), (7, _), (8, _), (10, _), (12, _), (17, _), (31, _), (32, _), (53, _), (88, _)] [_, _, _, _] rfl ⟨(by exact sh_sc rfl), (by exact sh_sc rfl), (by exact sh_agg rfl), (by exact sh_ptr rfl), (by exact sh_nil rfl), (by exact sh_sc rfl), (by exact sh_sc rfl), (by exact sh_sc rfl), (by exact sh_sl rfl), (by exact sh_sc rfl), (by exact sh_sc rfl), (by exact sh_sc rfl), (by exact sh_sc rfl), (by exact sh_sc rfl), trivial⟩ ?_
    refine W.gatC [_, _, _] [] _ rfl rfl ?_
    intro L27 hL27
    have hl27 : L27.length = 20 + op.size + da.size := by rw [hL27]; simp only [put2_len, put4L_len, List.length_set, List.length_append, List.length_replicate, hoz, hl21, hl22, hl23, hl24, hl25, hl26] <;> omega
    refine W.region ?_
    refine WO.op rfl rfl rfl rfl (mv_sl rfl) ?_
    refine WO.op rfl rfl rfl rfl (step_fieldR (k := 11) (FieldOff.mk (by kernel_rfl)) rfl rfl (by exact Nat.zero_add _)) ?_
    refine WO.op rfl rfl rfl rfl (step_load Try.isAgg3 rfl rfl rfl) ?_
    refine WO.op rfl rfl rfl rfl (step_over Try.call28 rfl rfl rfl noOwn_bytes noOwn_bytes rfl (w_put (i := 18) (by omega) (by omega) (by omega) (by omega))) ?_
    refine WO.nil ?_
    refine W.seq ?_
    refine W.to [(0, _), (1, _), (2, _), (5, _), (6, _), (7, _), (8, _), (10, _), (12, _), (17, _), (31, _), (32, _), (53, _), (88, _)] [_, _, _, _] rfl ⟨(by exact sh_sc rfl), (by exact sh_sc rfl), (by exact sh_agg rfl), (by exact sh_ptr rfl), (by exact sh_nil rfl), (by exact sh_sc rfl), (by exact sh_sc rfl), (by exact sh_sc rfl), (by exact sh_sl rfl), (by exact sh_sc rfl), (by exact sh_sc rfl), (by exact sh_sc rfl), (by exact sh_sc rfl), (by exact sh_sc rfl), trivial⟩ ?_
    refine W.gatC [_, _, _] [] _ rfl rfl ?_
    intro L28 hL28
    have hl28 : L28.length = 20 + op.size + da.size := by rw [hL28]; simp only [put2_len, put4L_len, List.length_set, List.length_append, List.length_replicate, hoz, hl21, hl22, hl23, hl24, hl25, hl26, hl27] <;> omega
    refine W.draw (Checked.mixed Try.checked) ?_
    refine DC.op rfl rfl rfl (fun _ => mv_sl rfl) ?_
    refine DC.op1 rfl rfl rfl rfl (fun _ ho => step_subO (a := 20) Try.runUnderlying23 Try.sizeOf5 rfl ho (Bd.some (v := 20) rfl (by (exact rfl))) Bd.none (by omega) (by omega) (Nat.zero_add _) (by exact Nat.sub_zero _)) ?_
    refine DC.op1 rfl rfl rfl rfl (fun _ ho => step_fieldR (k := 12) (FieldOff.mk (by kernel_rfl)) rfl ho (by exact Nat.zero_add _)) ?_
    refine DC.op1 rfl rfl rfl rfl (fun _ ho => step_load Try.isAgg9 rfl ho rfl) ?_
    refine DC.opE rfl rfl rfl (step_copyT Try.runUnderlying23 (EI.mk (by kernel_rfl)) rfl rfl rfl (by (simp; omega)) (by (simp; omega))) (by simp) (by repeat (first | exact True.intro | refine And.intro (by rfl) ?_)) (by repeat (first | exact True.intro | refine And.intro (by first | exact rowLt_bytes | rfl) ?_)) ?_
    refine DC.fin [(1, 0), (2, 0), (3, 0)] (by kernel_rfl) (by kernel_rfl) ?_ ?_
    · repeat (first | exact True.intro | refine And.intro ?_ ?_ | kernel_rfl)
    · refine W.to [(0, _), (1, _), (2, _), (5, _), (6, _), (7, _), (8, _), (10, _), (12, _), (17, _), (31, _), (32, _), (53, _), (88, _)] [_, _, _, _] rfl ⟨(by exact sh_sc rfl), (by exact sh_sc rfl), (by exact sh_agg rfl), (by exact sh_ptr rfl), (by exact sh_nil rfl), (by exact sh_sc rfl), (by exact sh_sc rfl), (by exact sh_sc rfl), (by exact sh_sl rfl), (by exact sh_sc rfl), (by exact sh_sc rfl), (by exact sh_sc rfl), (by exact sh_sc rfl), (by exact sh_sc rfl), trivial⟩ ?_
      refine W.gatC [_, _, _] [] _ rfl rfl ?_
      intro L29 hL29
      have hl29 : L29.length = 20 + op.size + da.size := by rw [hL29]; rw [splice_len (by omega)]; simp only [put2_len, put4L_len, List.length_set, List.length_append, List.length_replicate, hoz, hl28] <;> omega
      have hf := fo_le (psu src dst 6 L29.length + ws L29 L29.length)
      refine W.region ?_
      refine WO.op rfl rfl rfl rfl (mv_sl rfl) ?_
      refine WO.op rfl rfl rfl rfl (mv_sc rfl) ?_
      refine WO.op rfl rfl rfl rfl (mv_sc rfl) ?_
      refine WO.op rfl rfl rfl rfl (mv_sl rfl) ?_
      refine WO.op rfl rfl rfl rfl (step_lent Try.call21 rfl (by (repeat (first | exact Bw.nil | refine Bw.keep (by rfl) ?_ | refine Bw.slB rfl (by (exact take_whole (by omega))) (by (simp only [List.length_map, List.length_append, List.length_take, List.length_drop, List.length_set, List.length_cons, List.length_nil, List.length_replicate, put2_len, put4L_len, hoz] <;> omega)) ?_))) (w_whole hsrc hdst (by decide) (by omega)) (by repeat (rfl))) ?_
      refine WO.op rfl rfl rfl rfl (step_not16 rfl (by omega)) ?_
      refine WO.op rfl rfl rfl rfl (step_convR Try.runUnderlying37 Try.runUnderlying3 rfl (by exact convN (by (simp only [cap]; omega)))) ?_
      refine WO.op rfl rfl rfl rfl (step_over Try.call28 rfl rfl rfl noOwn_bytes noOwn_bytes rfl (w_put (i := 16) (by omega) (by omega) (by omega) (by omega))) ?_
      refine WO.nil ?_
      refine W.seq ?_
      refine W.to [(0, _), (1, _), (2, _), (5, _), (6, _), (7, _), (8, _), (10, _), (12, _), (17, _), (31, _), (32, _), (53, _), (88, _)] [_, _, _, _] rfl ⟨(by exact sh_sc rfl), (by exact sh_sc rfl), (by exact sh_agg rfl), (by exact sh_ptr rfl), (by exact sh_nil rfl), (by exact sh_sc rfl), (by exact sh_sc rfl), (by exact sh_sc rfl), (by exact sh_sl rfl), (by exact sh_sc rfl), (by exact sh_sc rfl), (by exact sh_sc rfl), (by exact sh_sc rfl), (by exact sh_sc rfl), trivial⟩ ?_
      refine W.region ?_
      refine WO.op rfl rfl rfl rfl (mv_sl rfl) ?_
      refine WO.op rfl rfl rfl rfl (as_sl rfl) ?_
      refine WO.op rfl rfl rfl rfl (as_sc rfl) ?_
      refine WO.nil ?_
      refine W.ret ?_
      refine ⟨.inl rfl, ?_⟩
      have e : tcp0 sp dp se ac fl wi ur op.data.toList da.data.toList = L29 := by rw [hL29, hL28, hL27, hL26, hL25, hL24, hL23, hL22, hL21]; unfold tcp0; rw [hpz]
      unfold encT
      rw [e]
      exact ret0 (Res.tmp rfl (Res.tmp rfl Res.nil)) (.tup (.cons (Fz.bytes rfl (Nat.zero_le _) (take_whole (by (rw [put2_len]; omega))) (by rw [List.length_map]; (rw [put2_len]; omega))) (.cons (.keep rfl) .nil)))

end Go.Proofs.Ytdmlkcphlidcfaa
