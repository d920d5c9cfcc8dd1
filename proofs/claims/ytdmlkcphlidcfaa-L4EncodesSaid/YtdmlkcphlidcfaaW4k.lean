/-
  Contracts of functions of chapter 04: each theorem says what a call of one function answers, for all arguments that its hypotheses let in.
-/
import Derived.Test.YtdmlkcphlidcfaaW4i
set_option linter.unusedVariables false
set_option linter.unusedSimpArgs false
set_option maxRecDepth 100000
set_option maxHeartbeats 1000000
namespace Go.Proofs.Ytdmlkcphlidcfaa
open Go Go.SL Go.Proofs
theorem w_Enc0 {src dst : Nat} (hsrc : src < 4294967296) (hdst : dst < 4294967296) {da : ByteArray} (hda : da.size ≤ 65515) : Spec0 Try.prog 11 [.sc (.int .u32 ((src : Nat) : Int)), .sc (.int .u32 ((dst : Nat) : Int)), .agg [.sc (.int .i64 0), .sc (.int .i64 0), .sc (.int .i64 0), .sc (.int .u32 0), .sc (.int .i64 0), .sc (.int .i64 0), .sc (.bool false), .sc (.int .u32 0), .sc (.int .u32 0), .sc (.int .i64 0), .sc (.int .i64 0), .sc (.int .i64 0), .sc (.string ⟨#[]⟩), .sc (.string da)]] (.tup [.im 1 ((da.data.toList).map byteAV), .sc (.int .i64 0)]) := by
  refine Spec.body Try.func11 rfl (Nat.le_of_ble_eq_true rfl) ?_
  have hoz : da.data.toList.length = da.size := by rw [Array.length_toList]; rfl
  refine W.seq ?_
  refine W.region ?_
  refine WO.opA rfl rfl rfl rfl (al_boxA rfl rfl) rfl rfl ?_
  refine WO.put 5 (.ptr 0 0) rfl ?_
  refine WO.op rfl rfl rfl rfl (as_nil rfl) ?_
  refine WO.op rfl rfl rfl rfl (as_sc rfl) ?_
  refine WO.nil ?_
  refine W.seq ?_
  refine W.seq ?_
  refine W.to [(0, _), (1, _), (2, _), (5, _), (6, _), (7, _)] [_] rfl ⟨(by exact sh_sc rfl), (by exact sh_sc rfl), (by exact sh_agg rfl), (by exact sh_ptr rfl), (by exact sh_nil rfl), (by exact sh_sc rfl), trivial⟩ ?_
  refine W.region ?_
  refine WO.op rfl rfl rfl rfl (step_loadA Try.isAgg25 Try.sizeOf25 rfl rfl (by exact Nat.le_refl _)) ?_
  refine WO.put 14 (.agg [.sc (.int .i64 0), .sc (.int .i64 0), .sc (.int .i64 0), .sc (.int .u32 0), .sc (.int .i64 0), .sc (.int .i64 0), .sc (.bool false), .sc (.int .u32 0), .sc (.int .u32 0), .sc (.int .i64 0), .sc (.int .i64 0), .sc (.int .i64 0), .sc (.string ⟨#[]⟩), .sc (.string da)]) (by kernel_rfl) ?_
  refine WO.op rfl rfl rfl rfl (step_pure Try.call13 rfl (by (repeat (first | exact Nl.nil | refine Nl.keep (by rfl) ?_))) (w_Chk0 hda) (by repeat (rfl))) ?_
  refine WO.op rfl rfl rfl rfl (as_sc rfl) ?_
  refine WO.nil ?_
  refine W.seq ?_
  refine W.to [(0, _), (1, _), (2, _), (5, _), (6, _), (7, _), (8, _)] [_] rfl ⟨(by exact sh_sc rfl), (by exact sh_sc rfl), (by exact sh_agg rfl), (by exact sh_ptr rfl), (by exact sh_nil rfl), (by exact sh_sc rfl), (by exact sh_sc rfl), trivial⟩ ?_
  refine W.region ?_
  refine WO.op rfl rfl rfl rfl (mv_sc rfl) ?_
  refine WO.op rfl rfl rfl rfl (step_int2 rfl rfl rfl) ?_
  refine WO.put 17 (.sc (.bool false)) (by kernel_rfl) ?_
  refine WO.nil ?_
  refine W.condF rfl ?_
  refine W.skip ?_
  refine W.seq ?_
  refine W.to [(0, _), (1, _), (2, _), (5, _), (6, _), (7, _), (8, _), (17, _)] [_] rfl ⟨(by exact sh_sc rfl), (by exact sh_sc rfl), (by exact sh_agg rfl), (by exact sh_ptr rfl), (by exact sh_nil rfl), (by exact sh_sc rfl), (by exact sh_sc rfl), (by exact sh_sc rfl), trivial⟩ ?_
  refine W.region ?_
  refine WO.op rfl rfl rfl rfl (step_loadA Try.isAgg25 Try.sizeOf25 rfl rfl (by exact Nat.le_refl _)) ?_
  refine WO.put 20 (.agg [.sc (.int .i64 0), .sc (.int .i64 0), .sc (.int .i64 0), .sc (.int .u32 0), .sc (.int .i64 0), .sc (.int .i64 0), .sc (.bool false), .sc (.int .u32 0), .sc (.int .u32 0), .sc (.int .i64 0), .sc (.int .i64 0), .sc (.int .i64 0), .sc (.string ⟨#[]⟩), .sc (.string da)]) (by kernel_rfl) ?_
  refine WO.op rfl rfl rfl rfl (step_pure Try.call26 rfl (by (repeat (first | exact Nl.nil | refine Nl.keep (by rfl) ?_))) (w_own0) (by repeat (first | with_reducible refine noOwn_tup ?_ | with_reducible refine noOwn_agg ?_ | with_reducible exact noOwnL_nil | with_reducible refine noOwnL_cons ?_ ?_ | rfl))) ?_
  refine WO.op rfl rfl rfl rfl (mv_tup rfl) ?_
  refine WO.op rfl rfl rfl rfl (step_extract rfl rfl) ?_
  refine WO.put 22 (.agg [.sc (.int .i64 0), .sc (.int .i64 0), .sc (.int .i64 0), .sc (.int .u32 0), .sc (.int .i64 0), .sc (.int .i64 0), .sc (.bool false), .sc (.int .u32 0), .sc (.int .u32 0), .sc (.int .i64 0), .sc (.int .i64 0), .sc (.int .i64 0), .sc (.string ⟨#[]⟩), .sc (.string da)]) (by kernel_rfl) ?_
  refine WO.op rfl rfl rfl rfl (step_extract rfl rfl) ?_
  refine WO.op rfl rfl rfl rfl (step_extract rfl rfl) ?_
  refine WO.opA rfl rfl rfl rfl (al_alloc Try.zeroValue25) rfl rfl ?_
  refine WO.put 9 (.ptr 1 0) rfl ?_
  refine WO.op0 rfl rfl rfl (step_storeA Try.sizeOf25 rfl rfl rfl (by repeat (exact all_cell rfl rfl)) rfl rfl) ?_
  refine WO.op rfl rfl rfl rfl (as_sc rfl) ?_
  refine WO.op rfl rfl rfl rfl (as_sc rfl) ?_
  refine WO.nil ?_
  refine W.seq ?_
  refine W.to [(0, _), (1, _), (2, _), (5, _), (6, _), (7, _), (8, _), (10, _), (17, _)] [_, _] rfl ⟨(by exact sh_sc rfl), (by exact sh_sc rfl), (by exact sh_agg rfl), (by exact sh_ptr rfl), (by exact sh_nil rfl), (by exact sh_sc rfl), (by exact sh_sc rfl), (by exact sh_sc rfl), (by exact sh_sc rfl), trivial⟩ ?_
  refine W.draw (Checked.mixed Try.checked) ?_
  refine DC.op rfl rfl rfl (fun _ => mv_sc rfl) ?_
  refine DC.opE rfl rfl rfl (step_makeB Try.runUnderlying23 (EI.mk (by kernel_rfl)) rfl rfl (by (exact rfl)) (by (exact rfl)) (by (simp only [List.length_map, List.length_append, List.length_take, List.length_drop, List.length_set, List.length_cons, List.length_nil, List.length_replicate, put2_len, put4L_len, hoz] <;> omega))) (by simp) (by repeat (first | exact True.intro | refine And.intro (by rfl) ?_)) (by repeat (first | exact True.intro | refine And.intro (by rfl) ?_)) ?_
  refine DC.set 26 (.sl 2 0 _) rfl ?_
  refine DC.op1 rfl rfl rfl rfl (fun _ ho => step_fieldR (k := 13) (FieldOff.mk (by kernel_rfl)) rfl ho (by exact Nat.zero_add _)) ?_
  refine DC.op1 rfl rfl rfl rfl (fun _ ho => step_load Try.isAgg9 rfl ho rfl) ?_
  refine DC.opE rfl rfl rfl (step_appE Try.runUnderlying23 (EI.mk (by kernel_rfl)) Try.runUnderlying9 (.inr rfl) rfl rfl (Src.str rfl) (by omega)) (by simp) (by repeat (first | exact True.intro | refine And.intro (by rfl) ?_)) (by repeat (first | exact True.intro | refine And.intro (by first | exact rowLt_bytes | rfl) ?_)) ?_
  refine DC.set 29 (.sl 3 0 _) rfl ?_
  refine DC.op rfl rfl rfl (fun _ => as_sl rfl) ?_
  refine DC.set 12 (.sl 3 0 (da.size)) (congrArg (AV.sl 3 0) (by rfl)) ?_
  refine DC.fin [(2, 0), (2, 1), (3, 0), (3, 1)] (by kernel_rfl) (by kernel_rfl) ?_ ?_
  · repeat (first | exact True.intro | refine And.intro ?_ ?_ | kernel_rfl)
  · refine W.seq ?_
    refine W.seq ?_
    refine W.to [(0, _), (1, _), (2, _), (5, _), (6, _), (7, _), (8, _), (10, _), (12, _), (17, _)] [_, _, _, _] rfl ⟨(by exact sh_sc rfl), (by exact sh_sc rfl), (by exact sh_agg rfl), (by exact sh_ptr rfl), (by exact sh_nil rfl), (by exact sh_sc rfl), (by exact sh_sc rfl), (by exact sh_sc rfl), (by exact sh_sl rfl), (by exact sh_sc rfl), trivial⟩ ?_
    refine W.region ?_
    refine WO.op rfl rfl rfl rfl (step_fieldR (k := 0) (FieldOff.mk (by kernel_rfl)) rfl rfl (by exact Nat.zero_add _)) ?_
    refine WO.op rfl rfl rfl rfl (step_load Try.isAgg3 rfl rfl rfl) ?_
    refine WO.nil ?_
    refine W.block ?_
    refine W.seq ?_
    refine W.to [(0, _), (1, _), (2, _), (5, _), (6, _), (7, _), (8, _), (10, _), (12, _), (17, _), (31, _)] [_, _, _, _] rfl ⟨(by exact sh_sc rfl), (by exact sh_sc rfl), (by exact sh_agg rfl), (by exact sh_ptr rfl), (by exact sh_nil rfl), (by exact sh_sc rfl), (by exact sh_sc rfl), (by exact sh_sc rfl), (by exact sh_sl rfl), (by exact sh_sc rfl), (by exact sh_sc rfl), trivial⟩ ?_
    refine W.region ?_
    refine WO.op rfl rfl rfl rfl (step_int2 rfl rfl rfl) ?_
    refine WO.put 33 (.sc (.bool false)) (by kernel_rfl) ?_
    refine WO.op rfl rfl rfl rfl (as_sc rfl) ?_
    refine WO.nil ?_
    refine W.condF rfl ?_
    refine W.seq ?_
    refine W.to [(0, _), (1, _), (2, _), (5, _), (6, _), (7, _), (8, _), (10, _), (12, _), (17, _), (31, _), (32, _)] [_, _, _, _] rfl ⟨(by exact sh_sc rfl), (by exact sh_sc rfl), (by exact sh_agg rfl), (by exact sh_ptr rfl), (by exact sh_nil rfl), (by exact sh_sc rfl), (by exact sh_sc rfl), (by exact sh_sc rfl), (by exact sh_sl rfl), (by exact sh_sc rfl), (by exact sh_sc rfl), (by exact sh_sc rfl), trivial⟩ ?_
    refine W.region ?_
    refine WO.op rfl rfl rfl rfl (step_int2 rfl rfl rfl) ?_
    refine WO.put 54 (.sc (.bool false)) (by kernel_rfl) ?_
    refine WO.op rfl rfl rfl rfl (as_sc rfl) ?_
    refine WO.nil ?_
    refine W.condF rfl ?_
    refine W.seq ?_
    refine W.to [(0, _), (1, _), (2, _), (5, _), (6, _), (7, _), (8, _), (10, _), (12, _), (17, _), (31, _), (32, _), (53, _)] [_, _, _, _] rfl ⟨(by exact sh_sc rfl), (by exact sh_sc rfl), (by exact sh_agg rfl), (by exact sh_ptr rfl), (by exact sh_nil rfl), (by exact sh_sc rfl), (by exact sh_sc rfl), (by exact sh_sc rfl), (by exact sh_sl rfl), (by exact sh_sc rfl), (by exact sh_sc rfl), (by exact sh_sc rfl), (by exact sh_sc rfl), trivial⟩ ?_
    refine W.region ?_
    refine WO.op rfl rfl rfl rfl (step_int2 rfl rfl rfl) ?_
    refine WO.put 89 (.sc (.bool false)) (by kernel_rfl) ?_
    refine WO.op rfl rfl rfl rfl (as_sc rfl) ?_
    refine WO.nil ?_
    refine W.condF rfl ?_
    refine W.skip ?_
    refine W.seq ?_
    refine W.to [(0, _), (1, _), (2, _), (5, _), (6, _), (7, _), (8, _), (10, _), (12, _), (17, _), (31, _), (32, _), (53, _), (88, _)] [_, _, _, _] rfl ⟨(by exact sh_sc rfl), (by exact sh_sc rfl), (by exact sh_agg rfl), (by exact sh_ptr rfl), (by exact sh_nil rfl), (by exact sh_sc rfl), (by exact sh_sc rfl), (by exact sh_sc rfl), (by exact sh_sl rfl), (by exact sh_sc rfl), (by exact sh_sc rfl), (by exact sh_sc rfl), (by exact sh_sc rfl), (by exact sh_sc rfl), trivial⟩ ?_
    refine W.region ?_
    refine WO.op rfl rfl rfl rfl (mv_sl rfl) ?_
    refine WO.op rfl rfl rfl rfl (as_sl rfl) ?_
    refine WO.op rfl rfl rfl rfl (as_sc rfl) ?_
    refine WO.nil ?_
    refine W.ret ?_
    refine ⟨.inl rfl, ?_⟩
    rw [show da.data.toList = List.replicate 0 0 ++ da.data.toList from rfl]
    exact ret0 (Res.tmp rfl (Res.tmp rfl Res.nil)) (.tup (.cons (Fz.bytes rfl (Nat.zero_le _) (take_whole (by (simp only [List.length_append, List.length_replicate, hoz]; omega))) (by rw [List.length_map]; (simp only [List.length_append, List.length_replicate, hoz]; omega))) (.cons (.keep rfl) .nil)))

end Go.Proofs.Ytdmlkcphlidcfaa
