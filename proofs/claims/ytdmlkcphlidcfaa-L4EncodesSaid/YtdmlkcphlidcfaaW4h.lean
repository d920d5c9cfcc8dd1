/-
  Contracts of functions of chapter 04: each theorem says what a call of one function answers, for all arguments that its hypotheses let in.
-/
import Derived.Test.YtdmlkcphlidcfaaW4d
set_option linter.unusedVariables false
set_option linter.unusedSimpArgs false
set_option maxRecDepth 100000
set_option maxHeartbeats 1000000
namespace Go.Proofs.Ytdmlkcphlidcfaa
open Go Go.SL Go.Proofs
theorem w_own0 {da : ByteArray} : Spec0 Try.prog 26 [.agg [.sc (.int .i64 0), .sc (.int .i64 0), .sc (.int .i64 0), .sc (.int .u32 0), .sc (.int .i64 0), .sc (.int .i64 0), .sc (.bool false), .sc (.int .u32 0), .sc (.int .u32 0), .sc (.int .i64 0), .sc (.int .i64 0), .sc (.int .i64 0), .sc (.string ⟨#[]⟩), .sc (.string da)]] (.tup [.agg [.sc (.int .i64 0), .sc (.int .i64 0), .sc (.int .i64 0), .sc (.int .u32 0), .sc (.int .i64 0), .sc (.int .i64 0), .sc (.bool false), .sc (.int .u32 0), .sc (.int .u32 0), .sc (.int .i64 0), .sc (.int .i64 0), .sc (.int .i64 0), .sc (.string ⟨#[]⟩), .sc (.string da)], .sc (.int .i64 0), .sc (.bool true)]) := by
  refine Spec.body Try.func26 rfl (Nat.le_of_ble_eq_true rfl) ?_
  refine W.seq ?_
  refine W.region ?_
  refine WO.opA rfl rfl rfl rfl (al_boxA rfl rfl) rfl rfl ?_
  refine WO.put 1 (.ptr 0 0) rfl ?_
  refine WO.opA rfl rfl rfl rfl (al_alloc Try.zeroValue25) rfl rfl ?_
  refine WO.put 2 (.ptr 1 0) rfl ?_
  refine WO.op rfl rfl rfl rfl (as_sc rfl) ?_
  refine WO.op rfl rfl rfl rfl (as_sc rfl) ?_
  refine WO.nil ?_
  refine W.seq ?_
  refine W.to [(0, _), (1, _), (2, _), (3, _), (4, _)] [_, _] rfl ⟨(by exact sh_agg rfl), (by exact sh_ptr rfl), (by exact sh_ptr rfl), (by exact sh_sc rfl), (by exact sh_sc rfl), trivial⟩ ?_
  refine W.region ?_
  refine WO.op rfl rfl rfl rfl (step_fieldR (k := 0) (FieldOff.mk (by kernel_rfl)) rfl rfl (by exact Nat.zero_add _)) ?_
  refine WO.op rfl rfl rfl rfl (step_load Try.isAgg3 rfl rfl rfl) ?_
  refine WO.op rfl rfl rfl rfl (step_fieldR (k := 13) (FieldOff.mk (by kernel_rfl)) rfl rfl (by exact Nat.zero_add _)) ?_
  refine WO.op rfl rfl rfl rfl (step_load Try.isAgg9 rfl rfl rfl) ?_
  refine WO.op rfl rfl rfl rfl (step_build Try.zeroValue25 (pl := [(0, 1), (1, 1), (2, 1), (3, 1), (4, 1), (5, 1), (6, 1), (7, 1), (8, 1), (9, 1), (10, 1), (11, 1), (12, 1), (13, 1)]) (PlacesOf.mk (by kernel_rfl)) rfl) ?_
  refine WO.put 10 (.agg [.sc (.int .i64 0), .sc (.int .i64 0), .sc (.int .i64 0), .sc (.int .u32 0), .sc (.int .i64 0), .sc (.int .i64 0), .sc (.bool false), .sc (.int .u32 0), .sc (.int .u32 0), .sc (.int .i64 0), .sc (.int .i64 0), .sc (.int .i64 0), .sc (.string ⟨#[]⟩), .sc (.string da)]) (by kernel_rfl) ?_
  refine WO.opA rfl rfl rfl rfl (al_alloc Try.zeroValue25) rfl rfl ?_
  refine WO.put 5 (.ptr 2 0) rfl ?_
  refine WO.op0 rfl rfl rfl (step_storeA Try.sizeOf25 rfl rfl rfl (by repeat (exact all_cell rfl rfl)) rfl rfl) ?_
  refine WO.nil ?_
  refine W.seq ?_
  refine W.seq ?_
  refine W.to [(0, _), (1, _), (2, _), (3, _), (4, _), (5, _)] [_, _, _] rfl ⟨(by exact sh_agg rfl), (by exact sh_ptr rfl), (by exact sh_ptr rfl), (by exact sh_sc rfl), (by exact sh_sc rfl), (by exact sh_ptr rfl), trivial⟩ ?_
  refine W.region ?_
  refine WO.op rfl rfl rfl rfl (step_fieldR (k := 0) (FieldOff.mk (by kernel_rfl)) rfl rfl (by exact Nat.zero_add _)) ?_
  refine WO.op rfl rfl rfl rfl (step_load Try.isAgg3 rfl rfl rfl) ?_
  refine WO.nil ?_
  refine W.block ?_
  refine W.seq ?_
  refine W.to [(0, _), (1, _), (2, _), (3, _), (4, _), (5, _), (12, _)] [_, _, _] rfl ⟨(by exact sh_agg rfl), (by exact sh_ptr rfl), (by exact sh_ptr rfl), (by exact sh_sc rfl), (by exact sh_sc rfl), (by exact sh_ptr rfl), (by exact sh_sc rfl), trivial⟩ ?_
  refine W.region ?_
  refine WO.op rfl rfl rfl rfl (step_int2 rfl rfl rfl) ?_
  refine WO.put 14 (.sc (.bool true)) (by kernel_rfl) ?_
  refine WO.op rfl rfl rfl rfl (as_sc rfl) ?_
  refine WO.nil ?_
  refine W.condT rfl ?_
  refine W.seq ?_
  refine W.to [(0, _), (1, _), (2, _), (3, _), (4, _), (5, _), (12, _), (13, _)] [_, _, _] rfl ⟨(by exact sh_agg rfl), (by exact sh_ptr rfl), (by exact sh_ptr rfl), (by exact sh_sc rfl), (by exact sh_sc rfl), (by exact sh_ptr rfl), (by exact sh_sc rfl), (by exact sh_sc rfl), trivial⟩ ?_
  refine W.region ?_
  refine WO.op rfl rfl rfl rfl (step_loadA Try.isAgg25 Try.sizeOf25 rfl rfl (by exact Nat.le_refl _)) ?_
  refine WO.put 15 (.agg [.sc (.int .i64 0), .sc (.int .i64 0), .sc (.int .i64 0), .sc (.int .u32 0), .sc (.int .i64 0), .sc (.int .i64 0), .sc (.bool false), .sc (.int .u32 0), .sc (.int .u32 0), .sc (.int .i64 0), .sc (.int .i64 0), .sc (.int .i64 0), .sc (.string ⟨#[]⟩), .sc (.string da)]) (by kernel_rfl) ?_
  refine WO.op0 rfl rfl rfl (step_storeA Try.sizeOf25 rfl rfl rfl (by repeat (exact all_cell rfl rfl)) rfl rfl) ?_
  refine WO.op rfl rfl rfl rfl (as_sc rfl) ?_
  refine WO.op rfl rfl rfl rfl (as_sc rfl) ?_
  refine WO.nil ?_
  refine W.ret ?_
  refine ⟨.inl rfl, ?_⟩
  exact ret0 (Res.cellA Try.isAgg25 Try.sizeOf25 rfl rfl (Nat.le_of_ble_eq_true rfl) (Res.tmp rfl (Res.tmp rfl Res.nil))) (.keep rfl)

theorem w_own1 {ty co re : Nat} {da : ByteArray} : Spec0 Try.prog 26 [.agg [.sc (.int .i64 1), .sc (.int .i64 ((ty : Nat) : Int)), .sc (.int .i64 ((co : Nat) : Int)), .sc (.int .u32 ((re : Nat) : Int)), .sc (.int .i64 0), .sc (.int .i64 0), .sc (.bool false), .sc (.int .u32 0), .sc (.int .u32 0), .sc (.int .i64 0), .sc (.int .i64 0), .sc (.int .i64 0), .sc (.string ⟨#[]⟩), .sc (.string da)]] (.tup [.agg [.sc (.int .i64 1), .sc (.int .i64 ((ty : Nat) : Int)), .sc (.int .i64 ((co : Nat) : Int)), .sc (.int .u32 ((re : Nat) : Int)), .sc (.int .i64 0), .sc (.int .i64 0), .sc (.bool false), .sc (.int .u32 0), .sc (.int .u32 0), .sc (.int .i64 0), .sc (.int .i64 0), .sc (.int .i64 0), .sc (.string ⟨#[]⟩), .sc (.string da)], .sc (.int .i64 8), .sc (.bool true)]) := by
  refine Spec.body Try.func26 rfl (Nat.le_of_ble_eq_true rfl) ?_
  refine W.seq ?_
  refine W.region ?_
  refine WO.opA rfl rfl rfl rfl (al_boxA rfl rfl) rfl rfl ?_
  refine WO.put 1 (.ptr 0 0) rfl ?_
  refine WO.opA rfl rfl rfl rfl (al_alloc Try.zeroValue25) rfl rfl ?_
  refine WO.put 2 (.ptr 1 0) rfl ?_
  refine WO.op rfl rfl rfl rfl (as_sc rfl) ?_
  refine WO.op rfl rfl rfl rfl (as_sc rfl) ?_
  refine WO.nil ?_
  refine W.seq ?_
  refine W.to [(0, _), (1, _), (2, _), (3, _), (4, _)] [_, _] rfl ⟨(by exact sh_agg rfl), (by exact sh_ptr rfl), (by exact sh_ptr rfl), (by exact sh_sc rfl), (by exact sh_sc rfl), trivial⟩ ?_
  refine W.region ?_
  refine WO.op rfl rfl rfl rfl (step_fieldR (k := 0) (FieldOff.mk (by kernel_rfl)) rfl rfl (by exact Nat.zero_add _)) ?_
  refine WO.op rfl rfl rfl rfl (step_load Try.isAgg3 rfl rfl rfl) ?_
  refine WO.op rfl rfl rfl rfl (step_fieldR (k := 13) (FieldOff.mk (by kernel_rfl)) rfl rfl (by exact Nat.zero_add _)) ?_
  refine WO.op rfl rfl rfl rfl (step_load Try.isAgg9 rfl rfl rfl) ?_
  refine WO.op rfl rfl rfl rfl (step_build Try.zeroValue25 (pl := [(0, 1), (1, 1), (2, 1), (3, 1), (4, 1), (5, 1), (6, 1), (7, 1), (8, 1), (9, 1), (10, 1), (11, 1), (12, 1), (13, 1)]) (PlacesOf.mk (by kernel_rfl)) rfl) ?_
  refine WO.put 10 (.agg [.sc (.int .i64 1), .sc (.int .i64 0), .sc (.int .i64 0), .sc (.int .u32 0), .sc (.int .i64 0), .sc (.int .i64 0), .sc (.bool false), .sc (.int .u32 0), .sc (.int .u32 0), .sc (.int .i64 0), .sc (.int .i64 0), .sc (.int .i64 0), .sc (.string ⟨#[]⟩), .sc (.string da)]) (by kernel_rfl) ?_
  refine WO.opA rfl rfl rfl rfl (al_alloc Try.zeroValue25) rfl rfl ?_
  refine WO.put 5 (.ptr 2 0) rfl ?_
  refine WO.op0 rfl rfl rfl (step_storeA Try.sizeOf25 rfl rfl rfl (by repeat (exact all_cell rfl rfl)) rfl rfl) ?_
  refine WO.nil ?_
  refine W.seq ?_
  refine W.seq ?_
  refine W.to [(0, _), (1, _), (2, _), (3, _), (4, _), (5, _)] [_, _, _] rfl ⟨(by exact sh_agg rfl), (by exact sh_ptr rfl), (by exact sh_ptr rfl), (by exact sh_sc rfl), (by exact sh_sc rfl), (by exact sh_ptr rfl), trivial⟩ ?_
  refine W.region ?_
  refine WO.op rfl rfl rfl rfl (step_fieldR (k := 0) (FieldOff.mk (by kernel_rfl)) rfl rfl (by exact Nat.zero_add _)) ?_
  refine WO.op rfl rfl rfl rfl (step_load Try.isAgg3 rfl rfl rfl) ?_
  refine WO.nil ?_
  refine W.block ?_
  refine W.seq ?_
  refine W.to [(0, _), (1, _), (2, _), (3, _), (4, _), (5, _), (12, _)] [_, _, _] rfl ⟨(by exact sh_agg rfl), (by exact sh_ptr rfl), (by exact sh_ptr rfl), (by exact sh_sc rfl), (by exact sh_sc rfl), (by exact sh_ptr rfl), (by exact sh_sc rfl), trivial⟩ ?_
  refine W.region ?_
  refine WO.op rfl rfl rfl rfl (step_int2 rfl rfl rfl) ?_
  refine WO.put 14 (.sc (.bool false)) (by kernel_rfl) ?_
  refine WO.op rfl rfl rfl rfl (as_sc rfl) ?_
  refine WO.nil ?_
  refine W.condF rfl ?_
  refine W.seq ?_
  refine W.to [(0, _), (1, _), (2, _), (3, _), (4, _), (5, _), (12, _), (13, _)] [_, _, _] rfl ⟨(by exact sh_agg rfl), (by exact sh_ptr rfl), (by exact sh_ptr rfl), (by exact sh_sc rfl), (by exact sh_sc rfl), (by exact sh_ptr rfl), (by exact sh_sc rfl), (by exact sh_sc rfl), trivial⟩ ?_
  refine W.region ?_
  refine WO.op rfl rfl rfl rfl (step_int2 rfl rfl rfl) ?_
  refine WO.put 17 (.sc (.bool true)) (by kernel_rfl) ?_
  refine WO.op rfl rfl rfl rfl (as_sc rfl) ?_
  refine WO.nil ?_
  refine W.condT rfl ?_
  refine W.seq ?_
  refine W.to [(0, _), (1, _), (2, _), (3, _), (4, _), (5, _), (12, _), (13, _), (16, _)] [_, _, _] rfl ⟨(by exact sh_agg rfl), (by exact sh_ptr rfl), (by exact sh_ptr rfl), (by exact sh_sc rfl), (by exact sh_sc rfl), (by exact sh_ptr rfl), (by exact sh_sc rfl), (by exact sh_sc rfl), (by exact sh_sc rfl), trivial⟩ ?_
  refine W.draw (Checked.mixed Try.checked) ?_
  refine DC.op1 rfl rfl rfl rfl (fun _ ho => step_fieldR (k := 1) (FieldOff.mk (by kernel_rfl)) rfl ho (by exact Nat.zero_add _)) ?_
  refine DC.op1 rfl rfl rfl rfl (fun _ ho => step_load Try.isAgg3 rfl ho rfl) ?_
  refine DC.op1 rfl rfl rfl rfl (fun _ ho => step_fieldR (k := 2) (FieldOff.mk (by kernel_rfl)) rfl ho (by exact Nat.zero_add _)) ?_
  refine DC.op1 rfl rfl rfl rfl (fun _ ho => step_load Try.isAgg3 rfl ho rfl) ?_
  refine DC.op1 rfl rfl rfl rfl (fun _ ho => step_fieldR (k := 3) (FieldOff.mk (by kernel_rfl)) rfl ho (by exact Nat.zero_add _)) ?_
  refine DC.op1 rfl rfl rfl rfl (fun _ ho => step_load Try.isAgg22 rfl ho rfl) ?_
  refine DC.op1 rfl rfl rfl rfl (fun _ ho => step_fieldR (k := 1) (FieldOff.mk (by kernel_rfl)) rfl ho (by exact Nat.zero_add _)) ?_
  refine DC.opE0 rfl rfl (step_store1 Try.sizeOf3 rfl rfl rfl rfl (by (simp only [List.length_map, List.length_append, List.length_take, List.length_drop, List.length_set, List.length_cons, List.length_nil, List.length_replicate] <;> omega))) (by simp) (by repeat (first | exact True.intro | refine And.intro (by rfl) ?_)) (by repeat (first | exact True.intro | refine And.intro (by rfl) ?_)) ?_
  refine DC.op1 rfl rfl rfl rfl (fun _ ho => step_fieldR (k := 2) (FieldOff.mk (by kernel_rfl)) rfl ho (by exact Nat.zero_add _)) ?_
  refine DC.opE0 rfl rfl (step_store1 Try.sizeOf3 rfl rfl rfl rfl (by (simp only [List.length_map, List.length_append, List.length_take, List.length_drop, List.length_set, List.length_cons, List.length_nil, List.length_replicate] <;> omega))) (by simp) (by repeat (first | exact True.intro | refine And.intro (by rfl) ?_)) (by repeat (first | exact True.intro | refine And.intro (by rfl) ?_)) ?_
  refine DC.op1 rfl rfl rfl rfl (fun _ ho => step_fieldR (k := 3) (FieldOff.mk (by kernel_rfl)) rfl ho (by exact Nat.zero_add _)) ?_
  refine DC.opE0 rfl rfl (step_store1 Try.sizeOf22 rfl rfl rfl rfl (by (simp only [List.length_map, List.length_append, List.length_take, List.length_drop, List.length_set, List.length_cons, List.length_nil, List.length_replicate] <;> omega))) (by simp) (by repeat (first | exact True.intro | refine And.intro (by rfl) ?_)) (by repeat (first | exact True.intro | refine And.intro (by rfl) ?_)) ?_
  refine DC.fin [(0, 0), (1, 0), (2, 0), (2, 1), (3, 0), (3, 1), (4, 0), (4, 1), (4, 2), (5, 0), (5, 1), (5, 2), (6, 0), (8, 1), (10, 2)] (by kernel_rfl) (by kernel_rfl) ?_ ?_
  · repeat (first | exact True.intro | refine And.intro ?_ ?_ | kernel_rfl)
  · refine W.seq ?_
    refine W.to [(0, _), (1, _), (2, _), (3, _), (4, _), (5, _), (12, _), (13, _), (16, _)] [_, _, _] rfl ⟨(by exact sh_agg rfl), (by exact sh_ptr rfl), (by exact sh_ptr rfl), (by exact sh_sc rfl), (by exact sh_sc rfl), (by exact sh_ptr rfl), (by exact sh_sc rfl), (by exact sh_sc rfl), (by exact sh_sc rfl), trivial⟩ ?_
    refine W.region ?_
    refine WO.op rfl rfl rfl rfl (step_loadA Try.isAgg25 Try.sizeOf25 rfl rfl (by exact Nat.le_refl _)) ?_
    refine WO.put 27 (.agg [.sc (.int .i64 1), .sc (.int .i64 ((ty : Nat) : Int)), .sc (.int .i64 ((co : Nat) : Int)), .sc (.int .u32 ((re : Nat) : Int)), .sc (.int .i64 0), .sc (.int .i64 0), .sc (.bool false), .sc (.int .u32 0), .sc (.int .u32 0), .sc (.int .i64 0), .sc (.int .i64 0), .sc (.int .i64 0), .sc (.string ⟨#[]⟩), .sc (.string da)]) (by kernel_rfl) ?_
    refine WO.op0 rfl rfl rfl (step_storeA Try.sizeOf25 rfl rfl rfl (by repeat (exact all_cell rfl rfl)) rfl rfl) ?_
    refine WO.op rfl rfl rfl rfl (as_sc rfl) ?_
    refine WO.op rfl rfl rfl rfl (as_sc rfl) ?_
    refine WO.nil ?_
    refine W.ret ?_
    refine ⟨.inl rfl, ?_⟩
    exact ret0 (Res.cellA Try.isAgg25 Try.sizeOf25 rfl rfl (Nat.le_of_ble_eq_true rfl) (Res.tmp rfl (Res.tmp rfl Res.nil))) (.keep rfl)

theorem w_own3 {sp dp se ac fl wi ur : Nat} {op da : ByteArray} (hop : op.size ≤ 40) : Spec0 Try.prog 26 [.agg [.sc (.int .i64 3), .sc (.int .i64 0), .sc (.int .i64 0), .sc (.int .u32 0), .sc (.int .i64 ((sp : Nat) : Int)), .sc (.int .i64 ((dp : Nat) : Int)), .sc (.bool false), .sc (.int .u32 ((se : Nat) : Int)), .sc (.int .u32 ((ac : Nat) : Int)), .sc (.int .i64 ((fl : Nat) : Int)), .sc (.int .i64 ((wi : Nat) : Int)), .sc (.int .i64 ((ur : Nat) : Int)), .sc (.string op), .sc (.string da)]] (.tup [.agg [.sc (.int .i64 3), .sc (.int .i64 0), .sc (.int .i64 0), .sc (.int .u32 0), .sc (.int .i64 ((sp : Nat) : Int)), .sc (.int .i64 ((dp : Nat) : Int)), .sc (.bool false), .sc (.int .u32 ((se : Nat) : Int)), .sc (.int .u32 ((ac : Nat) : Int)), .sc (.int .i64 ((fl : Nat) : Int)), .sc (.int .i64 ((wi : Nat) : Int)), .sc (.int .i64 ((ur : Nat) : Int)), .sc (.string op), .sc (.string da)], .sc (.int .i64 ((20 + op.size : Nat) : Int)), .sc (.bool true)]) := by
  refine Spec.body Try.func26 rfl (Nat.le_of_ble_eq_true rfl) ?_
  refine W.seq ?_
  refine W.region ?_
  refine WO.opA rfl rfl rfl rfl (al_boxA rfl rfl) rfl rfl ?_
  refine WO.put 1 (.ptr 0 0) rfl ?_
  refine WO.opA rfl rfl rfl rfl (al_alloc Try.zeroValue25) rfl rfl ?_
  refine WO.put 2 (.ptr 1 0) rfl ?_
  refine WO.op rfl rfl rfl rfl (as_sc rfl) ?_
  refine WO.op rfl rfl rfl rfl (as_sc rfl) ?_
  refine WO.nil ?_
  refine W.seq ?_
  refine W.to [(0, _), (1, _), (2, _), (3, _), (4, _)] [_, _] rfl ⟨(by exact sh_agg rfl), (by exact sh_ptr rfl), (by exact sh_ptr rfl), (by exact sh_sc rfl), (by exact sh_sc rfl), trivial⟩ ?_
  refine W.region ?_
  refine WO.op rfl rfl rfl rfl (step_fieldR (k := 0) (FieldOff.mk (by kernel_rfl)) rfl rfl (by exact Nat.zero_add _)) ?_
  refine WO.op rfl rfl rfl rfl (step_load Try.isAgg3 rfl rfl rfl) ?_
  refine WO.op rfl rfl rfl rfl (step_fieldR (k := 13) (FieldOff.mk (by kernel_rfl)) rfl rfl (by exact Nat.zero_add _)) ?_
  refine WO.op rfl rfl rfl rfl (step_load Try.isAgg9 rfl rfl rfl) ?_
  refine WO.op rfl rfl rfl rfl (step_build Try.zeroValue25 (pl := [(0, 1), (1, 1), (2, 1), (3, 1), (4, 1), (5, 1), (6, 1), (7, 1), (8, 1), (9, 1), (10, 1), (11, 1), (12, 1), (13, 1)]) (PlacesOf.mk (by kernel_rfl)) rfl) ?_
  refine WO.put 10 (.agg [.sc (.int .i64 3), .sc (.int .i64 0), .sc (.int .i64 0), .sc (.int .u32 0), .sc (.int .i64 0), .sc (.int .i64 0), .sc (.bool false), .sc (.int .u32 0), .sc (.int .u32 0), .sc (.int .i64 0), .sc (.int .i64 0), .sc (.int .i64 0), .sc (.string ⟨#[]⟩), .sc (.string da)]) (by kernel_rfl) ?_
  refine WO.opA rfl rfl rfl rfl (al_alloc Try.zeroValue25) rfl rfl ?_
  refine WO.put 5 (.ptr 2 0) rfl ?_
  refine WO.op0 rfl rfl rfl (step_storeA Try.sizeOf25 rfl rfl rfl (by repeat (exact all_cell rfl rfl)) rfl rfl) ?_
  refine WO.nil ?_
  refine W.seq ?_
  refine W.seq ?_
  refine W.to [(0, _), (1, _), (2, _), (3, _), (4, _), (5, _)] [_, _, _] rfl ⟨(by exact sh_agg rfl), (by exact sh_ptr rfl), (by exact sh_ptr rfl), (by exact sh_sc rfl), (by exact sh_sc rfl), (by exact sh_ptr rfl), trivial⟩ ?_
  refine W.region ?_
  refine WO.op rfl rfl rfl rfl (step_fieldR (k := 0) (FieldOff.mk (by kernel_rfl)) rfl rfl (by exact Nat.zero_add _)) ?_
  refine WO.op rfl rfl rfl rfl (step_load Try.isAgg3 rfl rfl rfl) ?_
  refine WO.nil ?_
  refine W.block ?_
  refine W.seq ?_
  refine W.to [(0, _), (1, _), (2, _), (3, _), (4, _), (5, _), (12, _)] [_, _, _] rfl ⟨(by exact sh_agg rfl), (by exact sh_ptr rfl), (by exact sh_ptr rfl), (by exact sh_sc rfl), (by exact sh_sc rfl), (by exact sh_ptr rfl), (by exact sh_sc rfl), trivial⟩ ?_
  refine W.region ?_
  refine WO.op rfl rfl rfl rfl (step_int2 rfl rfl rfl) ?_
  refine WO.put 14 (.sc (.bool false)) (by kernel_rfl) ?_
  refine WO.op rfl rfl rfl rfl (as_sc rfl) ?_
  refine WO.nil ?_
  refine W.condF rfl ?_
  refine W.seq ?_
  refine W.to [(0, _), (1, _), (2, _), (3, _), (4, _), (5, _), (12, _), (13, _)] [_, _, _] rfl ⟨(by exact sh_agg rfl), (by exact sh_ptr rfl), (by exact sh_ptr rfl), (by exact sh_sc rfl), (by exact sh_sc rfl), (by exact sh_ptr rfl), (by exact sh_sc rfl), (by exact sh_sc rfl), trivial⟩ ?_
  refine W.region ?_
  refine WO.op rfl rfl rfl rfl (step_int2 rfl rfl rfl) ?_
  refine WO.put 17 (.sc (.bool false)) (by kernel_rfl) ?_
  refine WO.op rfl rfl rfl rfl (as_sc rfl) ?_
  refine WO.nil ?_
  refine W.condF rfl ?_
  refine W.seq ?_
  refine W.to [(0, _), (1, _), (2, _), (3, _), (4, _), (5, _), (12, _), (13, _), (16, _)] [_, _, _] rfl ⟨(by exact sh_agg rfl), (by exact sh_ptr rfl), (by exact sh_ptr rfl), (by exact sh_sc rfl), (by exact sh_sc rfl), (by exact sh_ptr rfl), (by exact sh_sc rfl), (by exact sh_sc rfl), (by exact sh_sc rfl), trivial⟩ ?_
  refine W.region ?_
  refine WO.op rfl rfl rfl rfl (step_int2 rfl rfl rfl) ?_
  refine WO.put 29 (.sc (.bool false)) (by kernel_rfl) ?_
  refine WO.op rfl rfl rfl rfl (as_sc rfl) ?_
  refine WO.nil ?_
  refine W.condF rfl ?_
  refine W.seq ?_
  refine W.to [(0, _), (1, _), (2, _), (3, _), (4, _), (5, _), (12, _), (13, _), (16, _), (28, _)] [_, _, _] rfl ⟨(by exact sh_agg rfl), (by exact sh_ptr rfl), (by exact sh_ptr rfl), (by exact sh_sc rfl), (by exact sh_sc rfl), (by exact sh_ptr rfl), (by exact sh_sc rfl), (by exact sh_sc rfl), (by exact sh_sc rfl), (by exact sh_sc rfl), trivial⟩ ?_
  refine W.region ?_
  refine WO.op rfl rfl rfl rfl (step_int2 rfl rfl rfl) ?_
  refine WO.put 41 (.sc (.bool true)) (by kernel_rfl) ?_
  refine WO.op rfl rfl rfl rfl (as_sc rfl) ?_
  refine WO.nil ?_
  refine W.condT rfl ?_
  refine W.seq ?_
  refine W.to [(0, _), (1, _), (2, _), (3, _), (4, _), (5, _), (12, _), (13, _), (16, _), (28, _), (40, _)] [_, _, _] rfl ⟨(by exact sh_agg rfl), (by exact sh_ptr rfl), (by exact sh_ptr rfl), (by exact sh_sc rfl), (by exact sh_sc rfl), (by exact sh_ptr rfl), (by exact sh_sc rfl), (by exact sh_sc rfl), (by exact sh_sc rfl), (by exact sh_sc rfl), (by exact sh_sc rfl), trivial⟩ ?_
  refine W.region ?_
  refine WO.op rfl rfl rfl rfl (step_loadA Try.isAgg25 Try.sizeOf25 rfl rfl (by exact Nat.le_refl _)) ?_
  refine WO.put 42 (.agg [.sc (.int .i64 3), .sc (.int .i64 0), .sc (.int .i64 0), .sc (.int .u32 0), .sc (.int .i64 ((sp : Nat) : Int)), .sc (.int .i64 ((dp : Nat) : Int)), .sc (.bool false), .sc (.int .u32 ((se : Nat) : Int)), .sc (.int .u32 ((ac : Nat) : Int)), .sc (.int .i64 ((fl : Nat) : Int)), .sc (.int .i64 ((wi : Nat) : Int)), .sc (.int .i64 ((ur : Nat) : Int)), .sc (.string op), .sc (.string da)]) (by kernel_rfl) ?_
  refine WO.op0 rfl rfl rfl (step_storeA Try.sizeOf25 rfl rfl rfl (by repeat (exact all_cell rfl rfl)) rfl rfl) ?_
  refine WO.nil ?_
  refine W.seq ?_
  refine W.to [(0, _), (1, _), (2, _), (3, _), (4, _), (5, _), (12, _), (13, _), (16, _), (28, _), (40, _)] [_, _, _] rfl ⟨(by exact sh_agg rfl), (by exact sh_ptr rfl), (by exact sh_ptr rfl), (by exact sh_sc rfl), (by exact sh_sc rfl), (by exact sh_ptr rfl), (by exact sh_sc rfl), (by exact sh_sc rfl), (by exact sh_sc rfl), (by exact sh_sc rfl), (by exact sh_sc rfl), trivial⟩ ?_
  refine W.region ?_
  refine WO.op rfl rfl rfl rfl (step_fieldR (k := 1) (FieldOff.mk (by kernel_rfl)) rfl rfl (by exact Nat.zero_add _)) ?_
  refine WO.op0 rfl rfl rfl (step_store1 Try.sizeOf3 rfl rfl rfl rfl (by (simp only [List.length_map, List.length_append, List.length_take, List.length_drop, List.length_set, List.length_cons, List.length_nil, List.length_replicate] <;> omega))) ?_
  refine WO.op rfl rfl rfl rfl (step_fieldR (k := 2) (FieldOff.mk (by kernel_rfl)) rfl rfl (by exact Nat.zero_add _)) ?_
  refine WO.op0 rfl rfl rfl (step_store1 Try.sizeOf3 rfl rfl rfl rfl (by (simp only [List.length_map, List.length_append, List.length_take, List.length_drop, List.length_set, List.length_cons, List.length_nil, List.length_replicate] <;> omega))) ?_
  refine WO.op rfl rfl rfl rfl (step_fieldR (k := 3) (FieldOff.mk (by kernel_rfl)) rfl rfl (by exact Nat.zero_add _)) ?_
  refine WO.op0 rfl rfl rfl (step_store1 Try.sizeOf22 rfl rfl rfl rfl (by (simp only [List.length_map, List.length_append, List.length_take, List.length_drop, List.length_set, List.length_cons, List.length_nil, List.length_replicate] <;> omega))) ?_
  refine WO.op rfl rfl rfl rfl (step_fieldR (k := 6) (FieldOff.mk (by kernel_rfl)) rfl rfl (by exact Nat.zero_add _)) ?_
  refine WO.op0 rfl rfl rfl (step_store1 Try.sizeOf4 rfl rfl rfl rfl (by (simp only [List.length_map, List.length_append, List.length_take, List.length_drop, List.length_set, List.length_cons, List.length_nil, List.length_replicate] <;> omega))) ?_
  refine WO.nil ?_
  refine W.seq ?_
  refine W.to [(0, _), (1, _), (2, _), (3, _), (4, _), (5, _), (12, _), (13, _), (16, _), (28, _), (40, _)] [_, _, _] rfl ⟨(by exact sh_agg rfl), (by exact sh_ptr rfl), (by exact sh_ptr rfl), (by exact sh_sc rfl), (by exact sh_sc rfl), (by exact sh_ptr rfl), (by exact sh_sc rfl), (by exact sh_sc rfl), (by exact sh_sc rfl), (by exact sh_sc rfl), (by exact sh_sc rfl), trivial⟩ ?_
  refine W.draw (Checked.mixed Try.checked) ?_
  refine DC.op1 rfl rfl rfl rfl (fun _ ho => step_loadA Try.isAgg25 Try.sizeOf25 rfl ho (by exact Nat.le_refl _)) ?_
  refine DC.set 47 (.agg [.sc (.int .i64 3), .sc (.int .i64 0), .sc (.int .i64 0), .sc (.int .u32 0), .sc (.int .i64 ((sp : Nat) : Int)), .sc (.int .i64 ((dp : Nat) : Int)), .sc (.bool false), .sc (.int .u32 ((se : Nat) : Int)), .sc (.int .u32 ((ac : Nat) : Int)), .sc (.int .i64 ((fl : Nat) : Int)), .sc (.int .i64 ((wi : Nat) : Int)), .sc (.int .i64 ((ur : Nat) : Int)), .sc (.string op), .sc (.string da)]) (by kernel_rfl) ?_
  refine DC.op1 rfl rfl rfl rfl (fun _ ho => step_fieldR (k := 12) (FieldOff.mk (by kernel_rfl)) rfl ho (by exact Nat.zero_add _)) ?_
  refine DC.op1 rfl rfl rfl rfl (fun _ ho => step_load Try.isAgg9 rfl ho rfl) ?_
  refine DC.op rfl rfl rfl (fun _ => step_lenS Try.runUnderlying9 rfl) ?_
  refine DC.op rfl rfl rfl (fun _ => step_addN (p := 20) rfl rfl (by (simp only [cap]; omega))) ?_
  refine DC.opE0 rfl rfl (step_storeA Try.sizeOf25 rfl rfl rfl (by repeat (exact all_cell rfl rfl)) rfl rfl) (by simp) (by repeat (first | exact True.intro | refine And.intro (by rfl) ?_)) (by repeat (first | exact True.intro | refine And.intro (by rfl) ?_)) ?_
  refine DC.op rfl rfl rfl (fun _ => as_sc rfl) ?_
  refine DC.op rfl rfl rfl (fun _ => as_sc rfl) ?_
  refine DC.fin [(0, 0), (1, 0), (1, 1), (2, 0), (2, 1), (3, 0), (3, 1)] (by kernel_rfl) (by kernel_rfl) ?_ ?_
  · repeat (first | exact True.intro | refine And.intro ?_ ?_ | kernel_rfl)
  · refine W.ret ?_
    refine ⟨.inl rfl, ?_⟩
    exact ret0 (Res.cellA Try.isAgg25 Try.sizeOf25 rfl rfl (Nat.le_of_ble_eq_true rfl) (Res.tmp rfl (Res.tmp rfl Res.nil))) (.keep rfl)

theorem w_Chk0 {da : ByteArray} (hda : da.size ≤ 65515) : Spec0 Try.prog 13 [.agg [.sc (.int .i64 0), .sc (.int .i64 0), .sc (.int .i64 0), .sc (.int .u32 0), .sc (.int .i64 0), .sc (.int .i64 0), .sc (.bool false), .sc (.int .u32 0), .sc (.int .u32 0), .sc (.int .i64 0), .sc (.int .i64 0), .sc (.int .i64 0), .sc (.string ⟨#[]⟩), .sc (.string da)]] (.sc (.int .i64 0)) := by
  refine Spec.body Try.func13 rfl (Nat.le_of_ble_eq_true rfl) ?_
  refine W.seq ?_
  refine W.region ?_
  refine WO.opA rfl rfl rfl rfl (al_boxA rfl rfl) rfl rfl ?_
  refine WO.put 1 (.ptr 0 0) rfl ?_
  refine WO.op rfl rfl rfl rfl (as_sc rfl) ?_
  refine WO.nil ?_
  refine W.seq ?_
  refine W.to [(0, _), (1, _), (2, _)] [_] rfl ⟨(by exact sh_agg rfl), (by exact sh_ptr rfl), (by exact sh_sc rfl), trivial⟩ ?_
  refine W.region ?_
  refine WO.op rfl rfl rfl rfl (step_loadA Try.isAgg25 Try.sizeOf25 rfl rfl (by exact Nat.le_refl _)) ?_
  refine WO.op rfl rfl rfl rfl (step_pure Try.call26 rfl (by (repeat (first | exact Nl.nil | refine Nl.keep (by rfl) ?_))) (w_own0) (by repeat (first | with_reducible refine noOwn_tup ?_ | with_reducible refine noOwn_agg ?_ | with_reducible exact noOwnL_nil | with_reducible refine noOwnL_cons ?_ ?_ | rfl))) ?_
  refine WO.op rfl rfl rfl rfl (mv_tup rfl) ?_
  refine WO.op rfl rfl rfl rfl (step_extract rfl rfl) ?_
  refine WO.put 9 (.agg [.sc (.int .i64 0), .sc (.int .i64 0), .sc (.int .i64 0), .sc (.int .u32 0), .sc (.int .i64 0), .sc (.int .i64 0), .sc (.bool false), .sc (.int .u32 0), .sc (.int .u32 0), .sc (.int .i64 0), .sc (.int .i64 0), .sc (.int .i64 0), .sc (.string ⟨#[]⟩), .sc (.string da)]) (by kernel_rfl) ?_
  refine WO.op rfl rfl rfl rfl (step_extract rfl rfl) ?_
  refine WO.op rfl rfl rfl rfl (step_extract rfl rfl) ?_
  refine WO.opA rfl rfl rfl rfl (al_alloc Try.zeroValue25) rfl rfl ?_
  refine WO.put 3 (.ptr 1 0) rfl ?_
  refine WO.op0 rfl rfl rfl (step_storeA Try.sizeOf25 rfl rfl rfl (by repeat (exact all_cell rfl rfl)) rfl rfl) ?_
  refine WO.op rfl rfl rfl rfl (as_sc rfl) ?_
  refine WO.op rfl rfl rfl rfl (as_sc rfl) ?_
  refine WO.nil ?_
  refine W.seq ?_
  refine W.seq ?_
  refine W.to [(0, _), (1, _), (2, _), (3, _), (4, _), (5, _)] [_, _] rfl ⟨(by exact sh_agg rfl), (by exact sh_ptr rfl), (by exact sh_sc rfl), (by exact sh_ptr rfl), (by exact sh_sc rfl), (by exact sh_sc rfl), trivial⟩ ?_
  refine W.region ?_
  refine WO.op rfl rfl rfl rfl (mv_sc rfl) ?_
  refine WO.op rfl rfl rfl rfl (step_not rfl) ?_
  refine WO.put 13 (.sc (.bool false)) (by kernel_rfl) ?_
  refine WO.op rfl rfl rfl rfl (mv_sc rfl) ?_
  refine WO.op rfl rfl rfl rfl (step_loadA Try.isAgg25 Try.sizeOf25 rfl rfl (by exact Nat.le_refl _)) ?_
  refine WO.put 15 (.agg [.sc (.int .i64 0), .sc (.int .i64 0), .sc (.int .i64 0), .sc (.int .u32 0), .sc (.int .i64 0), .sc (.int .i64 0), .sc (.bool false), .sc (.int .u32 0), .sc (.int .u32 0), .sc (.int .i64 0), .sc (.int .i64 0), .sc (.int .i64 0), .sc (.string ⟨#[]⟩), .sc (.string da)]) (by kernel_rfl) ?_
  refine WO.op rfl rfl rfl rfl (step_loadA Try.isAgg25 Try.sizeOf25 rfl rfl (by exact Nat.le_refl _)) ?_
  refine WO.put 16 (.agg [.sc (.int .i64 0), .sc (.int .i64 0), .sc (.int .i64 0), .sc (.int .u32 0), .sc (.int .i64 0), .sc (.int .i64 0), .sc (.bool false), .sc (.int .u32 0), .sc (.int .u32 0), .sc (.int .i64 0), .sc (.int .i64 0), .sc (.int .i64 0), .sc (.string ⟨#[]⟩), .sc (.string da)]) (by kernel_rfl) ?_
  refine WO.op rfl rfl rfl rfl (ne_L4 (a0 := 0) (a1 := 0) (a2 := 0) (a3 := 0) (a4 := 0) (a5 := 0) (a6 := false) (a7 := 0) (a8 := 0) (a9 := 0) (a10 := 0) (a11 := 0) (a12 := ⟨#[]⟩) (a13 := da) (by (constructor <;> omega)) (by (constructor <;> omega)) (by (constructor <;> omega)) (by (constructor <;> omega)) (by (constructor <;> omega)) (by (constructor <;> omega)) (by (constructor <;> omega)) (by (constructor <;> omega)) (by (constructor <;> omega)) (by (constructor <;> omega)) (by (constructor <;> omega)) (by decide) (by omega) rfl rfl) ?_
  refine WO.put 17 (.sc (.bool false)) (rfl) ?_
  refine WO.op rfl rfl rfl rfl (pk_f rfl rfl rfl) ?_
  refine WO.op rfl rfl rfl rfl (mv_sc rfl) ?_
  refine WO.op rfl rfl rfl rfl (step_fieldR (k := 1) (FieldOff.mk (by kernel_rfl)) rfl rfl (by exact Nat.zero_add _)) ?_
  refine WO.op rfl rfl rfl rfl (step_load Try.isAgg3 rfl rfl rfl) ?_
  refine WO.op rfl rfl rfl rfl (step_pure Try.call33 rfl (by (repeat (first | exact Nl.nil | refine Nl.keep (by rfl) ?_))) (w_within) (by repeat (rfl))) ?_
  refine WO.op rfl rfl rfl rfl (step_not rfl) ?_
  refine WO.op rfl rfl rfl rfl (pk_f rfl rfl rfl) ?_
  refine WO.op rfl rfl rfl rfl (mv_sc rfl) ?_
  refine WO.spl 25 rfl (fun h1 => ?_) (fun h1 => ?_)
  · try simp only [decide_eq_true_eq, decide_eq_false_iff_not, Bool.not_eq_true', Bool.not_eq_false', beq_iff_eq, bne_iff_ne, beq_eq_false_iff_ne, bne_eq_false_iff_eq, gt_iff_lt, ge_iff_le, Int.not_lt, Int.not_le] at h1
    exact False.elim (by omega)
  · try simp only [decide_eq_true_eq, decide_eq_false_iff_not, Bool.not_eq_true', Bool.not_eq_false', beq_iff_eq, bne_iff_ne, beq_eq_false_iff_ne, bne_eq_false_iff_eq, gt_iff_lt, ge_iff_le, Int.not_lt, Int.not_le] at h1
    refine WO.op rfl rfl rfl rfl (step_fieldR (k := 2) (FieldOff.mk (by kernel_rfl)) rfl rfl (by exact Nat.zero_add _)) ?_
    refine WO.op rfl rfl rfl rfl (step_load Try.isAgg3 rfl rfl rfl) ?_
    refine WO.op rfl rfl rfl rfl (step_pure Try.call33 rfl (by (repeat (first | exact Nl.nil | refine Nl.keep (by rfl) ?_))) (w_within) (by repeat (rfl))) ?_
    refine WO.op rfl rfl rfl rfl (step_not rfl) ?_
    refine WO.op rfl rfl rfl rfl (pk_f rfl rfl rfl) ?_
    refine WO.op rfl rfl rfl rfl (mv_sc rfl) ?_
    refine WO.spl 31 rfl (fun h2 => ?_) (fun h2 => ?_)
    · try simp only [decide_eq_true_eq, decide_eq_false_iff_not, Bool.not_eq_true', Bool.not_eq_false', beq_iff_eq, bne_iff_ne, beq_eq_false_iff_ne, bne_eq_false_iff_eq, gt_iff_lt, ge_iff_le, Int.not_lt, Int.not_le] at h2
      exact False.elim (by omega)
    · try simp only [decide_eq_true_eq, decide_eq_false_iff_not, Bool.not_eq_true', Bool.not_eq_false', beq_iff_eq, bne_iff_ne, beq_eq_false_iff_ne, bne_eq_false_iff_eq, gt_iff_lt, ge_iff_le, Int.not_lt, Int.not_le] at h2
      refine WO.op rfl rfl rfl rfl (step_fieldR (k := 4) (FieldOff.mk (by kernel_rfl)) rfl rfl (by exact Nat.zero_add _)) ?_
      refine WO.op rfl rfl rfl rfl (step_load Try.isAgg3 rfl rfl rfl) ?_
      refine WO.op rfl rfl rfl rfl (step_pure Try.call33 rfl (by (repeat (first | exact Nl.nil | refine Nl.keep (by rfl) ?_))) (w_within) (by repeat (rfl))) ?_
      refine WO.op rfl rfl rfl rfl (step_not rfl) ?_
      refine WO.op rfl rfl rfl rfl (pk_f rfl rfl rfl) ?_
      refine WO.op rfl rfl rfl rfl (mv_sc rfl) ?_
      refine WO.spl 37 rfl (fun h3 => ?_) (fun h3 => ?_)
      · try simp only [decide_eq_true_eq, decide_eq_false_iff_not, Bool.not_eq_true', Bool.not_eq_false', beq_iff_eq, bne_iff_ne, beq_eq_false_iff_ne, bne_eq_false_iff_eq, gt_iff_lt, ge_iff_le, Int.not_lt, Int.not_le] at h3
        exact False.elim (by omega)
      · try simp only [decide_eq_true_eq, decide_eq_false_iff_not, Bool.not_eq_true', Bool.not_eq_false', beq_iff_eq, bne_iff_ne, beq_eq_false_iff_ne, bne_eq_false_iff_eq, gt_iff_lt, ge_iff_le, Int.not_lt, Int.not_le] at h3
        refine WO.op rfl rfl rfl rfl (step_fieldR (k := 5) (FieldOff.mk (by kernel_rfl)) rfl rfl (by exact Nat.zero_add _)) ?_
        refine WO.op rfl rfl rfl rfl (step_load Try.isAgg3 rfl rfl rfl) ?_
        refine WO.op rfl rfl rfl rfl (step_pure Try.call33 rfl (by (repeat (first | exact Nl.nil | refine Nl.keep (by rfl) ?_))) (w_within) (by repeat (rfl))) ?_
        refine WO.op rfl rfl rfl rfl (step_not rfl) ?_
        refine WO.op rfl rfl rfl rfl (pk_f rfl rfl rfl) ?_
        refine WO.op rfl rfl rfl rfl (mv_sc rfl) ?_
        refine WO.spl 43 rfl (fun h4 => ?_) (fun h4 => ?_)
        · try simp only [decide_eq_true_eq, decide_eq_false_iff_not, Bool.not_eq_true', Bool.not_eq_false', beq_iff_eq, bne_iff_ne, beq_eq_false_iff_ne, bne_eq_false_iff_eq, gt_iff_lt, ge_iff_le, Int.not_lt, Int.not_le] at h4
          exact False.elim (by omega)
        · try simp only [decide_eq_true_eq, decide_eq_false_iff_not, Bool.not_eq_true', Bool.not_eq_false', beq_iff_eq, bne_iff_ne, beq_eq_false_iff_ne, bne_eq_false_iff_eq, gt_iff_lt, ge_iff_le, Int.not_lt, Int.not_le] at h4
          refine WO.op rfl rfl rfl rfl (step_fieldR (k := 10) (FieldOff.mk (by kernel_rfl)) rfl rfl (by exact Nat.zero_add _)) ?_
          refine WO.op rfl rfl rfl rfl (step_load Try.isAgg3 rfl rfl rfl) ?_
          refine WO.op rfl rfl rfl rfl (step_pure Try.call33 rfl (by (repeat (first | exact Nl.nil | refine Nl.keep (by rfl) ?_))) (w_within) (by repeat (rfl))) ?_
          refine WO.op rfl rfl rfl rfl (step_not rfl) ?_
          refine WO.op rfl rfl rfl rfl (pk_f rfl rfl rfl) ?_
          refine WO.op rfl rfl rfl rfl (mv_sc rfl) ?_
          refine WO.spl 49 rfl (fun h5 => ?_) (fun h5 => ?_)
          · try simp only [decide_eq_true_eq, decide_eq_false_iff_not, Bool.not_eq_true', Bool.not_eq_false', beq_iff_eq, bne_iff_ne, beq_eq_false_iff_ne, bne_eq_false_iff_eq, gt_iff_lt, ge_iff_le, Int.not_lt, Int.not_le] at h5
            exact False.elim (by omega)
          · try simp only [decide_eq_true_eq, decide_eq_false_iff_not, Bool.not_eq_true', Bool.not_eq_false', beq_iff_eq, bne_iff_ne, beq_eq_false_iff_ne, bne_eq_false_iff_eq, gt_iff_lt, ge_iff_le, Int.not_lt, Int.not_le] at h5
            refine WO.op rfl rfl rfl rfl (step_fieldR (k := 11) (FieldOff.mk (by kernel_rfl)) rfl rfl (by exact Nat.zero_add _)) ?_
            refine WO.op rfl rfl rfl rfl (step_load Try.isAgg3 rfl rfl rfl) ?_
            refine WO.op rfl rfl rfl rfl (step_pure Try.call33 rfl (by (repeat (first | exact Nl.nil | refine Nl.keep (by rfl) ?_))) (w_within) (by repeat (rfl))) ?_
            refine WO.op rfl rfl rfl rfl (step_not rfl) ?_
            refine WO.op rfl rfl rfl rfl (pk_f rfl rfl rfl) ?_
            refine WO.op rfl rfl rfl rfl (mv_sc rfl) ?_
            refine WO.spl 55 rfl (fun h6 => ?_) (fun h6 => ?_)
            · try simp only [decide_eq_true_eq, decide_eq_false_iff_not, Bool.not_eq_true', Bool.not_eq_false', beq_iff_eq, bne_iff_ne, beq_eq_false_iff_ne, bne_eq_false_iff_eq, gt_iff_lt, ge_iff_le, Int.not_lt, Int.not_le] at h6
              exact False.elim (by omega)
            · try simp only [decide_eq_true_eq, decide_eq_false_iff_not, Bool.not_eq_true', Bool.not_eq_false', beq_iff_eq, bne_iff_ne, beq_eq_false_iff_ne, bne_eq_false_iff_eq, gt_iff_lt, ge_iff_le, Int.not_lt, Int.not_le] at h6
              refine WO.op rfl rfl rfl rfl (step_fieldR (k := 9) (FieldOff.mk (by kernel_rfl)) rfl rfl (by exact Nat.zero_add _)) ?_
              refine WO.op rfl rfl rfl rfl (step_load Try.isAgg3 rfl rfl rfl) ?_
              refine WO.op rfl rfl rfl rfl (step_pure Try.call33 rfl (by (repeat (first | exact Nl.nil | refine Nl.keep (by rfl) ?_))) (w_within) (by repeat (rfl))) ?_
              refine WO.op rfl rfl rfl rfl (step_not rfl) ?_
              refine WO.op rfl rfl rfl rfl (pk_f rfl rfl rfl) ?_
              refine WO.op rfl rfl rfl rfl (mv_sc rfl) ?_
              refine WO.spl 61 rfl (fun h7 => ?_) (fun h7 => ?_)
              · try simp only [decide_eq_true_eq, decide_eq_false_iff_not, Bool.not_eq_true', Bool.not_eq_false', beq_iff_eq, bne_iff_ne, beq_eq_false_iff_ne, bne_eq_false_iff_eq, gt_iff_lt, ge_iff_le, Int.not_lt, Int.not_le] at h7
                exact False.elim (by omega)
              · try simp only [decide_eq_true_eq, decide_eq_false_iff_not, Bool.not_eq_true', Bool.not_eq_false', beq_iff_eq, bne_iff_ne, beq_eq_false_iff_ne, bne_eq_false_iff_eq, gt_iff_lt, ge_iff_le, Int.not_lt, Int.not_le] at h7
                refine WO.op rfl rfl rfl rfl (step_fieldR (k := 12) (FieldOff.mk (by kernel_rfl)) rfl rfl (by exact Nat.zero_add _)) ?_
                refine WO.op rfl rfl rfl rfl (step_load Try.isAgg9 rfl rfl rfl) ?_
                refine WO.op rfl rfl rfl rfl (step_lenS Try.runUnderlying9 rfl) ?_
                refine WO.op rfl rfl rfl rfl (step_int2 rfl rfl rfl) ?_
                refine WO.put 65 (.sc (.bool false)) (by kernel_rfl) ?_
                refine WO.op rfl rfl rfl rfl (pk_f rfl rfl rfl) ?_
                refine WO.op rfl rfl rfl rfl (mv_sc rfl) ?_
                refine WO.op rfl rfl rfl rfl (step_fieldR (k := 12) (FieldOff.mk (by kernel_rfl)) rfl rfl (by exact Nat.zero_add _)) ?_
                refine WO.op rfl rfl rfl rfl (step_load Try.isAgg9 rfl rfl rfl) ?_
                refine WO.op rfl rfl rfl rfl (step_lenS Try.runUnderlying9 rfl) ?_
                refine WO.op rfl rfl rfl rfl (step_remN (q := 4) rfl rfl (by omega)) ?_
                refine WO.op rfl rfl rfl rfl (step_int2 rfl rfl rfl) ?_
                refine WO.put 72 (.sc (.bool false)) (by kernel_rfl) ?_
                refine WO.op rfl rfl rfl rfl (pk_f rfl rfl rfl) ?_
                refine WO.op rfl rfl rfl rfl (mv_sc rfl) ?_
                refine WO.op rfl rfl rfl rfl (step_fieldR (k := 13) (FieldOff.mk (by kernel_rfl)) rfl rfl (by exact Nat.zero_add _)) ?_
                refine WO.op rfl rfl rfl rfl (step_load Try.isAgg9 rfl rfl rfl) ?_
                refine WO.op rfl rfl rfl rfl (step_lenS Try.runUnderlying9 rfl) ?_
                refine WO.op rfl rfl rfl rfl (mv_sc rfl) ?_
                refine WO.op rfl rfl rfl rfl (step_subN (p := 65515) rfl rfl (by (simp only [List.length_map, List.length_append, List.length_take, List.length_drop, List.length_set, List.length_cons, List.length_nil, List.length_replicate] <;> omega)) (by (simp only [cap]; omega))) ?_
                refine WO.op rfl rfl rfl rfl (step_int2 rfl rfl rfl) ?_
                refine WO.op rfl rfl rfl rfl (pk_f rfl rfl rfl) ?_
                refine WO.nil ?_
                refine W.cond rfl (fun h8 => ?_) (fun h8 => ?_)
                · try simp only [decide_eq_true_eq, decide_eq_false_iff_not, Bool.not_eq_true', Bool.not_eq_false', beq_iff_eq, bne_iff_ne, beq_eq_false_iff_ne, bne_eq_false_iff_eq, gt_iff_lt, ge_iff_le, Int.not_lt, Int.not_le] at h8
                  exact False.elim (by omega)
                · try simp only [decide_eq_true_eq, decide_eq_false_iff_not, Bool.not_eq_true', Bool.not_eq_false', beq_iff_eq, bne_iff_ne, beq_eq_false_iff_ne, bne_eq_false_iff_eq, gt_iff_lt, ge_iff_le, Int.not_lt, Int.not_le] at h8
                  refine W.skip ?_
                  refine W.seq ?_
                  refine W.to [(0, _), (1, _), (2, _), (3, _), (4, _), (5, _), (81, _)] [_, _] rfl ⟨(by exact sh_agg rfl), (by exact sh_ptr rfl), (by exact sh_sc rfl), (by exact sh_ptr rfl), (by exact sh_sc rfl), (by exact sh_sc rfl), (by exact sh_sc rfl), trivial⟩ ?_
                  refine W.region ?_
                  refine WO.op rfl rfl rfl rfl (as_sc rfl) ?_
                  refine WO.nil ?_
                  refine W.ret ?_
                  refine ⟨.inl rfl, ?_⟩
                  exact ret0 (Res.tmp rfl Res.nil) (.keep rfl)

theorem w_Chk1 {ty co re : Nat} {da : ByteArray} (hty : ty ≤ 255) (hco : co ≤ 255) (hre : re < 4294967296) (hda : da.size ≤ 65507) : Spec0 Try.prog 13 [.agg [.sc (.int .i64 1), .sc (.int .i64 ((ty : Nat) : Int)), .sc (.int .i64 ((co : Nat) : Int)), .sc (.int .u32 ((re : Nat) : Int)), .sc (.int .i64 0), .sc (.int .i64 0), .sc (.bool false), .sc (.int .u32 0), .sc (.int .u32 0), .sc (.int .i64 0), .sc (.int .i64 0), .sc (.int .i64 0), .sc (.string ⟨#[]⟩), .sc (.string da)]] (.sc (.int .i64 0)) := by
  refine Spec.body Try.func13 rfl (Nat.le_of_ble_eq_true rfl) ?_
  refine W.seq ?_
  refine W.region ?_
  refine WO.opA rfl rfl rfl rfl (al_boxA rfl rfl) rfl rfl ?_
  refine WO.put 1 (.ptr 0 0) rfl ?_
  refine WO.op rfl rfl rfl rfl (as_sc rfl) ?_
  refine WO.nil ?_
  refine W.seq ?_
  refine W.to [(0, _), (1, _), (2, _)] [_] rfl ⟨(by exact sh_agg rfl), (by exact sh_ptr rfl), (by exact sh_sc rfl), trivial⟩ ?_
  refine W.region ?_
  refine WO.op rfl rfl rfl rfl (step_loadA Try.isAgg25 Try.sizeOf25 rfl rfl (by exact Nat.le_refl _)) ?_
  refine WO.op rfl rfl rfl rfl (step_pure Try.call26 rfl (by (repeat (first | exact Nl.nil | refine Nl.keep (by rfl) ?_))) (w_own1) (by repeat (first | with_reducible refine noOwn_tup ?_ | with_reducible refine noOwn_agg ?_ | with_reducible exact noOwnL_nil | with_reducible refine noOwnL_cons ?_ ?_ | rfl))) ?_
  refine WO.op rfl rfl rfl rfl (mv_tup rfl) ?_
  refine WO.op rfl rfl rfl rfl (step_extract rfl rfl) ?_
  refine WO.put 9 (.agg [.sc (.int .i64 1), .sc (.int .i64 ((ty : Nat) : Int)), .sc (.int .i64 ((co : Nat) : Int)), .sc (.int .u32 ((re : Nat) : Int)), .sc (.int .i64 0), .sc (.int .i64 0), .sc (.bool false), .sc (.int .u32 0), .sc (.int .u32 0), .sc (.int .i64 0), .sc (.int .i64 0), .sc (.int .i64 0), .sc (.string ⟨#[]⟩), .sc (.string da)]) (by kernel_rfl) ?_
  refine WO.op rfl rfl rfl rfl (step_extract rfl rfl) ?_
  refine WO.op rfl rfl rfl rfl (step_extract rfl rfl) ?_
  refine WO.opA rfl rfl rfl rfl (al_alloc Try.zeroValue25) rfl rfl ?_
  refine WO.put 3 (.ptr 1 0) rfl ?_
  refine WO.op0 rfl rfl rfl (step_storeA Try.sizeOf25 rfl rfl rfl (by repeat (exact all_cell rfl rfl)) rfl rfl) ?_
  refine WO.op rfl rfl rfl rfl (as_sc rfl) ?_
  refine WO.op rfl rfl rfl rfl (as_sc rfl) ?_
  refine WO.nil ?_
  refine W.seq ?_
  refine W.seq ?_
  refine W.to [(0, _), (1, _), (2, _), (3, _), (4, _), (5, _)] [_, _] rfl ⟨(by exact sh_agg rfl), (by exact sh_ptr rfl), (by exact sh_sc rfl), (by exact sh_ptr rfl), (by exact sh_sc rfl), (by exact sh_sc rfl), trivial⟩ ?_
  refine W.region ?_
  refine WO.op rfl rfl rfl rfl (mv_sc rfl) ?_
  refine WO.op rfl rfl rfl rfl (step_not rfl) ?_
  refine WO.put 13 (.sc (.bool false)) (by kernel_rfl) ?_
  refine WO.op rfl rfl rfl rfl (mv_sc rfl) ?_
  refine WO.op rfl rfl rfl rfl (step_loadA Try.isAgg25 Try.sizeOf25 rfl rfl (by exact Nat.le_refl _)) ?_
  refine WO.put 15 (.agg [.sc (.int .i64 1), .sc (.int .i64 ((ty : Nat) : Int)), .sc (.int .i64 ((co : Nat) : Int)), .sc (.int .u32 ((re : Nat) : Int)), .sc (.int .i64 0), .sc (.int .i64 0), .sc (.bool false), .sc (.int .u32 0), .sc (.int .u32 0), .sc (.int .i64 0), .sc (.int .i64 0), .sc (.int .i64 0), .sc (.string ⟨#[]⟩), .sc (.string da)]) (by kernel_rfl) ?_
  refine WO.op rfl rfl rfl rfl (step_loadA Try.isAgg25 Try.sizeOf25 rfl rfl (by exact Nat.le_refl _)) ?_
  refine WO.put 16 (.agg [.sc (.int .i64 1), .sc (.int .i64 ((ty : Nat) : Int)), .sc (.int .i64 ((co : Nat) : Int)), .sc (.int .u32 ((re : Nat) : Int)), .sc (.int .i64 0), .sc (.int .i64 0), .sc (.bool false), .sc (.int .u32 0), .sc (.int .u32 0), .sc (.int .i64 0), .sc (.int .i64 0), .sc (.int .i64 0), .sc (.string ⟨#[]⟩), .sc (.string da)]) (by kernel_rfl) ?_
  refine WO.op rfl rfl rfl rfl (ne_L4 (a0 := 1) (a1 := ty) (a2 := co) (a3 := re) (a4 := 0) (a5 := 0) (a6 := false) (a7 := 0) (a8 := 0) (a9 := 0) (a10 := 0) (a11 := 0) (a12 := ⟨#[]⟩) (a13 := da) (by (constructor <;> omega)) (by (constructor <;> omega)) (by (constructor <;> omega)) (by (constructor <;> omega)) (by (constructor <;> omega)) (by (constructor <;> omega)) (by (constructor <;> omega)) (by (constructor <;> omega)) (by (constructor <;> omega)) (by (constructor <;> omega)) (by (constructor <;> omega)) (by decide) (by omega) rfl rfl) ?_
  refine WO.put 17 (.sc (.bool false)) (rfl) ?_
  refine WO.op rfl rfl rfl rfl (pk_f rfl rfl rfl) ?_
  refine WO.op rfl rfl rfl rfl (mv_sc rfl) ?_
  refine WO.op rfl rfl rfl rfl (step_fieldR (k := 1) (FieldOff.mk (by kernel_rfl)) rfl rfl (by exact Nat.zero_add _)) ?_
  refine WO.op rfl rfl rfl rfl (step_load Try.isAgg3 rfl rfl rfl) ?_
  refine WO.op rfl rfl rfl rfl (step_pure Try.call33 rfl (by (repeat (first | exact Nl.nil | refine Nl.keep (by rfl) ?_))) (w_within) (by repeat (rfl))) ?_
  refine WO.op rfl rfl rfl rfl (step_not rfl) ?_
  refine WO.op rfl rfl rfl rfl (pk_f rfl rfl rfl) ?_
  refine WO.op rfl rfl rfl rfl (mv_sc rfl) ?_
  refine WO.spl 25 rfl (fun h1 => ?_) (fun h1 => ?_)
  · try simp only [decide_eq_true_eq, decide_eq_false_iff_not, Bool.not_eq_true', Bool.not_eq_false', beq_iff_eq, bne_iff_ne, beq_eq_false_iff_ne, bne_eq_false_iff_eq, gt_iff_lt, ge_iff_le, Int.not_lt, Int.not_le] at h1
    exact False.elim (by omega)
  · try simp only [decide_eq_true_eq, decide_eq_false_iff_not, Bool.not_eq_true', Bool.not_eq_false', beq_iff_eq, bne_iff_ne, beq_eq_false_iff_ne, bne_eq_false_iff_eq, gt_iff_lt, ge_iff_le, Int.not_lt, Int.not_le] at h1
    refine WO.op rfl rfl rfl rfl (step_fieldR (k := 2) (FieldOff.mk (by kernel_rfl)) rfl rfl (by exact Nat.zero_add _)) ?_
    refine WO.op rfl rfl rfl rfl (step_load Try.isAgg3 rfl rfl rfl) ?_
    refine WO.op rfl rfl rfl rfl (step_pure Try.call33 rfl (by (repeat (first | exact Nl.nil | refine Nl.keep (by rfl) ?_))) (w_within) (by repeat (rfl))) ?_
    refine WO.op rfl rfl rfl rfl (step_not rfl) ?_
    refine WO.op rfl rfl rfl rfl (pk_f rfl rfl rfl) ?_
    refine WO.op rfl rfl rfl rfl (mv_sc rfl) ?_
    refine WO.spl 31 rfl (fun h2 => ?_) (fun h2 => ?_)
    · try simp only [decide_eq_true_eq, decide_eq_false_iff_not, Bool.not_eq_true', Bool.not_eq_false', beq_iff_eq, bne_iff_ne, beq_eq_false_iff_ne, bne_eq_false_iff_eq, gt_iff_lt, ge_iff_le, Int.not_lt, Int.not_le] at h2
      exact False.elim (by omega)
    · try simp only [decide_eq_true_eq, decide_eq_false_iff_not, Bool.not_eq_true', Bool.not_eq_false', beq_iff_eq, bne_iff_ne, beq_eq_false_iff_ne, bne_eq_false_iff_eq, gt_iff_lt, ge_iff_le, Int.not_lt, Int.not_le] at h2
      refine WO.op rfl rfl rfl rfl (step_fieldR (k := 4) (FieldOff.mk (by kernel_rfl)) rfl rfl (by exact Nat.zero_add _)) ?_
      refine WO.op rfl rfl rfl rfl (step_load Try.isAgg3 rfl rfl rfl) ?_
      refine WO.op rfl rfl rfl rfl (step_pure Try.call33 rfl (by (repeat (first | exact Nl.nil | refine Nl.keep (by rfl) ?_))) (w_within) (by repeat (rfl))) ?_
      refine WO.op rfl rfl rfl rfl (step_not rfl) ?_
      refine WO.op rfl rfl rfl rfl (pk_f rfl rfl rfl) ?_
      refine WO.op rfl rfl rfl rfl (mv_sc rfl) ?_
      refine WO.spl 37 rfl (fun h3 => ?_) (fun h3 => ?_)
      · try simp only [decide_eq_true_eq, decide_eq_false_iff_not, Bool.not_eq_true', Bool.not_eq_false', beq_iff_eq, bne_iff_ne, beq_eq_false_iff_ne, bne_eq_false_iff_eq, gt_iff_lt, ge_iff_le, Int.not_lt, Int.not_le] at h3
        exact False.elim (by omega)
      · try simp only [decide_eq_true_eq, decide_eq_false_iff_not, Bool.not_eq_true', Bool.not_eq_false', beq_iff_eq, bne_iff_ne, beq_eq_false_iff_ne, bne_eq_false_iff_eq, gt_iff_lt, ge_iff_le, Int.not_lt, Int.not_le] at h3
        refine WO.op rfl rfl rfl rfl (step_fieldR (k := 5) (FieldOff.mk (by kernel_rfl)) rfl rfl (by exact Nat.zero_add _)) ?_
        refine WO.op rfl rfl rfl rfl (step_load Try.isAgg3 rfl rfl rfl) ?_
        refine WO.op rfl rfl rfl rfl (step_pure Try.call33 rfl (by (repeat (first | exact Nl.nil | refine Nl.keep (by rfl) ?_))) (w_within) (by repeat (rfl))) ?_
        refine WO.op rfl rfl rfl rfl (step_not rfl) ?_
        refine WO.op rfl rfl rfl rfl (pk_f rfl rfl rfl) ?_
        refine WO.op rfl rfl rfl rfl (mv_sc rfl) ?_
        refine WO.spl 43 rfl (fun h4 => ?_) (fun h4 => ?_)
        · try simp only [decide_eq_true_eq, decide_eq_false_iff_not, Bool.not_eq_true', Bool.not_eq_false', beq_iff_eq, bne_iff_ne, beq_eq_false_iff_ne, bne_eq_false_iff_eq, gt_iff_lt, ge_iff_le, Int.not_lt, Int.not_le] at h4
          exact False.elim (by omega)
        · try simp only [decide_eq_true_eq, decide_eq_false_iff_not, Bool.not_eq_true', Bool.not_eq_false', beq_iff_eq, bne_iff_ne, beq_eq_false_iff_ne, bne_eq_false_iff_eq, gt_iff_lt, ge_iff_le, Int.not_lt, Int.not_le] at h4
          refine WO.op rfl rfl rfl rfl (step_fieldR (k := 10) (FieldOff.mk (by kernel_rfl)) rfl rfl (by exact Nat.zero_add _)) ?_
          refine WO.op rfl rfl rfl rfl (step_load Try.isAgg3 rfl rfl rfl) ?_
          refine WO.op rfl rfl rfl rfl (step_pure Try.call33 rfl (by (repeat (first | exact Nl.nil | refine Nl.keep (by rfl) ?_))) (w_within) (by repeat (rfl))) ?_
          refine WO.op rfl rfl rfl rfl (step_not rfl) ?_
          refine WO.op rfl rfl rfl rfl (pk_f rfl rfl rfl) ?_
          refine WO.op rfl rfl rfl rfl (mv_sc rfl) ?_
          refine WO.spl 49 rfl (fun h5 => ?_) (fun h5 => ?_)
          · try simp only [decide_eq_true_eq, decide_eq_false_iff_not, Bool.not_eq_true', Bool.not_eq_false', beq_iff_eq, bne_iff_ne, beq_eq_false_iff_ne, bne_eq_false_iff_eq, gt_iff_lt, ge_iff_le, Int.not_lt, Int.not_le] at h5
            exact False.elim (by omega)
          · try simp only [decide_eq_true_eq, decide_eq_false_iff_not, Bool.not_eq_true', Bool.not_eq_false', beq_iff_eq, bne_iff_ne, beq_eq_false_iff_ne, bne_eq_false_iff_eq, gt_iff_lt, ge_iff_le, Int.not_lt, Int.not_le] at h5
            refine WO.op rfl rfl rfl rfl (step_fieldR (k := 11) (FieldOff.mk (by kernel_rfl)) rfl rfl (by exact Nat.zero_add _)) ?_
            refine WO.op rfl rfl rfl rfl (step_load Try.isAgg3 rfl rfl rfl) ?_
            refine WO.op rfl rfl rfl rfl (step_pure Try.call33 rfl (by (repeat (first | exact Nl.nil | refine Nl.keep (by rfl) ?_))) (w_within) (by repeat (rfl))) ?_
            refine WO.op rfl rfl rfl rfl (step_not rfl) ?_
            refine WO.op rfl rfl rfl rfl (pk_f rfl rfl rfl) ?_
            refine WO.op rfl rfl rfl rfl (mv_sc rfl) ?_
            refine WO.spl 55 rfl (fun h6 => ?_) (fun h6 => ?_)
            · try simp only [decide_eq_true_eq, decide_eq_false_iff_not, Bool.not_eq_true', Bool.not_eq_false', beq_iff_eq, bne_iff_ne, beq_eq_false_iff_ne, bne_eq_false_iff_eq, gt_iff_lt, ge_iff_le, Int.not_lt, Int.not_le] at h6
              exact False.elim (by omega)
            · try simp only [decide_eq_true_eq, decide_eq_false_iff_not, Bool.not_eq_true', Bool.not_eq_false', beq_iff_eq, bne_iff_ne, beq_eq_false_iff_ne, bne_eq_false_iff_eq, gt_iff_lt, ge_iff_le, Int.not_lt, Int.not_le] at h6
              refine WO.op rfl rfl rfl rfl (step_fieldR (k := 9) (FieldOff.mk (by kernel_rfl)) rfl rfl (by exact Nat.zero_add _)) ?_
              refine WO.op rfl rfl rfl rfl (step_load Try.isAgg3 rfl rfl rfl) ?_
              refine WO.op rfl rfl rfl rfl (step_pure Try.call33 rfl (by (repeat (first | exact Nl.nil | refine Nl.keep (by rfl) ?_))) (w_within) (by repeat (rfl))) ?_
              refine WO.op rfl rfl rfl rfl (step_not rfl) ?_
              refine WO.op rfl rfl rfl rfl (pk_f rfl rfl rfl) ?_
              refine WO.op rfl rfl rfl rfl (mv_sc rfl) ?_
              refine WO.spl 61 rfl (fun h7 => ?_) (fun h7 => ?_)
              · try simp only [decide_eq_true_eq, decide_eq_false_iff_not, Bool.not_eq_true', Bool.not_eq_false', beq_iff_eq, bne_iff_ne, beq_eq_false_iff_ne, bne_eq_false_iff_eq, gt_iff_lt, ge_iff_le, Int.not_lt, Int.not_le] at h7
                exact False.elim (by omega)
              · try simp only [decide_eq_true_eq, decide_eq_false_iff_not, Bool.not_eq_true', Bool.not_eq_false', beq_iff_eq, bne_iff_ne, beq_eq_false_iff_ne, bne_eq_false_iff_eq, gt_iff_lt, ge_iff_le, Int.not_lt, Int.not_le] at h7
                refine WO.op rfl rfl rfl rfl (step_fieldR (k := 12) (FieldOff.mk (by kernel_rfl)) rfl rfl (by exact Nat.zero_add _)) ?_
                refine WO.op rfl rfl rfl rfl (step_load Try.isAgg9 rfl rfl rfl) ?_
                refine WO.op rfl rfl rfl rfl (step_lenS Try.runUnderlying9 rfl) ?_
                refine WO.op rfl rfl rfl rfl (step_int2 rfl rfl rfl) ?_
                refine WO.put 65 (.sc (.bool false)) (by kernel_rfl) ?_
                refine WO.op rfl rfl rfl rfl (pk_f rfl rfl rfl) ?_
                refine WO.op rfl rfl rfl rfl (mv_sc rfl) ?_
                refine WO.op rfl rfl rfl rfl (step_fieldR (k := 12) (FieldOff.mk (by kernel_rfl)) rfl rfl (by exact Nat.zero_add _)) ?_
                refine WO.op rfl rfl rfl rfl (step_load Try.isAgg9 rfl rfl rfl) ?_
                refine WO.op rfl rfl rfl rfl (step_lenS Try.runUnderlying9 rfl) ?_
                refine WO.op rfl rfl rfl rfl (step_remN (q := 4) rfl rfl (by omega)) ?_
                refine WO.op rfl rfl rfl rfl (step_int2 rfl rfl rfl) ?_
                refine WO.put 72 (.sc (.bool false)) (by kernel_rfl) ?_
                refine WO.op rfl rfl rfl rfl (pk_f rfl rfl rfl) ?_
                refine WO.op rfl rfl rfl rfl (mv_sc rfl) ?_
                refine WO.op rfl rfl rfl rfl (step_fieldR (k := 13) (FieldOff.mk (by kernel_rfl)) rfl rfl (by exact Nat.zero_add _)) ?_
                refine WO.op rfl rfl rfl rfl (step_load Try.isAgg9 rfl rfl rfl) ?_
                refine WO.op rfl rfl rfl rfl (step_lenS Try.runUnderlying9 rfl) ?_
                refine WO.op rfl rfl rfl rfl (mv_sc rfl) ?_
                refine WO.op rfl rfl rfl rfl (step_subN (p := 65515) rfl rfl (by (simp only [List.length_map, List.length_append, List.length_take, List.length_drop, List.length_set, List.length_cons, List.length_nil, List.length_replicate] <;> omega)) (by (simp only [cap]; omega))) ?_
                refine WO.op rfl rfl rfl rfl (step_int2 rfl rfl rfl) ?_
                refine WO.op rfl rfl rfl rfl (pk_f rfl rfl rfl) ?_
                refine WO.nil ?_
                refine W.cond rfl (fun h8 => ?_) (fun h8 => ?_)
                · try simp only [decide_eq_true_eq, decide_eq_false_iff_not, Bool.not_eq_true', Bool.not_eq_false', beq_iff_eq, bne_iff_ne, beq_eq_false_iff_ne, bne_eq_false_iff_eq, gt_iff_lt, ge_iff_le, Int.not_lt, Int.not_le] at h8
                  exact False.elim (by omega)
                · try simp only [decide_eq_true_eq, decide_eq_false_iff_not, Bool.not_eq_true', Bool.not_eq_false', beq_iff_eq, bne_iff_ne, beq_eq_false_iff_ne, bne_eq_false_iff_eq, gt_iff_lt, ge_iff_le, Int.not_lt, Int.not_le] at h8
                  refine W.skip ?_
                  refine W.seq ?_
                  refine W.to [(0, _), (1, _), (2, _), (3, _), (4, _), (5, _), (81, _)] [_, _] rfl ⟨(by exact sh_agg rfl), (by exact sh_ptr rfl), (by exact sh_sc rfl), (by exact sh_ptr rfl), (by exact sh_sc rfl), (by exact sh_sc rfl), (by exact sh_sc rfl), trivial⟩ ?_
                  refine W.region ?_
                  refine WO.op rfl rfl rfl rfl (as_sc rfl) ?_
                  refine WO.nil ?_
                  refine W.ret ?_
                  refine ⟨.inl rfl, ?_⟩
                  exact ret0 (Res.tmp rfl Res.nil) (.keep rfl)

theorem w_Chk3 {sp dp se ac fl wi ur : Nat} {op da : ByteArray} (hsp : sp ≤ 65535) (hdp : dp ≤ 65535) (hse : se < 4294967296) (hac : ac < 4294967296) (hfl : fl ≤ 4095) (hwi : wi ≤ 65535) (hur : ur ≤ 65535) (hop : op.size ≤ 40) (hop4 : op.size % 4 = 0) (hda : da.size + 20 + op.size ≤ 65515) : Spec0 Try.prog 13 [.agg [.sc (.int .i64 3), .sc (.int .i64 0), .sc (.int .i64 0), .sc (.int .u32 0), .sc (.int .i64 ((sp : Nat) : Int)), .sc (.int .i64 ((dp : Nat) : Int)), .sc (.bool false), .sc (.int .u32 ((se : Nat) : Int)), .sc (.int .u32 ((ac : Nat) : Int)), .sc (.int .i64 ((fl : Nat) : Int)), .sc (.int .i64 ((wi : Nat) : Int)), .sc (.int .i64 ((ur : Nat) : Int)), .sc (.string op), .sc (.string da)]] (.sc (.int .i64 0)) := by
  refine Spec.body Try.func13 rfl (Nat.le_of_ble_eq_true rfl) ?_
  refine W.seq ?_
  refine W.region ?_
  refine WO.opA rfl rfl rfl rfl (al_boxA rfl rfl) rfl rfl ?_
  refine WO.put 1 (.ptr 0 0) rfl ?_
  refine WO.op rfl rfl rfl rfl (as_sc rfl) ?_
  refine WO.nil ?_
  refine W.seq ?_
  refine W.to [(0, _), (1, _), (2, _)] [_] rfl ⟨(by exact sh_agg rfl), (by exact sh_ptr rfl), (by exact sh_sc rfl), trivial⟩ ?_
  refine W.region ?_
  refine WO.op rfl rfl rfl rfl (step_loadA Try.isAgg25 Try.sizeOf25 rfl rfl (by exact Nat.le_refl _)) ?_
  refine WO.op rfl rfl rfl rfl (step_pure Try.call26 rfl (by (repeat (first | exact Nl.nil | refine Nl.keep (by rfl) ?_))) (w_own3 hop) (by repeat (first | with_reducible refine noOwn_tup ?_ | with_reducible refine noOwn_agg ?_ | with_reducible exact noOwnL_nil | with_reducible refine noOwnL_cons ?_ ?_ | rfl))) ?_
  refine WO.op rfl rfl rfl rfl (mv_tup rfl) ?_
  refine WO.op rfl rfl rfl rfl (step_extract rfl rfl) ?_
  refine WO.put 9 (.agg [.sc (.int .i64 3), .sc (.int .i64 0), .sc (.int .i64 0), .sc (.int .u32 0), .sc (.int .i64 ((sp : Nat) : Int)), .sc (.int .i64 ((dp : Nat) : Int)), .sc (.bool false), .sc (.int .u32 ((se : Nat) : Int)), .sc (.int .u32 ((ac : Nat) : Int)), .sc (.int .i64 ((fl : Nat) : Int)), .sc (.int .i64 ((wi : Nat) : Int)), .sc (.int .i64 ((ur : Nat) : Int)), .sc (.string op), .sc (.string da)]) (by kernel_rfl) ?_
  refine WO.op rfl rfl rfl rfl (step_extract rfl rfl) ?_
  refine WO.op rfl rfl rfl rfl (step_extract rfl rfl) ?_
  refine WO.opA rfl rfl rfl rfl (al_alloc Try.zeroValue25) rfl rfl ?_
  refine WO.put 3 (.ptr 1 0) rfl ?_
  refine WO.op0 rfl rfl rfl (step_storeA Try.sizeOf25 rfl rfl rfl (by repeat (exact all_cell rfl rfl)) rfl rfl) ?_
  refine WO.op rfl rfl rfl rfl (as_sc rfl) ?_
  refine WO.op rfl rfl rfl rfl (as_sc rfl) ?_
  refine WO.nil ?_
  refine W.seq ?_
  refine W.seq ?_
  refine W.to [(0, _), (1, _), (2, _), (3, _), (4, _), (5, _)] [_, _] rfl ⟨(by exact sh_agg rfl), (by exact sh_ptr rfl), (by exact sh_sc rfl), (by exact sh_ptr rfl), (by exact sh_sc rfl), (by exact sh_sc rfl), trivial⟩ ?_
  refine W.region ?_
  refine WO.op rfl rfl rfl rfl (mv_sc rfl) ?_
  refine WO.op rfl rfl rfl rfl (step_not rfl) ?_
  refine WO.put 13 (.sc (.bool false)) (by kernel_rfl) ?_
  refine WO.op rfl rfl rfl rfl (mv_sc rfl) ?_
  refine WO.op rfl rfl rfl rfl (step_loadA Try.isAgg25 Try.sizeOf25 rfl rfl (by exact Nat.le_refl _)) ?_
  refine WO.put 15 (.agg [.sc (.int .i64 3), .sc (.int .i64 0), .sc (.int .i64 0), .sc (.int .u32 0), .sc (.int .i64 ((sp : Nat) : Int)), .sc (.int .i64 ((dp : Nat) : Int)), .sc (.bool false), .sc (.int .u32 ((se : Nat) : Int)), .sc (.int .u32 ((ac : Nat) : Int)), .sc (.int .i64 ((fl : Nat) : Int)), .sc (.int .i64 ((wi : Nat) : Int)), .sc (.int .i64 ((ur : Nat) : Int)), .sc (.string op), .sc (.string da)]) (by kernel_rfl) ?_
  refine WO.op rfl rfl rfl rfl (step_loadA Try.isAgg25 Try.sizeOf25 rfl rfl (by exact Nat.le_refl _)) ?_
  refine WO.put 16 (.agg [.sc (.int .i64 3), .sc (.int .i64 0), .sc (.int .i64 0), .sc (.int .u32 0), .sc (.int .i64 ((sp : Nat) : Int)), .sc (.int .i64 ((dp : Nat) : Int)), .sc (.bool false), .sc (.int .u32 ((se : Nat) : Int)), .sc (.int .u32 ((ac : Nat) : Int)), .sc (.int .i64 ((fl : Nat) : Int)), .sc (.int .i64 ((wi : Nat) : Int)), .sc (.int .i64 ((ur : Nat) : Int)), .sc (.string op), .sc (.string da)]) (by kernel_rfl) ?_
  refine WO.op rfl rfl rfl rfl (ne_L4 (a0 := 3) (a1 := 0) (a2 := 0) (a3 := 0) (a4 := sp) (a5 := dp) (a6 := false) (a7 := se) (a8 := ac) (a9 := fl) (a10 := wi) (a11 := ur) (a12 := op) (a13 := da) (by (constructor <;> omega)) (by (constructor <;> omega)) (by (constructor <;> omega)) (by (constructor <;> omega)) (by (constructor <;> omega)) (by (constructor <;> omega)) (by (constructor <;> omega)) (by (constructor <;> omega)) (by (constructor <;> omega)) (by (constructor <;> omega)) (by (constructor <;> omega)) (by omega) (by omega) rfl rfl) ?_
  refine WO.put 17 (.sc (.bool false)) (rfl) ?_
  refine WO.op rfl rfl rfl rfl (pk_f rfl rfl rfl) ?_
  refine WO.op rfl rfl rfl rfl (mv_sc rfl) ?_
  refine WO.op rfl rfl rfl rfl (step_fieldR (k := 1) (FieldOff.mk (by kernel_rfl)) rfl rfl (by exact Nat.zero_add _)) ?_
  refine WO.op rfl rfl rfl rfl (step_load Try.isAgg3 rfl rfl rfl) ?_
  refine WO.op rfl rfl rfl rfl (step_pure Try.call33 rfl (by (repeat (first | exact Nl.nil | refine Nl.keep (by rfl) ?_))) (w_within) (by repeat (rfl))) ?_
  refine WO.op rfl rfl rfl rfl (step_not rfl) ?_
  refine WO.op rfl rfl rfl rfl (pk_f rfl rfl rfl) ?_
  refine WO.op rfl rfl rfl rfl (mv_sc rfl) ?_
  refine WO.spl 25 rfl (fun h1 => ?_) (fun h1 => ?_)
  · try simp only [decide_eq_true_eq, decide_eq_false_iff_not, Bool.not_eq_true', Bool.not_eq_false', beq_iff_eq, bne_iff_ne, beq_eq_false_iff_ne, bne_eq_false_iff_eq, gt_iff_lt, ge_iff_le, Int.not_lt, Int.not_le] at h1
    exact False.elim (by omega)
  · try simp only [decide_eq_true_eq, decide_eq_false_iff_not, Bool.not_eq_true', Bool.not_eq_false', beq_iff_eq, bne_iff_ne, beq_eq_false_iff_ne, bne_eq_false_iff_eq, gt_iff_lt, ge_iff_le, Int.not_lt, Int.not_le] at h1
    refine WO.op rfl rfl rfl rfl (step_fieldR (k := 2) (FieldOff.mk (by kernel_rfl)) rfl rfl (by exact Nat.zero_add _)) ?_
    refine WO.op rfl rfl rfl rfl (step_load Try.isAgg3 rfl rfl rfl) ?_
    refine WO.op rfl rfl rfl rfl (step_pure Try.call33 rfl (by (repeat (first | exact Nl.nil | refine Nl.keep (by rfl) ?_))) (w_within) (by repeat (rfl))) ?_
    refine WO.op rfl rfl rfl rfl (step_not rfl) ?_
    refine WO.op rfl rfl rfl rfl (pk_f rfl rfl rfl) ?_
    refine WO.op rfl rfl rfl rfl (mv_sc rfl) ?_
    refine WO.spl 31 rfl (fun h2 => ?_) (fun h2 => ?_)
    · try simp only [decide_eq_true_eq, decide_eq_false_iff_not, Bool.not_eq_true', Bool.not_eq_false', beq_iff_eq, bne_iff_ne, beq_eq_false_iff_ne, bne_eq_false_iff_eq, gt_iff_lt, ge_iff_le, Int.not_lt, Int.not_le] at h2
      exact False.elim (by omega)
    · try simp only [decide_eq_true_eq, decide_eq_false_iff_not, Bool.not_eq_true', Bool.not_eq_false', beq_iff_eq, bne_iff_ne, beq_eq_false_iff_ne, bne_eq_false_iff_eq, gt_iff_lt, ge_iff_le, Int.not_lt, Int.not_le] at h2
      refine WO.op rfl rfl rfl rfl (step_fieldR (k := 4) (FieldOff.mk (by kernel_rfl)) rfl rfl (by exact Nat.zero_add _)) ?_
      refine WO.op rfl rfl rfl rfl (step_load Try.isAgg3 rfl rfl rfl) ?_
      refine WO.op rfl rfl rfl rfl (step_pure Try.call33 rfl (by (repeat (first | exact Nl.nil | refine Nl.keep (by rfl) ?_))) (w_within) (by repeat (rfl))) ?_
      refine WO.op rfl rfl rfl rfl (step_not rfl) ?_
      refine WO.op rfl rfl rfl rfl (pk_f rfl rfl rfl) ?_
      refine WO.op rfl rfl rfl rfl (mv_sc rfl) ?_
      refine WO.spl 37 rfl (fun h3 => ?_) (fun h3 => ?_)
      · try simp only [decide_eq_true_eq, decide_eq_false_iff_not, Bool.not_eq_true', Bool.not_eq_false', beq_iff_eq, bne_iff_ne, beq_eq_false_iff_ne, bne_eq_false_iff_eq, gt_iff_lt, ge_iff_le, Int.not_lt, Int.not_le] at h3
        exact False.elim (by omega)
      · try simp only [decide_eq_true_eq, decide_eq_false_iff_not, Bool.not_eq_true', Bool.not_eq_false', beq_iff_eq, bne_iff_ne, beq_eq_false_iff_ne, bne_eq_false_iff_eq, gt_iff_lt, ge_iff_le, Int.not_lt, Int.not_le] at h3
        refine WO.op rfl rfl rfl rfl (step_fieldR (k := 5) (FieldOff.mk (by kernel_rfl)) rfl rfl (by exact Nat.zero_add _)) ?_
        refine WO.op rfl rfl rfl rfl (step_load Try.isAgg3 rfl rfl rfl) ?_
        refine WO.op rfl rfl rfl rfl (step_pure Try.call33 rfl (by (repeat (first | exact Nl.nil | refine Nl.keep (by rfl) ?_))) (w_within) (by repeat (rfl))) ?_
        refine WO.op rfl rfl rfl rfl (step_not rfl) ?_
        refine WO.op rfl rfl rfl rfl (pk_f rfl rfl rfl) ?_
        refine WO.op rfl rfl rfl rfl (mv_sc rfl) ?_
        refine WO.spl 43 rfl (fun h4 => ?_) (fun h4 => ?_)
        · try simp only [decide_eq_true_eq, decide_eq_false_iff_not, Bool.not_eq_true', Bool.not_eq_false', beq_iff_eq, bne_iff_ne, beq_eq_false_iff_ne, bne_eq_false_iff_eq, gt_iff_lt, ge_iff_le, Int.not_lt, Int.not_le] at h4
          exact False.elim (by omega)
        · try simp only [decide_eq_true_eq, decide_eq_false_iff_not, Bool.not_eq_true', Bool.not_eq_false', beq_iff_eq, bne_iff_ne, beq_eq_false_iff_ne, bne_eq_false_iff_eq, gt_iff_lt, ge_iff_le, Int.not_lt, Int.not_le] at h4
          refine WO.op rfl rfl rfl rfl (step_fieldR (k := 10) (FieldOff.mk (by kernel_rfl)) rfl rfl (by exact Nat.zero_add _)) ?_
          refine WO.op rfl rfl rfl rfl (step_load Try.isAgg3 rfl rfl rfl) ?_
          refine WO.op rfl rfl rfl rfl (step_pure Try.call33 rfl (by (repeat (first | exact Nl.nil | refine Nl.keep (by rfl) ?_))) (w_within) (by repeat (rfl))) ?_
          refine WO.op rfl rfl rfl rfl (step_not rfl) ?_
          refine WO.op rfl rfl rfl rfl (pk_f rfl rfl rfl) ?_
          refine WO.op rfl rfl rfl rfl (mv_sc rfl) ?_
          refine WO.spl 49 rfl (fun h5 => ?_) (fun h5 => ?_)
          · try simp only [decide_eq_true_eq, decide_eq_false_iff_not, Bool.not_eq_true', Bool.not_eq_false', beq_iff_eq, bne_iff_ne, beq_eq_false_iff_ne, bne_eq_false_iff_eq, gt_iff_lt, ge_iff_le, Int.not_lt, Int.not_le] at h5
            exact False.elim (by omega)
          · try simp only [decide_eq_true_eq, decide_eq_false_iff_not, Bool.not_eq_true', Bool.not_eq_false', beq_iff_eq, bne_iff_ne, beq_eq_false_iff_ne, bne_eq_false_iff_eq, gt_iff_lt, ge_iff_le, Int.not_lt, Int.not_le] at h5
            refine WO.op rfl rfl rfl rfl (step_fieldR (k := 11) (FieldOff.mk (by kernel_rfl)) rfl rfl (by exact Nat.zero_add _)) ?_
            refine WO.op rfl rfl rfl rfl (step_load Try.isAgg3 rfl rfl rfl) ?_
            refine WO.op rfl rfl rfl rfl (step_pure Try.call33 rfl (by (repeat (first | exact Nl.nil | refine Nl.keep (by rfl) ?_))) (w_within) (by repeat (rfl))) ?_
            refine WO.op rfl rfl rfl rfl (step_not rfl) ?_
            refine WO.op rfl rfl rfl rfl (pk_f rfl rfl rfl) ?_
            refine WO.op rfl rfl rfl rfl (mv_sc rfl) ?_
            refine WO.spl 55 rfl (fun h6 => ?_) (fun h6 => ?_)
            · try simp only [decide_eq_true_eq, decide_eq_false_iff_not, Bool.not_eq_true', Bool.not_eq_false', beq_iff_eq, bne_iff_ne, beq_eq_false_iff_ne, bne_eq_false_iff_eq, gt_iff_lt, ge_iff_le, Int.not_lt, Int.not_le] at h6
              exact False.elim (by omega)
            · try simp only [decide_eq_true_eq, decide_eq_false_iff_not, Bool.not_eq_true', Bool.not_eq_false', beq_iff_eq, bne_iff_ne, beq_eq_false_iff_ne, bne_eq_false_iff_eq, gt_iff_lt, ge_iff_le, Int.not_lt, Int.not_le] at h6
              refine WO.op rfl rfl rfl rfl (step_fieldR (k := 9) (FieldOff.mk (by kernel_rfl)) rfl rfl (by exact Nat.zero_add _)) ?_
              refine WO.op rfl rfl rfl rfl (step_load Try.isAgg3 rfl rfl rfl) ?_
              refine WO.op rfl rfl rfl rfl (step_pure Try.call33 rfl (by (repeat (first | exact Nl.nil | refine Nl.keep (by rfl) ?_))) (w_within) (by repeat (rfl))) ?_
              refine WO.op rfl rfl rfl rfl (step_not rfl) ?_
              refine WO.op rfl rfl rfl rfl (pk_f rfl rfl rfl) ?_
              refine WO.op rfl rfl rfl rfl (mv_sc rfl) ?_
              refine WO.spl 61 rfl (fun h7 => ?_) (fun h7 => ?_)
              · try simp only [decide_eq_true_eq, decide_eq_false_iff_not, Bool.not_eq_true', Bool.not_eq_false', beq_iff_eq, bne_iff_ne, beq_eq_false_iff_ne, bne_eq_false_iff_eq, gt_iff_lt, ge_iff_le, Int.not_lt, Int.not_le] at h7
                exact False.elim (by omega)
              · try simp only [decide_eq_true_eq, decide_eq_false_iff_not, Bool.not_eq_true', Bool.not_eq_false', beq_iff_eq, bne_iff_ne, beq_eq_false_iff_ne, bne_eq_false_iff_eq, gt_iff_lt, ge_iff_le, Int.not_lt, Int.not_le] at h7
                refine WO.op rfl rfl rfl rfl (step_fieldR (k := 12) (FieldOff.mk (by kernel_rfl)) rfl rfl (by exact Nat.zero_add _)) ?_
                refine WO.op rfl rfl rfl rfl (step_load Try.isAgg9 rfl rfl rfl) ?_
                refine WO.op rfl rfl rfl rfl (step_lenS Try.runUnderlying9 rfl) ?_
                refine WO.op rfl rfl rfl rfl (step_int2 rfl rfl rfl) ?_
                refine WO.op rfl rfl rfl rfl (pk_f rfl rfl rfl) ?_
                refine WO.op rfl rfl rfl rfl (mv_sc rfl) ?_
                refine WO.spl 67 rfl (fun h8 => ?_) (fun h8 => ?_)
                · try simp only [decide_eq_true_eq, decide_eq_false_iff_not, Bool.not_eq_true', Bool.not_eq_false', beq_iff_eq, bne_iff_ne, beq_eq_false_iff_ne, bne_eq_false_iff_eq, gt_iff_lt, ge_iff_le, Int.not_lt, Int.not_le] at h8
                  exact False.elim (by omega)
                · try simp only [decide_eq_true_eq, decide_eq_false_iff_not, Bool.not_eq_true', Bool.not_eq_false', beq_iff_eq, bne_iff_ne, beq_eq_false_iff_ne, bne_eq_false_iff_eq, gt_iff_lt, ge_iff_le, Int.not_lt, Int.not_le] at h8
                  refine WO.op rfl rfl rfl rfl (step_fieldR (k := 12) (FieldOff.mk (by kernel_rfl)) rfl rfl (by exact Nat.zero_add _)) ?_
                  refine WO.op rfl rfl rfl rfl (step_load Try.isAgg9 rfl rfl rfl) ?_
                  refine WO.op rfl rfl rfl rfl (step_lenS Try.runUnderlying9 rfl) ?_
                  refine WO.op rfl rfl rfl rfl (step_remN (q := 4) rfl rfl (by omega)) ?_
                  refine WO.op rfl rfl rfl rfl (step_int2 rfl rfl rfl) ?_
                  refine WO.op rfl rfl rfl rfl (pk_f rfl rfl rfl) ?_
                  refine WO.op rfl rfl rfl rfl (mv_sc rfl) ?_
                  refine WO.spl 74 rfl (fun h9 => ?_) (fun h9 => ?_)
                  · try simp only [decide_eq_true_eq, decide_eq_false_iff_not, Bool.not_eq_true', Bool.not_eq_false', beq_iff_eq, bne_iff_ne, beq_eq_false_iff_ne, bne_eq_false_iff_eq, gt_iff_lt, ge_iff_le, Int.not_lt, Int.not_le] at h9
                    exact False.elim (by omega)
                  · try simp only [decide_eq_true_eq, decide_eq_false_iff_not, Bool.not_eq_true', Bool.not_eq_false', beq_iff_eq, bne_iff_ne, beq_eq_false_iff_ne, bne_eq_false_iff_eq, gt_iff_lt, ge_iff_le, Int.not_lt, Int.not_le] at h9
                    refine WO.op rfl rfl rfl rfl (step_fieldR (k := 13) (FieldOff.mk (by kernel_rfl)) rfl rfl (by exact Nat.zero_add _)) ?_
                    refine WO.op rfl rfl rfl rfl (step_load Try.isAgg9 rfl rfl rfl) ?_
                    refine WO.op rfl rfl rfl rfl (step_lenS Try.runUnderlying9 rfl) ?_
                    refine WO.op rfl rfl rfl rfl (mv_sc rfl) ?_
                    refine WO.op rfl rfl rfl rfl (step_subN (p := 65515) rfl rfl (by omega) (by (simp only [cap]; omega))) ?_
                    refine WO.op rfl rfl rfl rfl (step_int2 rfl rfl rfl) ?_
                    refine WO.op rfl rfl rfl rfl (pk_f rfl rfl rfl) ?_
                    refine WO.nil ?_
                    refine W.cond rfl (fun h10 => ?_) (fun h10 => ?_)
                    · try simp only [decide_eq_true_eq, decide_eq_false_iff_not, Bool.not_eq_true', Bool.not_eq_false', beq_iff_eq, bne_iff_ne, beq_eq_false_iff_ne, bne_eq_false_iff_eq, gt_iff_lt, ge_iff_le, Int.not_lt, Int.not_le] at h10
                      exact False.elim (by omega)
                    · try simp only [decide_eq_true_eq, decide_eq_false_iff_not, Bool.not_eq_true', Bool.not_eq_false', beq_iff_eq, bne_iff_ne, beq_eq_false_iff_ne, bne_eq_false_iff_eq, gt_iff_lt, ge_iff_le, Int.not_lt, Int.not_le] at h10
                      refine W.skip ?_
                      refine W.seq ?_
                      refine W.to [(0, _), (1, _), (2, _), (3, _), (4, _), (5, _), (81, _)] [_, _] rfl ⟨(by exact sh_agg rfl), (by exact sh_ptr rfl), (by exact sh_sc rfl), (by exact sh_ptr rfl), (by exact sh_sc rfl), (by exact sh_sc rfl), (by exact sh_sc rfl), trivial⟩ ?_
                      refine W.region ?_
                      refine WO.op rfl rfl rfl rfl (as_sc rfl) ?_
                      refine WO.nil ?_
                      refine W.ret ?_
                      refine ⟨.inl rfl, ?_⟩
                      exact ret0 (Res.tmp rfl Res.nil) (.keep rfl)

end Go.Proofs.Ytdmlkcphlidcfaa
