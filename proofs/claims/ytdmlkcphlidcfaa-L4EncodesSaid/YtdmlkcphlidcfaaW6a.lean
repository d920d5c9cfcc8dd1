/-
  Contracts of functions of chapter 04: each theorem says what a call of one function answers, for all arguments that its hypotheses let in.
-/
import Derived.Test.YtdmlkcphlidcfaaW4y
set_option linter.unusedVariables false
set_option linter.unusedSimpArgs false
set_option maxRecDepth 100000
set_option maxHeartbeats 1000000
namespace Go.Proofs.Ytdmlkcphlidcfaa
open Go Go.SL Go.Proofs
theorem w_to {x y : Int} : Spec0 Try.prog 34 [.sc (.int .i64 x), .sc (.int .i64 y)] (.sc (.bool (decide (0 ≤ x ∧ x ≤ y)))) := by
  refine Spec.body Try.func34 rfl (Nat.le_of_ble_eq_true rfl) ?_
  refine W.seq ?_
  refine W.region ?_
  refine WO.op rfl rfl rfl rfl (as_sc rfl) ?_
  refine WO.nil ?_
  refine W.seq ?_
  refine W.to [(0, _), (1, _), (4, _)] [] rfl ⟨(by exact sh_sc rfl), (by exact sh_sc rfl), (by exact sh_sc rfl), trivial⟩ ?_
  refine W.region ?_
  refine WO.op rfl rfl rfl rfl (mv_sc rfl) ?_
  refine WO.op rfl rfl rfl rfl (step_int2 rfl rfl rfl) ?_
  refine WO.op rfl rfl rfl rfl (mv_sc rfl) ?_
  refine WO.spl 7 rfl (fun h1 => ?_) (fun h1 => ?_)
  · try simp only [decide_eq_true_eq, decide_eq_false_iff_not, Bool.not_eq_true', Bool.not_eq_false', beq_iff_eq, bne_iff_ne, beq_eq_false_iff_ne, bne_eq_false_iff_eq, gt_iff_lt, ge_iff_le, Int.not_lt, Int.not_le] at h1
    iterate 2 (refine WO.op rfl rfl rfl rfl (mv_sc rfl) ?_)
    refine WO.op rfl rfl rfl rfl (step_int2 rfl rfl rfl) ?_
    refine WO.op rfl rfl rfl rfl (pk_t rfl rfl rfl) ?_
    refine WO.op rfl rfl rfl rfl (as_sc rfl) ?_
    refine WO.nil ?_
    refine W.ret ?_
    refine ⟨.inl rfl, ?_⟩
    rw [show decide (0 ≤ x ∧ x ≤ y) = decide (x ≤ y) from decide_eq_decide.2 ⟨fun h => h.2, fun h => ⟨by omega, h⟩⟩]
    exact ret0 (Res.tmp rfl Res.nil) (.keep rfl)
  · try simp only [decide_eq_true_eq, decide_eq_false_iff_not, Bool.not_eq_true', Bool.not_eq_false', beq_iff_eq, bne_iff_ne, beq_eq_false_iff_ne, bne_eq_false_iff_eq, gt_iff_lt, ge_iff_le, Int.not_lt, Int.not_le] at h1
    iterate 3 (refine WO.sk rfl rfl rfl rfl ?_)
    refine WO.op rfl rfl rfl rfl (pk_f rfl rfl rfl) ?_
    refine WO.op rfl rfl rfl rfl (as_sc rfl) ?_
    refine WO.nil ?_
    refine W.ret ?_
    refine ⟨.inl rfl, ?_⟩
    rw [show decide (0 ≤ x ∧ x ≤ y) = false from decide_eq_false (by omega)]
    exact ret0 (Res.tmp rfl Res.nil) (.keep rfl)

theorem w_rChkN0 {a1 : Int} {a2 : Int} {a3 : Int} {a4 : Int} {a5 : Int} {a6 : Bool} {a7 : Int} {a8 : Int} {a9 : Int} {a10 : Int} {a11 : Int} {a12 : ByteArray} {a13 : ByteArray} (g1 : isI a1) (g2 : isI a2) (g3 : isU a3) (g4 : isI a4) (g5 : isI a5) (g7 : isU a7) (g8 : isU a8) (g9 : isI a9) (g10 : isI a10) (g11 : isI a11) (g12 : a12.size ≤ 200000000000000) (g13 : a13.size ≤ 200000000000000) (hne : ¬ (0 = (0 : Int) ∧ a1 = 0 ∧ a2 = 0 ∧ a3 = 0 ∧ a4 = 0 ∧ a5 = 0 ∧ a6 = false ∧ a7 = 0 ∧ a8 = 0 ∧ a9 = 0 ∧ a10 = 0 ∧ a11 = 0 ∧ a12.data.toList = (⟨#[]⟩ : ByteArray).data.toList ∧ a13.data.toList = (a13 : ByteArray).data.toList)) : Spec0 Try.prog 14 [.agg [.sc (.int .i64 0), .sc (.int .i64 a1), .sc (.int .i64 a2), .sc (.int .u32 a3), .sc (.int .i64 a4), .sc (.int .i64 a5), .sc (.bool a6), .sc (.int .u32 a7), .sc (.int .u32 a8), .sc (.int .i64 a9), .sc (.int .i64 a10), .sc (.int .i64 a11), .sc (.string a12), .sc (.string a13)]] (.sc (.int .i64 1)) := by
  refine Spec.body Try.func14 rfl (Nat.le_of_ble_eq_true rfl) ?_
  refine W.seq ?_
  refine W.region ?_
  refine WO.opA rfl rfl rfl rfl (al_boxA rfl rfl) rfl rfl ?_
  refine WO.put 1 (.ptr 0 0) rfl ?_
  refine WO.op rfl rfl rfl rfl (as_sc rfl) ?_
  refine WO.nil ?_
  refine W.seq ?_
  refine W.to [(0, _), (1, _), (2, _)] [_] rfl ⟨(by exact sh_agg rfl), (by exact sh_ptr rfl), (by exact sh_sc rfl), trivial⟩ ?_
  refine W.region ?_
  refine WO.op rfl rfl rfl rfl (step_fieldR (k := 0) (FieldOff.mk (by kernel_rfl)) rfl rfl (by exact Nat.zero_add _)) ?_
  refine WO.op rfl rfl rfl rfl (step_load Try.isAgg3 rfl rfl rfl) ?_
  refine WO.op rfl rfl rfl rfl (step_fieldR (k := 13) (FieldOff.mk (by kernel_rfl)) rfl rfl (by exact Nat.zero_add _)) ?_
  refine WO.op rfl rfl rfl rfl (step_load Try.isAgg9 rfl rfl rfl) ?_
  refine WO.op rfl rfl rfl rfl (step_build (out := [.sc (.int .i64 0), .sc (.int .i64 0), .sc (.int .i64 0), .sc (.int .u32 0), .sc (.int .i64 0), .sc (.int .i64 0), .sc (.bool false), .sc (.int .u32 0), .sc (.int .u32 0), .sc (.int .i64 0), .sc (.int .i64 0), .sc (.int .i64 0), .sc (.string ⟨#[]⟩), .sc (.string a13)]) Try.zeroValue25 (pl := [(0, 1), (1, 1), (2, 1), (3, 1), (4, 1), (5, 1), (6, 1), (7, 1), (8, 1), (9, 1), (10, 1), (11, 1), (12, 1), (13, 1)]) (PlacesOf.mk (by kernel_rfl)) (by kernel_rfl)) ?_
  refine WO.put 9 (.agg [.sc (.int .i64 0), .sc (.int .i64 0), .sc (.int .i64 0), .sc (.int .u32 0), .sc (.int .i64 0), .sc (.int .i64 0), .sc (.bool false), .sc (.int .u32 0), .sc (.int .u32 0), .sc (.int .i64 0), .sc (.int .i64 0), .sc (.int .i64 0), .sc (.string ⟨#[]⟩), .sc (.string a13)]) (by kernel_rfl) ?_
  refine WO.opA rfl rfl rfl rfl (al_alloc Try.zeroValue25) rfl rfl ?_
  refine WO.put 3 (.ptr 1 0) rfl ?_
  refine WO.op0 rfl rfl rfl (step_storeA Try.sizeOf25 rfl rfl rfl (by repeat (exact all_cell rfl rfl)) rfl rfl) ?_
  refine WO.nil ?_
  refine W.seq ?_
  refine W.to [(0, _), (1, _), (2, _), (3, _)] [_, _] rfl ⟨(by exact sh_agg rfl), (by exact sh_ptr rfl), (by exact sh_sc rfl), (by exact sh_ptr rfl), trivial⟩ ?_
  refine W.region ?_
  refine WO.op rfl rfl rfl rfl (as_sc rfl) ?_
  refine WO.nil ?_
  refine W.seq ?_
  refine W.seq ?_
  refine W.to [(0, _), (1, _), (2, _), (3, _), (4, _)] [_, _] rfl ⟨(by exact sh_agg rfl), (by exact sh_ptr rfl), (by exact sh_sc rfl), (by exact sh_ptr rfl), (by exact sh_sc rfl), trivial⟩ ?_
  refine W.region ?_
  refine WO.op rfl rfl rfl rfl (step_fieldR (k := 0) (FieldOff.mk (by kernel_rfl)) rfl rfl (by exact Nat.zero_add _)) ?_
  refine WO.op rfl rfl rfl rfl (step_load Try.isAgg3 rfl rfl rfl) ?_
  refine WO.nil ?_
  refine W.block ?_
  refine W.seq ?_
  refine W.to [(0, _), (1, _), (2, _), (3, _), (4, _), (11, _)] [_, _] rfl ⟨(by exact sh_agg rfl), (by exact sh_ptr rfl), (by exact sh_sc rfl), (by exact sh_ptr rfl), (by exact sh_sc rfl), (by exact sh_sc rfl), trivial⟩ ?_
  refine W.region ?_
  refine WO.op rfl rfl rfl rfl (step_int2 rfl rfl rfl) ?_
  refine WO.put 13 (.sc (.bool true)) (by kernel_rfl) ?_
  refine WO.op rfl rfl rfl rfl (as_sc rfl) ?_
  refine WO.nil ?_
  refine W.condT rfl ?_
  refine W.skip ?_
  refine W.seq ?_
  refine W.seq ?_
  refine W.to [(0, _), (1, _), (2, _), (3, _), (4, _), (11, _), (12, _)] [_, _] rfl ⟨(by exact sh_agg rfl), (by exact sh_ptr rfl), (by exact sh_sc rfl), (by exact sh_ptr rfl), (by exact sh_sc rfl), (by exact sh_sc rfl), (by exact sh_sc rfl), trivial⟩ ?_
  refine W.region ?_
  refine WO.op rfl rfl rfl rfl (step_loadA Try.isAgg25 Try.sizeOf25 rfl rfl (by exact Nat.le_refl _)) ?_
  refine WO.put 66 (.agg [.sc (.int .i64 0), .sc (.int .i64 a1), .sc (.int .i64 a2), .sc (.int .u32 a3), .sc (.int .i64 a4), .sc (.int .i64 a5), .sc (.bool a6), .sc (.int .u32 a7), .sc (.int .u32 a8), .sc (.int .i64 a9), .sc (.int .i64 a10), .sc (.int .i64 a11), .sc (.string a12), .sc (.string a13)]) (by kernel_rfl) ?_
  refine WO.op rfl rfl rfl rfl (step_loadA Try.isAgg25 Try.sizeOf25 rfl rfl (by exact Nat.le_refl _)) ?_
  refine WO.put 67 (.agg [.sc (.int .i64 0), .sc (.int .i64 0), .sc (.int .i64 0), .sc (.int .u32 0), .sc (.int .i64 0), .sc (.int .i64 0), .sc (.bool false), .sc (.int .u32 0), .sc (.int .u32 0), .sc (.int .i64 0), .sc (.int .i64 0), .sc (.int .i64 0), .sc (.string ⟨#[]⟩), .sc (.string a13)]) (by kernel_rfl) ?_
  refine WO.op rfl rfl rfl rfl (ne2_L4 (a0 := 0) (a1 := a1) (a2 := a2) (a3 := a3) (a4 := a4) (a5 := a5) (a6 := a6) (a7 := a7) (a8 := a8) (a9 := a9) (a10 := a10) (a11 := a11) (a12 := a12) (a13 := a13) (b0 := 0) (b1 := 0) (b2 := 0) (b3 := 0) (b4 := 0) (b5 := 0) (b6 := false) (b7 := 0) (b8 := 0) (b9 := 0) (b10 := 0) (b11 := 0) (b12 := ⟨#[]⟩) (b13 := a13) (by (constructor <;> decide)) (by assumption) (by assumption) (by assumption) (by assumption) (by assumption) (by assumption) (by assumption) (by assumption) (by assumption) (by assumption) (by assumption) (by assumption) (by (constructor <;> decide)) (by (constructor <;> decide)) (by (constructor <;> decide)) (by (constructor <;> decide)) (by (constructor <;> decide)) (by (constructor <;> decide)) (by (constructor <;> decide)) (by (constructor <;> decide)) (by (constructor <;> decide)) (by (constructor <;> decide)) (by (constructor <;> decide)) (by decide) (by assumption) hne rfl rfl) ?_
  refine WO.put 68 (.sc (.bool true)) (rfl) ?_
  iterate 8 (refine WO.op rfl rfl rfl rfl (mv_sc rfl) ?_; refine WO.sk rfl rfl rfl rfl ?_; refine WO.sk rfl rfl rfl rfl ?_; refine WO.sk rfl rfl rfl rfl ?_; refine WO.sk rfl rfl rfl rfl ?_; refine WO.op rfl rfl rfl rfl (pk_t rfl rfl rfl) ?_)
  refine WO.op rfl rfl rfl rfl (mv_sc rfl) ?_
  iterate 5 (refine WO.sk rfl rfl rfl rfl ?_)
  refine WO.op rfl rfl rfl rfl (pk_t rfl rfl rfl) ?_
  refine WO.op rfl rfl rfl rfl (mv_sc rfl) ?_
  iterate 6 (refine WO.sk rfl rfl rfl rfl ?_)
  refine WO.op rfl rfl rfl rfl (pk_t rfl rfl rfl) ?_
  refine WO.nil ?_
  refine W.condT rfl ?_
  refine W.seq ?_
  refine W.to [(0, _), (1, _), (2, _), (3, _), (4, _), (11, _), (12, _), (131, _)] [_, _] rfl ⟨(by exact sh_agg rfl), (by exact sh_ptr rfl), (by exact sh_sc rfl), (by exact sh_ptr rfl), (by exact sh_sc rfl), (by exact sh_sc rfl), (by exact sh_sc rfl), (by exact sh_sc rfl), trivial⟩ ?_
  refine W.region ?_
  refine WO.op rfl rfl rfl rfl (as_sc rfl) ?_
  refine WO.nil ?_
  refine W.ret ?_
  refine ⟨.inl rfl, ?_⟩
  exact ret0 (Res.tmp rfl Res.nil) (.keep rfl)

theorem w_rChkR0 {a13 : ByteArray} (g13 : a13.size ≤ 200000000000000) (h : ¬ ((a13.size ≤ 65515))) : Spec0 Try.prog 14 [.agg [.sc (.int .i64 0), .sc (.int .i64 0), .sc (.int .i64 0), .sc (.int .u32 0), .sc (.int .i64 0), .sc (.int .i64 0), .sc (.bool false), .sc (.int .u32 0), .sc (.int .u32 0), .sc (.int .i64 0), .sc (.int .i64 0), .sc (.int .i64 0), .sc (.string ⟨#[]⟩), .sc (.string a13)]] (.sc (.int .i64 1)) := by
  refine Spec.body Try.func14 rfl (Nat.le_of_ble_eq_true rfl) ?_
  refine W.seq ?_
  refine W.region ?_
  refine WO.opA rfl rfl rfl rfl (al_boxA rfl rfl) rfl rfl ?_
  refine WO.put 1 (.ptr 0 0) rfl ?_
  refine WO.op rfl rfl rfl rfl (as_sc rfl) ?_
  refine WO.nil ?_
  refine W.seq ?_
  refine W.to [(0, _), (1, _), (2, _)] [_] rfl ⟨(by exact sh_agg rfl), (by exact sh_ptr rfl), (by exact sh_sc rfl), trivial⟩ ?_
  refine W.region ?_
  refine WO.op rfl rfl rfl rfl (step_fieldR (k := 0) (FieldOff.mk (by kernel_rfl)) rfl rfl (by exact Nat.zero_add _)) ?_
  refine WO.op rfl rfl rfl rfl (step_load Try.isAgg3 rfl rfl rfl) ?_
  refine WO.op rfl rfl rfl rfl (step_fieldR (k := 13) (FieldOff.mk (by kernel_rfl)) rfl rfl (by exact Nat.zero_add _)) ?_
  refine WO.op rfl rfl rfl rfl (step_load Try.isAgg9 rfl rfl rfl) ?_
  refine WO.op rfl rfl rfl rfl (step_build (out := [.sc (.int .i64 0), .sc (.int .i64 0), .sc (.int .i64 0), .sc (.int .u32 0), .sc (.int .i64 0), .sc (.int .i64 0), .sc (.bool false), .sc (.int .u32 0), .sc (.int .u32 0), .sc (.int .i64 0), .sc (.int .i64 0), .sc (.int .i64 0), .sc (.string ⟨#[]⟩), .sc (.string a13)]) Try.zeroValue25 (pl := [(0, 1), (1, 1), (2, 1), (3, 1), (4, 1), (5, 1), (6, 1), (7, 1), (8, 1), (9, 1), (10, 1), (11, 1), (12, 1), (13, 1)]) (PlacesOf.mk (by kernel_rfl)) (by kernel_rfl)) ?_
  refine WO.put 9 (.agg [.sc (.int .i64 0), .sc (.int .i64 0), .sc (.int .i64 0), .sc (.int .u32 0), .sc (.int .i64 0), .sc (.int .i64 0), .sc (.bool false), .sc (.int .u32 0), .sc (.int .u32 0), .sc (.int .i64 0), .sc (.int .i64 0), .sc (.int .i64 0), .sc (.string ⟨#[]⟩), .sc (.string a13)]) (by kernel_rfl) ?_
  refine WO.opA rfl rfl rfl rfl (al_alloc Try.zeroValue25) rfl rfl ?_
  refine WO.put 3 (.ptr 1 0) rfl ?_
  refine WO.op0 rfl rfl rfl (step_storeA Try.sizeOf25 rfl rfl rfl (by repeat (exact all_cell rfl rfl)) rfl rfl) ?_
  refine WO.nil ?_
  refine W.seq ?_
  refine W.to [(0, _), (1, _), (2, _), (3, _)] [_, _] rfl ⟨(by exact sh_agg rfl), (by exact sh_ptr rfl), (by exact sh_sc rfl), (by exact sh_ptr rfl), trivial⟩ ?_
  refine W.region ?_
  refine WO.op rfl rfl rfl rfl (as_sc rfl) ?_
  refine WO.nil ?_
  refine W.seq ?_
  refine W.seq ?_
  refine W.to [(0, _), (1, _), (2, _), (3, _), (4, _)] [_, _] rfl ⟨(by exact sh_agg rfl), (by exact sh_ptr rfl), (by exact sh_sc rfl), (by exact sh_ptr rfl), (by exact sh_sc rfl), trivial⟩ ?_
  refine W.region ?_
  refine WO.op rfl rfl rfl rfl (step_fieldR (k := 0) (FieldOff.mk (by kernel_rfl)) rfl rfl (by exact Nat.zero_add _)) ?_
  refine WO.op rfl rfl rfl rfl (step_load Try.isAgg3 rfl rfl rfl) ?_
  refine WO.nil ?_
  refine W.block ?_
  refine W.seq ?_
  refine W.to [(0, _), (1, _), (2, _), (3, _), (4, _), (11, _)] [_, _] rfl ⟨(by exact sh_agg rfl), (by exact sh_ptr rfl), (by exact sh_sc rfl), (by exact sh_ptr rfl), (by exact sh_sc rfl), (by exact sh_sc rfl), trivial⟩ ?_
  refine W.region ?_
  refine WO.op rfl rfl rfl rfl (step_int2 rfl rfl rfl) ?_
  refine WO.put 13 (.sc (.bool true)) (by kernel_rfl) ?_
  refine WO.op rfl rfl rfl rfl (as_sc rfl) ?_
  refine WO.nil ?_
  refine W.condT rfl ?_
  refine W.skip ?_
  refine W.seq ?_
  refine W.seq ?_
  refine W.to [(0, _), (1, _), (2, _), (3, _), (4, _), (11, _), (12, _)] [_, _] rfl ⟨(by exact sh_agg rfl), (by exact sh_ptr rfl), (by exact sh_sc rfl), (by exact sh_ptr rfl), (by exact sh_sc rfl), (by exact sh_sc rfl), (by exact sh_sc rfl), trivial⟩ ?_
  refine W.region ?_
  refine WO.op rfl rfl rfl rfl (step_loadA Try.isAgg25 Try.sizeOf25 rfl rfl (by exact Nat.le_refl _)) ?_
  refine WO.put 66 (.agg [.sc (.int .i64 0), .sc (.int .i64 0), .sc (.int .i64 0), .sc (.int .u32 0), .sc (.int .i64 0), .sc (.int .i64 0), .sc (.bool false), .sc (.int .u32 0), .sc (.int .u32 0), .sc (.int .i64 0), .sc (.int .i64 0), .sc (.int .i64 0), .sc (.string ⟨#[]⟩), .sc (.string a13)]) (by kernel_rfl) ?_
  refine WO.op rfl rfl rfl rfl (step_loadA Try.isAgg25 Try.sizeOf25 rfl rfl (by exact Nat.le_refl _)) ?_
  refine WO.put 67 (.agg [.sc (.int .i64 0), .sc (.int .i64 0), .sc (.int .i64 0), .sc (.int .u32 0), .sc (.int .i64 0), .sc (.int .i64 0), .sc (.bool false), .sc (.int .u32 0), .sc (.int .u32 0), .sc (.int .i64 0), .sc (.int .i64 0), .sc (.int .i64 0), .sc (.string ⟨#[]⟩), .sc (.string a13)]) (by kernel_rfl) ?_
  refine WO.op rfl rfl rfl rfl (ne_L4 (a0 := 0) (a1 := 0) (a2 := 0) (a3 := 0) (a4 := 0) (a5 := 0) (a6 := false) (a7 := 0) (a8 := 0) (a9 := 0) (a10 := 0) (a11 := 0) (a12 := ⟨#[]⟩) (a13 := a13) (by (constructor <;> decide)) (by (constructor <;> decide)) (by (constructor <;> decide)) (by (constructor <;> decide)) (by (constructor <;> decide)) (by (constructor <;> decide)) (by (constructor <;> decide)) (by (constructor <;> decide)) (by (constructor <;> decide)) (by (constructor <;> decide)) (by (constructor <;> decide)) (by decide) (by assumption) rfl rfl) ?_
  refine WO.put 68 (.sc (.bool false)) (rfl) ?_
  refine WO.op rfl rfl rfl rfl (mv_sc rfl) ?_
  refine WO.op rfl rfl rfl rfl (step_fieldR (k := 1) (FieldOff.mk (by kernel_rfl)) rfl rfl (by exact Nat.zero_add _)) ?_
  refine WO.op rfl rfl rfl rfl (step_load Try.isAgg3 rfl rfl rfl) ?_
  refine WO.op rfl rfl rfl rfl (step_pure Try.call34 rfl (by (repeat (first | exact Nl.nil | refine Nl.keep (by rfl) ?_))) (w_to) (by repeat (rfl))) ?_
  refine WO.op rfl rfl rfl rfl (step_not rfl) ?_
  refine WO.op rfl rfl rfl rfl (pk_f rfl rfl rfl) ?_
  refine WO.op rfl rfl rfl rfl (mv_sc rfl) ?_
  refine WO.spl 75 rfl (fun h1 => ?_) (fun h1 => ?_)
  · try simp only [decide_eq_true_eq, decide_eq_false_iff_not, Bool.not_eq_true', Bool.not_eq_false', beq_iff_eq, bne_iff_ne, beq_eq_false_iff_ne, bne_eq_false_iff_eq, gt_iff_lt, ge_iff_le, Int.not_lt, Int.not_le] at h1
    iterate 7 (refine WO.sk rfl rfl rfl rfl ?_; refine WO.sk rfl rfl rfl rfl ?_; refine WO.sk rfl rfl rfl rfl ?_; refine WO.sk rfl rfl rfl rfl ?_; refine WO.op rfl rfl rfl rfl (pk_t rfl rfl rfl) ?_; refine WO.op rfl rfl rfl rfl (mv_sc rfl) ?_)
    iterate 5 (refine WO.sk rfl rfl rfl rfl ?_)
    refine WO.op rfl rfl rfl rfl (pk_t rfl rfl rfl) ?_
    refine WO.op rfl rfl rfl rfl (mv_sc rfl) ?_
    iterate 6 (refine WO.sk rfl rfl rfl rfl ?_)
    refine WO.op rfl rfl rfl rfl (pk_t rfl rfl rfl) ?_
    refine WO.nil ?_
    refine W.condT rfl ?_
    refine W.seq ?_
    refine W.to [(0, _), (1, _), (2, _), (3, _), (4, _), (11, _), (12, _), (131, _)] [_, _] rfl ⟨(by exact sh_agg rfl), (by exact sh_ptr rfl), (by exact sh_sc rfl), (by exact sh_ptr rfl), (by exact sh_sc rfl), (by exact sh_sc rfl), (by exact sh_sc rfl), (by exact sh_sc rfl), trivial⟩ ?_
    refine W.region ?_
    refine WO.op rfl rfl rfl rfl (as_sc rfl) ?_
    refine WO.nil ?_
    refine W.ret ?_
    refine ⟨.inl rfl, ?_⟩
    exact ret0 (Res.tmp rfl Res.nil) (.keep rfl)
  · try simp only [decide_eq_true_eq, decide_eq_false_iff_not, Bool.not_eq_true', Bool.not_eq_false', beq_iff_eq, bne_iff_ne, beq_eq_false_iff_ne, bne_eq_false_iff_eq, gt_iff_lt, ge_iff_le, Int.not_lt, Int.not_le] at h1
    refine WO.op rfl rfl rfl rfl (step_fieldR (k := 2) (FieldOff.mk (by kernel_rfl)) rfl rfl (by exact Nat.zero_add _)) ?_
    refine WO.op rfl rfl rfl rfl (step_load Try.isAgg3 rfl rfl rfl) ?_
    refine WO.op rfl rfl rfl rfl (step_pure Try.call34 rfl (by (repeat (first | exact Nl.nil | refine Nl.keep (by rfl) ?_))) (w_to) (by repeat (rfl))) ?_
    refine WO.op rfl rfl rfl rfl (step_not rfl) ?_
    refine WO.op rfl rfl rfl rfl (pk_f rfl rfl rfl) ?_
    refine WO.op rfl rfl rfl rfl (mv_sc rfl) ?_
    refine WO.spl 81 rfl (fun h2 => ?_) (fun h2 => ?_)
    · try simp only [decide_eq_true_eq, decide_eq_false_iff_not, Bool.not_eq_true', Bool.not_eq_false', beq_iff_eq, bne_iff_ne, beq_eq_false_iff_ne, bne_eq_false_iff_eq, gt_iff_lt, ge_iff_le, Int.not_lt, Int.not_le] at h2
      iterate 6 (refine WO.sk rfl rfl rfl rfl ?_; refine WO.sk rfl rfl rfl rfl ?_; refine WO.sk rfl rfl rfl rfl ?_; refine WO.sk rfl rfl rfl rfl ?_; refine WO.op rfl rfl rfl rfl (pk_t rfl rfl rfl) ?_; refine WO.op rfl rfl rfl rfl (mv_sc rfl) ?_)
      iterate 5 (refine WO.sk rfl rfl rfl rfl ?_)
      refine WO.op rfl rfl rfl rfl (pk_t rfl rfl rfl) ?_
      refine WO.op rfl rfl rfl rfl (mv_sc rfl) ?_
      iterate 6 (refine WO.sk rfl rfl rfl rfl ?_)
      refine WO.op rfl rfl rfl rfl (pk_t rfl rfl rfl) ?_
      refine WO.nil ?_
      refine W.condT rfl ?_
      refine W.seq ?_
      refine W.to [(0, _), (1, _), (2, _), (3, _), (4, _), (11, _), (12, _), (131, _)] [_, _] rfl ⟨(by exact sh_agg rfl), (by exact sh_ptr rfl), (by exact sh_sc rfl), (by exact sh_ptr rfl), (by exact sh_sc rfl), (by exact sh_sc rfl), (by exact sh_sc rfl), (by exact sh_sc rfl), trivial⟩ ?_
      refine W.region ?_
      refine WO.op rfl rfl rfl rfl (as_sc rfl) ?_
      refine WO.nil ?_
      refine W.ret ?_
      refine ⟨.inl rfl, ?_⟩
      exact ret0 (Res.tmp rfl Res.nil) (.keep rfl)
    · try simp only [decide_eq_true_eq, decide_eq_false_iff_not, Bool.not_eq_true', Bool.not_eq_false', beq_iff_eq, bne_iff_ne, beq_eq_false_iff_ne, bne_eq_false_iff_eq, gt_iff_lt, ge_iff_le, Int.not_lt, Int.not_le] at h2
      refine WO.op rfl rfl rfl rfl (step_fieldR (k := 4) (FieldOff.mk (by kernel_rfl)) rfl rfl (by exact Nat.zero_add _)) ?_
      refine WO.op rfl rfl rfl rfl (step_load Try.isAgg3 rfl rfl rfl) ?_
      refine WO.op rfl rfl rfl rfl (step_pure Try.call34 rfl (by (repeat (first | exact Nl.nil | refine Nl.keep (by rfl) ?_))) (w_to) (by repeat (rfl))) ?_
      refine WO.op rfl rfl rfl rfl (step_not rfl) ?_
      refine WO.op rfl rfl rfl rfl (pk_f rfl rfl rfl) ?_
      refine WO.op rfl rfl rfl rfl (mv_sc rfl) ?_
      refine WO.spl 87 rfl (fun h3 => ?_) (fun h3 => ?_)
      · try simp only [decide_eq_true_eq, decide_eq_false_iff_not, Bool.not_eq_true', Bool.not_eq_false', beq_iff_eq, bne_iff_ne, beq_eq_false_iff_ne, bne_eq_false_iff_eq, gt_iff_lt, ge_iff_le, Int.not_lt, Int.not_le] at h3
        iterate 5 (refine WO.sk rfl rfl rfl rfl ?_; refine WO.sk rfl rfl rfl rfl ?_; refine WO.sk rfl rfl rfl rfl ?_; refine WO.sk rfl rfl rfl rfl ?_; refine WO.op rfl rfl rfl rfl (pk_t rfl rfl rfl) ?_; refine WO.op rfl rfl rfl rfl (mv_sc rfl) ?_)
        iterate 5 (refine WO.sk rfl rfl rfl rfl ?_)
        refine WO.op rfl rfl rfl rfl (pk_t rfl rfl rfl) ?_
        refine WO.op rfl rfl rfl rfl (mv_sc rfl) ?_
        iterate 6 (refine WO.sk rfl rfl rfl rfl ?_)
        refine WO.op rfl rfl rfl rfl (pk_t rfl rfl rfl) ?_
        refine WO.nil ?_
        refine W.condT rfl ?_
        refine W.seq ?_
        refine W.to [(0, _), (1, _), (2, _), (3, _), (4, _), (11, _), (12, _), (131, _)] [_, _] rfl ⟨(by exact sh_agg rfl), (by exact sh_ptr rfl), (by exact sh_sc rfl), (by exact sh_ptr rfl), (by exact sh_sc rfl), (by exact sh_sc rfl), (by exact sh_sc rfl), (by exact sh_sc rfl), trivial⟩ ?_
        refine W.region ?_
        refine WO.op rfl rfl rfl rfl (as_sc rfl) ?_
        refine WO.nil ?_
        refine W.ret ?_
        refine ⟨.inl rfl, ?_⟩
        exact ret0 (Res.tmp rfl Res.nil) (.keep rfl)
      · try simp only [decide_eq_true_eq, decide_eq_false_iff_not, Bool.not_eq_true', Bool.not_eq_false', beq_iff_eq, bne_iff_ne, beq_eq_false_iff_ne, bne_eq_false_iff_eq, gt_iff_lt, ge_iff_le, Int.not_lt, Int.not_le] at h3
        refine WO.op rfl rfl rfl rfl (step_fieldR (k := 5) (FieldOff.mk (by kernel_rfl)) rfl rfl (by exact Nat.zero_add _)) ?_
        refine WO.op rfl rfl rfl rfl (step_load Try.isAgg3 rfl rfl rfl) ?_
        refine WO.op rfl rfl rfl rfl (step_pure Try.call34 rfl (by (repeat (first | exact Nl.nil | refine Nl.keep (by rfl) ?_))) (w_to) (by repeat (rfl))) ?_
        refine WO.op rfl rfl rfl rfl (step_not rfl) ?_
        refine WO.op rfl rfl rfl rfl (pk_f rfl rfl rfl) ?_
        refine WO.op rfl rfl rfl rfl (mv_sc rfl) ?_
        refine WO.spl 93 rfl (fun h4 => ?_) (fun h4 => ?_)
        · try simp only [decide_eq_true_eq, decide_eq_false_iff_not, Bool.not_eq_true', Bool.not_eq_false', beq_iff_eq, bne_iff_ne, beq_eq_false_iff_ne, bne_eq_false_iff_eq, gt_iff_lt, ge_iff_le, Int.not_lt, Int.not_le] at h4
          iterate 4 (refine WO.sk rfl rfl rfl rfl ?_; refine WO.sk rfl rfl rfl rfl ?_; refine WO.sk rfl rfl rfl rfl ?_; refine WO.sk rfl rfl rfl rfl ?_; refine WO.op rfl rfl rfl rfl (pk_t rfl rfl rfl) ?_; refine WO.op rfl rfl rfl rfl (mv_sc rfl) ?_)
          iterate 5 (refine WO.sk rfl rfl rfl rfl ?_)
          refine WO.op rfl rfl rfl rfl (pk_t rfl rfl rfl) ?_
          refine WO.op rfl rfl rfl rfl (mv_sc rfl) ?_
          iterate 6 (refine WO.sk rfl rfl rfl rfl ?_)
          refine WO.op rfl rfl rfl rfl (pk_t rfl rfl rfl) ?_
          refine WO.nil ?_
          refine W.condT rfl ?_
          refine W.seq ?_
          refine W.to [(0, _), (1, _), (2, _), (3, _), (4, _), (11, _), (12, _), (131, _)] [_, _] rfl ⟨(by exact sh_agg rfl), (by exact sh_ptr rfl), (by exact sh_sc rfl), (by exact sh_ptr rfl), (by exact sh_sc rfl), (by exact sh_sc rfl), (by exact sh_sc rfl), (by exact sh_sc rfl), trivial⟩ ?_
          refine W.region ?_
          refine WO.op rfl rfl rfl rfl (as_sc rfl) ?_
          refine WO.nil ?_
          refine W.ret ?_
          refine ⟨.inl rfl, ?_⟩
          exact ret0 (Res.tmp rfl Res.nil) (.keep rfl)
        · try simp only [decide_eq_true_eq, decide_eq_false_iff_not, Bool.not_eq_true', Bool.not_eq_false', beq_iff_eq, bne_iff_ne, beq_eq_false_iff_ne, bne_eq_false_iff_eq, gt_iff_lt, ge_iff_le, Int.not_lt, Int.not_le] at h4
          refine WO.op rfl rfl rfl rfl (step_fieldR (k := 10) (FieldOff.mk (by kernel_rfl)) rfl rfl (by exact Nat.zero_add _)) ?_
          refine WO.op rfl rfl rfl rfl (step_load Try.isAgg3 rfl rfl rfl) ?_
          refine WO.op rfl rfl rfl rfl (step_pure Try.call34 rfl (by (repeat (first | exact Nl.nil | refine Nl.keep (by rfl) ?_))) (w_to) (by repeat (rfl))) ?_
          refine WO.op rfl rfl rfl rfl (step_not rfl) ?_
          refine WO.op rfl rfl rfl rfl (pk_f rfl rfl rfl) ?_
          refine WO.op rfl rfl rfl rfl (mv_sc rfl) ?_
          refine WO.spl 99 rfl (fun h5 => ?_) (fun h5 => ?_)
          · try simp only [decide_eq_true_eq, decide_eq_false_iff_not, Bool.not_eq_true', Bool.not_eq_false', beq_iff_eq, bne_iff_ne, beq_eq_false_iff_ne, bne_eq_false_iff_eq, gt_iff_lt, ge_iff_le, Int.not_lt, Int.not_le] at h5
            iterate 3 (refine WO.sk rfl rfl rfl rfl ?_; refine WO.sk rfl rfl rfl rfl ?_; refine WO.sk rfl rfl rfl rfl ?_; refine WO.sk rfl rfl rfl rfl ?_; refine WO.op rfl rfl rfl rfl (pk_t rfl rfl rfl) ?_; refine WO.op rfl rfl rfl rfl (mv_sc rfl) ?_)
            iterate 5 (refine WO.sk rfl rfl rfl rfl ?_)
            refine WO.op rfl rfl rfl rfl (pk_t rfl rfl rfl) ?_
            refine WO.op rfl rfl rfl rfl (mv_sc rfl) ?_
            iterate 6 (refine WO.sk rfl rfl rfl rfl ?_)
            refine WO.op rfl rfl rfl rfl (pk_t rfl rfl rfl) ?_
            refine WO.nil ?_
            refine W.condT rfl ?_
            refine W.seq ?_
            refine W.to [(0, _), (1, _), (2, _), (3, _), (4, _), (11, _), (12, _), (131, _)] [_, _] rfl ⟨(by exact sh_agg rfl), (by exact sh_ptr rfl), (by exact sh_sc rfl), (by exact sh_ptr rfl), (by exact sh_sc rfl), (by exact sh_sc rfl), (by exact sh_sc rfl), (by exact sh_sc rfl), trivial⟩ ?_
            refine W.region ?_
            refine WO.op rfl rfl rfl rfl (as_sc rfl) ?_
            refine WO.nil ?_
            refine W.ret ?_
            refine ⟨.inl rfl, ?_⟩
            exact ret0 (Res.tmp rfl Res.nil) (.keep rfl)
          · try simp only [decide_eq_true_eq, decide_eq_false_iff_not, Bool.not_eq_true', Bool.not_eq_false', beq_iff_eq, bne_iff_ne, beq_eq_false_iff_ne, bne_eq_false_iff_eq, gt_iff_lt, ge_iff_le, Int.not_lt, Int.not_le] at h5
            refine WO.op rfl rfl rfl rfl (step_fieldR (k := 11) (FieldOff.mk (by kernel_rfl)) rfl rfl (by exact Nat.zero_add _)) ?_
            refine WO.op rfl rfl rfl rfl (step_load Try.isAgg3 rfl rfl rfl) ?_
            refine WO.op rfl rfl rfl rfl (step_pure Try.call34 rfl (by (repeat (first | exact Nl.nil | refine Nl.keep (by rfl) ?_))) (w_to) (by repeat (rfl))) ?_
            refine WO.op rfl rfl rfl rfl (step_not rfl) ?_
            refine WO.op rfl rfl rfl rfl (pk_f rfl rfl rfl) ?_
            refine WO.op rfl rfl rfl rfl (mv_sc rfl) ?_
            refine WO.spl 105 rfl (fun h6 => ?_) (fun h6 => ?_)
            · try simp only [decide_eq_true_eq, decide_eq_false_iff_not, Bool.not_eq_true', Bool.not_eq_false', beq_iff_eq, bne_iff_ne, beq_eq_false_iff_ne, bne_eq_false_iff_eq, gt_iff_lt, ge_iff_le, Int.not_lt, Int.not_le] at h6
              iterate 2 (refine WO.sk rfl rfl rfl rfl ?_; refine WO.sk rfl rfl rfl rfl ?_; refine WO.sk rfl rfl rfl rfl ?_; refine WO.sk rfl rfl rfl rfl ?_; refine WO.op rfl rfl rfl rfl (pk_t rfl rfl rfl) ?_; refine WO.op rfl rfl rfl rfl (mv_sc rfl) ?_)
              iterate 5 (refine WO.sk rfl rfl rfl rfl ?_)
              refine WO.op rfl rfl rfl rfl (pk_t rfl rfl rfl) ?_
              refine WO.op rfl rfl rfl rfl (mv_sc rfl) ?_
              iterate 6 (refine WO.sk rfl rfl rfl rfl ?_)
              refine WO.op rfl rfl rfl rfl (pk_t rfl rfl rfl) ?_
              refine WO.nil ?_
              refine W.condT rfl ?_
              refine W.seq ?_
              refine W.to [(0, _), (1, _), (2, _), (3, _), (4, _), (11, _), (12, _), (131, _)] [_, _] rfl ⟨(by exact sh_agg rfl), (by exact sh_ptr rfl), (by exact sh_sc rfl), (by exact sh_ptr rfl), (by exact sh_sc rfl), (by exact sh_sc rfl), (by exact sh_sc rfl), (by exact sh_sc rfl), trivial⟩ ?_
              refine W.region ?_
              refine WO.op rfl rfl rfl rfl (as_sc rfl) ?_
              refine WO.nil ?_
              refine W.ret ?_
              refine ⟨.inl rfl, ?_⟩
              exact ret0 (Res.tmp rfl Res.nil) (.keep rfl)
            · try simp only [decide_eq_true_eq, decide_eq_false_iff_not, Bool.not_eq_true', Bool.not_eq_false', beq_iff_eq, bne_iff_ne, beq_eq_false_iff_ne, bne_eq_false_iff_eq, gt_iff_lt, ge_iff_le, Int.not_lt, Int.not_le] at h6
              refine WO.op rfl rfl rfl rfl (step_fieldR (k := 9) (FieldOff.mk (by kernel_rfl)) rfl rfl (by exact Nat.zero_add _)) ?_
              refine WO.op rfl rfl rfl rfl (step_load Try.isAgg3 rfl rfl rfl) ?_
              refine WO.op rfl rfl rfl rfl (step_pure Try.call34 rfl (by (repeat (first | exact Nl.nil | refine Nl.keep (by rfl) ?_))) (w_to) (by repeat (rfl))) ?_
              refine WO.op rfl rfl rfl rfl (step_not rfl) ?_
              refine WO.op rfl rfl rfl rfl (pk_f rfl rfl rfl) ?_
              refine WO.op rfl rfl rfl rfl (mv_sc rfl) ?_
              refine WO.spl 111 rfl (fun h7 => ?_) (fun h7 => ?_)
              · try simp only [decide_eq_true_eq, decide_eq_false_iff_not, Bool.not_eq_true', Bool.not_eq_false', beq_iff_eq, bne_iff_ne, beq_eq_false_iff_ne, bne_eq_false_iff_eq, gt_iff_lt, ge_iff_le, Int.not_lt, Int.not_le] at h7
                iterate 2 (refine WO.sk rfl rfl rfl rfl ?_; refine WO.sk rfl rfl rfl rfl ?_; refine WO.sk rfl rfl rfl rfl ?_; refine WO.sk rfl rfl rfl rfl ?_; refine WO.op rfl rfl rfl rfl (pk_t rfl rfl rfl) ?_; refine WO.op rfl rfl rfl rfl (mv_sc rfl) ?_; refine WO.sk rfl rfl rfl rfl ?_)
                iterate 5 (refine WO.sk rfl rfl rfl rfl ?_)
                refine WO.op rfl rfl rfl rfl (pk_t rfl rfl rfl) ?_
                refine WO.nil ?_
                refine W.condT rfl ?_
                refine W.seq ?_
                refine W.to [(0, _), (1, _), (2, _), (3, _), (4, _), (11, _), (12, _), (131, _)] [_, _] rfl ⟨(by exact sh_agg rfl), (by exact sh_ptr rfl), (by exact sh_sc rfl), (by exact sh_ptr rfl), (by exact sh_sc rfl), (by exact sh_sc rfl), (by exact sh_sc rfl), (by exact sh_sc rfl), trivial⟩ ?_
                refine W.region ?_
                refine WO.op rfl rfl rfl rfl (as_sc rfl) ?_
                refine WO.nil ?_
                refine W.ret ?_
                refine ⟨.inl rfl, ?_⟩
                exact ret0 (Res.tmp rfl Res.nil) (.keep rfl)
              · try simp only [decide_eq_true_eq, decide_eq_false_iff_not, Bool.not_eq_true', Bool.not_eq_false', beq_iff_eq, bne_iff_ne, beq_eq_false_iff_ne, bne_eq_false_iff_eq, gt_iff_lt, ge_iff_le, Int.not_lt, Int.not_le] at h7
                refine WO.op rfl rfl rfl rfl (step_fieldR (k := 12) (FieldOff.mk (by kernel_rfl)) rfl rfl (by exact Nat.zero_add _)) ?_
                refine WO.op rfl rfl rfl rfl (step_load Try.isAgg9 rfl rfl rfl) ?_
                refine WO.op rfl rfl rfl rfl (step_lenS Try.runUnderlying9 rfl) ?_
                refine WO.op rfl rfl rfl rfl (step_int2 rfl rfl rfl) ?_
                refine WO.put 115 (.sc (.bool false)) (by kernel_rfl) ?_
                refine WO.op rfl rfl rfl rfl (pk_f rfl rfl rfl) ?_
                refine WO.op rfl rfl rfl rfl (mv_sc rfl) ?_
                refine WO.op rfl rfl rfl rfl (step_fieldR (k := 12) (FieldOff.mk (by kernel_rfl)) rfl rfl (by exact Nat.zero_add _)) ?_
                refine WO.op rfl rfl rfl rfl (step_load Try.isAgg9 rfl rfl rfl) ?_
                refine WO.op rfl rfl rfl rfl (step_lenS Try.runUnderlying9 rfl) ?_
                refine WO.op rfl rfl rfl rfl (step_remN (q := 4) rfl rfl (by omega)) ?_
                refine WO.op rfl rfl rfl rfl (step_int2 rfl rfl rfl) ?_
                refine WO.put 122 (.sc (.bool false)) (by kernel_rfl) ?_
                refine WO.op rfl rfl rfl rfl (pk_f rfl rfl rfl) ?_
                refine WO.op rfl rfl rfl rfl (mv_sc rfl) ?_
                refine WO.op rfl rfl rfl rfl (step_fieldR (k := 13) (FieldOff.mk (by kernel_rfl)) rfl rfl (by exact Nat.zero_add _)) ?_
                refine WO.op rfl rfl rfl rfl (step_load Try.isAgg9 rfl rfl rfl) ?_
                refine WO.op rfl rfl rfl rfl (step_lenS Try.runUnderlying9 rfl) ?_
                refine WO.op rfl rfl rfl rfl (mv_sc rfl) ?_
                refine WO.op rfl rfl rfl rfl (step_subN (p := 65515) rfl rfl (by (simp only [List.length_map, List.length_append, List.length_take, List.length_drop, List.length_set, List.length_cons, List.length_nil, List.length_replicate] <;> omega)) (by (simp only [cap]; omega))) ?_
                refine WO.op rfl rfl rfl rfl (step_int2 rfl rfl rfl) ?_
                refine WO.op rfl rfl rfl rfl (pk_f rfl rfl rfl) ?_
                refine WO.nil ?_
                refine W.cond rfl (fun h8 => ?_) (fun h8 => ?_)
                · try simp only [decide_eq_true_eq, decide_eq_false_iff_not, Bool.not_eq_true', Bool.not_eq_false', beq_iff_eq, bne_iff_ne, beq_eq_false_iff_ne, bne_eq_false_iff_eq, gt_iff_lt, ge_iff_le, Int.not_lt, Int.not_le] at h8
                  refine W.seq ?_
                  refine W.to [(0, _), (1, _), (2, _), (3, _), (4, _), (11, _), (12, _), (131, _)] [_, _] rfl ⟨(by exact sh_agg rfl), (by exact sh_ptr rfl), (by exact sh_sc rfl), (by exact sh_ptr rfl), (by exact sh_sc rfl), (by exact sh_sc rfl), (by exact sh_sc rfl), (by exact sh_sc rfl), trivial⟩ ?_
                  refine W.region ?_
                  refine WO.op rfl rfl rfl rfl (as_sc rfl) ?_
                  refine WO.nil ?_
                  refine W.ret ?_
                  refine ⟨.inl rfl, ?_⟩
                  exact ret0 (Res.tmp rfl Res.nil) (.keep rfl)
                · try simp only [decide_eq_true_eq, decide_eq_false_iff_not, Bool.not_eq_true', Bool.not_eq_false', beq_iff_eq, bne_iff_ne, beq_eq_false_iff_ne, bne_eq_false_iff_eq, gt_iff_lt, ge_iff_le, Int.not_lt, Int.not_le] at h8
                  exact False.elim (h (by omega))

theorem w_rChkG0 {a13 : ByteArray} (g13 : a13.size ≤ 200000000000000) (h : (a13.size ≤ 65515)) : Spec0 Try.prog 14 [.agg [.sc (.int .i64 0), .sc (.int .i64 0), .sc (.int .i64 0), .sc (.int .u32 0), .sc (.int .i64 0), .sc (.int .i64 0), .sc (.bool false), .sc (.int .u32 0), .sc (.int .u32 0), .sc (.int .i64 0), .sc (.int .i64 0), .sc (.int .i64 0), .sc (.string ⟨#[]⟩), .sc (.string a13)]] (.sc (.int .i64 0)) := by
  refine Spec.body Try.func14 rfl (Nat.le_of_ble_eq_true rfl) ?_
  refine W.seq ?_
  refine W.region ?_
  refine WO.opA rfl rfl rfl rfl (al_boxA rfl rfl) rfl rfl ?_
  refine WO.put 1 (.ptr 0 0) rfl ?_
  refine WO.op rfl rfl rfl rfl (as_sc rfl) ?_
  refine WO.nil ?_
  refine W.seq ?_
  refine W.to [(0, _), (1, _), (2, _)] [_] rfl ⟨(by exact sh_agg rfl), (by exact sh_ptr rfl), (by exact sh_sc rfl), trivial⟩ ?_
  refine W.region ?_
  refine WO.op rfl rfl rfl rfl (step_fieldR (k := 0) (FieldOff.mk (by kernel_rfl)) rfl rfl (by exact Nat.zero_add _)) ?_
  refine WO.op rfl rfl rfl rfl (step_load Try.isAgg3 rfl rfl rfl) ?_
  refine WO.op rfl rfl rfl rfl (step_fieldR (k := 13) (FieldOff.mk (by kernel_rfl)) rfl rfl (by exact Nat.zero_add _)) ?_
  refine WO.op rfl rfl rfl rfl (step_load Try.isAgg9 rfl rfl rfl) ?_
  refine WO.op rfl rfl rfl rfl (step_build (out := [.sc (.int .i64 0), .sc (.int .i64 0), .sc (.int .i64 0), .sc (.int .u32 0), .sc (.int .i64 0), .sc (.int .i64 0), .sc (.bool false), .sc (.int .u32 0), .sc (.int .u32 0), .sc (.int .i64 0), .sc (.int .i64 0), .sc (.int .i64 0), .sc (.string ⟨#[]⟩), .sc (.string a13)]) Try.zeroValue25 (pl := [(0, 1), (1, 1), (2, 1), (3, 1), (4, 1), (5, 1), (6, 1), (7, 1), (8, 1), (9, 1), (10, 1), (11, 1), (12, 1), (13, 1)]) (PlacesOf.mk (by kernel_rfl)) (by kernel_rfl)) ?_
  refine WO.put 9 (.agg [.sc (.int .i64 0), .sc (.int .i64 0), .sc (.int .i64 0), .sc (.int .u32 0), .sc (.int .i64 0), .sc (.int .i64 0), .sc (.bool false), .sc (.int .u32 0), .sc (.int .u32 0), .sc (.int .i64 0), .sc (.int .i64 0), .sc (.int .i64 0), .sc (.string ⟨#[]⟩), .sc (.string a13)]) (by kernel_rfl) ?_
  refine WO.opA rfl rfl rfl rfl (al_alloc Try.zeroValue25) rfl rfl ?_
  refine WO.put 3 (.ptr 1 0) rfl ?_
  refine WO.op0 rfl rfl rfl (step_storeA Try.sizeOf25 rfl rfl rfl (by repeat (exact all_cell rfl rfl)) rfl rfl) ?_
  refine WO.nil ?_
  refine W.seq ?_
  refine W.to [(0, _), (1, _), (2, _), (3, _)] [_, _] rfl ⟨(by exact sh_agg rfl), (by exact sh_ptr rfl), (by exact sh_sc rfl), (by exact sh_ptr rfl), trivial⟩ ?_
  refine W.region ?_
  refine WO.op rfl rfl rfl rfl (as_sc rfl) ?_
  refine WO.nil ?_
  refine W.seq ?_
  refine W.seq ?_
  refine W.to [(0, _), (1, _), (2, _), (3, _), (4, _)] [_, _] rfl ⟨(by exact sh_agg rfl), (by exact sh_ptr rfl), (by exact sh_sc rfl), (by exact sh_ptr rfl), (by exact sh_sc rfl), trivial⟩ ?_
  refine W.region ?_
  refine WO.op rfl rfl rfl rfl (step_fieldR (k := 0) (FieldOff.mk (by kernel_rfl)) rfl rfl (by exact Nat.zero_add _)) ?_
  refine WO.op rfl rfl rfl rfl (step_load Try.isAgg3 rfl rfl rfl) ?_
  refine WO.nil ?_
  refine W.block ?_
  refine W.seq ?_
  refine W.to [(0, _), (1, _), (2, _), (3, _), (4, _), (11, _)] [_, _] rfl ⟨(by exact sh_agg rfl), (by exact sh_ptr rfl), (by exact sh_sc rfl), (by exact sh_ptr rfl), (by exact sh_sc rfl), (by exact sh_sc rfl), trivial⟩ ?_
  refine W.region ?_
  refine WO.op rfl rfl rfl rfl (step_int2 rfl rfl rfl) ?_
  refine WO.put 13 (.sc (.bool true)) (by kernel_rfl) ?_
  refine WO.op rfl rfl rfl rfl (as_sc rfl) ?_
  refine WO.nil ?_
  refine W.condT rfl ?_
  refine W.skip ?_
  refine W.seq ?_
  refine W.seq ?_
  refine W.to [(0, _), (1, _), (2, _), (3, _), (4, _), (11, _), (12, _)] [_, _] rfl ⟨(by exact sh_agg rfl), (by exact sh_ptr rfl), (by exact sh_sc rfl), (by exact sh_ptr rfl), (by exact sh_sc rfl), (by exact sh_sc rfl), (by exact sh_sc rfl), trivial⟩ ?_
  refine W.region ?_
  refine WO.op rfl rfl rfl rfl (step_loadA Try.isAgg25 Try.sizeOf25 rfl rfl (by exact Nat.le_refl _)) ?_
  refine WO.put 66 (.agg [.sc (.int .i64 0), .sc (.int .i64 0), .sc (.int .i64 0), .sc (.int .u32 0), .sc (.int .i64 0), .sc (.int .i64 0), .sc (.bool false), .sc (.int .u32 0), .sc (.int .u32 0), .sc (.int .i64 0), .sc (.int .i64 0), .sc (.int .i64 0), .sc (.string ⟨#[]⟩), .sc (.string a13)]) (by kernel_rfl) ?_
  refine WO.op rfl rfl rfl rfl (step_loadA Try.isAgg25 Try.sizeOf25 rfl rfl (by exact Nat.le_refl _)) ?_
  refine WO.put 67 (.agg [.sc (.int .i64 0), .sc (.int .i64 0), .sc (.int .i64 0), .sc (.int .u32 0), .sc (.int .i64 0), .sc (.int .i64 0), .sc (.bool false), .sc (.int .u32 0), .sc (.int .u32 0), .sc (.int .i64 0), .sc (.int .i64 0), .sc (.int .i64 0), .sc (.string ⟨#[]⟩), .sc (.string a13)]) (by kernel_rfl) ?_
  refine WO.op rfl rfl rfl rfl (ne_L4 (a0 := 0) (a1 := 0) (a2 := 0) (a3 := 0) (a4 := 0) (a5 := 0) (a6 := false) (a7 := 0) (a8 := 0) (a9 := 0) (a10 := 0) (a11 := 0) (a12 := ⟨#[]⟩) (a13 := a13) (by (constructor <;> decide)) (by (constructor <;> decide)) (by (constructor <;> decide)) (by (constructor <;> decide)) (by (constructor <;> decide)) (by (constructor <;> decide)) (by (constructor <;> decide)) (by (constructor <;> decide)) (by (constructor <;> decide)) (by (constructor <;> decide)) (by (constructor <;> decide)) (by decide) (by assumption) rfl rfl) ?_
  refine WO.put 68 (.sc (.bool false)) (rfl) ?_
  refine WO.op rfl rfl rfl rfl (mv_sc rfl) ?_
  refine WO.op rfl rfl rfl rfl (step_fieldR (k := 1) (FieldOff.mk (by kernel_rfl)) rfl rfl (by exact Nat.zero_add _)) ?_
  refine WO.op rfl rfl rfl rfl (step_load Try.isAgg3 rfl rfl rfl) ?_
  refine WO.op rfl rfl rfl rfl (step_pure Try.call34 rfl (by (repeat (first | exact Nl.nil | refine Nl.keep (by rfl) ?_))) (w_to) (by repeat (rfl))) ?_
  refine WO.op rfl rfl rfl rfl (step_not rfl) ?_
  refine WO.op rfl rfl rfl rfl (pk_f rfl rfl rfl) ?_
  refine WO.op rfl rfl rfl rfl (mv_sc rfl) ?_
  refine WO.spl 75 rfl (fun h1 => ?_) (fun h1 => ?_)
  · try simp only [decide_eq_true_eq, decide_eq_false_iff_not, Bool.not_eq_true', Bool.not_eq_false', beq_iff_eq, bne_iff_ne, beq_eq_false_iff_ne, bne_eq_false_iff_eq, gt_iff_lt, ge_iff_le, Int.not_lt, Int.not_le] at h1
    exact False.elim (by omega)
  · try simp only [decide_eq_true_eq, decide_eq_false_iff_not, Bool.not_eq_true', Bool.not_eq_false', beq_iff_eq, bne_iff_ne, beq_eq_false_iff_ne, bne_eq_false_iff_eq, gt_iff_lt, ge_iff_le, Int.not_lt, Int.not_le] at h1
    refine WO.op rfl rfl rfl rfl (step_fieldR (k := 2) (FieldOff.mk (by kernel_rfl)) rfl rfl (by exact Nat.zero_add _)) ?_
    refine WO.op rfl rfl rfl rfl (step_load Try.isAgg3 rfl rfl rfl) ?_
    refine WO.op rfl rfl rfl rfl (step_pure Try.call34 rfl (by (repeat (first | exact Nl.nil | refine Nl.keep (by rfl) ?_))) (w_to) (by repeat (rfl))) ?_
    refine WO.op rfl rfl rfl rfl (step_not rfl) ?_
    refine WO.op rfl rfl rfl rfl (pk_f rfl rfl rfl) ?_
    refine WO.op rfl rfl rfl rfl (mv_sc rfl) ?_
    refine WO.spl 81 rfl (fun h2 => ?_) (fun h2 => ?_)
    · try simp only [decide_eq_true_eq, decide_eq_false_iff_not, Bool.not_eq_true', Bool.not_eq_false', beq_iff_eq, bne_iff_ne, beq_eq_false_iff_ne, bne_eq_false_iff_eq, gt_iff_lt, ge_iff_le, Int.not_lt, Int.not_le] at h2
      exact False.elim (by omega)
    · try simp only [decide_eq_true_eq, decide_eq_false_iff_not, Bool.not_eq_true', Bool.not_eq_false', beq_iff_eq, bne_iff_ne, beq_eq_false_iff_ne, bne_eq_false_iff_eq, gt_iff_lt, ge_iff_le, Int.not_lt, Int.not_le] at h2
      refine WO.op rfl rfl rfl rfl (step_fieldR (k := 4) (FieldOff.mk (by kernel_rfl)) rfl rfl (by exact Nat.zero_add _)) ?_
      refine WO.op rfl rfl rfl rfl (step_load Try.isAgg3 rfl rfl rfl) ?_
      refine WO.op rfl rfl rfl rfl (step_pure Try.call34 rfl (by (repeat (first | exact Nl.nil | refine Nl.keep (by rfl) ?_))) (w_to) (by repeat (rfl))) ?_
      refine WO.op rfl rfl rfl rfl (step_not rfl) ?_
      refine WO.op rfl rfl rfl rfl (pk_f rfl rfl rfl) ?_
      refine WO.op rfl rfl rfl rfl (mv_sc rfl) ?_
      refine WO.spl 87 rfl (fun h3 => ?_) (fun h3 => ?_)
      · try simp only [decide_eq_true_eq, decide_eq_false_iff_not, Bool.not_eq_true', Bool.not_eq_false', beq_iff_eq, bne_iff_ne, beq_eq_false_iff_ne, bne_eq_false_iff_eq, gt_iff_lt, ge_iff_le, Int.not_lt, Int.not_le] at h3
        exact False.elim (by omega)
      · try simp only [decide_eq_true_eq, decide_eq_false_iff_not, Bool.not_eq_true', Bool.not_eq_false', beq_iff_eq, bne_iff_ne, beq_eq_false_iff_ne, bne_eq_false_iff_eq, gt_iff_lt, ge_iff_le, Int.not_lt, Int.not_le] at h3
        refine WO.op rfl rfl rfl rfl (step_fieldR (k := 5) (FieldOff.mk (by kernel_rfl)) rfl rfl (by exact Nat.zero_add _)) ?_
        refine WO.op rfl rfl rfl rfl (step_load Try.isAgg3 rfl rfl rfl) ?_
        refine WO.op rfl rfl rfl rfl (step_pure Try.call34 rfl (by (repeat (first | exact Nl.nil | refine Nl.keep (by rfl) ?_))) (w_to) (by repeat (rfl))) ?_
        refine WO.op rfl rfl rfl rfl (step_not rfl) ?_
        refine WO.op rfl rfl rfl rfl (pk_f rfl rfl rfl) ?_
        refine WO.op rfl rfl rfl rfl (mv_sc rfl) ?_
        refine WO.spl 93 rfl (fun h4 => ?_) (fun h4 => ?_)
        · try simp only [decide_eq_true_eq, decide_eq_false_iff_not, Bool.not_eq_true', Bool.not_eq_false', beq_iff_eq, bne_iff_ne, beq_eq_false_iff_ne, bne_eq_false_iff_eq, gt_iff_lt, ge_iff_le, Int.not_lt, Int.not_le] at h4
          exact False.elim (by omega)
        · try simp only [decide_eq_true_eq, decide_eq_false_iff_not, Bool.not_eq_true', Bool.not_eq_false', beq_iff_eq, bne_iff_ne, beq_eq_false_iff_ne, bne_eq_false_iff_eq, gt_iff_lt, ge_iff_le, Int.not_lt, Int.not_le] at h4
          refine WO.op rfl rfl rfl rfl (step_fieldR (k := 10) (FieldOff.mk (by kernel_rfl)) rfl rfl (by exact Nat.zero_add _)) ?_
          refine WO.op rfl rfl rfl rfl (step_load Try.isAgg3 rfl rfl rfl) ?_
          refine WO.op rfl rfl rfl rfl (step_pure Try.call34 rfl (by (repeat (first | exact Nl.nil | refine Nl.keep (by rfl) ?_))) (w_to) (by repeat (rfl))) ?_
          refine WO.op rfl rfl rfl rfl (step_not rfl) ?_
          refine WO.op rfl rfl rfl rfl (pk_f rfl rfl rfl) ?_
          refine WO.op rfl rfl rfl rfl (mv_sc rfl) ?_
          refine WO.spl 99 rfl (fun h5 => ?_) (fun h5 => ?_)
          · try simp only [decide_eq_true_eq, decide_eq_false_iff_not, Bool.not_eq_true', Bool.not_eq_false', beq_iff_eq, bne_iff_ne, beq_eq_false_iff_ne, bne_eq_false_iff_eq, gt_iff_lt, ge_iff_le, Int.not_lt, Int.not_le] at h5
            exact False.elim (by omega)
          · try simp only [decide_eq_true_eq, decide_eq_false_iff_not, Bool.not_eq_true', Bool.not_eq_false', beq_iff_eq, bne_iff_ne, beq_eq_false_iff_ne, bne_eq_false_iff_eq, gt_iff_lt, ge_iff_le, Int.not_lt, Int.not_le] at h5
            refine WO.op rfl rfl rfl rfl (step_fieldR (k := 11) (FieldOff.mk (by kernel_rfl)) rfl rfl (by exact Nat.zero_add _)) ?_
            refine WO.op rfl rfl rfl rfl (step_load Try.isAgg3 rfl rfl rfl) ?_
            refine WO.op rfl rfl rfl rfl (step_pure Try.call34 rfl (by (repeat (first | exact Nl.nil | refine Nl.keep (by rfl) ?_))) (w_to) (by repeat (rfl))) ?_
            refine WO.op rfl rfl rfl rfl (step_not rfl) ?_
            refine WO.op rfl rfl rfl rfl (pk_f rfl rfl rfl) ?_
            refine WO.op rfl rfl rfl rfl (mv_sc rfl) ?_
            refine WO.spl 105 rfl (fun h6 => ?_) (fun h6 => ?_)
            · try simp only [decide_eq_true_eq, decide_eq_false_iff_not, Bool.not_eq_true', Bool.not_eq_false', beq_iff_eq, bne_iff_ne, beq_eq_false_iff_ne, bne_eq_false_iff_eq, gt_iff_lt, ge_iff_le, Int.not_lt, Int.not_le] at h6
              exact False.elim (by omega)
            · try simp only [decide_eq_true_eq, decide_eq_false_iff_not, Bool.not_eq_true', Bool.not_eq_false', beq_iff_eq, bne_iff_ne, beq_eq_false_iff_ne, bne_eq_false_iff_eq, gt_iff_lt, ge_iff_le, Int.not_lt, Int.not_le] at h6
              refine WO.op rfl rfl rfl rfl (step_fieldR (k := 9) (FieldOff.mk (by kernel_rfl)) rfl rfl (by exact Nat.zero_add _)) ?_
              refine WO.op rfl rfl rfl rfl (step_load Try.isAgg3 rfl rfl rfl) ?_
              refine WO.op rfl rfl rfl rfl (step_pure Try.call34 rfl (by (repeat (first | exact Nl.nil | refine Nl.keep (by rfl) ?_))) (w_to) (by repeat (rfl))) ?_
              refine WO.op rfl rfl rfl rfl (step_not rfl) ?_
              refine WO.op rfl rfl rfl rfl (pk_f rfl rfl rfl) ?_
              refine WO.op rfl rfl rfl rfl (mv_sc rfl) ?_
              refine WO.spl 111 rfl (fun h7 => ?_) (fun h7 => ?_)
              · try simp only [decide_eq_true_eq, decide_eq_false_iff_not, Bool.not_eq_true', Bool.not_eq_false', beq_iff_eq, bne_iff_ne, beq_eq_false_iff_ne, bne_eq_false_iff_eq, gt_iff_lt, ge_iff_le, Int.not_lt, Int.not_le] at h7
                exact False.elim (by omega)
              · try simp only [decide_eq_true_eq, decide_eq_false_iff_not, Bool.not_eq_true', Bool.not_eq_false', beq_iff_eq, bne_iff_ne, beq_eq_false_iff_ne, bne_eq_false_iff_eq, gt_iff_lt, ge_iff_le, Int.not_lt, Int.not_le] at h7
                refine WO.op rfl rfl rfl rfl (step_fieldR (k := 12) (FieldOff.mk (by kernel_rfl)) rfl rfl (by exact Nat.zero_add _)) ?_
                refine WO.op rfl rfl rfl rfl (step_load Try.isAgg9 rfl rfl rfl) ?_
                refine WO.op rfl rfl rfl rfl (step_lenS Try.runUnderlying9 rfl) ?_
                refine WO.op rfl rfl rfl rfl (step_int2 rfl rfl rfl) ?_
                refine WO.put 115 (.sc (.bool false)) (by kernel_rfl) ?_
                refine WO.op rfl rfl rfl rfl (pk_f rfl rfl rfl) ?_
                refine WO.op rfl rfl rfl rfl (mv_sc rfl) ?_
                refine WO.op rfl rfl rfl rfl (step_fieldR (k := 12) (FieldOff.mk (by kernel_rfl)) rfl rfl (by exact Nat.zero_add _)) ?_
                refine WO.op rfl rfl rfl rfl (step_load Try.isAgg9 rfl rfl rfl) ?_
                refine WO.op rfl rfl rfl rfl (step_lenS Try.runUnderlying9 rfl) ?_
                refine WO.op rfl rfl rfl rfl (step_remN (q := 4) rfl rfl (by omega)) ?_
                refine WO.op rfl rfl rfl rfl (step_int2 rfl rfl rfl) ?_
                refine WO.put 122 (.sc (.bool false)) (by kernel_rfl) ?_
                refine WO.op rfl rfl rfl rfl (pk_f rfl rfl rfl) ?_
                refine WO.op rfl rfl rfl rfl (mv_sc rfl) ?_
                refine WO.op rfl rfl rfl rfl (step_fieldR (k := 13) (FieldOff.mk (by kernel_rfl)) rfl rfl (by exact Nat.zero_add _)) ?_
                refine WO.op rfl rfl rfl rfl (step_load Try.isAgg9 rfl rfl rfl) ?_
                refine WO.op rfl rfl rfl rfl (step_lenS Try.runUnderlying9 rfl) ?_
                refine WO.op rfl rfl rfl rfl (mv_sc rfl) ?_
                refine WO.op rfl rfl rfl rfl (step_subN (p := 65515) rfl rfl (by (simp only [List.length_map, List.length_append, List.length_take, List.length_drop, List.length_set, List.length_cons, List.length_nil, List.length_replicate] <;> omega)) (by (simp only [cap]; omega))) ?_
                refine WO.op rfl rfl rfl rfl (step_int2 rfl rfl rfl) ?_
                refine WO.op rfl rfl rfl rfl (pk_f rfl rfl rfl) ?_
                refine WO.nil ?_
                refine W.cond rfl (fun h8 => ?_) (fun h8 => ?_)
                · try simp only [decide_eq_true_eq, decide_eq_false_iff_not, Bool.not_eq_true', Bool.not_eq_false', beq_iff_eq, bne_iff_ne, beq_eq_false_iff_ne, bne_eq_false_iff_eq, gt_iff_lt, ge_iff_le, Int.not_lt, Int.not_le] at h8
                  exact False.elim (by omega)
                · try simp only [decide_eq_true_eq, decide_eq_false_iff_not, Bool.not_eq_true', Bool.not_eq_false', beq_iff_eq, bne_iff_ne, beq_eq_false_iff_ne, bne_eq_false_iff_eq, gt_iff_lt, ge_iff_le, Int.not_lt, Int.not_le] at h8
                  refine W.skip ?_
                  refine W.seq ?_
                  refine W.to [(0, _), (1, _), (2, _), (3, _), (4, _), (11, _), (12, _), (131, _)] [_, _] rfl ⟨(by exact sh_agg rfl), (by exact sh_ptr rfl), (by exact sh_sc rfl), (by exact sh_ptr rfl), (by exact sh_sc rfl), (by exact sh_sc rfl), (by exact sh_sc rfl), (by exact sh_sc rfl), trivial⟩ ?_
                  refine W.region ?_
                  refine WO.op rfl rfl rfl rfl (as_sc rfl) ?_
                  refine WO.nil ?_
                  refine W.ret ?_
                  refine ⟨.inl rfl, ?_⟩
                  exact ret0 (Res.tmp rfl Res.nil) (.keep rfl)

theorem w_rChkN1 {a1 : Int} {a2 : Int} {a3 : Int} {a4 : Int} {a5 : Int} {a6 : Bool} {a7 : Int} {a8 : Int} {a9 : Int} {a10 : Int} {a11 : Int} {a12 : ByteArray} {a13 : ByteArray} (g1 : isI a1) (g2 : isI a2) (g3 : isU a3) (g4 : isI a4) (g5 : isI a5) (g7 : isU a7) (g8 : isU a8) (g9 : isI a9) (g10 : isI a10) (g11 : isI a11) (g12 : a12.size ≤ 200000000000000) (g13 : a13.size ≤ 200000000000000) (hne : ¬ (1 = (1 : Int) ∧ a1 = a1 ∧ a2 = a2 ∧ a3 = a3 ∧ a4 = 0 ∧ a5 = 0 ∧ a6 = false ∧ a7 = 0 ∧ a8 = 0 ∧ a9 = 0 ∧ a10 = 0 ∧ a11 = 0 ∧ a12.data.toList = (⟨#[]⟩ : ByteArray).data.toList ∧ a13.data.toList = (a13 : ByteArray).data.toList)) : Spec0 Try.prog 14 [.agg [.sc (.int .i64 1), .sc (.int .i64 a1), .sc (.int .i64 a2), .sc (.int .u32 a3), .sc (.int .i64 a4), .sc (.int .i64 a5), .sc (.bool a6), .sc (.int .u32 a7), .sc (.int .u32 a8), .sc (.int .i64 a9), .sc (.int .i64 a10), .sc (.int .i64 a11), .sc (.string a12), .sc (.string a13)]] (.sc (.int .i64 1)) := by
  refine Spec.body Try.func14 rfl (Nat.le_of_ble_eq_true rfl) ?_
  refine W.seq ?_
  refine W.region ?_
  refine WO.opA rfl rfl rfl rfl (al_boxA rfl rfl) rfl rfl ?_
  refine WO.put 1 (.ptr 0 0) rfl ?_
  refine WO.op rfl rfl rfl rfl (as_sc rfl) ?_
  refine WO.nil ?_
  refine W.seq ?_
  refine W.to [(0, _), (1, _), (2, _)] [_] rfl ⟨(by exact sh_agg rfl), (by exact sh_ptr rfl), (by exact sh_sc rfl), trivial⟩ ?_
  refine W.region ?_
  refine WO.op rfl rfl rfl rfl (step_fieldR (k := 0) (FieldOff.mk (by kernel_rfl)) rfl rfl (by exact Nat.zero_add _)) ?_
  refine WO.op rfl rfl rfl rfl (step_load Try.isAgg3 rfl rfl rfl) ?_
  refine WO.op rfl rfl rfl rfl (step_fieldR (k := 13) (FieldOff.mk (by kernel_rfl)) rfl rfl (by exact Nat.zero_add _)) ?_
  refine WO.op rfl rfl rfl rfl (step_load Try.isAgg9 rfl rfl rfl) ?_
  refine WO.op rfl rfl rfl rfl (step_build (out := [.sc (.int .i64 1), .sc (.int .i64 0), .sc (.int .i64 0), .sc (.int .u32 0), .sc (.int .i64 0), .sc (.int .i64 0), .sc (.bool false), .sc (.int .u32 0), .sc (.int .u32 0), .sc (.int .i64 0), .sc (.int .i64 0), .sc (.int .i64 0), .sc (.string ⟨#[]⟩), .sc (.string a13)]) Try.zeroValue25 (pl := [(0, 1), (1, 1), (2, 1), (3, 1), (4, 1), (5, 1), (6, 1), (7, 1), (8, 1), (9, 1), (10, 1), (11, 1), (12, 1), (13, 1)]) (PlacesOf.mk (by kernel_rfl)) (by kernel_rfl)) ?_
  refine WO.put 9 (.agg [.sc (.int .i64 1), .sc (.int .i64 0), .sc (.int .i64 0), .sc (.int .u32 0), .sc (.int .i64 0), .sc (.int .i64 0), .sc (.bool false), .sc (.int .u32 0), .sc (.int .u32 0), .sc (.int .i64 0), .sc (.int .i64 0), .sc (.int .i64 0), .sc (.string ⟨#[]⟩), .sc (.string a13)]) (by kernel_rfl) ?_
  refine WO.opA rfl rfl rfl rfl (al_alloc Try.zeroValue25) rfl rfl ?_
  refine WO.put 3 (.ptr 1 0) rfl ?_
  refine WO.op0 rfl rfl rfl (step_storeA Try.sizeOf25 rfl rfl rfl (by repeat (exact all_cell rfl rfl)) rfl rfl) ?_
  refine WO.nil ?_
  refine W.seq ?_
  refine W.to [(0, _), (1, _), (2, _), (3, _)] [_, _] rfl ⟨(by exact sh_agg rfl), (by exact sh_ptr rfl), (by exact sh_sc rfl), (by exact sh_ptr rfl), trivial⟩ ?_
  refine W.region ?_
  refine WO.op rfl rfl rfl rfl (as_sc rfl) ?_
  refine WO.nil ?_
  refine W.seq ?_
  refine W.seq ?_
  refine W.to [(0, _), (1, _), (2, _), (3, _), (4, _)] [_, _] rfl ⟨(by exact sh_agg rfl), (by exact sh_ptr rfl), (by exact sh_sc rfl), (by exact sh_ptr rfl), (by exact sh_sc rfl), trivial⟩ ?_
  refine W.region ?_
  refine WO.op rfl rfl rfl rfl (step_fieldR (k := 0) (FieldOff.mk (by kernel_rfl)) rfl rfl (by exact Nat.zero_add _)) ?_
  refine WO.op rfl rfl rfl rfl (step_load Try.isAgg3 rfl rfl rfl) ?_
  refine WO.nil ?_
  refine W.block ?_
  refine W.seq ?_
  refine W.to [(0, _), (1, _), (2, _), (3, _), (4, _), (11, _)] [_, _] rfl ⟨(by exact sh_agg rfl), (by exact sh_ptr rfl), (by exact sh_sc rfl), (by exact sh_ptr rfl), (by exact sh_sc rfl), (by exact sh_sc rfl), trivial⟩ ?_
  refine W.region ?_
  refine WO.op rfl rfl rfl rfl (step_int2 rfl rfl rfl) ?_
  refine WO.put 13 (.sc (.bool false)) (by kernel_rfl) ?_
  refine WO.op rfl rfl rfl rfl (as_sc rfl) ?_
  refine WO.nil ?_
  refine W.condF rfl ?_
  refine W.seq ?_
  refine W.to [(0, _), (1, _), (2, _), (3, _), (4, _), (11, _), (12, _)] [_, _] rfl ⟨(by exact sh_agg rfl), (by exact sh_ptr rfl), (by exact sh_sc rfl), (by exact sh_ptr rfl), (by exact sh_sc rfl), (by exact sh_sc rfl), (by exact sh_sc rfl), trivial⟩ ?_
  refine W.region ?_
  refine WO.op rfl rfl rfl rfl (step_int2 rfl rfl rfl) ?_
  refine WO.put 15 (.sc (.bool true)) (by kernel_rfl) ?_
  refine WO.op rfl rfl rfl rfl (as_sc rfl) ?_
  refine WO.nil ?_
  refine W.condT rfl ?_
  refine W.to [(0, _), (1, _), (2, _), (3, _), (4, _), (11, _), (12, _), (14, _)] [_, _] rfl ⟨(by exact sh_agg rfl), (by exact sh_ptr rfl), (by exact sh_sc rfl), (by exact sh_ptr rfl), (by exact sh_sc rfl), (by exact sh_sc rfl), (by exact sh_sc rfl), (by exact sh_sc rfl), trivial⟩ ?_
  refine W.draw (Checked.mixed Try.checked) ?_
  refine DC.op1 rfl rfl rfl rfl (fun _ ho => step_fieldR (k := 1) (FieldOff.mk (by kernel_rfl)) rfl ho (by exact Nat.zero_add _)) ?_
  refine DC.op1 rfl rfl rfl rfl (fun _ ho => step_load Try.isAgg3 rfl ho rfl) ?_
  refine DC.op1 rfl rfl rfl rfl (fun _ ho => step_fieldR (k := 2) (FieldOff.mk (by kernel_rfl)) rfl ho (by exact Nat.zero_add _)) ?_
  refine DC.op1 rfl rfl rfl rfl (fun _ ho => step_load Try.isAgg3 rfl ho rfl) ?_
  refine DC.op1 rfl rfl rfl rfl (fun _ ho => step_fieldR (k := 3) (FieldOff.mk (by kernel_rfl)) rfl ho (by exact Nat.zero_add _)) ?_
  refine DC.op1 rfl rfl rfl rfl (fun _ ho => step_load Try.isAgg22 rfl ho rfl) ?_
  refine DC.op1 rfl rfl rfl rfl (fun _ ho => step_fieldR (k := 1) (FieldOff.mk (by kernel_rfl)) rfl ho (by exact Nat.zero_add _)) ?_
  refine DC.opE0 rfl rfl (step_store1 Try.sizeOf3 rfl rfl rfl rfl (by (simp only [List.length_map, List.length_append, List.length_take, List.length_drop, List.length_set, List.length_cons, List.length_nil, List.length_replicate] <;> omega))) (by simp) (by repeat (first | exact True.intro | refine And.intro (by rfl) ?_)) (by repeat (first | exact True.intro | refine And.intro (by rfl) ?_)) ?_
  refine DC.op1 rfl rfl rfl rfl (fun _ ho => step_fieldR (k := 2) (FieldOff.mk (by kernel_rfl)) rfl ho (by exact Nat.zero_add _)) ?_
  refine DC.opE0 rfl rfl (step_store1 Try.sizeOf3 rfl rfl rfl rfl (by (simp only [List.length_map, List.length_append, List.length_take, List.length_drop, List.length_set, List.length_cons, List.length_nil, List.length_replicate] <;> omega))) (by simp) (by repeat (first | exact True.intro | refine And.intro (by rfl) ?_)) (by repeat (first | exact True.intro | refine And.intro (by rfl) ?_)) ?_
  refine DC.op1 rfl rfl rfl rfl (fun _ ho => step_fieldR (k := 3) (FieldOff.mk (by kernel_rfl)) rfl ho (by exact Nat.zero_add _)) ?_
  refine DC.opE0 rfl rfl (step_store1 Try.sizeOf22 rfl rfl rfl rfl (by (simp only [List.length_map, List.length_append, List.length_take, List.length_drop, List.length_set, List.length_cons, List.length_nil, List.length_replicate] <;> omega))) (by simp) (by repeat (first | exact True.intro | refine And.intro (by rfl) ?_)) (by repeat (first | exact True.intro | refine And.intro (by rfl) ?_)) ?_
  refine DC.op rfl rfl rfl (fun _ => as_sc rfl) ?_
  refine DC.fin [(0, 0), (1, 0), (2, 0), (2, 1), (3, 0), (3, 1), (4, 0), (4, 1), (4, 2), (5, 0), (5, 1), (5, 2), (6, 0), (8, 1), (10, 2)] (by kernel_rfl) (by kernel_rfl) ?_ ?_
  · repeat (first | exact True.intro | refine And.intro ?_ ?_ | kernel_rfl)
  · refine W.seq ?_
    refine W.seq ?_
    refine W.to [(0, _), (1, _), (2, _), (3, _), (4, _), (11, _), (12, _), (14, _)] [_, _] rfl ⟨(by exact sh_agg rfl), (by exact sh_ptr rfl), (by exact sh_sc rfl), (by exact sh_ptr rfl), (by exact sh_sc rfl), (by exact sh_sc rfl), (by exact sh_sc rfl), (by exact sh_sc rfl), trivial⟩ ?_
    refine W.region ?_
    refine WO.op rfl rfl rfl rfl (step_loadA Try.isAgg25 Try.sizeOf25 rfl rfl (by exact Nat.le_refl _)) ?_
    refine WO.put 66 (.agg [.sc (.int .i64 1), .sc (.int .i64 a1), .sc (.int .i64 a2), .sc (.int .u32 a3), .sc (.int .i64 a4), .sc (.int .i64 a5), .sc (.bool a6), .sc (.int .u32 a7), .sc (.int .u32 a8), .sc (.int .i64 a9), .sc (.int .i64 a10), .sc (.int .i64 a11), .sc (.string a12), .sc (.string a13)]) (by kernel_rfl) ?_
    refine WO.op rfl rfl rfl rfl (step_loadA Try.isAgg25 Try.sizeOf25 rfl rfl (by exact Nat.le_refl _)) ?_
    refine WO.put 67 (.agg [.sc (.int .i64 1), .sc (.int .i64 a1), .sc (.int .i64 a2), .sc (.int .u32 a3), .sc (.int .i64 0), .sc (.int .i64 0), .sc (.bool false), .sc (.int .u32 0), .sc (.int .u32 0), .sc (.int .i64 0), .sc (.int .i64 0), .sc (.int .i64 0), .sc (.string ⟨#[]⟩), .sc (.string a13)]) (by kernel_rfl) ?_
    refine WO.op rfl rfl rfl rfl (ne2_L4 (a0 := 1) (a1 := a1) (a2 := a2) (a3 := a3) (a4 := a4) (a5 := a5) (a6 := a6) (a7 := a7) (a8 := a8) (a9 := a9) (a10 := a10) (a11 := a11) (a12 := a12) (a13 := a13) (b0 := 1) (b1 := a1) (b2 := a2) (b3 := a3) (b4 := 0) (b5 := 0) (b6 := false) (b7 := 0) (b8 := 0) (b9 := 0) (b10 := 0) (b11 := 0) (b12 := ⟨#[]⟩) (b13 := a13) (by (constructor <;> decide)) (by assumption) (by assumption) (by assumption) (by assumption) (by assumption) (by assumption) (by assumption) (by assumption) (by assumption) (by assumption) (by assumption) (by assumption) (by (constructor <;> decide)) (by assumption) (by assumption) (by assumption) (by (constructor <;> decide)) (by (constructor <;> decide)) (by (constructor <;> decide)) (by (constructor <;> decide)) (by (constructor <;> decide)) (by (constructor <;> decide)) (by (constructor <;> decide)) (by decide) (by assumption) hne rfl rfl) ?_
    refine WO.put 68 (.sc (.bool true)) (rfl) ?_
    iterate 8 (refine WO.op rfl rfl rfl rfl (mv_sc rfl) ?_; refine WO.sk rfl rfl rfl rfl ?_; refine WO.sk rfl rfl rfl rfl ?_; refine WO.sk rfl rfl rfl rfl ?_; refine WO.sk rfl rfl rfl rfl ?_; refine WO.op rfl rfl rfl rfl (pk_t rfl rfl rfl) ?_)
    refine WO.op rfl rfl rfl rfl (mv_sc rfl) ?_
    iterate 5 (refine WO.sk rfl rfl rfl rfl ?_)
    refine WO.op rfl rfl rfl rfl (pk_t rfl rfl rfl) ?_
    refine WO.op rfl rfl rfl rfl (mv_sc rfl) ?_
    iterate 6 (refine WO.sk rfl rfl rfl rfl ?_)
    refine WO.op rfl rfl rfl rfl (pk_t rfl rfl rfl) ?_
    refine WO.nil ?_
    refine W.condT rfl ?_
    refine W.seq ?_
    refine W.to [(0, _), (1, _), (2, _), (3, _), (4, _), (11, _), (12, _), (14, _), (131, _)] [_, _] rfl ⟨(by exact sh_agg rfl), (by exact sh_ptr rfl), (by exact sh_sc rfl), (by exact sh_ptr rfl), (by exact sh_sc rfl), (by exact sh_sc rfl), (by exact sh_sc rfl), (by exact sh_sc rfl), (by exact sh_sc rfl), trivial⟩ ?_
    refine W.region ?_
    refine WO.op rfl rfl rfl rfl (as_sc rfl) ?_
    refine WO.nil ?_
    refine W.ret ?_
    refine ⟨.inl rfl, ?_⟩
    exact ret0 (Res.tmp rfl Res.nil) (.keep rfl)

theorem w_rChkR1 {a1 : Int} {a2 : Int} {a3 : Int} {a13 : ByteArray} (g1 : isI a1) (g2 : isI a2) (g3 : isU a3) (g13 : a13.size ≤ 200000000000000) (h : ¬ ((0 ≤ a1 ∧ a1 ≤ 255) ∧ (0 ≤ a2 ∧ a2 ≤ 255) ∧ (a13.size ≤ 65507))) : Spec0 Try.prog 14 [.agg [.sc (.int .i64 1), .sc (.int .i64 a1), .sc (.int .i64 a2), .sc (.int .u32 a3), .sc (.int .i64 0), .sc (.int .i64 0), .sc (.bool false), .sc (.int .u32 0), .sc (.int .u32 0), .sc (.int .i64 0), .sc (.int .i64 0), .sc (.int .i64 0), .sc (.string ⟨#[]⟩), .sc (.string a13)]] (.sc (.int .i64 1)) := by
  refine Spec.body Try.func14 rfl (Nat.le_of_ble_eq_true rfl) ?_
  simp only [isI, isU] at *
  refine W.seq ?_
  refine W.region ?_
  refine WO.opA rfl rfl rfl rfl (al_boxA rfl rfl) rfl rfl ?_
  refine WO.put 1 (.ptr 0 0) rfl ?_
  refine WO.op rfl rfl rfl rfl (as_sc rfl) ?_
  refine WO.nil ?_
  refine W.seq ?_
  refine W.to [(0, _), (1, _), (2, _)] [_] rfl ⟨(by exact sh_agg rfl), (by exact sh_ptr rfl), (by exact sh_sc rfl), trivial⟩ ?_
  refine W.region ?_
  refine WO.op rfl rfl rfl rfl (step_fieldR (k := 0) (FieldOff.mk (by kernel_rfl)) rfl rfl (by exact Nat.zero_add _)) ?_
  refine WO.op rfl rfl rfl rfl (step_load Try.isAgg3 rfl rfl rfl) ?_
  refine WO.op rfl rfl rfl rfl (step_fieldR (k := 13) (FieldOff.mk (by kernel_rfl)) rfl rfl (by exact Nat.zero_add _)) ?_
  refine WO.op rfl rfl rfl rfl (step_load Try.isAgg9 rfl rfl rfl) ?_
  refine WO.op rfl rfl rfl rfl (step_build (out := [.sc (.int .i64 1), .sc (.int .i64 0), .sc (.int .i64 0), .sc (.int .u32 0), .sc (.int .i64 0), .sc (.int .i64 0), .sc (.bool false), .sc (.int .u32 0), .sc (.int .u32 0), .sc (.int .i64 0), .sc (.int .i64 0), .sc (.int .i64 0), .sc (.string ⟨#[]⟩), .sc (.string a13)]) Try.zeroValue25 (pl := [(0, 1), (1, 1), (2, 1), (3, 1), (4, 1), (5, 1), (6, 1), (7, 1), (8, 1), (9, 1), (10, 1), (11, 1), (12, 1), (13, 1)]) (PlacesOf.mk (by kernel_rfl)) (by kernel_rfl)) ?_
  refine WO.put 9 (.agg [.sc (.int .i64 1), .sc (.int .i64 0), .sc (.int .i64 0), .sc (.int .u32 0), .sc (.int .i64 0), .sc (.int .i64 0), .sc (.bool false), .sc (.int .u32 0), .sc (.int .u32 0), .sc (.int .i64 0), .sc (.int .i64 0), .sc (.int .i64 0), .sc (.string ⟨#[]⟩), .sc (.string a13)]) (by kernel_rfl) ?_
  refine WO.opA rfl rfl rfl rfl (al_alloc Try.zeroValue25) rfl rfl ?_
  refine WO.put 3 (.ptr 1 0) rfl ?_
  refine WO.op0 rfl rfl rfl (step_storeA Try.sizeOf25 rfl rfl rfl (by repeat (exact all_cell rfl rfl)) rfl rfl) ?_
  refine WO.nil ?_
  refine W.seq ?_
  refine W.to [(0, _), (1, _), (2, _), (3, _)] [_, _] rfl ⟨(by exact sh_agg rfl), (by exact sh_ptr rfl), (by exact sh_sc rfl), (by exact sh_ptr rfl), trivial⟩ ?_
  refine W.region ?_
  refine WO.op rfl rfl rfl rfl (as_sc rfl) ?_
  refine WO.nil ?_
  refine W.seq ?_
  refine W.seq ?_
  refine W.to [(0, _), (1, _), (2, _), (3, _), (4, _)] [_, _] rfl ⟨(by exact sh_agg rfl), (by exact sh_ptr rfl), (by exact sh_sc rfl), (by exact sh_ptr rfl), (by exact sh_sc rfl), trivial⟩ ?_
  refine W.region ?_
  refine WO.op rfl rfl rfl rfl (step_fieldR (k := 0) (FieldOff.mk (by kernel_rfl)) rfl rfl (by exact Nat.zero_add _)) ?_
  refine WO.op rfl rfl rfl rfl (step_load Try.isAgg3 rfl rfl rfl) ?_
  refine WO.nil ?_
  refine W.block ?_
  refine W.seq ?_
  refine W.to [(0, _), (1, _), (2, _), (3, _), (4, _), (11, _)] [_, _] rfl ⟨(by exact sh_agg rfl), (by exact sh_ptr rfl), (by exact sh_sc rfl), (by exact sh_ptr rfl), (by exact sh_sc rfl), (by exact sh_sc rfl), trivial⟩ ?_
  refine W.region ?_
  refine WO.op rfl rfl rfl rfl (step_int2 rfl rfl rfl) ?_
  refine WO.put 13 (.sc (.bool false)) (by kernel_rfl) ?_
  refine WO.op rfl rfl rfl rfl (as_sc rfl) ?_
  refine WO.nil ?_
  refine W.condF rfl ?_
  refine W.seq ?_
  refine W.to [(0, _), (1, _), (2, _), (3, _), (4, _), (11, _), (12, _)] [_, _] rfl ⟨(by exact sh_agg rfl), (by exact sh_ptr rfl), (by exact sh_sc rfl), (by exact sh_ptr rfl), (by exact sh_sc rfl), (by exact sh_sc rfl), (by exact sh_sc rfl), trivial⟩ ?_
  refine W.region ?_
  refine WO.op rfl rfl rfl rfl (step_int2 rfl rfl rfl) ?_
  refine WO.put 15 (.sc (.bool true)) (by kernel_rfl) ?_
  refine WO.op rfl rfl rfl rfl (as_sc rfl) ?_
  refine WO.nil ?_
  refine W.condT rfl ?_
  refine W.to [(0, _), (1, _), (2, _), (3, _), (4, _), (11, _), (12, _), (14, _)] [_, _] rfl ⟨(by exact sh_agg rfl), (by exact sh_ptr rfl), (by exact sh_sc rfl), (by exact sh_ptr rfl), (by exact sh_sc rfl), (by exact sh_sc rfl), (by exact sh_sc rfl), (by exact sh_sc rfl), trivial⟩ ?_
  refine W.draw (Checked.mixed Try.checked) ?_
  refine DC.op1 rfl rfl rfl rfl (fun _ ho => step_fieldR (k := 1) (FieldOff.mk (by kernel_rfl)) rfl ho (by exact Nat.zero_add _)) ?_
  refine DC.op1 rfl rfl rfl rfl (fun _ ho => step_load Try.isAgg3 rfl ho rfl) ?_
  refine DC.op1 rfl rfl rfl rfl (fun _ ho => step_fieldR (k := 2) (FieldOff.mk (by kernel_rfl)) rfl ho (by exact Nat.zero_add _)) ?_
  refine DC.op1 rfl rfl rfl rfl (fun _ ho => step_load Try.isAgg3 rfl ho rfl) ?_
  refine DC.op1 rfl rfl rfl rfl (fun _ ho => step_fieldR (k := 3) (FieldOff.mk (by kernel_rfl)) rfl ho (by exact Nat.zero_add _)) ?_
  refine DC.op1 rfl rfl rfl rfl (fun _ ho => step_load Try.isAgg22 rfl ho rfl) ?_
  refine DC.op1 rfl rfl rfl rfl (fun _ ho => step_fieldR (k := 1) (FieldOff.mk (by kernel_rfl)) rfl ho (by exact Nat.zero_add _)) ?_
  refine DC.opE0 rfl rfl (step_store1 Try.sizeOf3 rfl rfl rfl rfl (by (simp only [List.length_map, List.length_append, List.length_take, List.length_drop, List.length_set, List.length_cons, List.length_nil, List.length_replicate] <;> omega))) (by simp) (by repeat (first | exact True.intro | refine And.intro (by rfl) ?_)) (by repeat (first | exact True.intro | refine And.intro (by rfl) ?_)) ?_
  refine DC.op1 rfl rfl rfl rfl (fun _ ho => step_fieldR (k := 2) (FieldOff.mk (by kernel_rfl)) rfl ho (by exact Nat.zero_add _)) ?_
  refine DC.opE0 rfl rfl (step_store1 Try.sizeOf3 rfl rfl rfl rfl (by (simp only [List.length_map, List.length_append, List.length_take, List.length_drop, List.length_set, List.length_cons, List.length_nil, List.length_replicate] <;> omega))) (by simp) (by repeat (first | exact True.intro | refine And.intro (by rfl) ?_)) (by repeat (first | exact True.intro | refine And.intro (by rfl) ?_)) ?_
  refine DC.op1 rfl rfl rfl rfl (fun _ ho => step_fieldR (k := 3) (FieldOff.mk (by kernel_rfl)) rfl ho (by exact Nat.zero_add _)) ?_
  refine DC.opE0 rfl rfl (step_store1 Try.sizeOf22 rfl rfl rfl rfl (by (simp only [List.length_map, List.length_append, List.length_take, List.length_drop, List.length_set, List.length_cons, List.length_nil, List.length_replicate] <;> omega))) (by simp) (by repeat (first | exact True.intro | refine And.intro (by rfl) ?_)) (by repeat (first | exact True.intro | refine And.intro (by rfl) ?_)) ?_
  refine DC.op rfl rfl rfl (fun _ => as_sc rfl) ?_
  refine DC.fin [(0, 0), (1, 0), (2, 0), (2, 1), (3, 0), (3, 1), (4, 0), (4, 1), (4, 2), (5, 0), (5, 1), (5, 2), (6, 0), (8, 1), (10, 2)] (by kernel_rfl) (by kernel_rfl) ?_ ?_
  · repeat (first | exact True.intro | refine And.intro ?_ ?_ | kernel_rfl)
  · refine W.seq ?_
    refine W.seq ?_
    refine W.to [(0, _), (1, _), (2, _), (3, _), (4, _), (11, _), (12, _), (14, _)] [_, _] rfl ⟨(by exact sh_agg rfl), (by exact sh_ptr rfl), (by exact sh_sc rfl), (by exact sh_ptr rfl), (by exact sh_sc rfl), (by exact sh_sc rfl), (by exact sh_sc rfl), (by exact sh_sc rfl), trivial⟩ ?_
    refine W.region ?_
    refine WO.op rfl rfl rfl rfl (step_loadA Try.isAgg25 Try.sizeOf25 rfl rfl (by exact Nat.le_refl _)) ?_
    refine WO.put 66 (.agg [.sc (.int .i64 1), .sc (.int .i64 a1), .sc (.int .i64 a2), .sc (.int .u32 a3), .sc (.int .i64 0), .sc (.int .i64 0), .sc (.bool false), .sc (.int .u32 0), .sc (.int .u32 0), .sc (.int .i64 0), .sc (.int .i64 0), .sc (.int .i64 0), .sc (.string ⟨#[]⟩), .sc (.string a13)]) (by kernel_rfl) ?_
    refine WO.op rfl rfl rfl rfl (step_loadA Try.isAgg25 Try.sizeOf25 rfl rfl (by exact Nat.le_refl _)) ?_
    refine WO.put 67 (.agg [.sc (.int .i64 1), .sc (.int .i64 a1), .sc (.int .i64 a2), .sc (.int .u32 a3), .sc (.int .i64 0), .sc (.int .i64 0), .sc (.bool false), .sc (.int .u32 0), .sc (.int .u32 0), .sc (.int .i64 0), .sc (.int .i64 0), .sc (.int .i64 0), .sc (.string ⟨#[]⟩), .sc (.string a13)]) (by kernel_rfl) ?_
    refine WO.op rfl rfl rfl rfl (ne_L4 (a0 := 1) (a1 := a1) (a2 := a2) (a3 := a3) (a4 := 0) (a5 := 0) (a6 := false) (a7 := 0) (a8 := 0) (a9 := 0) (a10 := 0) (a11 := 0) (a12 := ⟨#[]⟩) (a13 := a13) (by (constructor <;> decide)) (by assumption) (by assumption) (by assumption) (by (constructor <;> decide)) (by (constructor <;> decide)) (by (constructor <;> decide)) (by (constructor <;> decide)) (by (constructor <;> decide)) (by (constructor <;> decide)) (by (constructor <;> decide)) (by decide) (by assumption) rfl rfl) ?_
    refine WO.put 68 (.sc (.bool false)) (rfl) ?_
    refine WO.op rfl rfl rfl rfl (mv_sc rfl) ?_
    refine WO.op rfl rfl rfl rfl (step_fieldR (k := 1) (FieldOff.mk (by kernel_rfl)) rfl rfl (by exact Nat.zero_add _)) ?_
    refine WO.op rfl rfl rfl rfl (step_load Try.isAgg3 rfl rfl rfl) ?_
    refine WO.op rfl rfl rfl rfl (step_pure Try.call34 rfl (by (repeat (first | exact Nl.nil | refine Nl.keep (by rfl) ?_))) (w_to) (by repeat (rfl))) ?_
    refine WO.op rfl rfl rfl rfl (step_not rfl) ?_
    refine WO.op rfl rfl rfl rfl (pk_f rfl rfl rfl) ?_
    refine WO.op rfl rfl rfl rfl (mv_sc rfl) ?_
    refine WO.spl 75 rfl (fun h1 => ?_) (fun h1 => ?_)
    · try simp only [decide_eq_true_eq, decide_eq_false_iff_not, Bool.not_eq_true', Bool.not_eq_false', beq_iff_eq, bne_iff_ne, beq_eq_false_iff_ne, bne_eq_false_iff_eq, gt_iff_lt, ge_iff_le, Int.not_lt, Int.not_le] at h1
      iterate 7 (refine WO.sk rfl rfl rfl rfl ?_; refine WO.sk rfl rfl rfl rfl ?_; refine WO.sk rfl rfl rfl rfl ?_; refine WO.sk rfl rfl rfl rfl ?_; refine WO.op rfl rfl rfl rfl (pk_t rfl rfl rfl) ?_; refine WO.op rfl rfl rfl rfl (mv_sc rfl) ?_)
      iterate 5 (refine WO.sk rfl rfl rfl rfl ?_)
      refine WO.op rfl rfl rfl rfl (pk_t rfl rfl rfl) ?_
      refine WO.op rfl rfl rfl rfl (mv_sc rfl) ?_
      iterate 6 (refine WO.sk rfl rfl rfl rfl ?_)
      refine WO.op rfl rfl rfl rfl (pk_t rfl rfl rfl) ?_
      refine WO.nil ?_
      refine W.condT rfl ?_
      refine W.seq ?_
      refine W.to [(0, _), (1, _), (2, _), (3, _), (4, _), (11, _), (12, _), (14, _), (131, _)] [_, _] rfl ⟨(by exact sh_agg rfl), (by exact sh_ptr rfl), (by exact sh_sc rfl), (by exact sh_ptr rfl), (by exact sh_sc rfl), (by exact sh_sc rfl), (by exact sh_sc rfl), (by exact sh_sc rfl), (by exact sh_sc rfl), trivial⟩ ?_
      refine W.region ?_
      refine WO.op rfl rfl rfl rfl (as_sc rfl) ?_
      refine WO.nil ?_
      refine W.ret ?_
      refine ⟨.inl rfl, ?_⟩
      exact ret0 (Res.tmp rfl Res.nil) (.keep rfl)
    · try simp only [decide_eq_true_eq, decide_eq_false_iff_not, Bool.not_eq_true', Bool.not_eq_false', beq_iff_eq, bne_iff_ne, beq_eq_false_iff_ne, bne_eq_false_iff_eq, gt_iff_lt, ge_iff_le, Int.not_lt, Int.not_le] at h1
      refine WO.op rfl rfl rfl rfl (step_fieldR (k := 2) (FieldOff.mk (by kernel_rfl)) rfl rfl (by exact Nat.zero_add _)) ?_
      refine WO.op rfl rfl rfl rfl (step_load Try.isAgg3 rfl rfl rfl) ?_
      refine WO.op rfl rfl rfl rfl (step_pure Try.call34 rfl (by (repeat (first | exact Nl.nil | refine Nl.keep (by rfl) ?_))) (w_to) (by repeat (rfl))) ?_
      refine WO.op rfl rfl rfl rfl (step_not rfl) ?_
      refine WO.op rfl rfl rfl rfl (pk_f rfl rfl rfl) ?_
      refine WO.op rfl rfl rfl rfl (mv_sc rfl) ?_
      refine WO.spl 81 rfl (fun h2 => ?_) (fun h2 => ?_)
      · try simp only [decide_eq_true_eq, decide_eq_false_iff_not, Bool.not_eq_true', Bool.not_eq_false', beq_iff_eq, bne_iff_ne, beq_eq_false_iff_ne, bne_eq_false_iff_eq, gt_iff_lt, ge_iff_le, Int.not_lt, Int.not_le] at h2
        iterate 6 (refine WO.sk rfl rfl rfl rfl ?_; refine WO.sk rfl rfl rfl rfl ?_; refine WO.sk rfl rfl rfl rfl ?_; refine WO.sk rfl rfl rfl rfl ?_; refine WO.op rfl rfl rfl rfl (pk_t rfl rfl rfl) ?_; refine WO.op rfl rfl rfl rfl (mv_sc rfl) ?_)
        iterate 5 (refine WO.sk rfl rfl rfl rfl ?_)
        refine WO.op rfl rfl rfl rfl (pk_t rfl rfl rfl) ?_
        refine WO.op rfl rfl rfl rfl (mv_sc rfl) ?_
        iterate 6 (refine WO.sk rfl rfl rfl rfl ?_)
        refine WO.op rfl rfl rfl rfl (pk_t rfl rfl rfl) ?_
        refine WO.nil ?_
        refine W.condT rfl ?_
        refine W.seq ?_
        refine W.to [(0, _), (1, _), (2, _), (3, _), (4, _), (11, _), (12, _), (14, _), (131, _)] [_, _] rfl ⟨(by exact sh_agg rfl), (by exact sh_ptr rfl), (by exact sh_sc rfl), (by exact sh_ptr rfl), (by exact sh_sc rfl), (by exact sh_sc rfl), (by exact sh_sc rfl), (by exact sh_sc rfl), (by exact sh_sc rfl), trivial⟩ ?_
        refine W.region ?_
        refine WO.op rfl rfl rfl rfl (as_sc rfl) ?_
        refine WO.nil ?_
        refine W.ret ?_
        refine ⟨.inl rfl, ?_⟩
        exact ret0 (Res.tmp rfl Res.nil) (.keep rfl)
      · try simp only [decide_eq_true_eq, decide_eq_false_iff_not, Bool.not_eq_true', Bool.not_eq_false', beq_iff_eq, bne_iff_ne, beq_eq_false_iff_ne, bne_eq_false_iff_eq, gt_iff_lt, ge_iff_le, Int.not_lt, Int.not_le] at h2
        refine WO.op rfl rfl rfl rfl (step_fieldR (k := 4) (FieldOff.mk (by kernel_rfl)) rfl rfl (by exact Nat.zero_add _)) ?_
        refine WO.op rfl rfl rfl rfl (step_load Try.isAgg3 rfl rfl rfl) ?_
        refine WO.op rfl rfl rfl rfl (step_pure Try.call34 rfl (by (repeat (first | exact Nl.nil | refine Nl.keep (by rfl) ?_))) (w_to) (by repeat (rfl))) ?_
        refine WO.op rfl rfl rfl rfl (step_not rfl) ?_
        refine WO.op rfl rfl rfl rfl (pk_f rfl rfl rfl) ?_
        refine WO.op rfl rfl rfl rfl (mv_sc rfl) ?_
        refine WO.spl 87 rfl (fun h3 => ?_) (fun h3 => ?_)
        · try simp only [decide_eq_true_eq, decide_eq_false_iff_not, Bool.not_eq_true', Bool.not_eq_false', beq_iff_eq, bne_iff_ne, beq_eq_false_iff_ne, bne_eq_false_iff_eq, gt_iff_lt, ge_iff_le, Int.not_lt, Int.not_le] at h3
          iterate 5 (refine WO.sk rfl rfl rfl rfl ?_; refine WO.sk rfl rfl rfl rfl ?_; refine WO.sk rfl rfl rfl rfl ?_; refine WO.sk rfl rfl rfl rfl ?_; refine WO.op rfl rfl rfl rfl (pk_t rfl rfl rfl) ?_; refine WO.op rfl rfl rfl rfl (mv_sc rfl) ?_)
          iterate 5 (refine WO.sk rfl rfl rfl rfl ?_)
          refine WO.op rfl rfl rfl rfl (pk_t rfl rfl rfl) ?_
          refine WO.op rfl rfl rfl rfl (mv_sc rfl) ?_
          iterate 6 (refine WO.sk rfl rfl rfl rfl ?_)
          refine WO.op rfl rfl rfl rfl (pk_t rfl rfl rfl) ?_
          refine WO.nil ?_
          refine W.condT rfl ?_
          refine W.seq ?_
          refine W.to [(0, _), (1, _), (2, _), (3, _), (4, _), (11, _), (12, _), (14, _), (131, _)] [_, _] rfl ⟨(by exact sh_agg rfl), (by exact sh_ptr rfl), (by exact sh_sc rfl), (by exact sh_ptr rfl), (by exact sh_sc rfl), (by exact sh_sc rfl), (by exact sh_sc rfl), (by exact sh_sc rfl), (by exact sh_sc rfl), trivial⟩ ?_
          refine W.region ?_
          refine WO.op rfl rfl rfl rfl (as_sc rfl) ?_
          refine WO.nil ?_
          refine W.ret ?_
          refine ⟨.inl rfl, ?_⟩
          exact ret0 (Res.tmp rfl Res.nil) (.keep rfl)
        · try simp only [decide_eq_true_eq, decide_eq_false_iff_not, Bool.not_eq_true', Bool.not_eq_false', beq_iff_eq, bne_iff_ne, beq_eq_false_iff_ne, bne_eq_false_iff_eq, gt_iff_lt, ge_iff_le, Int.not_lt, Int.not_le] at h3
          refine WO.op rfl rfl rfl rfl (step_fieldR (k := 5) (FieldOff.mk (by kernel_rfl)) rfl rfl (by exact Nat.zero_add _)) ?_
          refine WO.op rfl rfl rfl rfl (step_load Try.isAgg3 rfl rfl rfl) ?_
          refine WO.op rfl rfl rfl rfl (step_pure Try.call34 rfl (by (repeat (first | exact Nl.nil | refine Nl.keep (by rfl) ?_))) (w_to) (by repeat (rfl))) ?_
          refine WO.op rfl rfl rfl rfl (step_not rfl) ?_
          refine WO.op rfl rfl rfl rfl (pk_f rfl rfl rfl) ?_
          refine WO.op rfl rfl rfl rfl (mv_sc rfl) ?_
          refine WO.spl 93 rfl (fun h4 => ?_) (fun h4 => ?_)
          · try simp only [decide_eq_true_eq, decide_eq_false_iff_not, Bool.not_eq_true', Bool.not_eq_false', beq_iff_eq, bne_iff_ne, beq_eq_false_iff_ne, bne_eq_false_iff_eq, gt_iff_lt, ge_iff_le, Int.not_lt, Int.not_le] at h4
            iterate 4 (refine WO.sk rfl rfl rfl rfl ?_; refine WO.sk rfl rfl rfl rfl ?_; refine WO.sk rfl rfl rfl rfl ?_; refine WO.sk rfl rfl rfl rfl ?_; refine WO.op rfl rfl rfl rfl (pk_t rfl rfl rfl) ?_; refine WO.op rfl rfl rfl rfl (mv_sc rfl) ?_)
            iterate 5 (refine WO.sk rfl rfl rfl rfl ?_)
            refine WO.op rfl rfl rfl rfl (pk_t rfl rfl rfl) ?_
            refine WO.op rfl rfl rfl rfl (mv_sc rfl) ?_
            iterate 6 (refine WO.sk rfl rfl rfl rfl ?_)
            refine WO.op rfl rfl rfl rfl (pk_t rfl rfl rfl) ?_
            refine WO.nil ?_
            refine W.condT rfl ?_
            refine W.seq ?_
            refine W.to [(0, _), (1, _), (2, _), (3, _), (4, _), (11, _), (12, _), (14, _), (131, _)] [_, _] rfl ⟨(by exact sh_agg rfl), (by exact sh_ptr rfl), (by exact sh_sc rfl), (by exact sh_ptr rfl), (by exact sh_sc rfl), (by exact sh_sc rfl), (by exact sh_sc rfl), (by exact sh_sc rfl), (by exact sh_sc rfl), trivial⟩ ?_
            refine W.region ?_
            refine WO.op rfl rfl rfl rfl (as_sc rfl) ?_
            refine WO.nil ?_
            refine W.ret ?_
            refine ⟨.inl rfl, ?_⟩
            exact ret0 (Res.tmp rfl Res.nil) (.keep rfl)
          · try simp only [decide_eq_true_eq, decide_eq_false_iff_not, Bool.not_eq_true', Bool.not_eq_false', beq_iff_eq, bne_iff_ne, beq_eq_false_iff_ne, bne_eq_false_iff_eq, gt_iff_lt, ge_iff_le, Int.not_lt, Int.not_le] at h4
            refine WO.op rfl rfl rfl rfl (step_fieldR (k := 10) (FieldOff.mk (by kernel_rfl)) rfl rfl (by exact Nat.zero_add _)) ?_
            refine WO.op rfl rfl rfl rfl (step_load Try.isAgg3 rfl rfl rfl) ?_
            refine WO.op rfl rfl rfl rfl (step_pure Try.call34 rfl (by (repeat (first | exact Nl.nil | refine Nl.keep (by rfl) ?_))) (w_to) (by repeat (rfl))) ?_
            refine WO.op rfl rfl rfl rfl (step_not rfl) ?_
            refine WO.op rfl rfl rfl rfl (pk_f rfl rfl rfl) ?_
            refine WO.op rfl rfl rfl rfl (mv_sc rfl) ?_
            refine WO.spl 99 rfl (fun h5 => ?_) (fun h5 => ?_)
            · try simp only [decide_eq_true_eq, decide_eq_false_iff_not, Bool.not_eq_true', Bool.not_eq_false', beq_iff_eq, bne_iff_ne, beq_eq_false_iff_ne, bne_eq_false_iff_eq, gt_iff_lt, ge_iff_le, Int.not_lt, Int.not_le] at h5
              iterate 3 (refine WO.sk rfl rfl rfl rfl ?_; refine WO.sk rfl rfl rfl rfl ?_; refine WO.sk rfl rfl rfl rfl ?_; refine WO.sk rfl rfl rfl rfl ?_; refine WO.op rfl rfl rfl rfl (pk_t rfl rfl rfl) ?_; refine WO.op rfl rfl rfl rfl (mv_sc rfl) ?_)
              iterate 5 (refine WO.sk rfl rfl rfl rfl ?_)
              refine WO.op rfl rfl rfl rfl (pk_t rfl rfl rfl) ?_
              refine WO.op rfl rfl rfl rfl (mv_sc rfl) ?_
              iterate 6 (refine WO.sk rfl rfl rfl rfl ?_)
              refine WO.op rfl rfl rfl rfl (pk_t rfl rfl rfl) ?_
              refine WO.nil ?_
              refine W.condT rfl ?_
              refine W.seq ?_
              refine W.to [(0, _), (1, _), (2, _), (3, _), (4, _), (11, _), (12, _), (14, _), (131, _)] [_, _] rfl ⟨(by exact sh_agg rfl), (by exact sh_ptr rfl), (by exact sh_sc rfl), (by exact sh_ptr rfl), (by exact sh_sc rfl), (by exact sh_sc rfl), (by exact sh_sc rfl), (by exact sh_sc rfl), (by exact sh_sc rfl), trivial⟩ ?_
              refine W.region ?_
              refine WO.op rfl rfl rfl rfl (as_sc rfl) ?_
              refine WO.nil ?_
              refine W.ret ?_
              refine ⟨.inl rfl, ?_⟩
              exact ret0 (Res.tmp rfl Res.nil) (.keep rfl)
            · try simp only [decide_eq_true_eq, decide_eq_false_iff_not, Bool.not_eq_true', Bool.not_eq_false', beq_iff_eq, bne_iff_ne, beq_eq_false_iff_ne, bne_eq_false_iff_eq, gt_iff_lt, ge_iff_le, Int.not_lt, Int.not_le] at h5
              refine WO.op rfl rfl rfl rfl (step_fieldR (k := 11) (FieldOff.mk (by kernel_rfl)) rfl rfl (by exact Nat.zero_add _)) ?_
              refine WO.op rfl rfl rfl rfl (step_load Try.isAgg3 rfl rfl rfl) ?_
              refine WO.op rfl rfl rfl rfl (step_pure Try.call34 rfl (by (repeat (first | exact Nl.nil | refine Nl.keep (by rfl) ?_))) (w_to) (by repeat (rfl))) ?_
              refine WO.op rfl rfl rfl rfl (step_not rfl) ?_
              refine WO.op rfl rfl rfl rfl (pk_f rfl rfl rfl) ?_
              refine WO.op rfl rfl rfl rfl (mv_sc rfl) ?_
              refine WO.spl 105 rfl (fun h6 => ?_) (fun h6 => ?_)
              · try simp only [decide_eq_true_eq, decide_eq_false_iff_not, Bool.not_eq_true', Bool.not_eq_false', beq_iff_eq, bne_iff_ne, beq_eq_false_iff_ne, bne_eq_false_iff_eq, gt_iff_lt, ge_iff_le, Int.not_lt, Int.not_le] at h6
                iterate 2 (refine WO.sk rfl rfl rfl rfl ?_; refine WO.sk rfl rfl rfl rfl ?_; refine WO.sk rfl rfl rfl rfl ?_; refine WO.sk rfl rfl rfl rfl ?_; refine WO.op rfl rfl rfl rfl (pk_t rfl rfl rfl) ?_; refine WO.op rfl rfl rfl rfl (mv_sc rfl) ?_)
                iterate 5 (refine WO.sk rfl rfl rfl rfl ?_)
                refine WO.op rfl rfl rfl rfl (pk_t rfl rfl rfl) ?_
                refine WO.op rfl rfl rfl rfl (mv_sc rfl) ?_
                iterate 6 (refine WO.sk rfl rfl rfl rfl ?_)
                refine WO.op rfl rfl rfl rfl (pk_t rfl rfl rfl) ?_
                refine WO.nil ?_
                refine W.condT rfl ?_
                refine W.seq ?_
                refine W.to [(0, _), (1, _), (2, _), (3, _), (4, _), (11, _), (12, _), (14, _), (131, _)] [_, _] rfl ⟨(by exact sh_agg rfl), (by exact sh_ptr rfl), (by exact sh_sc rfl), (by exact sh_ptr rfl), (by exact sh_sc rfl), (by exact sh_sc rfl), (by exact sh_sc rfl), (by exact sh_sc rfl), (by exact sh_sc rfl), trivial⟩ ?_
                refine W.region ?_
                refine WO.op rfl rfl rfl rfl (as_sc rfl) ?_
                refine WO.nil ?_
                refine W.ret ?_
                refine ⟨.inl rfl, ?_⟩
                exact ret0 (Res.tmp rfl Res.nil) (.keep rfl)
              · try simp only [decide_eq_true_eq, decide_eq_false_iff_not, Bool.not_eq_true', Bool.not_eq_false', beq_iff_eq, bne_iff_ne, beq_eq_false_iff_ne, bne_eq_false_iff_eq, gt_iff_lt, ge_iff_le, Int.not_lt, Int.not_le] at h6
                refine WO.op rfl rfl rfl rfl (step_fieldR (k := 9) (FieldOff.mk (by kernel_rfl)) rfl rfl (by exact Nat.zero_add _)) ?_
                refine WO.op rfl rfl rfl rfl (step_load Try.isAgg3 rfl rfl rfl) ?_
                refine WO.op rfl rfl rfl rfl (step_pure Try.call34 rfl (by (repeat (first | exact Nl.nil | refine Nl.keep (by rfl) ?_))) (w_to) (by repeat (rfl))) ?_
                refine WO.op rfl rfl rfl rfl (step_not rfl) ?_
                refine WO.op rfl rfl rfl rfl (pk_f rfl rfl rfl) ?_
                refine WO.op rfl rfl rfl rfl (mv_sc rfl) ?_
                refine WO.spl 111 rfl (fun h7 => ?_) (fun h7 => ?_)
                · try simp only [decide_eq_true_eq, decide_eq_false_iff_not, Bool.not_eq_true', Bool.not_eq_false', beq_iff_eq, bne_iff_ne, beq_eq_false_iff_ne, bne_eq_false_iff_eq, gt_iff_lt, ge_iff_le, Int.not_lt, Int.not_le] at h7
                  iterate 2 (refine WO.sk rfl rfl rfl rfl ?_; refine WO.sk rfl rfl rfl rfl ?_; refine WO.sk rfl rfl rfl rfl ?_; refine WO.sk rfl rfl rfl rfl ?_; refine WO.op rfl rfl rfl rfl (pk_t rfl rfl rfl) ?_; refine WO.op rfl rfl rfl rfl (mv_sc rfl) ?_; refine WO.sk rfl rfl rfl rfl ?_)
                  iterate 5 (refine WO.sk rfl rfl rfl rfl ?_)
                  refine WO.op rfl rfl rfl rfl (pk_t rfl rfl rfl) ?_
                  refine WO.nil ?_
                  refine W.condT rfl ?_
                  refine W.seq ?_
                  refine W.to [(0, _), (1, _), (2, _), (3, _), (4, _), (11, _), (12, _), (14, _), (131, _)] [_, _] rfl ⟨(by exact sh_agg rfl), (by exact sh_ptr rfl), (by exact sh_sc rfl), (by exact sh_ptr rfl), (by exact sh_sc rfl), (by exact sh_sc rfl), (by exact sh_sc rfl), (by exact sh_sc rfl), (by exact sh_sc rfl), trivial⟩ ?_
                  refine W.region ?_
                  refine WO.op rfl rfl rfl rfl (as_sc rfl) ?_
                  refine WO.nil ?_
                  refine W.ret ?_
                  refine ⟨.inl rfl, ?_⟩
                  exact ret0 (Res.tmp rfl Res.nil) (.keep rfl)
                · try simp only [decide_eq_true_eq, decide_eq_false_iff_not, Bool.not_eq_true', Bool.not_eq_false', beq_iff_eq, bne_iff_ne, beq_eq_false_iff_ne, bne_eq_false_iff_eq, gt_iff_lt, ge_iff_le, Int.not_lt, Int.not_le] at h7
                  refine WO.op rfl rfl rfl rfl (step_fieldR (k := 12) (FieldOff.mk (by kernel_rfl)) rfl rfl (by exact Nat.zero_add _)) ?_
                  refine WO.op rfl rfl rfl rfl (step_load Try.isAgg9 rfl rfl rfl) ?_
                  refine WO.op rfl rfl rfl rfl (step_lenS Try.runUnderlying9 rfl) ?_
                  refine WO.op rfl rfl rfl rfl (step_int2 rfl rfl rfl) ?_
                  refine WO.put 115 (.sc (.bool false)) (by kernel_rfl) ?_
                  refine WO.op rfl rfl rfl rfl (pk_f rfl rfl rfl) ?_
                  refine WO.op rfl rfl rfl rfl (mv_sc rfl) ?_
                  refine WO.op rfl rfl rfl rfl (step_fieldR (k := 12) (FieldOff.mk (by kernel_rfl)) rfl rfl (by exact Nat.zero_add _)) ?_
                  refine WO.op rfl rfl rfl rfl (step_load Try.isAgg9 rfl rfl rfl) ?_
                  refine WO.op rfl rfl rfl rfl (step_lenS Try.runUnderlying9 rfl) ?_
                  refine WO.op rfl rfl rfl rfl (step_remN (q := 4) rfl rfl (by omega)) ?_
                  refine WO.op rfl rfl rfl rfl (step_int2 rfl rfl rfl) ?_
                  refine WO.put 122 (.sc (.bool false)) (by kernel_rfl) ?_
                  refine WO.op rfl rfl rfl rfl (pk_f rfl rfl rfl) ?_
                  refine WO.op rfl rfl rfl rfl (mv_sc rfl) ?_
                  refine WO.op rfl rfl rfl rfl (step_fieldR (k := 13) (FieldOff.mk (by kernel_rfl)) rfl rfl (by exact Nat.zero_add _)) ?_
                  refine WO.op rfl rfl rfl rfl (step_load Try.isAgg9 rfl rfl rfl) ?_
                  refine WO.op rfl rfl rfl rfl (step_lenS Try.runUnderlying9 rfl) ?_
                  refine WO.op rfl rfl rfl rfl (mv_sc rfl) ?_
                  refine WO.op rfl rfl rfl rfl (step_subN (p := 65515) rfl rfl (by (simp only [List.length_map, List.length_append, List.length_take, List.length_drop, List.length_set, List.length_cons, List.length_nil, List.length_replicate] <;> omega)) (by (simp only [cap]; omega))) ?_
                  refine WO.op rfl rfl rfl rfl (step_int2 rfl rfl rfl) ?_
                  refine WO.op rfl rfl rfl rfl (pk_f rfl rfl rfl) ?_
                  refine WO.nil ?_
                  refine W.cond rfl (fun h8 => ?_) (fun h8 => ?_)
                  · try simp only [decide_eq_true_eq, decide_eq_false_iff_not, Bool.not_eq_true', Bool.not_eq_false', beq_iff_eq, bne_iff_ne, beq_eq_false_iff_ne, bne_eq_false_iff_eq, gt_iff_lt, ge_iff_le, Int.not_lt, Int.not_le] at h8
                    refine W.seq ?_
                    refine W.to [(0, _), (1, _), (2, _), (3, _), (4, _), (11, _), (12, _), (14, _), (131, _)] [_, _] rfl ⟨(by exact sh_agg rfl), (by exact sh_ptr rfl), (by exact sh_sc rfl), (by exact sh_ptr rfl), (by exact sh_sc rfl), (by exact sh_sc rfl), (by exact sh_sc rfl), (by exact sh_sc rfl), (by exact sh_sc rfl), trivial⟩ ?_
                    refine W.region ?_
                    refine WO.op rfl rfl rfl rfl (as_sc rfl) ?_
                    refine WO.nil ?_
                    refine W.ret ?_
                    refine ⟨.inl rfl, ?_⟩
                    exact ret0 (Res.tmp rfl Res.nil) (.keep rfl)
                  · try simp only [decide_eq_true_eq, decide_eq_false_iff_not, Bool.not_eq_true', Bool.not_eq_false', beq_iff_eq, bne_iff_ne, beq_eq_false_iff_ne, bne_eq_false_iff_eq, gt_iff_lt, ge_iff_le, Int.not_lt, Int.not_le] at h8
                    exact False.elim (h ⟨by omega, by omega, by omega⟩)

theorem w_rChkG1 {a1 : Int} {a2 : Int} {a3 : Int} {a13 : ByteArray} (g1 : isI a1) (g2 : isI a2) (g3 : isU a3) (g13 : a13.size ≤ 200000000000000) (h : (0 ≤ a1 ∧ a1 ≤ 255) ∧ (0 ≤ a2 ∧ a2 ≤ 255) ∧ (a13.size ≤ 65507)) : Spec0 Try.prog 14 [.agg [.sc (.int .i64 1), .sc (.int .i64 a1), .sc (.int .i64 a2), .sc (.int .u32 a3), .sc (.int .i64 0), .sc (.int .i64 0), .sc (.bool false), .sc (.int .u32 0), .sc (.int .u32 0), .sc (.int .i64 0), .sc (.int .i64 0), .sc (.int .i64 0), .sc (.string ⟨#[]⟩), .sc (.string a13)]] (.sc (.int .i64 0)) := by
  refine Spec.body Try.func14 rfl (Nat.le_of_ble_eq_true rfl) ?_
  simp only [isI, isU] at *
  refine W.seq ?_
  refine W.region ?_
  refine WO.opA rfl rfl rfl rfl (al_boxA rfl rfl) rfl rfl ?_
  refine WO.put 1 (.ptr 0 0) rfl ?_
  refine WO.op rfl rfl rfl rfl (as_sc rfl) ?_
  refine WO.nil ?_
  refine W.seq ?_
  refine W.to [(0, _), (1, _), (2, _)] [_] rfl ⟨(by exact sh_agg rfl), (by exact sh_ptr rfl), (by exact sh_sc rfl), trivial⟩ ?_
  refine W.region ?_
  refine WO.op rfl rfl rfl rfl (step_fieldR (k := 0) (FieldOff.mk (by kernel_rfl)) rfl rfl (by exact Nat.zero_add _)) ?_
  refine WO.op rfl rfl rfl rfl (step_load Try.isAgg3 rfl rfl rfl) ?_
  refine WO.op rfl rfl rfl rfl (step_fieldR (k := 13) (FieldOff.mk (by kernel_rfl)) rfl rfl (by exact Nat.zero_add _)) ?_
  refine WO.op rfl rfl rfl rfl (step_load Try.isAgg9 rfl rfl rfl) ?_
  refine WO.op rfl rfl rfl rfl (step_build (out := [.sc (.int .i64 1), .sc (.int .i64 0), .sc (.int .i64 0), .sc (.int .u32 0), .sc (.int .i64 0), .sc (.int .i64 0), .sc (.bool false), .sc (.int .u32 0), .sc (.int .u32 0), .sc (.int .i64 0), .sc (.int .i64 0), .sc (.int .i64 0), .sc (.string ⟨#[]⟩), .sc (.string a13)]) Try.zeroValue25 (pl := [(0, 1), (1, 1), (2, 1), (3, 1), (4, 1), (5, 1), (6, 1), (7, 1), (8, 1), (9, 1), (10, 1), (11, 1), (12, 1), (13, 1)]) (PlacesOf.mk (by kernel_rfl)) (by kernel_rfl)) ?_
  refine WO.put 9 (.agg [.sc (.int .i64 1), .sc (.int .i64 0), .sc (.int .i64 0), .sc (.int .u32 0), .sc (.int .i64 0), .sc (.int .i64 0), .sc (.bool false), .sc (.int .u32 0), .sc (.int .u32 0), .sc (.int .i64 0), .sc (.int .i64 0), .sc (.int .i64 0), .sc (.string ⟨#[]⟩), .sc (.string a13)]) (by kernel_rfl) ?_
  refine WO.opA rfl rfl rfl rfl (al_alloc Try.zeroValue25) rfl rfl ?_
  refine WO.put 3 (.ptr 1 0) rfl ?_
  refine WO.op0 rfl rfl rfl (step_storeA Try.sizeOf25 rfl rfl rfl (by repeat (exact all_cell rfl rfl)) rfl rfl) ?_
  refine WO.nil ?_
  refine W.seq ?_
  refine W.to [(0, _), (1, _), (2, _), (3, _)] [_, _] rfl ⟨(by exact sh_agg rfl), (by exact sh_ptr rfl), (by exact sh_sc rfl), (by exact sh_ptr rfl), trivial⟩ ?_
  refine W.region ?_
  refine WO.op rfl rfl rfl rfl (as_sc rfl) ?_
  refine WO.nil ?_
  refine W.seq ?_
  refine W.seq ?_
  refine W.to [(0, _), (1, _), (2, _), (3, _), (4, _)] [_, _] rfl ⟨(by exact sh_agg rfl), (by exact sh_ptr rfl), (by exact sh_sc rfl), (by exact sh_ptr rfl), (by exact sh_sc rfl), trivial⟩ ?_
  refine W.region ?_
  refine WO.op rfl rfl rfl rfl (step_fieldR (k := 0) (FieldOff.mk (by kernel_rfl)) rfl rfl (by exact Nat.zero_add _)) ?_
  refine WO.op rfl rfl rfl rfl (step_load Try.isAgg3 rfl rfl rfl) ?_
  refine WO.nil ?_
  refine W.block ?_
  refine W.seq ?_
  refine W.to [(0, _), (1, _), (2, _), (3, _), (4, _), (11, _)] [_, _] rfl ⟨(by exact sh_agg rfl), (by exact sh_ptr rfl), (by exact sh_sc rfl), (by exact sh_ptr rfl), (by exact sh_sc rfl), (by exact sh_sc rfl), trivial⟩ ?_
  refine W.region ?_
  refine WO.op rfl rfl rfl rfl (step_int2 rfl rfl rfl) ?_
  refine WO.put 13 (.sc (.bool false)) (by kernel_rfl) ?_
  refine WO.op rfl rfl rfl rfl (as_sc rfl) ?_
  refine WO.nil ?_
  refine W.condF rfl ?_
  refine W.seq ?_
  refine W.to [(0, _), (1, _), (2, _), (3, _), (4, _), (11, _), (12, _)] [_, _] rfl ⟨(by exact sh_agg rfl), (by exact sh_ptr rfl), (by exact sh_sc rfl), (by exact sh_ptr rfl), (by exact sh_sc rfl), (by exact sh_sc rfl), (by exact sh_sc rfl), trivial⟩ ?_
  refine W.region ?_
  refine WO.op rfl rfl rfl rfl (step_int2 rfl rfl rfl) ?_
  refine WO.put 15 (.sc (.bool true)) (by kernel_rfl) ?_
  refine WO.op rfl rfl rfl rfl (as_sc rfl) ?_
  refine WO.nil ?_
  refine W.condT rfl ?_
  refine W.to [(0, _), (1, _), (2, _), (3, _), (4, _), (11, _), (12, _), (14, _)] [_, _] rfl ⟨(by exact sh_agg rfl), (by exact sh_ptr rfl), (by exact sh_sc rfl), (by exact sh_ptr rfl), (by exact sh_sc rfl), (by exact sh_sc rfl), (by exact sh_sc rfl), (by exact sh_sc rfl), trivial⟩ ?_
  refine W.draw (Checked.mixed Try.checked) ?_
  refine DC.op1 rfl rfl rfl rfl (fun _ ho => step_fieldR (k := 1) (FieldOff.mk (by kernel_rfl)) rfl ho (by exact Nat.zero_add _)) ?_
  refine DC.op1 rfl rfl rfl rfl (fun _ ho => step_load Try.isAgg3 rfl ho rfl) ?_
  refine DC.op1 rfl rfl rfl rfl (fun _ ho => step_fieldR (k := 2) (FieldOff.mk (by kernel_rfl)) rfl ho (by exact Nat.zero_add _)) ?_
  refine DC.op1 rfl rfl rfl rfl (fun _ ho => step_load Try.isAgg3 rfl ho rfl) ?_
  refine DC.op1 rfl rfl rfl rfl (fun _ ho => step_fieldR (k := 3) (FieldOff.mk (by kernel_rfl)) rfl ho (by exact Nat.zero_add _)) ?_
  refine DC.op1 rfl rfl rfl rfl (fun _ ho => step_load Try.isAgg22 rfl ho rfl) ?_
  refine DC.op1 rfl rfl rfl rfl (fun _ ho => step_fieldR (k := 1) (FieldOff.mk (by kernel_rfl)) rfl ho (by exact Nat.zero_add _)) ?_
  refine DC.opE0 rfl rfl (step_store1 Try.sizeOf3 rfl rfl rfl rfl (by (simp only [List.length_map, List.length_append, List.length_take, List.length_drop, List.length_set, List.length_cons, List.length_nil, List.length_replicate] <;> omega))) (by simp) (by repeat (first | exact True.intro | refine And.intro (by rfl) ?_)) (by repeat (first | exact True.intro | refine And.intro (by rfl) ?_)) ?_
  refine DC.op1 rfl rfl rfl rfl (fun _ ho => step_fieldR (k := 2) (FieldOff.mk (by kernel_rfl)) rfl ho (by exact Nat.zero_add _)) ?_
  refine DC.opE0 rfl rfl (step_store1 Try.sizeOf3 rfl rfl rfl rfl (by (simp only [List.length_map, List.length_append, List.length_take, List.length_drop, List.length_set, List.length_cons, List.length_nil, List.length_replicate] <;> omega))) (by simp) (by repeat (first | exact True.intro | refine And.intro (by rfl) ?_)) (by repeat (first | exact True.intro | refine And.intro (by rfl) ?_)) ?_
  refine DC.op1 rfl rfl rfl rfl (fun _ ho => step_fieldR (k := 3) (FieldOff.mk (by kernel_rfl)) rfl ho (by exact Nat.zero_add _)) ?_
  refine DC.opE0 rfl rfl (step_store1 Try.sizeOf22 rfl rfl rfl rfl (by (simp only [List.length_map, List.length_append, List.length_take, List.length_drop, List.length_set, List.length_cons, List.length_nil, List.length_replicate] <;> omega))) (by simp) (by repeat (first | exact True.intro | refine And.intro (by rfl) ?_)) (by repeat (first | exact True.intro | refine And.intro (by rfl) ?_)) ?_
  refine DC.op rfl rfl rfl (fun _ => as_sc rfl) ?_
  refine DC.fin [(0, 0), (1, 0), (2, 0), (2, 1), (3, 0), (3, 1), (4, 0), (4, 1), (4, 2), (5, 0), (5, 1), (5, 2), (6, 0), (8, 1), (10, 2)] (by kernel_rfl) (by kernel_rfl) ?_ ?_
  · repeat (first | exact True.intro | refine And.intro ?_ ?_ | kernel_rfl)
  · refine W.seq ?_
    refine W.seq ?_
    refine W.to [(0, _), (1, _), (2, _), (3, _), (4, _), (11, _), (12, _), (14, _)] [_, _] rfl ⟨(by exact sh_agg rfl), (by exact sh_ptr rfl), (by exact sh_sc rfl), (by exact sh_ptr rfl), (by exact sh_sc rfl), (by exact sh_sc rfl), (by exact sh_sc rfl), (by exact sh_sc rfl), trivial⟩ ?_
    refine W.region ?_
    refine WO.op rfl rfl rfl rfl (step_loadA Try.isAgg25 Try.sizeOf25 rfl rfl (by exact Nat.le_refl _)) ?_
    refine WO.put 66 (.agg [.sc (.int .i64 1), .sc (.int .i64 a1), .sc (.int .i64 a2), .sc (.int .u32 a3), .sc (.int .i64 0), .sc (.int .i64 0), .sc (.bool false), .sc (.int .u32 0), .sc (.int .u32 0), .sc (.int .i64 0), .sc (.int .i64 0), .sc (.int .i64 0), .sc (.string ⟨#[]⟩), .sc (.string a13)]) (by kernel_rfl) ?_
    refine WO.op rfl rfl rfl rfl (step_loadA Try.isAgg25 Try.sizeOf25 rfl rfl (by exact Nat.le_refl _)) ?_
    refine WO.put 67 (.agg [.sc (.int .i64 1), .sc (.int .i64 a1), .sc (.int .i64 a2), .sc (.int .u32 a3), .sc (.int .i64 0), .sc (.int .i64 0), .sc (.bool false), .sc (.int .u32 0), .sc (.int .u32 0), .sc (.int .i64 0), .sc (.int .i64 0), .sc (.int .i64 0), .sc (.string ⟨#[]⟩), .sc (.string a13)]) (by kernel_rfl) ?_
    refine WO.op rfl rfl rfl rfl (ne_L4 (a0 := 1) (a1 := a1) (a2 := a2) (a3 := a3) (a4 := 0) (a5 := 0) (a6 := false) (a7 := 0) (a8 := 0) (a9 := 0) (a10 := 0) (a11 := 0) (a12 := ⟨#[]⟩) (a13 := a13) (by (constructor <;> decide)) (by assumption) (by assumption) (by assumption) (by (constructor <;> decide)) (by (constructor <;> decide)) (by (constructor <;> decide)) (by (constructor <;> decide)) (by (constructor <;> decide)) (by (constructor <;> decide)) (by (constructor <;> decide)) (by decide) (by assumption) rfl rfl) ?_
    refine WO.put 68 (.sc (.bool false)) (rfl) ?_
    refine WO.op rfl rfl rfl rfl (mv_sc rfl) ?_
    refine WO.op rfl rfl rfl rfl (step_fieldR (k := 1) (FieldOff.mk (by kernel_rfl)) rfl rfl (by exact Nat.zero_add _)) ?_
    refine WO.op rfl rfl rfl rfl (step_load Try.isAgg3 rfl rfl rfl) ?_
    refine WO.op rfl rfl rfl rfl (step_pure Try.call34 rfl (by (repeat (first | exact Nl.nil | refine Nl.keep (by rfl) ?_))) (w_to) (by repeat (rfl))) ?_
    refine WO.op rfl rfl rfl rfl (step_not rfl) ?_
    refine WO.op rfl rfl rfl rfl (pk_f rfl rfl rfl) ?_
    refine WO.op rfl rfl rfl rfl (mv_sc rfl) ?_
    refine WO.spl 75 rfl (fun h1 => ?_) (fun h1 => ?_)
    · try simp only [decide_eq_true_eq, decide_eq_false_iff_not, Bool.not_eq_true', Bool.not_eq_false', beq_iff_eq, bne_iff_ne, beq_eq_false_iff_ne, bne_eq_false_iff_eq, gt_iff_lt, ge_iff_le, Int.not_lt, Int.not_le] at h1
      exact False.elim (by omega)
    · try simp only [decide_eq_true_eq, decide_eq_false_iff_not, Bool.not_eq_true', Bool.not_eq_false', beq_iff_eq, bne_iff_ne, beq_eq_false_iff_ne, bne_eq_false_iff_eq, gt_iff_lt, ge_iff_le, Int.not_lt, Int.not_le] at h1
      refine WO.op rfl rfl rfl rfl (step_fieldR (k := 2) (FieldOff.mk (by kernel_rfl)) rfl rfl (by exact Nat.zero_add _)) ?_
      refine WO.op rfl rfl rfl rfl (step_load Try.isAgg3 rfl rfl rfl) ?_
      refine WO.op rfl rfl rfl rfl (step_pure Try.call34 rfl (by (repeat (first | exact Nl.nil | refine Nl.keep (by rfl) ?_))) (w_to) (by repeat (rfl))) ?_
      refine WO.op rfl rfl rfl rfl (step_not rfl) ?_
      refine WO.op rfl rfl rfl rfl (pk_f rfl rfl rfl) ?_
      refine WO.op rfl rfl rfl rfl (mv_sc rfl) ?_
      refine WO.spl 81 rfl (fun h2 => ?_) (fun h2 => ?_)
      · try simp only [decide_eq_true_eq, decide_eq_false_iff_not, Bool.not_eq_true', Bool.not_eq_false', beq_iff_eq, bne_iff_ne, beq_eq_false_iff_ne, bne_eq_false_iff_eq, gt_iff_lt, ge_iff_le, Int.not_lt, Int.not_le] at h2
        exact False.elim (by omega)
      · try simp only [decide_eq_true_eq, decide_eq_false_iff_not, Bool.not_eq_true', Bool.not_eq_false', beq_iff_eq, bne_iff_ne, beq_eq_false_iff_ne, bne_eq_false_iff_eq, gt_iff_lt, ge_iff_le, Int.not_lt, Int.not_le] at h2
        refine WO.op rfl rfl rfl rfl (step_fieldR (k := 4) (FieldOff.mk (by kernel_rfl)) rfl rfl (by exact Nat.zero_add _)) ?_
        refine WO.op rfl rfl rfl rfl (step_load Try.isAgg3 rfl rfl rfl) ?_
        refine WO.op rfl rfl rfl rfl (step_pure Try.call34 rfl (by (repeat (first | exact Nl.nil | refine Nl.keep (by rfl) ?_))) (w_to) (by repeat (rfl))) ?_
        refine WO.op rfl rfl rfl rfl (step_not rfl) ?_
        refine WO.op rfl rfl rfl rfl (pk_f rfl rfl rfl) ?_
        refine WO.op rfl rfl rfl rfl (mv_sc rfl) ?_
        refine WO.spl 87 rfl (fun h3 => ?_) (fun h3 => ?_)
        · try simp only [decide_eq_true_eq, decide_eq_false_iff_not, Bool.not_eq_true', Bool.not_eq_false', beq_iff_eq, bne_iff_ne, beq_eq_false_iff_ne, bne_eq_false_iff_eq, gt_iff_lt, ge_iff_le, Int.not_lt, Int.not_le] at h3
          exact False.elim (by omega)
        · try simp only [decide_eq_true_eq, decide_eq_false_iff_not, Bool.not_eq_true', Bool.not_eq_false', beq_iff_eq, bne_iff_ne, beq_eq_false_iff_ne, bne_eq_false_iff_eq, gt_iff_lt, ge_iff_le, Int.not_lt, Int.not_le] at h3
          refine WO.op rfl rfl rfl rfl (step_fieldR (k := 5) (FieldOff.mk (by kernel_rfl)) rfl rfl (by exact Nat.zero_add _)) ?_
          refine WO.op rfl rfl rfl rfl (step_load Try.isAgg3 rfl rfl rfl) ?_
          refine WO.op rfl rfl rfl rfl (step_pure Try.call34 rfl (by (repeat (first | exact Nl.nil | refine Nl.keep (by rfl) ?_))) (w_to) (by repeat (rfl))) ?_
          refine WO.op rfl rfl rfl rfl (step_not rfl) ?_
          refine WO.op rfl rfl rfl rfl (pk_f rfl rfl rfl) ?_
          refine WO.op rfl rfl rfl rfl (mv_sc rfl) ?_
          refine WO.spl 93 rfl (fun h4 => ?_) (fun h4 => ?_)
          · try simp only [decide_eq_true_eq, decide_eq_false_iff_not, Bool.not_eq_true', Bool.not_eq_false', beq_iff_eq, bne_iff_ne, beq_eq_false_iff_ne, bne_eq_false_iff_eq, gt_iff_lt, ge_iff_le, Int.not_lt, Int.not_le] at h4
            exact False.elim (by omega)
          · try simp only [decide_eq_true_eq, decide_eq_false_iff_not, Bool.not_eq_true', Bool.not_eq_false', beq_iff_eq, bne_iff_ne, beq_eq_false_iff_ne, bne_eq_false_iff_eq, gt_iff_lt, ge_iff_le, Int.not_lt, Int.not_le] at h4
            refine WO.op rfl rfl rfl rfl (step_fieldR (k := 10) (FieldOff.mk (by kernel_rfl)) rfl rfl (by exact Nat.zero_add _)) ?_
            refine WO.op rfl rfl rfl rfl (step_load Try.isAgg3 rfl rfl rfl) ?_
            refine WO.op rfl rfl rfl rfl (step_pure Try.call34 rfl (by (repeat (first | exact Nl.nil | refine Nl.keep (by rfl) ?_))) (w_to) (by repeat (rfl))) ?_
            refine WO.op rfl rfl rfl rfl (step_not rfl) ?_
            refine WO.op rfl rfl rfl rfl (pk_f rfl rfl rfl) ?_
            refine WO.op rfl rfl rfl rfl (mv_sc rfl) ?_
            refine WO.spl 99 rfl (fun h5 => ?_) (fun h5 => ?_)
            · try simp only [decide_eq_true_eq, decide_eq_false_iff_not, Bool.not_eq_true', Bool.not_eq_false', beq_iff_eq, bne_iff_ne, beq_eq_false_iff_ne, bne_eq_false_iff_eq, gt_iff_lt, ge_iff_le, Int.not_lt, Int.not_le] at h5
              exact False.elim (by omega)
            · try simp only [decide_eq_true_eq, decide_eq_false_iff_not, Bool.not_eq_true', Bool.not_eq_false', beq_iff_eq, bne_iff_ne, beq_eq_false_iff_ne, bne_eq_false_iff_eq, gt_iff_lt, ge_iff_le, Int.not_lt, Int.not_le] at h5
              refine WO.op rfl rfl rfl rfl (step_fieldR (k := 11) (FieldOff.mk (by kernel_rfl)) rfl rfl (by exact Nat.zero_add _)) ?_
              refine WO.op rfl rfl rfl rfl (step_load Try.isAgg3 rfl rfl rfl) ?_
              refine WO.op rfl rfl rfl rfl (step_pure Try.call34 rfl (by (repeat (first | exact Nl.nil | refine Nl.keep (by rfl) ?_))) (w_to) (by repeat (rfl))) ?_
              refine WO.op rfl rfl rfl rfl (step_not rfl) ?_
              refine WO.op rfl rfl rfl rfl (pk_f rfl rfl rfl) ?_
              refine WO.op rfl rfl rfl rfl (mv_sc rfl) ?_
              refine WO.spl 105 rfl (fun h6 => ?_) (fun h6 => ?_)
              · try simp only [decide_eq_true_eq, decide_eq_false_iff_not, Bool.not_eq_true', Bool.not_eq_false', beq_iff_eq, bne_iff_ne, beq_eq_false_iff_ne, bne_eq_false_iff_eq, gt_iff_lt, ge_iff_le, Int.not_lt, Int.not_le] at h6
                exact False.elim (by omega)
              · try simp only [decide_eq_true_eq, decide_eq_false_iff_not, Bool.not_eq_true', Bool.not_eq_false', beq_iff_eq, bne_iff_ne, beq_eq_false_iff_ne, bne_eq_false_iff_eq, gt_iff_lt, ge_iff_le, Int.not_lt, Int.not_le] at h6
                refine WO.op rfl rfl rfl rfl (step_fieldR (k := 9) (FieldOff.mk (by kernel_rfl)) rfl rfl (by exact Nat.zero_add _)) ?_
                refine WO.op rfl rfl rfl rfl (step_load Try.isAgg3 rfl rfl rfl) ?_
                refine WO.op rfl rfl rfl rfl (step_pure Try.call34 rfl (by (repeat (first | exact Nl.nil | refine Nl.keep (by rfl) ?_))) (w_to) (by repeat (rfl))) ?_
                refine WO.op rfl rfl rfl rfl (step_not rfl) ?_
                refine WO.op rfl rfl rfl rfl (pk_f rfl rfl rfl) ?_
                refine WO.op rfl rfl rfl rfl (mv_sc rfl) ?_
                refine WO.spl 111 rfl (fun h7 => ?_) (fun h7 => ?_)
                · try simp only [decide_eq_true_eq, decide_eq_false_iff_not, Bool.not_eq_true', Bool.not_eq_false', beq_iff_eq, bne_iff_ne, beq_eq_false_iff_ne, bne_eq_false_iff_eq, gt_iff_lt, ge_iff_le, Int.not_lt, Int.not_le] at h7
                  exact False.elim (by omega)
                · try simp only [decide_eq_true_eq, decide_eq_false_iff_not, Bool.not_eq_true', Bool.not_eq_false', beq_iff_eq, bne_iff_ne, beq_eq_false_iff_ne, bne_eq_false_iff_eq, gt_iff_lt, ge_iff_le, Int.not_lt, Int.not_le] at h7
                  refine WO.op rfl rfl rfl rfl (step_fieldR (k := 12) (FieldOff.mk (by kernel_rfl)) rfl rfl (by exact Nat.zero_add _)) ?_
                  refine WO.op rfl rfl rfl rfl (step_load Try.isAgg9 rfl rfl rfl) ?_
                  refine WO.op rfl rfl rfl rfl (step_lenS Try.runUnderlying9 rfl) ?_
                  refine WO.op rfl rfl rfl rfl (step_int2 rfl rfl rfl) ?_
                  refine WO.put 115 (.sc (.bool false)) (by kernel_rfl) ?_
                  refine WO.op rfl rfl rfl rfl (pk_f rfl rfl rfl) ?_
                  refine WO.op rfl rfl rfl rfl (mv_sc rfl) ?_
                  refine WO.op rfl rfl rfl rfl (step_fieldR (k := 12) (FieldOff.mk (by kernel_rfl)) rfl rfl (by exact Nat.zero_add _)) ?_
                  refine WO.op rfl rfl rfl rfl (step_load Try.isAgg9 rfl rfl rfl) ?_
                  refine WO.op rfl rfl rfl rfl (step_lenS Try.runUnderlying9 rfl) ?_
                  refine WO.op rfl rfl rfl rfl (step_remN (q := 4) rfl rfl (by omega)) ?_
                  refine WO.op rfl rfl rfl rfl (step_int2 rfl rfl rfl) ?_
                  refine WO.put 122 (.sc (.bool false)) (by kernel_rfl) ?_
                  refine WO.op rfl rfl rfl rfl (pk_f rfl rfl rfl) ?_
                  refine WO.op rfl rfl rfl rfl (mv_sc rfl) ?_
                  refine WO.op rfl rfl rfl rfl (step_fieldR (k := 13) (FieldOff.mk (by kernel_rfl)) rfl rfl (by exact Nat.zero_add _)) ?_
                  refine WO.op rfl rfl rfl rfl (step_load Try.isAgg9 rfl rfl rfl) ?_
                  refine WO.op rfl rfl rfl rfl (step_lenS Try.runUnderlying9 rfl) ?_
                  refine WO.op rfl rfl rfl rfl (mv_sc rfl) ?_
                  refine WO.op rfl rfl rfl rfl (step_subN (p := 65515) rfl rfl (by (simp only [List.length_map, List.length_append, List.length_take, List.length_drop, List.length_set, List.length_cons, List.length_nil, List.length_replicate] <;> omega)) (by (simp only [cap]; omega))) ?_
                  refine WO.op rfl rfl rfl rfl (step_int2 rfl rfl rfl) ?_
                  refine WO.op rfl rfl rfl rfl (pk_f rfl rfl rfl) ?_
                  refine WO.nil ?_
                  refine W.cond rfl (fun h8 => ?_) (fun h8 => ?_)
                  · try simp only [decide_eq_true_eq, decide_eq_false_iff_not, Bool.not_eq_true', Bool.not_eq_false', beq_iff_eq, bne_iff_ne, beq_eq_false_iff_ne, bne_eq_false_iff_eq, gt_iff_lt, ge_iff_le, Int.not_lt, Int.not_le] at h8
                    exact False.elim (by omega)
                  · try simp only [decide_eq_true_eq, decide_eq_false_iff_not, Bool.not_eq_true', Bool.not_eq_false', beq_iff_eq, bne_iff_ne, beq_eq_false_iff_ne, bne_eq_false_iff_eq, gt_iff_lt, ge_iff_le, Int.not_lt, Int.not_le] at h8
                    refine W.skip ?_
                    refine W.seq ?_
                    refine W.to [(0, _), (1, _), (2, _), (3, _), (4, _), (11, _), (12, _), (14, _), (131, _)] [_, _] rfl ⟨(by exact sh_agg rfl), (by exact sh_ptr rfl), (by exact sh_sc rfl), (by exact sh_ptr rfl), (by exact sh_sc rfl), (by exact sh_sc rfl), (by exact sh_sc rfl), (by exact sh_sc rfl), (by exact sh_sc rfl), trivial⟩ ?_
                    refine W.region ?_
                    refine WO.op rfl rfl rfl rfl (as_sc rfl) ?_
                    refine WO.nil ?_
                    refine W.ret ?_
                    refine ⟨.inl rfl, ?_⟩
                    exact ret0 (Res.tmp rfl Res.nil) (.keep rfl)

theorem w_rChkN2 {a1 : Int} {a2 : Int} {a3 : Int} {a4 : Int} {a5 : Int} {a6 : Bool} {a7 : Int} {a8 : Int} {a9 : Int} {a10 : Int} {a11 : Int} {a12 : ByteArray} {a13 : ByteArray} (g1 : isI a1) (g2 : isI a2) (g3 : isU a3) (g4 : isI a4) (g5 : isI a5) (g7 : isU a7) (g8 : isU a8) (g9 : isI a9) (g10 : isI a10) (g11 : isI a11) (g12 : a12.size ≤ 200000000000000) (g13 : a13.size ≤ 200000000000000) (hne : ¬ (2 = (2 : Int) ∧ a1 = 0 ∧ a2 = 0 ∧ a3 = 0 ∧ a4 = a4 ∧ a5 = a5 ∧ a6 = a6 ∧ a7 = 0 ∧ a8 = 0 ∧ a9 = 0 ∧ a10 = 0 ∧ a11 = 0 ∧ a12.data.toList = (⟨#[]⟩ : ByteArray).data.toList ∧ a13.data.toList = (a13 : ByteArray).data.toList)) : Spec0 Try.prog 14 [.agg [.sc (.int .i64 2), .sc (.int .i64 a1), .sc (.int .i64 a2), .sc (.int .u32 a3), .sc (.int .i64 a4), .sc (.int .i64 a5), .sc (.bool a6), .sc (.int .u32 a7), .sc (.int .u32 a8), .sc (.int .i64 a9), .sc (.int .i64 a10), .sc (.int .i64 a11), .sc (.string a12), .sc (.string a13)]] (.sc (.int .i64 1)) := by
  refine Spec.body Try.func14 rfl (Nat.le_of_ble_eq_true rfl) ?_
  refine W.seq ?_
  refine W.region ?_
  refine WO.opA rfl rfl rfl rfl (al_boxA rfl rfl) rfl rfl ?_
  refine WO.put 1 (.ptr 0 0) rfl ?_
  refine WO.op rfl rfl rfl rfl (as_sc rfl) ?_
  refine WO.nil ?_
  refine W.seq ?_
  refine W.to [(0, _), (1, _), (2, _)] [_] rfl ⟨(by exact sh_agg rfl), (by exact sh_ptr rfl), (by exact sh_sc rfl), trivial⟩ ?_
  refine W.region ?_
  refine WO.op rfl rfl rfl rfl (step_fieldR (k := 0) (FieldOff.mk (by kernel_rfl)) rfl rfl (by exact Nat.zero_add _)) ?_
  refine WO.op rfl rfl rfl rfl (step_load Try.isAgg3 rfl rfl rfl) ?_
  refine WO.op rfl rfl rfl rfl (step_fieldR (k := 13) (FieldOff.mk (by kernel_rfl)) rfl rfl (by exact Nat.zero_add _)) ?_
  refine WO.op rfl rfl rfl rfl (step_load Try.isAgg9 rfl rfl rfl) ?_
  refine WO.op rfl rfl rfl rfl (step_build (out := [.sc (.int .i64 2), .sc (.int .i64 0), .sc (.int .i64 0), .sc (.int .u32 0), .sc (.int .i64 0), .sc (.int .i64 0), .sc (.bool false), .sc (.int .u32 0), .sc (.int .u32 0), .sc (.int .i64 0), .sc (.int .i64 0), .sc (.int .i64 0), .sc (.string ⟨#[]⟩), .sc (.string a13)]) Try.zeroValue25 (pl := [(0, 1), (1, 1), (2, 1), (3, 1), (4, 1), (5, 1), (6, 1), (7, 1), (8, 1), (9, 1), (10, 1), (11, 1), (12, 1), (13, 1)]) (PlacesOf.mk (by kernel_rfl)) (by kernel_rfl)) ?_
  refine WO.put 9 (.agg [.sc (.int .i64 2), .sc (.int .i64 0), .sc (.int .i64 0), .sc (.int .u32 0), .sc (.int .i64 0), .sc (.int .i64 0), .sc (.bool false), .sc (.int .u32 0), .sc (.int .u32 0), .sc (.int .i64 0), .sc (.int .i64 0), .sc (.int .i64 0), .sc (.string ⟨#[]⟩), .sc (.string a13)]) (by kernel_rfl) ?_
  refine WO.opA rfl rfl rfl rfl (al_alloc Try.zeroValue25) rfl rfl ?_
  refine WO.put 3 (.ptr 1 0) rfl ?_
  refine WO.op0 rfl rfl rfl (step_storeA Try.sizeOf25 rfl rfl rfl (by repeat (exact all_cell rfl rfl)) rfl rfl) ?_
  refine WO.nil ?_
  refine W.seq ?_
  refine W.to [(0, _), (1, _), (2, _), (3, _)] [_, _] rfl ⟨(by exact sh_agg rfl), (by exact sh_ptr rfl), (by exact sh_sc rfl), (by exact sh_ptr rfl), trivial⟩ ?_
  refine W.region ?_
  refine WO.op rfl rfl rfl rfl (as_sc rfl) ?_
  refine WO.nil ?_
  refine W.seq ?_
  refine W.seq ?_
  refine W.to [(0, _), (1, _), (2, _), (3, _), (4, _)] [_, _] rfl ⟨(by exact sh_agg rfl), (by exact sh_ptr rfl), (by exact sh_sc rfl), (by exact sh_ptr rfl), (by exact sh_sc rfl), trivial⟩ ?_
  refine W.region ?_
  refine WO.op rfl rfl rfl rfl (step_fieldR (k := 0) (FieldOff.mk (by kernel_rfl)) rfl rfl (by exact Nat.zero_add _)) ?_
  refine WO.op rfl rfl rfl rfl (step_load Try.isAgg3 rfl rfl rfl) ?_
  refine WO.nil ?_
  refine W.block ?_
  refine W.seq ?_
  refine W.to [(0, _), (1, _), (2, _), (3, _), (4, _), (11, _)] [_, _] rfl ⟨(by exact sh_agg rfl), (by exact sh_ptr rfl), (by exact sh_sc rfl), (by exact sh_ptr rfl), (by exact sh_sc rfl), (by exact sh_sc rfl), trivial⟩ ?_
  refine W.region ?_
  refine WO.op rfl rfl rfl rfl (step_int2 rfl rfl rfl) ?_
  refine WO.put 13 (.sc (.bool false)) (by kernel_rfl) ?_
  refine WO.op rfl rfl rfl rfl (as_sc rfl) ?_
  refine WO.nil ?_
  refine W.condF rfl ?_
  refine W.seq ?_
  refine W.to [(0, _), (1, _), (2, _), (3, _), (4, _), (11, _), (12, _)] [_, _] rfl ⟨(by exact sh_agg rfl), (by exact sh_ptr rfl), (by exact sh_sc rfl), (by exact sh_ptr rfl), (by exact sh_sc rfl), (by exact sh_sc rfl), (by exact sh_sc rfl), trivial⟩ ?_
  refine W.region ?_
  refine WO.op rfl rfl rfl rfl (step_int2 rfl rfl rfl) ?_
  refine WO.put 15 (.sc (.bool false)) (by kernel_rfl) ?_
  refine WO.op rfl rfl rfl rfl (as_sc rfl) ?_
  refine WO.nil ?_
  refine W.condF rfl ?_
  refine W.seq ?_
  refine W.to [(0, _), (1, _), (2, _), (3, _), (4, _), (11, _), (12, _), (14, _)] [_, _] rfl ⟨(by exact sh_agg rfl), (by exact sh_ptr rfl), (by exact sh_sc rfl), (by exact sh_ptr rfl), (by exact sh_sc rfl), (by exact sh_sc rfl), (by exact sh_sc rfl), (by exact sh_sc rfl), trivial⟩ ?_
  refine W.region ?_
  refine WO.op rfl rfl rfl rfl (step_int2 rfl rfl rfl) ?_
  refine WO.put 26 (.sc (.bool true)) (by kernel_rfl) ?_
  refine WO.op rfl rfl rfl rfl (as_sc rfl) ?_
  refine WO.nil ?_
  refine W.condT rfl ?_
  refine W.to [(0, _), (1, _), (2, _), (3, _), (4, _), (11, _), (12, _), (14, _), (25, _)] [_, _] rfl ⟨(by exact sh_agg rfl), (by exact sh_ptr rfl), (by exact sh_sc rfl), (by exact sh_ptr rfl), (by exact sh_sc rfl), (by exact sh_sc rfl), (by exact sh_sc rfl), (by exact sh_sc rfl), (by exact sh_sc rfl), trivial⟩ ?_
  refine W.draw (Checked.mixed Try.checked) ?_
  refine DC.op1 rfl rfl rfl rfl (fun _ ho => step_fieldR (k := 4) (FieldOff.mk (by kernel_rfl)) rfl ho (by exact Nat.zero_add _)) ?_
  refine DC.op1 rfl rfl rfl rfl (fun _ ho => step_load Try.isAgg3 rfl ho rfl) ?_
  refine DC.op1 rfl rfl rfl rfl (fun _ ho => step_fieldR (k := 5) (FieldOff.mk (by kernel_rfl)) rfl ho (by exact Nat.zero_add _)) ?_
  refine DC.op1 rfl rfl rfl rfl (fun _ ho => step_load Try.isAgg3 rfl ho rfl) ?_
  refine DC.op1 rfl rfl rfl rfl (fun _ ho => step_fieldR (k := 6) (FieldOff.mk (by kernel_rfl)) rfl ho (by exact Nat.zero_add _)) ?_
  refine DC.op1 rfl rfl rfl rfl (fun _ ho => step_load Try.isAgg4 rfl ho rfl) ?_
  refine DC.op1 rfl rfl rfl rfl (fun _ ho => step_fieldR (k := 4) (FieldOff.mk (by kernel_rfl)) rfl ho (by exact Nat.zero_add _)) ?_
  refine DC.opE0 rfl rfl (step_store1 Try.sizeOf3 rfl rfl rfl rfl (by (simp only [List.length_map, List.length_append, List.length_take, List.length_drop, List.length_set, List.length_cons, List.length_nil, List.length_replicate] <;> omega))) (by simp) (by repeat (first | exact True.intro | refine And.intro (by rfl) ?_)) (by repeat (first | exact True.intro | refine And.intro (by rfl) ?_)) ?_
  refine DC.op1 rfl rfl rfl rfl (fun _ ho => step_fieldR (k := 5) (FieldOff.mk (by kernel_rfl)) rfl ho (by exact Nat.zero_add _)) ?_
  refine DC.opE0 rfl rfl (step_store1 Try.sizeOf3 rfl rfl rfl rfl (by (simp only [List.length_map, List.length_append, List.length_take, List.length_drop, List.length_set, List.length_cons, List.length_nil, List.length_replicate] <;> omega))) (by simp) (by repeat (first | exact True.intro | refine And.intro (by rfl) ?_)) (by repeat (first | exact True.intro | refine And.intro (by rfl) ?_)) ?_
  refine DC.op1 rfl rfl rfl rfl (fun _ ho => step_fieldR (k := 6) (FieldOff.mk (by kernel_rfl)) rfl ho (by exact Nat.zero_add _)) ?_
  refine DC.opE0 rfl rfl (step_store1 Try.sizeOf4 rfl rfl rfl rfl (by (simp only [List.length_map, List.length_append, List.length_take, List.length_drop, List.length_set, List.length_cons, List.length_nil, List.length_replicate] <;> omega))) (by simp) (by repeat (first | exact True.intro | refine And.intro (by rfl) ?_)) (by repeat (first | exact True.intro | refine And.intro (by rfl) ?_)) ?_
  refine DC.op rfl rfl rfl (fun _ => as_sc rfl) ?_
  refine DC.fin [(0, 0), (1, 0), (2, 0), (2, 1), (3, 0), (3, 1), (4, 0), (4, 1), (4, 2), (5, 0), (5, 1), (5, 2), (6, 0), (8, 1), (10, 2)] (by kernel_rfl) (by kernel_rfl) ?_ ?_
  · repeat (first | exact True.intro | refine And.intro ?_ ?_ | kernel_rfl)
  · refine W.seq ?_
    refine W.seq ?_
    refine W.to [(0, _), (1, _), (2, _), (3, _), (4, _), (11, _), (12, _), (14, _), (25, _)] [_, _] rfl ⟨(by exact sh_agg rfl), (by exact sh_ptr rfl), (by exact sh_sc rfl), (by exact sh_ptr rfl), (by exact sh_sc rfl), (by exact sh_sc rfl), (by exact sh_sc rfl), (by exact sh_sc rfl), (by exact sh_sc rfl), trivial⟩ ?_
    refine W.region ?_
    refine WO.op rfl rfl rfl rfl (step_loadA Try.isAgg25 Try.sizeOf25 rfl rfl (by exact Nat.le_refl _)) ?_
    refine WO.put 66 (.agg [.sc (.int .i64 2), .sc (.int .i64 a1), .sc (.int .i64 a2), .sc (.int .u32 a3), .sc (.int .i64 a4), .sc (.int .i64 a5), .sc (.bool a6), .sc (.int .u32 a7), .sc (.int .u32 a8), .sc (.int .i64 a9), .sc (.int .i64 a10), .sc (.int .i64 a11), .sc (.string a12), .sc (.string a13)]) (by kernel_rfl) ?_
    refine WO.op rfl rfl rfl rfl (step_loadA Try.isAgg25 Try.sizeOf25 rfl rfl (by exact Nat.le_refl _)) ?_
    refine WO.put 67 (.agg [.sc (.int .i64 2), .sc (.int .i64 0), .sc (.int .i64 0), .sc (.int .u32 0), .sc (.int .i64 a4), .sc (.int .i64 a5), .sc (.bool a6), .sc (.int .u32 0), .sc (.int .u32 0), .sc (.int .i64 0), .sc (.int .i64 0), .sc (.int .i64 0), .sc (.string ⟨#[]⟩), .sc (.string a13)]) (by kernel_rfl) ?_
    refine WO.op rfl rfl rfl rfl (ne2_L4 (a0 := 2) (a1 := a1) (a2 := a2) (a3 := a3) (a4 := a4) (a5 := a5) (a6 := a6) (a7 := a7) (a8 := a8) (a9 := a9) (a10 := a10) (a11 := a11) (a12 := a12) (a13 := a13) (b0 := 2) (b1 := 0) (b2 := 0) (b3 := 0) (b4 := a4) (b5 := a5) (b6 := a6) (b7 := 0) (b8 := 0) (b9 := 0) (b10 := 0) (b11 := 0) (b12 := ⟨#[]⟩) (b13 := a13) (by (constructor <;> decide)) (by assumption) (by assumption) (by assumption) (by assumption) (by assumption) (by assumption) (by assumption) (by assumption) (by assumption) (by assumption) (by assumption) (by assumption) (by (constructor <;> decide)) (by (constructor <;> decide)) (by (constructor <;> decide)) (by (constructor <;> decide)) (by assumption) (by assumption) (by (constructor <;> decide)) (by (constructor <;> decide)) (by (constructor <;> decide)) (by (constructor <;> decide)) (by (constructor <;> decide)) (by decide) (by assumption) hne rfl rfl) ?_
    refine WO.put 68 (.sc (.bool true)) (rfl) ?_
    iterate 8 (refine WO.op rfl rfl rfl rfl (mv_sc rfl) ?_; refine WO.sk rfl rfl rfl rfl ?_; refine WO.sk rfl rfl rfl rfl ?_; refine WO.sk rfl rfl rfl rfl ?_; refine WO.sk rfl rfl rfl rfl ?_; refine WO.op rfl rfl rfl rfl (pk_t rfl rfl rfl) ?_)
    refine WO.op rfl rfl rfl rfl (mv_sc rfl) ?_
    iterate 5 (refine WO.sk rfl rfl rfl rfl ?_)
    refine WO.op rfl rfl rfl rfl (pk_t rfl rfl rfl) ?_
    refine WO.op rfl rfl rfl rfl (mv_sc rfl) ?_
    iterate 6 (refine WO.sk rfl rfl rfl rfl ?_)
    refine WO.op rfl rfl rfl rfl (pk_t rfl rfl rfl) ?_
    refine WO.nil ?_
    refine W.condT rfl ?_
    refine W.seq ?_
    refine W.to [(0, _), (1, _), (2, _), (3, _), (4, _), (11, _), (12, _), (14, _), (25, _), (131, _)] [_, _] rfl ⟨(by exact sh_agg rfl), (by exact sh_ptr rfl), (by exact sh_sc rfl), (by exact sh_ptr rfl), (by exact sh_sc rfl), (by exact sh_sc rfl), (by exact sh_sc rfl), (by exact sh_sc rfl), (by exact sh_sc rfl), (by exact sh_sc rfl), trivial⟩ ?_
    refine W.region ?_
    refine WO.op rfl rfl rfl rfl (as_sc rfl) ?_
    refine WO.nil ?_
    refine W.ret ?_
    refine ⟨.inl rfl, ?_⟩
    exact ret0 (Res.tmp rfl Res.nil) (.keep rfl)

theorem w_rChkR2 {a4 : Int} {a5 : Int} {a6 : Bool} {a13 : ByteArray} (g4 : isI a4) (g5 : isI a5) (g13 : a13.size ≤ 200000000000000) (h : ¬ ((0 ≤ a4 ∧ a4 ≤ 65535) ∧ (0 ≤ a5 ∧ a5 ≤ 65535) ∧ (a13.size ≤ 65507))) : Spec0 Try.prog 14 [.agg [.sc (.int .i64 2), .sc (.int .i64 0), .sc (.int .i64 0), .sc (.int .u32 0), .sc (.int .i64 a4), .sc (.int .i64 a5), .sc (.bool a6), .sc (.int .u32 0), .sc (.int .u32 0), .sc (.int .i64 0), .sc (.int .i64 0), .sc (.int .i64 0), .sc (.string ⟨#[]⟩), .sc (.string a13)]] (.sc (.int .i64 1)) := by
  refine Spec.body Try.func14 rfl (Nat.le_of_ble_eq_true rfl) ?_
  simp only [isI, isU] at *
  refine W.seq ?_
  refine W.region ?_
  refine WO.opA rfl rfl rfl rfl (al_boxA rfl rfl) rfl rfl ?_
  refine WO.put 1 (.ptr 0 0) rfl ?_
  refine WO.op rfl rfl rfl rfl (as_sc rfl) ?_
  refine WO.nil ?_
  refine W.seq ?_
  refine W.to [(0, _), (1, _), (2, _)] [_] rfl ⟨(by exact sh_agg rfl), (by exact sh_ptr rfl), (by exact sh_sc rfl), trivial⟩ ?_
  refine W.region ?_
  refine WO.op rfl rfl rfl rfl (step_fieldR (k := 0) (FieldOff.mk (by kernel_rfl)) rfl rfl (by exact Nat.zero_add _)) ?_
  refine WO.op rfl rfl rfl rfl (step_load Try.isAgg3 rfl rfl rfl) ?_
  refine WO.op rfl rfl rfl rfl (step_fieldR (k := 13) (FieldOff.mk (by kernel_rfl)) rfl rfl (by exact Nat.zero_add _)) ?_
  refine WO.op rfl rfl rfl rfl (step_load Try.isAgg9 rfl rfl rfl) ?_
  refine WO.op rfl rfl rfl rfl (step_build (out := [.sc (.int .i64 2), .sc (.int .i64 0), .sc (.int .i64 0), .sc (.int .u32 0), .sc (.int .i64 0), .sc (.int .i64 0), .sc (.bool false), .sc (.int .u32 0), .sc (.int .u32 0), .sc (.int .i64 0), .sc (.int .i64 0), .sc (.int .i64 0), .sc (.string ⟨#[]⟩), .sc (.string a13)]) Try.zeroValue25 (pl := [(0, 1), (1, 1), (2, 1), (3, 1), (4, 1), (5, 1), (6, 1), (7, 1), (8, 1), (9, 1), (10, 1), (11, 1), (12, 1), (13, 1)]) (PlacesOf.mk (by kernel_rfl)) (by kernel_rfl)) ?_
  refine WO.put 9 (.agg [.sc (.int .i64 2), .sc (.int .i64 0), .sc (.int .i64 0), .sc (.int .u32 0), .sc (.int .i64 0), .sc (.int .i64 0), .sc (.bool false), .sc (.int .u32 0), .sc (.int .u32 0), .sc (.int .i64 0), .sc (.int .i64 0), .sc (.int .i64 0), .sc (.string ⟨#[]⟩), .sc (.string a13)]) (by kernel_rfl) ?_
  refine WO.opA rfl rfl rfl rfl (al_alloc Try.zeroValue25) rfl rfl ?_
  refine WO.put 3 (.ptr 1 0) rfl ?_
  refine WO.op0 rfl rfl rfl (step_storeA Try.sizeOf25 rfl rfl rfl (by repeat (exact all_cell rfl rfl)) rfl rfl) ?_
  refine WO.nil ?_
  refine W.seq ?_
  refine W.to [(0, _), (1, _), (2, _), (3, _)] [_, _] rfl ⟨(by exact sh_agg rfl), (by exact sh_ptr rfl), (by exact sh_sc rfl), (by exact sh_ptr rfl), trivial⟩ ?_
  refine W.region ?_
  refine WO.op rfl rfl rfl rfl (as_sc rfl) ?_
  refine WO.nil ?_
  refine W.seq ?_
  refine W.seq ?_
  refine W.to [(0, _), (1, _), (2, _), (3, _), (4, _)] [_, _] rfl ⟨(by exact sh_agg rfl), (by exact sh_ptr rfl), (by exact sh_sc rfl), (by exact sh_ptr rfl), (by exact sh_sc rfl), trivial⟩ ?_
  refine W.region ?_
  refine WO.op rfl rfl rfl rfl (step_fieldR (k := 0) (FieldOff.mk (by kernel_rfl)) rfl rfl (by exact Nat.zero_add _)) ?_
  refine WO.op rfl rfl rfl rfl (step_load Try.isAgg3 rfl rfl rfl) ?_
  refine WO.nil ?_
  refine W.block ?_
  refine W.seq ?_
  refine W.to [(0, _), (1, _), (2, _), (3, _), (4, _), (11, _)] [_, _] rfl ⟨(by exact sh_agg rfl), (by exact sh_ptr rfl), (by exact sh_sc rfl), (by exact sh_ptr rfl), (by exact sh_sc rfl), (by exact sh_sc rfl), trivial⟩ ?_
  refine W.region ?_
  refine WO.op rfl rfl rfl rfl (step_int2 rfl rfl rfl) ?_
  refine WO.put 13 (.sc (.bool false)) (by kernel_rfl) ?_
  refine WO.op rfl rfl rfl rfl (as_sc rfl) ?_
  refine WO.nil ?_
  refine W.condF rfl ?_
  refine W.seq ?_
  refine W.to [(0, _), (1, _), (2, _), (3, _), (4, _), (11, _), (12, _)] [_, _] rfl ⟨(by exact sh_agg rfl), (by exact sh_ptr rfl), (by exact sh_sc rfl), (by exact sh_ptr rfl), (by exact sh_sc rfl), (by exact sh_sc rfl), (by exact sh_sc rfl), trivial⟩ ?_
  refine W.region ?_
  refine WO.op rfl rfl rfl rfl (step_int2 rfl rfl rfl) ?_
  refine WO.put 15 (.sc (.bool false)) (by kernel_rfl) ?_
  refine WO.op rfl rfl rfl rfl (as_sc rfl) ?_
  refine WO.nil ?_
  refine W.condF rfl ?_
  refine W.seq ?_
  refine W.to [(0, _), (1, _), (2, _), (3, _), (4, _), (11, _), (12, _), (14, _)] [_, _] rfl ⟨(by exact sh_agg rfl), (by exact sh_ptr rfl), (by exact sh_sc rfl), (by exact sh_ptr rfl), (by exact sh_sc rfl), (by exact sh_sc rfl), (by exact sh_sc rfl), (by exact sh_sc rfl), trivial⟩ ?_
  refine W.region ?_
  refine WO.op rfl rfl rfl rfl (step_int2 rfl rfl rfl) ?_
  refine WO.put 26 (.sc (.bool true)) (by kernel_rfl) ?_
  refine WO.op rfl rfl rfl rfl (as_sc rfl) ?_
  refine WO.nil ?_
  refine W.condT rfl ?_
  refine W.to [(0, _), (1, _), (2, _), (3, _), (4, _), (11, _), (12, _), (14, _), (25, _)] [_, _] rfl ⟨(by exact sh_agg rfl), (by exact sh_ptr rfl), (by exact sh_sc rfl), (by exact sh_ptr rfl), (by exact sh_sc rfl), (by exact sh_sc rfl), (by exact sh_sc rfl), (by exact sh_sc rfl), (by exact sh_sc rfl), trivial⟩ ?_
  refine W.draw (Checked.mixed Try.checked) ?_
  refine DC.op1 rfl rfl rfl rfl (fun _ ho => step_fieldR (k := 4) (FieldOff.mk (by kernel_rfl)) rfl ho (by exact Nat.zero_add _)) ?_
  refine DC.op1 rfl rfl rfl rfl (fun _ ho => step_load Try.isAgg3 rfl ho rfl) ?_
  refine DC.op1 rfl rfl rfl rfl (fun _ ho => step_fieldR (k := 5) (FieldOff.mk (by kernel_rfl)) rfl ho (by exact Nat.zero_add _)) ?_
  refine DC.op1 rfl rfl rfl rfl (fun _ ho => step_load Try.isAgg3 rfl ho rfl) ?_
  refine DC.op1 rfl rfl rfl rfl (fun _ ho => step_fieldR (k := 6) (FieldOff.mk (by kernel_rfl)) rfl ho (by exact Nat.zero_add _)) ?_
  refine DC.op1 rfl rfl rfl rfl (fun _ ho => step_load Try.isAgg4 rfl ho rfl) ?_
  refine DC.op1 rfl rfl rfl rfl (fun _ ho => step_fieldR (k := 4) (FieldOff.mk (by kernel_rfl)) rfl ho (by exact Nat.zero_add _)) ?_
  refine DC.opE0 rfl rfl (step_store1 Try.sizeOf3 rfl rfl rfl rfl (by (simp only [List.length_map, List.length_append, List.length_take, List.length_drop, List.length_set, List.length_cons, List.length_nil, List.length_replicate] <;> omega))) (by simp) (by repeat (first | exact True.intro | refine And.intro (by rfl) ?_)) (by repeat (first | exact True.intro | refine And.intro (by rfl) ?_)) ?_
  refine DC.op1 rfl rfl rfl rfl (fun _ ho => step_fieldR (k := 5) (FieldOff.mk (by kernel_rfl)) rfl ho (by exact Nat.zero_add _)) ?_
  refine DC.opE0 rfl rfl (step_store1 Try.sizeOf3 rfl rfl rfl rfl (by (simp only [List.length_map, List.length_append, List.length_take, List.length_drop, List.length_set, List.length_cons, List.length_nil, List.length_replicate] <;> omega))) (by simp) (by repeat (first | exact True.intro | refine And.intro (by rfl) ?_)) (by repeat (first | exact True.intro | refine And.intro (by rfl) ?_)) ?_
  refine DC.op1 rfl rfl rfl rfl (fun _ ho => step_fieldR (k := 6) (FieldOff.mk (by kernel_rfl)) rfl ho (by exact Nat.zero_add _)) ?_
  refine DC.opE0 rfl rfl (step_store1 Try.sizeOf4 rfl rfl rfl rfl (by (simp only [List.length_map, List.length_append, List.length_take, List.length_drop, List.length_set, List.length_cons, List.length_nil, List.length_replicate] <;> omega))) (by simp) (by repeat (first | exact True.intro | refine And.intro (by rfl) ?_)) (by repeat (first | exact True.intro | refine And.intro (by rfl) ?_)) ?_
  refine DC.op rfl rfl rfl (fun _ => as_sc rfl) ?_
  refine DC.fin [(0, 0), (1, 0), (2, 0), (2, 1), (3, 0), (3, 1), (4, 0), (4, 1), (4, 2), (5, 0), (5, 1), (5, 2), (6, 0), (8, 1), (10, 2)] (by kernel_rfl) (by kernel_rfl) ?_ ?_
  · repeat (first | exact True.intro | refine And.intro ?_ ?_ | kernel_rfl)
  · refine W.seq ?_
    refine W.seq ?_
    refine W.to [(0, _), (1, _), (2, _), (3, _), (4, _), (11, _), (12, _), (14, _), (25, _)] [_, _] rfl ⟨(by exact sh_agg rfl), (by exact sh_ptr rfl), (by exact sh_sc rfl), (by exact sh_ptr rfl), (by exact sh_sc rfl), (by exact sh_sc rfl), (by exact sh_sc rfl), (by exact sh_sc rfl), (by exact sh_sc rfl), trivial⟩ ?_
    refine W.region ?_
    refine WO.op rfl rfl rfl rfl (step_loadA Try.isAgg25 Try.sizeOf25 rfl rfl (by exact Nat.le_refl _)) ?_
    refine WO.put 66 (.agg [.sc (.int .i64 2), .sc (.int .i64 0), .sc (.int .i64 0), .sc (.int .u32 0), .sc (.int .i64 a4), .sc (.int .i64 a5), .sc (.bool a6), .sc (.int .u32 0), .sc (.int .u32 0), .sc (.int .i64 0), .sc (.int .i64 0), .sc (.int .i64 0), .sc (.string ⟨#[]⟩), .sc (.string a13)]) (by kernel_rfl) ?_
    refine WO.op rfl rfl rfl rfl (step_loadA Try.isAgg25 Try.sizeOf25 rfl rfl (by exact Nat.le_refl _)) ?_
    refine WO.put 67 (.agg [.sc (.int .i64 2), .sc (.int .i64 0), .sc (.int .i64 0), .sc (.int .u32 0), .sc (.int .i64 a4), .sc (.int .i64 a5), .sc (.bool a6), .sc (.int .u32 0), .sc (.int .u32 0), .sc (.int .i64 0), .sc (.int .i64 0), .sc (.int .i64 0), .sc (.string ⟨#[]⟩), .sc (.string a13)]) (by kernel_rfl) ?_
    refine WO.op rfl rfl rfl rfl (ne_L4 (a0 := 2) (a1 := 0) (a2 := 0) (a3 := 0) (a4 := a4) (a5 := a5) (a6 := a6) (a7 := 0) (a8 := 0) (a9 := 0) (a10 := 0) (a11 := 0) (a12 := ⟨#[]⟩) (a13 := a13) (by (constructor <;> decide)) (by (constructor <;> decide)) (by (constructor <;> decide)) (by (constructor <;> decide)) (by assumption) (by assumption) (by (constructor <;> decide)) (by (constructor <;> decide)) (by (constructor <;> decide)) (by (constructor <;> decide)) (by (constructor <;> decide)) (by decide) (by assumption) rfl rfl) ?_
    refine WO.put 68 (.sc (.bool false)) (rfl) ?_
    refine WO.op rfl rfl rfl rfl (mv_sc rfl) ?_
    refine WO.op rfl rfl rfl rfl (step_fieldR (k := 1) (FieldOff.mk (by kernel_rfl)) rfl rfl (by exact Nat.zero_add _)) ?_
    refine WO.op rfl rfl rfl rfl (step_load Try.isAgg3 rfl rfl rfl) ?_
    refine WO.op rfl rfl rfl rfl (step_pure Try.call34 rfl (by (repeat (first | exact Nl.nil | refine Nl.keep (by rfl) ?_))) (w_to) (by repeat (rfl))) ?_
    refine WO.op rfl rfl rfl rfl (step_not rfl) ?_
    refine WO.op rfl rfl rfl rfl (pk_f rfl rfl rfl) ?_
    refine WO.op rfl rfl rfl rfl (mv_sc rfl) ?_
    refine WO.spl 75 rfl (fun h1 => ?_) (fun h1 => ?_)
    · try simp only [decide_eq_true_eq, decide_eq_false_iff_not, Bool.not_eq_true', Bool.not_eq_false', beq_iff_eq, bne_iff_ne, beq_eq_false_iff_ne, bne_eq_false_iff_eq, gt_iff_lt, ge_iff_le, Int.not_lt, Int.not_le] at h1
      iterate 7 (refine WO.sk rfl rfl rfl rfl ?_; refine WO.sk rfl rfl rfl rfl ?_; refine WO.sk rfl rfl rfl rfl ?_; refine WO.sk rfl rfl rfl rfl ?_; refine WO.op rfl rfl rfl rfl (pk_t rfl rfl rfl) ?_; refine WO.op rfl rfl rfl rfl (mv_sc rfl) ?_)
      iterate 5 (refine WO.sk rfl rfl rfl rfl ?_)
      refine WO.op rfl rfl rfl rfl (pk_t rfl rfl rfl) ?_
      refine WO.op rfl rfl rfl rfl (mv_sc rfl) ?_
      iterate 6 (refine WO.sk rfl rfl rfl rfl ?_)
      refine WO.op rfl rfl rfl rfl (pk_t rfl rfl rfl) ?_
      refine WO.nil ?_
      refine W.condT rfl ?_
      refine W.seq ?_
      refine W.to [(0, _), (1, _), (2, _), (3, _), (4, _), (11, _), (12, _), (14, _), (25, _), (131, _)] [_, _] rfl ⟨(by exact sh_agg rfl), (by exact sh_ptr rfl), (by exact sh_sc rfl), (by exact sh_ptr rfl), (by exact sh_sc rfl), (by exact sh_sc rfl), (by exact sh_sc rfl), (by exact sh_sc rfl), (by exact sh_sc rfl), (by exact sh_sc rfl), trivial⟩ ?_
      refine W.region ?_
      refine WO.op rfl rfl rfl rfl (as_sc rfl) ?_
      refine WO.nil ?_
      refine W.ret ?_
      refine ⟨.inl rfl, ?_⟩
      exact ret0 (Res.tmp rfl Res.nil) (.keep rfl)
    · try simp only [decide_eq_true_eq, decide_eq_false_iff_not, Bool.not_eq_true', Bool.not_eq_false', beq_iff_eq, bne_iff_ne, beq_eq_false_iff_ne, bne_eq_false_iff_eq, gt_iff_lt, ge_iff_le, Int.not_lt, Int.not_le] at h1
      refine WO.op rfl rfl rfl rfl (step_fieldR (k := 2) (FieldOff.mk (by kernel_rfl)) rfl rfl (by exact Nat.zero_add _)) ?_
      refine WO.op rfl rfl rfl rfl (step_load Try.isAgg3 rfl rfl rfl) ?_
      refine WO.op rfl rfl rfl rfl (step_pure Try.call34 rfl (by (repeat (first | exact Nl.nil | refine Nl.keep (by rfl) ?_))) (w_to) (by repeat (rfl))) ?_
      refine WO.op rfl rfl rfl rfl (step_not rfl) ?_
      refine WO.op rfl rfl rfl rfl (pk_f rfl rfl rfl) ?_
      refine WO.op rfl rfl rfl rfl (mv_sc rfl) ?_
      refine WO.spl 81 rfl (fun h2 => ?_) (fun h2 => ?_)
      · try simp only [decide_eq_true_eq, decide_eq_false_iff_not, Bool.not_eq_true', Bool.not_eq_false', beq_iff_eq, bne_iff_ne, beq_eq_false_iff_ne, bne_eq_false_iff_eq, gt_iff_lt, ge_iff_le, Int.not_lt, Int.not_le] at h2
        iterate 6 (refine WO.sk rfl rfl rfl rfl ?_; refine WO.sk rfl rfl rfl rfl ?_; refine WO.sk rfl rfl rfl rfl ?_; refine WO.sk rfl rfl rfl rfl ?_; refine WO.op rfl rfl rfl rfl (pk_t rfl rfl rfl) ?_; refine WO.op rfl rfl rfl rfl (mv_sc rfl) ?_)
        iterate 5 (refine WO.sk rfl rfl rfl rfl ?_)
        refine WO.op rfl rfl rfl rfl (pk_t rfl rfl rfl) ?_
        refine WO.op rfl rfl rfl rfl (mv_sc rfl) ?_
        iterate 6 (refine WO.sk rfl rfl rfl rfl ?_)
        refine WO.op rfl rfl rfl rfl (pk_t rfl rfl rfl) ?_
        refine WO.nil ?_
        refine W.condT rfl ?_
        refine W.seq ?_
        refine W.to [(0, _), (1, _), (2, _), (3, _), (4, _), (11, _), (12, _), (14, _), (25, _), (131, _)] [_, _] rfl ⟨(by exact sh_agg rfl), (by exact sh_ptr rfl), (by exact sh_sc rfl), (by exact sh_ptr rfl), (by exact sh_sc rfl), (by exact sh_sc rfl), (by exact sh_sc rfl), (by exact sh_sc rfl), (by exact sh_sc rfl), (by exact sh_sc rfl), trivial⟩ ?_
        refine W.region ?_
        refine WO.op rfl rfl rfl rfl (as_sc rfl) ?_
        refine WO.nil ?_
        refine W.ret ?_
        refine ⟨.inl rfl, ?_⟩
        exact ret0 (Res.tmp rfl Res.nil) (.keep rfl)
      · try simp only [decide_eq_true_eq, decide_eq_false_iff_not, Bool.not_eq_true', Bool.not_eq_false', beq_iff_eq, bne_iff_ne, beq_eq_false_iff_ne, bne_eq_false_iff_eq, gt_iff_lt, ge_iff_le, Int.not_lt, Int.not_le] at h2
        refine WO.op rfl rfl rfl rfl (step_fieldR (k := 4) (FieldOff.mk (by kernel_rfl)) rfl rfl (by exact Nat.zero_add _)) ?_
        refine WO.op rfl rfl rfl rfl (step_load Try.isAgg3 rfl rfl rfl) ?_
        refine WO.op rfl rfl rfl rfl (step_pure Try.call34 rfl (by (repeat (first | exact Nl.nil | refine Nl.keep (by rfl) ?_))) (w_to) (by repeat (rfl))) ?_
        refine WO.op rfl rfl rfl rfl (step_not rfl) ?_
        refine WO.op rfl rfl rfl rfl (pk_f rfl rfl rfl) ?_
        refine WO.op rfl rfl rfl rfl (mv_sc rfl) ?_
        refine WO.spl 87 rfl (fun h3 => ?_) (fun h3 => ?_)
        · try simp only [decide_eq_true_eq, decide_eq_false_iff_not, Bool.not_eq_true', Bool.not_eq_false', beq_iff_eq, bne_iff_ne, beq_eq_false_iff_ne, bne_eq_false_iff_eq, gt_iff_lt, ge_iff_le, Int.not_lt, Int.not_le] at h3
          iterate 5 (refine WO.sk rfl rfl rfl rfl ?_; refine WO.sk rfl rfl rfl rfl ?_; refine WO.sk rfl rfl rfl rfl ?_; refine WO.sk rfl rfl rfl rfl ?_; refine WO.op rfl rfl rfl rfl (pk_t rfl rfl rfl) ?_; refine WO.op rfl rfl rfl rfl (mv_sc rfl) ?_)
          iterate 5 (refine WO.sk rfl rfl rfl rfl ?_)
          refine WO.op rfl rfl rfl rfl (pk_t rfl rfl rfl) ?_
          refine WO.op rfl rfl rfl rfl (mv_sc rfl) ?_
          iterate 6 (refine WO.sk rfl rfl rfl rfl ?_)
          refine WO.op rfl rfl rfl rfl (pk_t rfl rfl rfl) ?_
          refine WO.nil ?_
          refine W.condT rfl ?_
          refine W.seq ?_
          refine W.to [(0, _), (1, _), (2, _), (3, _), (4, _), (11, _), (12, _), (14, _), (25, _), (131, _)] [_, _] rfl ⟨(by exact sh_agg rfl), (by exact sh_ptr rfl), (by exact sh_sc rfl), (by exact sh_ptr rfl), (by exact sh_sc rfl), (by exact sh_sc rfl), (by exact sh_sc rfl), (by exact sh_sc rfl), (by exact sh_sc rfl), (by exact sh_sc rfl), trivial⟩ ?_
          refine W.region ?_
          refine WO.op rfl rfl rfl rfl (as_sc rfl) ?_
          refine WO.nil ?_
          refine W.ret ?_
          refine ⟨.inl rfl, ?_⟩
          exact ret0 (Res.tmp rfl Res.nil) (.keep rfl)
        · try simp only [decide_eq_true_eq, decide_eq_false_iff_not, Bool.not_eq_true', Bool.not_eq_false', beq_iff_eq, bne_iff_ne, beq_eq_false_iff_ne, bne_eq_false_iff_eq, gt_iff_lt, ge_iff_le, Int.not_lt, Int.not_le] at h3
          refine WO.op rfl rfl rfl rfl (step_fieldR (k := 5) (FieldOff.mk (by kernel_rfl)) rfl rfl (by exact Nat.zero_add _)) ?_
          refine WO.op rfl rfl rfl rfl (step_load Try.isAgg3 rfl rfl rfl) ?_
          refine WO.op rfl rfl rfl rfl (step_pure Try.call34 rfl (by (repeat (first | exact Nl.nil | refine Nl.keep (by rfl) ?_))) (w_to) (by repeat (rfl))) ?_
          refine WO.op rfl rfl rfl rfl (step_not rfl) ?_
          refine WO.op rfl rfl rfl rfl (pk_f rfl rfl rfl) ?_
          refine WO.op rfl rfl rfl rfl (mv_sc rfl) ?_
          refine WO.spl 93 rfl (fun h4 => ?_) (fun h4 => ?_)
          · try simp only [decide_eq_true_eq, decide_eq_false_iff_not, Bool.not_eq_true', Bool.not_eq_false', beq_iff_eq, bne_iff_ne, beq_eq_false_iff_ne, bne_eq_false_iff_eq, gt_iff_lt, ge_iff_le, Int.not_lt, Int.not_le] at h4
            iterate 4 (refine WO.sk rfl rfl rfl rfl ?_; refine WO.sk rfl rfl rfl rfl ?_; refine WO.sk rfl rfl rfl rfl ?_; refine WO.sk rfl rfl rfl rfl ?_; refine WO.op rfl rfl rfl rfl (pk_t rfl rfl rfl) ?_; refine WO.op rfl rfl rfl rfl (mv_sc rfl) ?_)
            iterate 5 (refine WO.sk rfl rfl rfl rfl ?_)
            refine WO.op rfl rfl rfl rfl (pk_t rfl rfl rfl) ?_
            refine WO.op rfl rfl rfl rfl (mv_sc rfl) ?_
            iterate 6 (refine WO.sk rfl rfl rfl rfl ?_)
            refine WO.op rfl rfl rfl rfl (pk_t rfl rfl rfl) ?_
            refine WO.nil ?_
            refine W.condT rfl ?_
            refine W.seq ?_
            refine W.to [(0, _), (1, _), (2, _), (3, _), (4, _), (11, _), (12, _), (14, _), (25, _), (131, _)] [_, _] rfl ⟨(by exact sh_agg rfl), (by exact sh_ptr rfl), (by exact sh_sc rfl), (by exact sh_ptr rfl), (by exact sh_sc rfl), (by exact sh_sc rfl), (by exact sh_sc rfl), (by exact sh_sc rfl), (by exact sh_sc rfl), (by exact sh_sc rfl), trivial⟩ ?_
            refine W.region ?_
            refine WO.op rfl rfl rfl rfl (as_sc rfl) ?_
            refine WO.nil ?_
            refine W.ret ?_
            refine ⟨.inl rfl, ?_⟩
            exact ret0 (Res.tmp rfl Res.nil) (.keep rfl)
          · try simp only [decide_eq_true_eq, decide_eq_false_iff_not, Bool.not_eq_true', Bool.not_eq_false', beq_iff_eq, bne_iff_ne, beq_eq_false_iff_ne, bne_eq_false_iff_eq, gt_iff_lt, ge_iff_le, Int.not_lt, Int.not_le] at h4
            refine WO.op rfl rfl rfl rfl (step_fieldR (k := 10) (FieldOff.mk (by kernel_rfl)) rfl rfl (by exact Nat.zero_add _)) ?_
            refine WO.op rfl rfl rfl rfl (step_load Try.isAgg3 rfl rfl rfl) ?_
            refine WO.op rfl rfl rfl rfl (step_pure Try.call34 rfl (by (repeat (first | exact Nl.nil | refine Nl.keep (by rfl) ?_))) (w_to) (by repeat (rfl))) ?_
            refine WO.op rfl rfl rfl rfl (step_not rfl) ?_
            refine WO.op rfl rfl rfl rfl (pk_f rfl rfl rfl) ?_
            refine WO.op rfl rfl rfl rfl (mv_sc rfl) ?_
            refine WO.spl 99 rfl (fun h5 => ?_) (fun h5 => ?_)
            · try simp only [decide_eq_true_eq, decide_eq_false_iff_not, Bool.not_eq_true', Bool.not_eq_false', beq_iff_eq, bne_iff_ne, beq_eq_false_iff_ne, bne_eq_false_iff_eq, gt_iff_lt, ge_iff_le, Int.not_lt, Int.not_le] at h5
              iterate 3 (refine WO.sk rfl rfl rfl rfl ?_; refine WO.sk rfl rfl rfl rfl ?_; refine WO.sk rfl rfl rfl rfl ?_; refine WO.sk rfl rfl rfl rfl ?_; refine WO.op rfl rfl rfl rfl (pk_t rfl rfl rfl) ?_; refine WO.op rfl rfl rfl rfl (mv_sc rfl) ?_)
              iterate 5 (refine WO.sk rfl rfl rfl rfl ?_)
              refine WO.op rfl rfl rfl rfl (pk_t rfl rfl rfl) ?_
              refine WO.op rfl rfl rfl rfl (mv_sc rfl) ?_
              iterate 6 (refine WO.sk rfl rfl rfl rfl ?_)
              refine WO.op rfl rfl rfl rfl (pk_t rfl rfl rfl) ?_
              refine WO.nil ?_
              refine W.condT rfl ?_
              refine W.seq ?_
              refine W.to [(0, _), (1, _), (2, _), (3, _), (4, _), (11, _), (12, _), (14, _), (25, _), (131, _)] [_, _] rfl ⟨(by exact sh_agg rfl), (by exact sh_ptr rfl), (by exact sh_sc rfl), (by exact sh_ptr rfl), (by exact sh_sc rfl), (by exact sh_sc rfl), (by exact sh_sc rfl), (by exact sh_sc rfl), (by exact sh_sc rfl), (by exact sh_sc rfl), trivial⟩ ?_
              refine W.region ?_
              refine WO.op rfl rfl rfl rfl (as_sc rfl) ?_
              refine WO.nil ?_
              refine W.ret ?_
              refine ⟨.inl rfl, ?_⟩
              exact ret0 (Res.tmp rfl Res.nil) (.keep rfl)
            · try simp only [decide_eq_true_eq, decide_eq_false_iff_not, Bool.not_eq_true', Bool.not_eq_false', beq_iff_eq, bne_iff_ne, beq_eq_false_iff_ne, bne_eq_false_iff_eq, gt_iff_lt, ge_iff_le, Int.not_lt, Int.not_le] at h5
              refine WO.op rfl rfl rfl rfl (step_fieldR (k := 11) (FieldOff.mk (by kernel_rfl)) rfl rfl (by exact Nat.zero_add _)) ?_
              refine WO.op rfl rfl rfl rfl (step_load Try.isAgg3 rfl rfl rfl) ?_
              refine WO.op rfl rfl rfl rfl (step_pure Try.call34 rfl (by (repeat (first | exact Nl.nil | refine Nl.keep (by rfl) ?_))) (w_to) (by repeat (rfl))) ?_
              refine WO.op rfl rfl rfl rfl (step_not rfl) ?_
              refine WO.op rfl rfl rfl rfl (pk_f rfl rfl rfl) ?_
              refine WO.op rfl rfl rfl rfl (mv_sc rfl) ?_
              refine WO.spl 105 rfl (fun h6 => ?_) (fun h6 => ?_)
              · try simp only [decide_eq_true_eq, decide_eq_false_iff_not, Bool.not_eq_true', Bool.not_eq_false', beq_iff_eq, bne_iff_ne, beq_eq_false_iff_ne, bne_eq_false_iff_eq, gt_iff_lt, ge_iff_le, Int.not_lt, Int.not_le] at h6
                iterate 2 (refine WO.sk rfl rfl rfl rfl ?_; refine WO.sk rfl rfl rfl rfl ?_; refine WO.sk rfl rfl rfl rfl ?_; refine WO.sk rfl rfl rfl rfl ?_; refine WO.op rfl rfl rfl rfl (pk_t rfl rfl rfl) ?_; refine WO.op rfl rfl rfl rfl (mv_sc rfl) ?_)
                iterate 5 (refine WO.sk rfl rfl rfl rfl ?_)
                refine WO.op rfl rfl rfl rfl (pk_t rfl rfl rfl) ?_
                refine WO.op rfl rfl rfl rfl (mv_sc rfl) ?_
                iterate 6 (refine WO.sk rfl rfl rfl rfl ?_)
                refine WO.op rfl rfl rfl rfl (pk_t rfl rfl rfl) ?_
                refine WO.nil ?_
                refine W.condT rfl ?_
                refine W.seq ?_
                refine W.to [(0, _), (1, _), (2, _), (3, _), (4, _), (11, _), (12, _), (14, _), (25, _), (131, _)] [_, _] rfl ⟨(by exact sh_agg rfl), (by exact sh_ptr rfl), (by exact sh_sc rfl), (by exact sh_ptr rfl), (by exact sh_sc rfl), (by exact sh_sc rfl), (by exact sh_sc rfl), (by exact sh_sc rfl), (by exact sh_sc rfl), (by exact sh_sc rfl), trivial⟩ ?_
                refine W.region ?_
                refine WO.op rfl rfl rfl rfl (as_sc rfl) ?_
                refine WO.nil ?_
                refine W.ret ?_
                refine ⟨.inl rfl, ?_⟩
                exact ret0 (Res.tmp rfl Res.nil) (.keep rfl)
              · try simp only [decide_eq_true_eq, decide_eq_false_iff_not, Bool.not_eq_true', Bool.not_eq_false', beq_iff_eq, bne_iff_ne, beq_eq_false_iff_ne, bne_eq_false_iff_eq, gt_iff_lt, ge_iff_le, Int.not_lt, Int.not_le] at h6
                refine WO.op rfl rfl rfl rfl (step_fieldR (k := 9) (FieldOff.mk (by kernel_rfl)) rfl rfl (by exact Nat.zero_add _)) ?_
                refine WO.op rfl rfl rfl rfl (step_load Try.isAgg3 rfl rfl rfl) ?_
                refine WO.op rfl rfl rfl rfl (step_pure Try.call34 rfl (by (repeat (first | exact Nl.nil | refine Nl.keep (by rfl) ?_))) (w_to) (by repeat (rfl))) ?_
                refine WO.op rfl rfl rfl rfl (step_not rfl) ?_
                refine WO.op rfl rfl rfl rfl (pk_f rfl rfl rfl) ?_
                refine WO.op rfl rfl rfl rfl (mv_sc rfl) ?_
                refine WO.spl 111 rfl (fun h7 => ?_) (fun h7 => ?_)
                · try simp only [decide_eq_true_eq, decide_eq_false_iff_not, Bool.not_eq_true', Bool.not_eq_false', beq_iff_eq, bne_iff_ne, beq_eq_false_iff_ne, bne_eq_false_iff_eq, gt_iff_lt, ge_iff_le, Int.not_lt, Int.not_le] at h7
                  iterate 2 (refine WO.sk rfl rfl rfl rfl ?_; refine WO.sk rfl rfl rfl rfl ?_; refine WO.sk rfl rfl rfl rfl ?_; refine WO.sk rfl rfl rfl rfl ?_; refine WO.op rfl rfl rfl rfl (pk_t rfl rfl rfl) ?_; refine WO.op rfl rfl rfl rfl (mv_sc rfl) ?_; refine WO.sk rfl rfl rfl rfl ?_)
                  iterate 5 (refine WO.sk rfl rfl rfl rfl ?_)
                  refine WO.op rfl rfl rfl rfl (pk_t rfl rfl rfl) ?_
                  refine WO.nil ?_
                  refine W.condT rfl ?_
                  refine W.seq ?_
                  refine W.to [(0, _), (1, _), (2, _), (3, _), (4, _), (11, _), (12, _), (14, _), (25, _), (131, _)] [_, _] rfl ⟨(by exact sh_agg rfl), (by exact sh_ptr rfl), (by exact sh_sc rfl), (by exact sh_ptr rfl), (by exact sh_sc rfl), (by exact sh_sc rfl), (by exact sh_sc rfl), (by exact sh_sc rfl), (by exact sh_sc rfl), (by exact sh_sc rfl), trivial⟩ ?_
                  refine W.region ?_
                  refine WO.op rfl rfl rfl rfl (as_sc rfl) ?_
                  refine WO.nil ?_
                  refine W.ret ?_
                  refine ⟨.inl rfl, ?_⟩
                  exact ret0 (Res.tmp rfl Res.nil) (.keep rfl)
                · try simp only [decide_eq_true_eq, decide_eq_false_iff_not, Bool.not_eq_true', Bool.not_eq_false', beq_iff_eq, bne_iff_ne, beq_eq_false_iff_ne, bne_eq_false_iff_eq, gt_iff_lt, ge_iff_le, Int.not_lt, Int.not_le] at h7
                  refine WO.op rfl rfl rfl rfl (step_fieldR (k := 12) (FieldOff.mk (by kernel_rfl)) rfl rfl (by exact Nat.zero_add _)) ?_
                  refine WO.op rfl rfl rfl rfl (step_load Try.isAgg9 rfl rfl rfl) ?_
                  refine WO.op rfl rfl rfl rfl (step_lenS Try.runUnderlying9 rfl) ?_
                  refine WO.op rfl rfl rfl rfl (step_int2 rfl rfl rfl) ?_
                  refine WO.put 115 (.sc (.bool false)) (by kernel_rfl) ?_
                  refine WO.op rfl rfl rfl rfl (pk_f rfl rfl rfl) ?_
                  refine WO.op rfl rfl rfl rfl (mv_sc rfl) ?_
                  refine WO.op rfl rfl rfl rfl (step_fieldR (k := 12) (FieldOff.mk (by kernel_rfl)) rfl rfl (by exact Nat.zero_add _)) ?_
                  refine WO.op rfl rfl rfl rfl (step_load Try.isAgg9 rfl rfl rfl) ?_
                  refine WO.op rfl rfl rfl rfl (step_lenS Try.runUnderlying9 rfl) ?_
                  refine WO.op rfl rfl rfl rfl (step_remN (q := 4) rfl rfl (by omega)) ?_
                  refine WO.op rfl rfl rfl rfl (step_int2 rfl rfl rfl) ?_
                  refine WO.put 122 (.sc (.bool false)) (by kernel_rfl) ?_
                  refine WO.op rfl rfl rfl rfl (pk_f rfl rfl rfl) ?_
                  refine WO.op rfl rfl rfl rfl (mv_sc rfl) ?_
                  refine WO.op rfl rfl rfl rfl (step_fieldR (k := 13) (FieldOff.mk (by kernel_rfl)) rfl rfl (by exact Nat.zero_add _)) ?_
                  refine WO.op rfl rfl rfl rfl (step_load Try.isAgg9 rfl rfl rfl) ?_
                  refine WO.op rfl rfl rfl rfl (step_lenS Try.runUnderlying9 rfl) ?_
                  refine WO.op rfl rfl rfl rfl (mv_sc rfl) ?_
                  refine WO.op rfl rfl rfl rfl (step_subN (p := 65515) rfl rfl (by (simp only [List.length_map, List.length_append, List.length_take, List.length_drop, List.length_set, List.length_cons, List.length_nil, List.length_replicate] <;> omega)) (by (simp only [cap]; omega))) ?_
                  refine WO.op rfl rfl rfl rfl (step_int2 rfl rfl rfl) ?_
                  refine WO.op rfl rfl rfl rfl (pk_f rfl rfl rfl) ?_
                  refine WO.nil ?_
                  refine W.cond rfl (fun h8 => ?_) (fun h8 => ?_)
                  · try simp only [decide_eq_true_eq, decide_eq_false_iff_not, Bool.not_eq_true', Bool.not_eq_false', beq_iff_eq, bne_iff_ne, beq_eq_false_iff_ne, bne_eq_false_iff_eq, gt_iff_lt, ge_iff_le, Int.not_lt, Int.not_le] at h8
                    refine W.seq ?_
                    refine W.to [(0, _), (1, _), (2, _), (3, _), (4, _), (11, _), (12, _), (14, _), (25, _), (131, _)] [_, _] rfl ⟨(by exact sh_agg rfl), (by exact sh_ptr rfl), (by exact sh_sc rfl), (by exact sh_ptr rfl), (by exact sh_sc rfl), (by exact sh_sc rfl), (by exact sh_sc rfl), (by exact sh_sc rfl), (by exact sh_sc rfl), (by exact sh_sc rfl), trivial⟩ ?_
                    refine W.region ?_
                    refine WO.op rfl rfl rfl rfl (as_sc rfl) ?_
                    refine WO.nil ?_
                    refine W.ret ?_
                    refine ⟨.inl rfl, ?_⟩
                    exact ret0 (Res.tmp rfl Res.nil) (.keep rfl)
                  · try simp only [decide_eq_true_eq, decide_eq_false_iff_not, Bool.not_eq_true', Bool.not_eq_false', beq_iff_eq, bne_iff_ne, beq_eq_false_iff_ne, bne_eq_false_iff_eq, gt_iff_lt, ge_iff_le, Int.not_lt, Int.not_le] at h8
                    exact False.elim (h ⟨by omega, by omega, by omega⟩)

theorem w_rChkG2 {a4 : Int} {a5 : Int} {a6 : Bool} {a13 : ByteArray} (g4 : isI a4) (g5 : isI a5) (g13 : a13.size ≤ 200000000000000) (h : (0 ≤ a4 ∧ a4 ≤ 65535) ∧ (0 ≤ a5 ∧ a5 ≤ 65535) ∧ (a13.size ≤ 65507)) : Spec0 Try.prog 14 [.agg [.sc (.int .i64 2), .sc (.int .i64 0), .sc (.int .i64 0), .sc (.int .u32 0), .sc (.int .i64 a4), .sc (.int .i64 a5), .sc (.bool a6), .sc (.int .u32 0), .sc (.int .u32 0), .sc (.int .i64 0), .sc (.int .i64 0), .sc (.int .i64 0), .sc (.string ⟨#[]⟩), .sc (.string a13)]] (.sc (.int .i64 0)) := by
  refine Spec.body Try.func14 rfl (Nat.le_of_ble_eq_true rfl) ?_
  simp only [isI, isU] at *
  refine W.seq ?_
  refine W.region ?_
  refine WO.opA rfl rfl rfl rfl (al_boxA rfl rfl) rfl rfl ?_
  refine WO.put 1 (.ptr 0 0) rfl ?_
  refine WO.op rfl rfl rfl rfl (as_sc rfl) ?_
  refine WO.nil ?_
  refine W.seq ?_
  refine W.to [(0, _), (1, _), (2, _)] [_] rfl ⟨(by exact sh_agg rfl), (by exact sh_ptr rfl), (by exact sh_sc rfl), trivial⟩ ?_
  refine W.region ?_
  refine WO.op rfl rfl rfl rfl (step_fieldR (k := 0) (FieldOff.mk (by kernel_rfl)) rfl rfl (by exact Nat.zero_add _)) ?_
  refine WO.op rfl rfl rfl rfl (step_load Try.isAgg3 rfl rfl rfl) ?_
  refine WO.op rfl rfl rfl rfl (step_fieldR (k := 13) (FieldOff.mk (by kernel_rfl)) rfl rfl (by exact Nat.zero_add _)) ?_
  refine WO.op rfl rfl rfl rfl (step_load Try.isAgg9 rfl rfl rfl) ?_
  refine WO.op rfl rfl rfl rfl (step_build (out := [.sc (.int .i64 2), .sc (.int .i64 0), .sc (.int .i64 0), .sc (.int .u32 0), .sc (.int .i64 0), .sc (.int .i64 0), .sc (.bool false), .sc (.int .u32 0), .sc (.int .u32 0), .sc (.int .i64 0), .sc (.int .i64 0), .sc (.int .i64 0), .sc (.string ⟨#[]⟩), .sc (.string a13)]) Try.zeroValue25 (pl := [(0, 1), (1, 1), (2, 1), (3, 1), (4, 1), (5, 1), (6, 1), (7, 1), (8, 1), (9, 1), (10, 1), (11, 1), (12, 1), (13, 1)]) (PlacesOf.mk (by kernel_rfl)) (by kernel_rfl)) ?_
  refine WO.put 9 (.agg [.sc (.int .i64 2), .sc (.int .i64 0), .sc (.int .i64 0), .sc (.int .u32 0), .sc (.int .i64 0), .sc (.int .i64 0), .sc (.bool false), .sc (.int .u32 0), .sc (.int .u32 0), .sc (.int .i64 0), .sc (.int .i64 0), .sc (.int .i64 0), .sc (.string ⟨#[]⟩), .sc (.string a13)]) (by kernel_rfl) ?_
  refine WO.opA rfl rfl rfl rfl (al_alloc Try.zeroValue25) rfl rfl ?_
  refine WO.put 3 (.ptr 1 0) rfl ?_
  refine WO.op0 rfl rfl rfl (step_storeA Try.sizeOf25 rfl rfl rfl (by repeat (exact all_cell rfl rfl)) rfl rfl) ?_
  refine WO.nil ?_
  refine W.seq ?_
  refine W.to [(0, _), (1, _), (2, _), (3, _)] [_, _] rfl ⟨(by exact sh_agg rfl), (by exact sh_ptr rfl), (by exact sh_sc rfl), (by exact sh_ptr rfl), trivial⟩ ?_
  refine W.region ?_
  refine WO.op rfl rfl rfl rfl (as_sc rfl) ?_
  refine WO.nil ?_
  refine W.seq ?_
  refine W.seq ?_
  refine W.to [(0, _), (1, _), (2, _), (3, _), (4, _)] [_, _] rfl ⟨(by exact sh_agg rfl), (by exact sh_ptr rfl), (by exact sh_sc rfl), (by exact sh_ptr rfl), (by exact sh_sc rfl), trivial⟩ ?_
  refine W.region ?_
  refine WO.op rfl rfl rfl rfl (step_fieldR (k := 0) (FieldOff.mk (by kernel_rfl)) rfl rfl (by exact Nat.zero_add _)) ?_
  refine WO.op rfl rfl rfl rfl (step_load Try.isAgg3 rfl rfl rfl) ?_
  refine WO.nil ?_
  refine W.block ?_
  refine W.seq ?_
  refine W.to [(0, _), (1, _), (2, _), (3, _), (4, _), (11, _)] [_, _] rfl ⟨(by exact sh_agg rfl), (by exact sh_ptr rfl), (by exact sh_sc rfl), (by exact sh_ptr rfl), (by exact sh_sc rfl), (by exact sh_sc rfl), trivial⟩ ?_
  refine W.region ?_
  refine WO.op rfl rfl rfl rfl (step_int2 rfl rfl rfl) ?_
  refine WO.put 13 (.sc (.bool false)) (by kernel_rfl) ?_
  refine WO.op rfl rfl rfl rfl (as_sc rfl) ?_
  refine WO.nil ?_
  refine W.condF rfl ?_
  refine W.seq ?_
  refine W.to [(0, _), (1, _), (2, _), (3, _), (4, _), (11, _), (12, _)] [_, _] rfl ⟨(by exact sh_agg rfl), (by exact sh_ptr rfl), (by exact sh_sc rfl), (by exact sh_ptr rfl), (by exact sh_sc rfl), (by exact sh_sc rfl), (by exact sh_sc rfl), trivial⟩ ?_
  refine W.region ?_
  refine WO.op rfl rfl rfl rfl (step_int2 rfl rfl rfl) ?_
  refine WO.put 15 (.sc (.bool false)) (by kernel_rfl) ?_
  refine WO.op rfl rfl rfl rfl (as_sc rfl) ?_
  refine WO.nil ?_
  refine W.condF rfl ?_
  refine W.seq ?_
  refine W.to [(0, _), (1, _), (2, _), (3, _), (4, _), (11, _), (12, _), (14, _)] [_, _] rfl ⟨(by exact sh_agg rfl), (by exact sh_ptr rfl), (by exact sh_sc rfl), (by exact sh_ptr rfl), (by exact sh_sc rfl), (by exact sh_sc rfl), (by exact sh_sc rfl), (by exact sh_sc rfl), trivial⟩ ?_
  refine W.region ?_
  refine WO.op rfl rfl rfl rfl (step_int2 rfl rfl rfl) ?_
  refine WO.put 26 (.sc (.bool true)) (by kernel_rfl) ?_
  refine WO.op rfl rfl rfl rfl (as_sc rfl) ?_
  refine WO.nil ?_
  refine W.condT rfl ?_
  refine W.to [(0, _), (1, _), (2, _), (3, _), (4, _), (11, _), (12, _), (14, _), (25, _)] [_, _] rfl ⟨(by exact sh_agg rfl), (by exact sh_ptr rfl), (by exact sh_sc rfl), (by exact sh_ptr rfl), (by exact sh_sc rfl), (by exact sh_sc rfl), (by exact sh_sc rfl), (by exact sh_sc rfl), (by exact sh_sc rfl), trivial⟩ ?_
  refine W.draw (Checked.mixed Try.checked) ?_
  refine DC.op1 rfl rfl rfl rfl (fun _ ho => step_fieldR (k := 4) (FieldOff.mk (by kernel_rfl)) rfl ho (by exact Nat.zero_add _)) ?_
  refine DC.op1 rfl rfl rfl rfl (fun _ ho => step_load Try.isAgg3 rfl ho rfl) ?_
  refine DC.op1 rfl rfl rfl rfl (fun _ ho => step_fieldR (k := 5) (FieldOff.mk (by kernel_rfl)) rfl ho (by exact Nat.zero_add _)) ?_
  refine DC.op1 rfl rfl rfl rfl (fun _ ho => step_load Try.isAgg3 rfl ho rfl) ?_
  refine DC.op1 rfl rfl rfl rfl (fun _ ho => step_fieldR (k := 6) (FieldOff.mk (by kernel_rfl)) rfl ho (by exact Nat.zero_add _)) ?_
  refine DC.op1 rfl rfl rfl rfl (fun _ ho => step_load Try.isAgg4 rfl ho rfl) ?_
  refine DC.op1 rfl rfl rfl rfl (fun _ ho => step_fieldR (k := 4) (FieldOff.mk (by kernel_rfl)) rfl ho (by exact Nat.zero_add _)) ?_
  refine DC.opE0 rfl rfl (step_store1 Try.sizeOf3 rfl rfl rfl rfl (by (simp only [List.length_map, List.length_append, List.length_take, List.length_drop, List.length_set, List.length_cons, List.length_nil, List.length_replicate] <;> omega))) (by simp) (by repeat (first | exact True.intro | refine And.intro (by rfl) ?_)) (by repeat (first | exact True.intro | refine And.intro (by rfl) ?_)) ?_
  refine DC.op1 rfl rfl rfl rfl (fun _ ho => step_fieldR (k := 5) (FieldOff.mk (by kernel_rfl)) rfl ho (by exact Nat.zero_add _)) ?_
  refine DC.opE0 rfl rfl (step_store1 Try.sizeOf3 rfl rfl rfl rfl (by (simp only [List.length_map, List.length_append, List.length_take, List.length_drop, List.length_set, List.length_cons, List.length_nil, List.length_replicate] <;> omega))) (by simp) (by repeat (first | exact True.intro | refine And.intro (by rfl) ?_)) (by repeat (first | exact True.intro | refine And.intro (by rfl) ?_)) ?_
  refine DC.op1 rfl rfl rfl rfl (fun _ ho => step_fieldR (k := 6) (FieldOff.mk (by kernel_rfl)) rfl ho (by exact Nat.zero_add _)) ?_
  refine DC.opE0 rfl rfl (step_store1 Try.sizeOf4 rfl rfl rfl rfl (by (simp only [List.length_map, List.length_append, List.length_take, List.length_drop, List.length_set, List.length_cons, List.length_nil, List.length_replicate] <;> omega))) (by simp) (by repeat (first | exact True.intro | refine And.intro (by rfl) ?_)) (by repeat (first | exact True.intro | refine And.intro (by rfl) ?_)) ?_
  refine DC.op rfl rfl rfl (fun _ => as_sc rfl) ?_
  refine DC.fin [(0, 0), (1, 0), (2, 0), (2, 1), (3, 0), (3, 1), (4, 0), (4, 1), (4, 2), (5, 0), (5, 1), (5, 2), (6, 0), (8, 1), (10, 2)] (by kernel_rfl) (by kernel_rfl) ?_ ?_
  · repeat (first | exact True.intro | refine And.intro ?_ ?_ | kernel_rfl)
  · refine W.seq ?_
    refine W.seq ?_
    refine W.to [(0, _), (1, _), (2, _), (3, _), (4, _), (11, _), (12, _), (14, _), (25, _)] [_, _] rfl ⟨(by exact sh_agg rfl), (by exact sh_ptr rfl), (by exact sh_sc rfl), (by exact sh_ptr rfl), (by exact sh_sc rfl), (by exact sh_sc rfl), (by exact sh_sc rfl), (by exact sh_sc rfl), (by exact sh_sc rfl), trivial⟩ ?_
    refine W.region ?_
    refine WO.op rfl rfl rfl rfl (step_loadA Try.isAgg25 Try.sizeOf25 rfl rfl (by exact Nat.le_refl _)) ?_
    refine WO.put 66 (.agg [.sc (.int .i64 2), .sc (.int .i64 0), .sc (.int .i64 0), .sc (.int .u32 0), .sc (.int .i64 a4), .sc (.int .i64 a5), .sc (.bool a6), .sc (.int .u32 0), .sc (.int .u32 0), .sc (.int .i64 0), .sc (.int .i64 0), .sc (.int .i64 0), .sc (.string ⟨#[]⟩), .sc (.string a13)]) (by kernel_rfl) ?_
    refine WO.op rfl rfl rfl rfl (step_loadA Try.isAgg25 Try.sizeOf25 rfl rfl (by exact Nat.le_refl _)) ?_
    refine WO.put 67 (.agg [.sc (.int .i64 2), .sc (.int .i64 0), .sc (.int .i64 0), .sc (.int .u32 0), .sc (.int .i64 a4), .sc (.int .i64 a5), .sc (.bool a6), .sc (.int .u32 0), .sc (.int .u32 0), .sc (.int .i64 0), .sc (.int .i64 0), .sc (.int .i64 0), .sc (.string ⟨#[]⟩), .sc (.string a13)]) (by kernel_rfl) ?_
    refine WO.op rfl rfl rfl rfl (ne_L4 (a0 := 2) (a1 := 0) (a2 := 0) (a3 := 0) (a4 := a4) (a5 := a5) (a6 := a6) (a7 := 0) (a8 := 0) (a9 := 0) (a10 := 0) (a11 := 0) (a12 := ⟨#[]⟩) (a13 := a13) (by (constructor <;> decide)) (by (constructor <;> decide)) (by (constructor <;> decide)) (by (constructor <;> decide)) (by assumption) (by assumption) (by (constructor <;> decide)) (by (constructor <;> decide)) (by (constructor <;> decide)) (by (constructor <;> decide)) (by (constructor <;> decide)) (by decide) (by assumption) rfl rfl) ?_
    refine WO.put 68 (.sc (.bool false)) (rfl) ?_
    refine WO.op rfl rfl rfl rfl (mv_sc rfl) ?_
    refine WO.op rfl rfl rfl rfl (step_fieldR (k := 1) (FieldOff.mk (by kernel_rfl)) rfl rfl (by exact Nat.zero_add _)) ?_
    refine WO.op rfl rfl rfl rfl (step_load Try.isAgg3 rfl rfl rfl) ?_
    refine WO.op rfl rfl rfl rfl (step_pure Try.call34 rfl (by (repeat (first | exact Nl.nil | refine Nl.keep (by rfl) ?_))) (w_to) (by repeat (rfl))) ?_
    refine WO.op rfl rfl rfl rfl (step_not rfl) ?_
    refine WO.op rfl rfl rfl rfl (pk_f rfl rfl rfl) ?_
    refine WO.op rfl rfl rfl rfl (mv_sc rfl) ?_
    refine WO.spl 75 rfl (fun h1 => ?_) (fun h1 => ?_)
    · try simp only [decide_eq_true_eq, decide_eq_false_iff_not, Bool.not_eq_true', Bool.not_eq_false', beq_iff_eq, bne_iff_ne, beq_eq_false_iff_ne, bne_eq_false_iff_eq, gt_iff_lt, ge_iff_le, Int.not_lt, Int.not_le] at h1
      exact False.elim (by omega)
    · try simp only [decide_eq_true_eq, decide_eq_false_iff_not, Bool.not_eq_true', Bool.not_eq_false', beq_iff_eq, bne_iff_ne, beq_eq_false_iff_ne, bne_eq_false_iff_eq, gt_iff_lt, ge_iff_le, Int.not_lt, Int.not_le] at h1
      refine WO.op rfl rfl rfl rfl (step_fieldR (k := 2) (FieldOff.mk (by kernel_rfl)) rfl rfl (by exact Nat.zero_add _)) ?_
      refine WO.op rfl rfl rfl rfl (step_load Try.isAgg3 rfl rfl rfl) ?_
      refine WO.op rfl rfl rfl rfl (step_pure Try.call34 rfl (by (repeat (first | exact Nl.nil | refine Nl.keep (by rfl) ?_))) (w_to) (by repeat (rfl))) ?_
      refine WO.op rfl rfl rfl rfl (step_not rfl) ?_
      refine WO.op rfl rfl rfl rfl (pk_f rfl rfl rfl) ?_
      refine WO.op rfl rfl rfl rfl (mv_sc rfl) ?_
      refine WO.spl 81 rfl (fun h2 => ?_) (fun h2 => ?_)
      · try simp only [decide_eq_true_eq, decide_eq_false_iff_not, Bool.not_eq_true', Bool.not_eq_false', beq_iff_eq, bne_iff_ne, beq_eq_false_iff_ne, bne_eq_false_iff_eq, gt_iff_lt, ge_iff_le, Int.not_lt, Int.not_le] at h2
        exact False.elim (by omega)
      · try simp only [decide_eq_true_eq, decide_eq_false_iff_not, Bool.not_eq_true', Bool.not_eq_false', beq_iff_eq, bne_iff_ne, beq_eq_false_iff_ne, bne_eq_false_iff_eq, gt_iff_lt, ge_iff_le, Int.not_lt, Int.not_le] at h2
        refine WO.op rfl rfl rfl rfl (step_fieldR (k := 4) (FieldOff.mk (by kernel_rfl)) rfl rfl (by exact Nat.zero_add _)) ?_
        refine WO.op rfl rfl rfl rfl (step_load Try.isAgg3 rfl rfl rfl) ?_
        refine WO.op rfl rfl rfl rfl (step_pure Try.call34 rfl (by (repeat (first | exact Nl.nil | refine Nl.keep (by rfl) ?_))) (w_to) (by repeat (rfl))) ?_
        refine WO.op rfl rfl rfl rfl (step_not rfl) ?_
        refine WO.op rfl rfl rfl rfl (pk_f rfl rfl rfl) ?_
        refine WO.op rfl rfl rfl rfl (mv_sc rfl) ?_
        refine WO.spl 87 rfl (fun h3 => ?_) (fun h3 => ?_)
        · try simp only [decide_eq_true_eq, decide_eq_false_iff_not, Bool.not_eq_true', Bool.not_eq_false', beq_iff_eq, bne_iff_ne, beq_eq_false_iff_ne, bne_eq_false_iff_eq, gt_iff_lt, ge_iff_le, Int.not_lt, Int.not_le] at h3
          exact False.elim (by omega)
        · try simp only [decide_eq_true_eq, decide_eq_false_iff_not, Bool.not_eq_true', Bool.not_eq_false', beq_iff_eq, bne_iff_ne, beq_eq_false_iff_ne, bne_eq_false_iff_eq, gt_iff_lt, ge_iff_le, Int.not_lt, Int.not_le] at h3
          refine WO.op rfl rfl rfl rfl (step_fieldR (k := 5) (FieldOff.mk (by kernel_rfl)) rfl rfl (by exact Nat.zero_add _)) ?_
          refine WO.op rfl rfl rfl rfl (step_load Try.isAgg3 rfl rfl rfl) ?_
          refine WO.op rfl rfl rfl rfl (step_pure Try.call34 rfl (by (repeat (first | exact Nl.nil | refine Nl.keep (by rfl) ?_))) (w_to) (by repeat (rfl))) ?_
          refine WO.op rfl rfl rfl rfl (step_not rfl) ?_
          refine WO.op rfl rfl rfl rfl (pk_f rfl rfl rfl) ?_
          refine WO.op rfl rfl rfl rfl (mv_sc rfl) ?_
          refine WO.spl 93 rfl (fun h4 => ?_) (fun h4 => ?_)
          · try simp only [decide_eq_true_eq, decide_eq_false_iff_not, Bool.not_eq_true', Bool.not_eq_false', beq_iff_eq, bne_iff_ne, beq_eq_false_iff_ne, bne_eq_false_iff_eq, gt_iff_lt, ge_iff_le, Int.not_lt, Int.not_le] at h4
            exact False.elim (by omega)
          · try simp only [decide_eq_true_eq, decide_eq_false_iff_not, Bool.not_eq_true', Bool.not_eq_false', beq_iff_eq, bne_iff_ne, beq_eq_false_iff_ne, bne_eq_false_iff_eq, gt_iff_lt, ge_iff_le, Int.not_lt, Int.not_le] at h4
            refine WO.op rfl rfl rfl rfl (step_fieldR (k := 10) (FieldOff.mk (by kernel_rfl)) rfl rfl (by exact Nat.zero_add _)) ?_
            refine WO.op rfl rfl rfl rfl (step_load Try.isAgg3 rfl rfl rfl) ?_
            refine WO.op rfl rfl rfl rfl (step_pure Try.call34 rfl (by (repeat (first | exact Nl.nil | refine Nl.keep (by rfl) ?_))) (w_to) (by repeat (rfl))) ?_
            refine WO.op rfl rfl rfl rfl (step_not rfl) ?_
            refine WO.op rfl rfl rfl rfl (pk_f rfl rfl rfl) ?_
            refine WO.op rfl rfl rfl rfl (mv_sc rfl) ?_
            refine WO.spl 99 rfl (fun h5 => ?_) (fun h5 => ?_)
            · try simp only [decide_eq_true_eq, decide_eq_false_iff_not, Bool.not_eq_true', Bool.not_eq_false', beq_iff_eq, bne_iff_ne, beq_eq_false_iff_ne, bne_eq_false_iff_eq, gt_iff_lt, ge_iff_le, Int.not_lt, Int.not_le] at h5
              exact False.elim (by omega)
            · try simp only [decide_eq_true_eq, decide_eq_false_iff_not, Bool.not_eq_true', Bool.not_eq_false', beq_iff_eq, bne_iff_ne, beq_eq_false_iff_ne, bne_eq_false_iff_eq, gt_iff_lt, ge_iff_le, Int.not_lt, Int.not_le] at h5
              refine WO.op rfl rfl rfl rfl (step_fieldR (k := 11) (FieldOff.mk (by kernel_rfl)) rfl rfl (by exact Nat.zero_add _)) ?_
              refine WO.op rfl rfl rfl rfl (step_load Try.isAgg3 rfl rfl rfl) ?_
              refine WO.op rfl rfl rfl rfl (step_pure Try.call34 rfl (by (repeat (first | exact Nl.nil | refine Nl.keep (by rfl) ?_))) (w_to) (by repeat (rfl))) ?_
              refine WO.op rfl rfl rfl rfl (step_not rfl) ?_
              refine WO.op rfl rfl rfl rfl (pk_f rfl rfl rfl) ?_
              refine WO.op rfl rfl rfl rfl (mv_sc rfl) ?_
              refine WO.spl 105 rfl (fun h6 => ?_) (fun h6 => ?_)
              · try simp only [decide_eq_true_eq, decide_eq_false_iff_not, Bool.not_eq_true', Bool.not_eq_false', beq_iff_eq, bne_iff_ne, beq_eq_false_iff_ne, bne_eq_false_iff_eq, gt_iff_lt, ge_iff_le, Int.not_lt, Int.not_le] at h6
                exact False.elim (by omega)
              · try simp only [decide_eq_true_eq, decide_eq_false_iff_not, Bool.not_eq_true', Bool.not_eq_false', beq_iff_eq, bne_iff_ne, beq_eq_false_iff_ne, bne_eq_false_iff_eq, gt_iff_lt, ge_iff_le, Int.not_lt, Int.not_le] at h6
                refine WO.op rfl rfl rfl rfl (step_fieldR (k := 9) (FieldOff.mk (by kernel_rfl)) rfl rfl (by exact Nat.zero_add _)) ?_
                refine WO.op rfl rfl rfl rfl (step_load Try.isAgg3 rfl rfl rfl) ?_
                refine WO.op rfl rfl rfl rfl (step_pure Try.call34 rfl (by (repeat (first | exact Nl.nil | refine Nl.keep (by rfl) ?_))) (w_to) (by repeat (rfl))) ?_
                refine WO.op rfl rfl rfl rfl (step_not rfl) ?_
                refine WO.op rfl rfl rfl rfl (pk_f rfl rfl rfl) ?_
                refine WO.op rfl rfl rfl rfl (mv_sc rfl) ?_
                refine WO.spl 111 rfl (fun h7 => ?_) (fun h7 => ?_)
                · try simp only [decide_eq_true_eq, decide_eq_false_iff_not, Bool.not_eq_true', Bool.not_eq_false', beq_iff_eq, bne_iff_ne, beq_eq_false_iff_ne, bne_eq_false_iff_eq, gt_iff_lt, ge_iff_le, Int.not_lt, Int.not_le] at h7
                  exact False.elim (by omega)
                · try simp only [decide_eq_true_eq, decide_eq_false_iff_not, Bool.not_eq_true', Bool.not_eq_false', beq_iff_eq, bne_iff_ne, beq_eq_false_iff_ne, bne_eq_false_iff_eq, gt_iff_lt, ge_iff_le, Int.not_lt, Int.not_le] at h7
                  refine WO.op rfl rfl rfl rfl (step_fieldR (k := 12) (FieldOff.mk (by kernel_rfl)) rfl rfl (by exact Nat.zero_add _)) ?_
                  refine WO.op rfl rfl rfl rfl (step_load Try.isAgg9 rfl rfl rfl) ?_
                  refine WO.op rfl rfl rfl rfl (step_lenS Try.runUnderlying9 rfl) ?_
                  refine WO.op rfl rfl rfl rfl (step_int2 rfl rfl rfl) ?_
                  refine WO.put 115 (.sc (.bool false)) (by kernel_rfl) ?_
                  refine WO.op rfl rfl rfl rfl (pk_f rfl rfl rfl) ?_
                  refine WO.op rfl rfl rfl rfl (mv_sc rfl) ?_
                  refine WO.op rfl rfl rfl rfl (step_fieldR (k := 12) (FieldOff.mk (by kernel_rfl)) rfl rfl (by exact Nat.zero_add _)) ?_
                  refine WO.op rfl rfl rfl rfl (step_load Try.isAgg9 rfl rfl rfl) ?_
                  refine WO.op rfl rfl rfl rfl (step_lenS Try.runUnderlying9 rfl) ?_
                  refine WO.op rfl rfl rfl rfl (step_remN (q := 4) rfl rfl (by omega)) ?_
                  refine WO.op rfl rfl rfl rfl (step_int2 rfl rfl rfl) ?_
                  refine WO.put 122 (.sc (.bool false)) (by kernel_rfl) ?_
                  refine WO.op rfl rfl rfl rfl (pk_f rfl rfl rfl) ?_
                  refine WO.op rfl rfl rfl rfl (mv_sc rfl) ?_
                  refine WO.op rfl rfl rfl rfl (step_fieldR (k := 13) (FieldOff.mk (by kernel_rfl)) rfl rfl (by exact Nat.zero_add _)) ?_
                  refine WO.op rfl rfl rfl rfl (step_load Try.isAgg9 rfl rfl rfl) ?_
                  refine WO.op rfl rfl rfl rfl (step_lenS Try.runUnderlying9 rfl) ?_
                  refine WO.op rfl rfl rfl rfl (mv_sc rfl) ?_
                  refine WO.op rfl rfl rfl rfl (step_subN (p := 65515) rfl rfl (by (simp only [List.length_map, List.length_append, List.length_take, List.length_drop, List.length_set, List.length_cons, List.length_nil, List.length_replicate] <;> omega)) (by (simp only [cap]; omega))) ?_
                  refine WO.op rfl rfl rfl rfl (step_int2 rfl rfl rfl) ?_
                  refine WO.op rfl rfl rfl rfl (pk_f rfl rfl rfl) ?_
                  refine WO.nil ?_
                  refine W.cond rfl (fun h8 => ?_) (fun h8 => ?_)
                  · try simp only [decide_eq_true_eq, decide_eq_false_iff_not, Bool.not_eq_true', Bool.not_eq_false', beq_iff_eq, bne_iff_ne, beq_eq_false_iff_ne, bne_eq_false_iff_eq, gt_iff_lt, ge_iff_le, Int.not_lt, Int.not_le] at h8
                    exact False.elim (by omega)
                  · try simp only [decide_eq_true_eq, decide_eq_false_iff_not, Bool.not_eq_true', Bool.not_eq_false', beq_iff_eq, bne_iff_ne, beq_eq_false_iff_ne, bne_eq_false_iff_eq, gt_iff_lt, ge_iff_le, Int.not_lt, Int.not_le] at h8
                    refine W.skip ?_
                    refine W.seq ?_
                    refine W.to [(0, _), (1, _), (2, _), (3, _), (4, _), (11, _), (12, _), (14, _), (25, _), (131, _)] [_, _] rfl ⟨(by exact sh_agg rfl), (by exact sh_ptr rfl), (by exact sh_sc rfl), (by exact sh_ptr rfl), (by exact sh_sc rfl), (by exact sh_sc rfl), (by exact sh_sc rfl), (by exact sh_sc rfl), (by exact sh_sc rfl), (by exact sh_sc rfl), trivial⟩ ?_
                    refine W.region ?_
                    refine WO.op rfl rfl rfl rfl (as_sc rfl) ?_
                    refine WO.nil ?_
                    refine W.ret ?_
                    refine ⟨.inl rfl, ?_⟩
                    exact ret0 (Res.tmp rfl Res.nil) (.keep rfl)

theorem w_rChkN3 {a1 : Int} {a2 : Int} {a3 : Int} {a4 : Int} {a5 : Int} {a6 : Bool} {a7 : Int} {a8 : Int} {a9 : Int} {a10 : Int} {a11 : Int} {a12 : ByteArray} {a13 : ByteArray} (g1 : isI a1) (g2 : isI a2) (g3 : isU a3) (g4 : isI a4) (g5 : isI a5) (g7 : isU a7) (g8 : isU a8) (g9 : isI a9) (g10 : isI a10) (g11 : isI a11) (g12 : a12.size ≤ 200000000000000) (g13 : a13.size ≤ 200000000000000) (hne : ¬ (3 = (3 : Int) ∧ a1 = 0 ∧ a2 = 0 ∧ a3 = 0 ∧ a4 = a4 ∧ a5 = a5 ∧ a6 = false ∧ a7 = a7 ∧ a8 = a8 ∧ a9 = a9 ∧ a10 = a10 ∧ a11 = a11 ∧ a12.data.toList = (a12 : ByteArray).data.toList ∧ a13.data.toList = (a13 : ByteArray).data.toList)) : Spec0 Try.prog 14 [.agg [.sc (.int .i64 3), .sc (.int .i64 a1), .sc (.int .i64 a2), .sc (.int .u32 a3), .sc (.int .i64 a4), .sc (.int .i64 a5), .sc (.bool a6), .sc (.int .u32 a7), .sc (.int .u32 a8), .sc (.int .i64 a9), .sc (.int .i64 a10), .sc (.int .i64 a11), .sc (.string a12), .sc (.string a13)]] (.sc (.int .i64 1)) := by
  refine Spec.body Try.func14 rfl (Nat.le_of_ble_eq_true rfl) ?_
  refine W.seq ?_
  refine W.region ?_
  refine WO.opA rfl rfl rfl rfl (al_boxA rfl rfl) rfl rfl ?_
  refine WO.put 1 (.ptr 0 0) rfl ?_
  refine WO.op rfl rfl rfl rfl (as_sc rfl) ?_
  refine WO.nil ?_
  refine W.seq ?_
  refine W.to [(0, _), (1, _), (2, _)] [_] rfl ⟨(by exact sh_agg rfl), (by exact sh_ptr rfl), (by exact sh_sc rfl), trivial⟩ ?_
  refine W.region ?_
  refine WO.op rfl rfl rfl rfl (step_fieldR (k := 0) (FieldOff.mk (by kernel_rfl)) rfl rfl (by exact Nat.zero_add _)) ?_
  refine WO.op rfl rfl rfl rfl (step_load Try.isAgg3 rfl rfl rfl) ?_
  refine WO.op rfl rfl rfl rfl (step_fieldR (k := 13) (FieldOff.mk (by kernel_rfl)) rfl rfl (by exact Nat.zero_add _)) ?_
  refine WO.op rfl rfl rfl rfl (step_load Try.isAgg9 rfl rfl rfl) ?_
  refine WO.op rfl rfl rfl rfl (step_build (out := [.sc (.int .i64 3), .sc (.int .i64 0), .sc (.int .i64 0), .sc (.int .u32 0), .sc (.int .i64 0), .sc (.int .i64 0), .sc (.bool false), .sc (.int .u32 0), .sc (.int .u32 0), .sc (.int .i64 0), .sc (.int .i64 0), .sc (.int .i64 0), .sc (.string ⟨#[]⟩), .sc (.string a13)]) Try.zeroValue25 (pl := [(0, 1), (1, 1), (2, 1), (3, 1), (4, 1), (5, 1), (6, 1), (7, 1), (8, 1), (9, 1), (10, 1), (11, 1), (12, 1), (13, 1)]) (PlacesOf.mk (by kernel_rfl)) (by kernel_rfl)) ?_
  refine WO.put 9 (.agg [.sc (.int .i64 3), .sc (.int .i64 0), .sc (.int .i64 0), .sc (.int .u32 0), .sc (.int .i64 0), .sc (.int .i64 0), .sc (.bool false), .sc (.int .u32 0), .sc (.int .u32 0), .sc (.int .i64 0), .sc (.int .i64 0), .sc (.int .i64 0), .sc (.string ⟨#[]⟩), .sc (.string a13)]) (by kernel_rfl) ?_
  refine WO.opA rfl rfl rfl rfl (al_alloc Try.zeroValue25) rfl rfl ?_
  refine WO.put 3 (.ptr 1 0) rfl ?_
  refine WO.op0 rfl rfl rfl (step_storeA Try.sizeOf25 rfl rfl rfl (by repeat (exact all_cell rfl rfl)) rfl rfl) ?_
  refine WO.nil ?_
  refine W.seq ?_
  refine W.to [(0, _), (1, _), (2, _), (3, _)] [_, _] rfl ⟨(by exact sh_agg rfl), (by exact sh_ptr rfl), (by exact sh_sc rfl), (by exact sh_ptr rfl), trivial⟩ ?_
  refine W.region ?_
  refine WO.op rfl rfl rfl rfl (as_sc rfl) ?_
  refine WO.nil ?_
  refine W.seq ?_
  refine W.seq ?_
  refine W.to [(0, _), (1, _), (2, _), (3, _), (4, _)] [_, _] rfl ⟨(by exact sh_agg rfl), (by exact sh_ptr rfl), (by exact sh_sc rfl), (by exact sh_ptr rfl), (by exact sh_sc rfl), trivial⟩ ?_
  refine W.region ?_
  refine WO.op rfl rfl rfl rfl (step_fieldR (k := 0) (FieldOff.mk (by kernel_rfl)) rfl rfl (by exact Nat.zero_add _)) ?_
  refine WO.op rfl rfl rfl rfl (step_load Try.isAgg3 rfl rfl rfl) ?_
  refine WO.nil ?_
  refine W.block ?_
  refine W.seq ?_
  refine W.to [(0, _), (1, _), (2, _), (3, _), (4, _), (11, _)] [_, _] rfl ⟨(by exact sh_agg rfl), (by exact sh_ptr rfl), (by exact sh_sc rfl), (by exact sh_ptr rfl), (by exact sh_sc rfl), (by exact sh_sc rfl), trivial⟩ ?_
  refine W.region ?_
  refine WO.op rfl rfl rfl rfl (step_int2 rfl rfl rfl) ?_
  refine WO.put 13 (.sc (.bool false)) (by kernel_rfl) ?_
  refine WO.op rfl rfl rfl rfl (as_sc rfl) ?_
  refine WO.nil ?_
  refine W.condF rfl ?_
  refine W.seq ?_
  refine W.to [(0, _), (1, _), (2, _), (3, _), (4, _), (11, _), (12, _)] [_, _] rfl ⟨(by exact sh_agg rfl), (by exact sh_ptr rfl), (by exact sh_sc rfl), (by exact sh_ptr rfl), (by exact sh_sc rfl), (by exact sh_sc rfl), (by exact sh_sc rfl), trivial⟩ ?_
  refine W.region ?_
  refine WO.op rfl rfl rfl rfl (step_int2 rfl rfl rfl) ?_
  refine WO.put 15 (.sc (.bool false)) (by kernel_rfl) ?_
  refine WO.op rfl rfl rfl rfl (as_sc rfl) ?_
  refine WO.nil ?_
  refine W.condF rfl ?_
  refine W.seq ?_
  refine W.to [(0, _), (1, _), (2, _), (3, _), (4, _), (11, _), (12, _), (14, _)] [_, _] rfl ⟨(by exact sh_agg rfl), (by exact sh_ptr rfl), (by exact sh_sc rfl), (by exact sh_ptr rfl), (by exact sh_sc rfl), (by exact sh_sc rfl), (by exact sh_sc rfl), (by exact sh_sc rfl), trivial⟩ ?_
  refine W.region ?_
  refine WO.op rfl rfl rfl rfl (step_int2 rfl rfl rfl) ?_
  refine WO.put 26 (.sc (.bool false)) (by kernel_rfl) ?_
  refine WO.op rfl rfl rfl rfl (as_sc rfl) ?_
  refine WO.nil ?_
  refine W.condF rfl ?_
  refine W.seq ?_
  refine W.to [(0, _), (1, _), (2, _), (3, _), (4, _), (11, _), (12, _), (14, _), (25, _)] [_, _] rfl ⟨(by exact sh_agg rfl), (by exact sh_ptr rfl), (by exact sh_sc rfl), (by exact sh_ptr rfl), (by exact sh_sc rfl), (by exact sh_sc rfl), (by exact sh_sc rfl), (by exact sh_sc rfl), (by exact sh_sc rfl), trivial⟩ ?_
  refine W.region ?_
  refine WO.op rfl rfl rfl rfl (step_int2 rfl rfl rfl) ?_
  refine WO.put 37 (.sc (.bool true)) (by kernel_rfl) ?_
  refine WO.op rfl rfl rfl rfl (as_sc rfl) ?_
  refine WO.nil ?_
  refine W.condT rfl ?_
  refine W.seq ?_
  refine W.to [(0, _), (1, _), (2, _), (3, _), (4, _), (11, _), (12, _), (14, _), (25, _), (36, _)] [_, _] rfl ⟨(by exact sh_agg rfl), (by exact sh_ptr rfl), (by exact sh_sc rfl), (by exact sh_ptr rfl), (by exact sh_sc rfl), (by exact sh_sc rfl), (by exact sh_sc rfl), (by exact sh_sc rfl), (by exact sh_sc rfl), (by exact sh_sc rfl), trivial⟩ ?_
  refine W.draw (Checked.mixed Try.checked) ?_
  refine DC.op1 rfl rfl rfl rfl (fun _ ho => step_fieldR (k := 4) (FieldOff.mk (by kernel_rfl)) rfl ho (by exact Nat.zero_add _)) ?_
  refine DC.op1 rfl rfl rfl rfl (fun _ ho => step_load Try.isAgg3 rfl ho rfl) ?_
  refine DC.op1 rfl rfl rfl rfl (fun _ ho => step_fieldR (k := 5) (FieldOff.mk (by kernel_rfl)) rfl ho (by exact Nat.zero_add _)) ?_
  refine DC.op1 rfl rfl rfl rfl (fun _ ho => step_load Try.isAgg3 rfl ho rfl) ?_
  refine DC.op1 rfl rfl rfl rfl (fun _ ho => step_fieldR (k := 7) (FieldOff.mk (by kernel_rfl)) rfl ho (by exact Nat.zero_add _)) ?_
  refine DC.op1 rfl rfl rfl rfl (fun _ ho => step_load Try.isAgg22 rfl ho rfl) ?_
  refine DC.op1 rfl rfl rfl rfl (fun _ ho => step_fieldR (k := 8) (FieldOff.mk (by kernel_rfl)) rfl ho (by exact Nat.zero_add _)) ?_
  refine DC.op1 rfl rfl rfl rfl (fun _ ho => step_load Try.isAgg22 rfl ho rfl) ?_
  refine DC.op1 rfl rfl rfl rfl (fun _ ho => step_fieldR (k := 9) (FieldOff.mk (by kernel_rfl)) rfl ho (by exact Nat.zero_add _)) ?_
  refine DC.op1 rfl rfl rfl rfl (fun _ ho => step_load Try.isAgg3 rfl ho rfl) ?_
  refine DC.op1 rfl rfl rfl rfl (fun _ ho => step_fieldR (k := 10) (FieldOff.mk (by kernel_rfl)) rfl ho (by exact Nat.zero_add _)) ?_
  refine DC.op1 rfl rfl rfl rfl (fun _ ho => step_load Try.isAgg3 rfl ho rfl) ?_
  refine DC.op1 rfl rfl rfl rfl (fun _ ho => step_fieldR (k := 11) (FieldOff.mk (by kernel_rfl)) rfl ho (by exact Nat.zero_add _)) ?_
  refine DC.op1 rfl rfl rfl rfl (fun _ ho => step_load Try.isAgg3 rfl ho rfl) ?_
  refine DC.op1 rfl rfl rfl rfl (fun _ ho => step_fieldR (k := 12) (FieldOff.mk (by kernel_rfl)) rfl ho (by exact Nat.zero_add _)) ?_
  refine DC.op1 rfl rfl rfl rfl (fun _ ho => step_load Try.isAgg9 rfl ho rfl) ?_
  refine DC.op1 rfl rfl rfl rfl (fun _ ho => step_fieldR (k := 4) (FieldOff.mk (by kernel_rfl)) rfl ho (by exact Nat.zero_add _)) ?_
  refine DC.opE0 rfl rfl (step_store1 Try.sizeOf3 rfl rfl rfl rfl (by (simp only [List.length_map, List.length_append, List.length_take, List.length_drop, List.length_set, List.length_cons, List.length_nil, List.length_replicate] <;> omega))) (by simp) (by repeat (first | exact True.intro | refine And.intro (by rfl) ?_)) (by repeat (first | exact True.intro | refine And.intro (by rfl) ?_)) ?_
  refine DC.op1 rfl rfl rfl rfl (fun _ ho => step_fieldR (k := 5) (FieldOff.mk (by kernel_rfl)) rfl ho (by exact Nat.zero_add _)) ?_
  refine DC.opE0 rfl rfl (step_store1 Try.sizeOf3 rfl rfl rfl rfl (by (simp only [List.length_map, List.length_append, List.length_take, List.length_drop, List.length_set, List.length_cons, List.length_nil, List.length_replicate] <;> omega))) (by simp) (by repeat (first | exact True.intro | refine And.intro (by rfl) ?_)) (by repeat (first | exact True.intro | refine And.intro (by rfl) ?_)) ?_
  refine DC.op1 rfl rfl rfl rfl (fun _ ho => step_fieldR (k := 7) (FieldOff.mk (by kernel_rfl)) rfl ho (by exact Nat.zero_add _)) ?_
  refine DC.opE0 rfl rfl (step_store1 Try.sizeOf22 rfl rfl rfl rfl (by (simp only [List.length_map, List.length_append, List.length_take, List.length_drop, List.length_set, List.length_cons, List.length_nil, List.length_replicate] <;> omega))) (by simp) (by repeat (first | exact True.intro | refine And.intro (by rfl) ?_)) (by repeat (first | exact True.intro | refine And.intro (by rfl) ?_)) ?_
  refine DC.op1 rfl rfl rfl rfl (fun _ ho => step_fieldR (k := 8) (FieldOff.mk (by kernel_rfl)) rfl ho (by exact Nat.zero_add _)) ?_
  refine DC.opE0 rfl rfl (step_store1 Try.sizeOf22 rfl rfl rfl rfl (by (simp only [List.length_map, List.length_append, List.length_take, List.length_drop, List.length_set, List.length_cons, List.length_nil, List.length_replicate] <;> omega))) (by simp) (by repeat (first | exact True.intro | refine And.intro (by rfl) ?_)) (by repeat (first | exact True.intro | refine And.intro (by rfl) ?_)) ?_
  refine DC.op1 rfl rfl rfl rfl (fun _ ho => step_fieldR (k := 9) (FieldOff.mk (by kernel_rfl)) rfl ho (by exact Nat.zero_add _)) ?_
  refine DC.opE0 rfl rfl (step_store1 Try.sizeOf3 rfl rfl rfl rfl (by (simp only [List.length_map, List.length_append, List.length_take, List.length_drop, List.length_set, List.length_cons, List.length_nil, List.length_replicate] <;> omega))) (by simp) (by repeat (first | exact True.intro | refine And.intro (by rfl) ?_)) (by repeat (first | exact True.intro | refine And.intro (by rfl) ?_)) ?_
  refine DC.op1 rfl rfl rfl rfl (fun _ ho => step_fieldR (k := 10) (FieldOff.mk (by kernel_rfl)) rfl ho (by exact Nat.zero_add _)) ?_
  refine DC.opE0 rfl rfl (step_store1 Try.sizeOf3 rfl rfl rfl rfl (by (simp only [List.length_map, List.length_append, List.length_take, List.length_drop, List.length_set, List.length_cons, List.length_nil, List.length_replicate] <;> omega))) (by simp) (by repeat (first | exact True.intro | refine And.intro (by rfl) ?_)) (by repeat (first | exact True.intro | refine And.intro (by rfl) ?_)) ?_
  refine DC.op1 rfl rfl rfl rfl (fun _ ho => step_fieldR (k := 11) (FieldOff.mk (by kernel_rfl)) rfl ho (by exact Nat.zero_add _)) ?_
  refine DC.opE0 rfl rfl (step_store1 Try.sizeOf3 rfl rfl rfl rfl (by (simp only [List.length_map, List.length_append, List.length_take, List.length_drop, List.length_set, List.length_cons, List.length_nil, List.length_replicate] <;> omega))) (by simp) (by repeat (first | exact True.intro | refine And.intro (by rfl) ?_)) (by repeat (first | exact True.intro | refine And.intro (by rfl) ?_)) ?_
  refine DC.op1 rfl rfl rfl rfl (fun _ ho => step_fieldR (k := 12) (FieldOff.mk (by kernel_rfl)) rfl ho (by exact Nat.zero_add _)) ?_
  refine DC.opE0 rfl rfl (step_store1 Try.sizeOf9 rfl rfl rfl rfl (by (simp only [List.length_map, List.length_append, List.length_take, List.length_drop, List.length_set, List.length_cons, List.length_nil, List.length_replicate] <;> omega))) (by simp) (by repeat (first | exact True.intro | refine And.intro (by rfl) ?_)) (by repeat (first | exact True.intro | refine And.intro (by rfl) ?_)) ?_
  refine DC.fin [(0, 0), (1, 0), (2, 0), (2, 1), (3, 0), (3, 1), (4, 0), (4, 1), (4, 2), (5, 0), (5, 1), (5, 2), (6, 0), (6, 1), (6, 2), (6, 3), (7, 0), (7, 1), (7, 2), (7, 3), (8, 0), (8, 1), (8, 2), (8, 3), (8, 4), (9, 0), (9, 1), (9, 2), (9, 3), (9, 4), (10, 0), (10, 1), (10, 2), (10, 3), (10, 4), (10, 5), (11, 0), (11, 1), (11, 2), (11, 3), (11, 4), (11, 5), (12, 0), (12, 1), (12, 2), (12, 3), (12, 4), (12, 5), (12, 6), (13, 0), (13, 1), (13, 2), (13, 3), (13, 4), (13, 5), (13, 6), (14, 0), (14, 1), (14, 2), (14, 3), (14, 4), (14, 5), (14, 6), (14, 7), (15, 0), (15, 1), (15, 2), (15, 3), (15, 4), (15, 5), (15, 6), (15, 7), (16, 0), (18, 1), (20, 2), (22, 3), (24, 4), (26, 5), (28, 6), (30, 7)] (by kernel_rfl) (by kernel_rfl) ?_ ?_
  · repeat (first | exact True.intro | refine And.intro ?_ ?_ | kernel_rfl)
  · refine W.to [(0, _), (1, _), (2, _), (3, _), (4, _), (11, _), (12, _), (14, _), (25, _), (36, _)] [_, _] rfl ⟨(by exact sh_agg rfl), (by exact sh_ptr rfl), (by exact sh_sc rfl), (by exact sh_ptr rfl), (by exact sh_sc rfl), (by exact sh_sc rfl), (by exact sh_sc rfl), (by exact sh_sc rfl), (by exact sh_sc rfl), (by exact sh_sc rfl), trivial⟩ ?_
    refine W.region ?_
    refine WO.op rfl rfl rfl rfl (step_fieldR (k := 12) (FieldOff.mk (by kernel_rfl)) rfl rfl (by exact Nat.zero_add _)) ?_
    refine WO.op rfl rfl rfl rfl (step_load Try.isAgg9 rfl rfl rfl) ?_
    refine WO.op rfl rfl rfl rfl (step_lenS Try.runUnderlying9 rfl) ?_
    refine WO.op rfl rfl rfl rfl (step_addN (p := 20) rfl rfl (by (simp only [cap]; omega))) ?_
    refine WO.op rfl rfl rfl rfl (as_sc rfl) ?_
    refine WO.nil ?_
    refine W.seq ?_
    refine W.seq ?_
    refine W.to [(0, _), (1, _), (2, _), (3, _), (4, _), (11, _), (12, _), (14, _), (25, _), (36, _)] [_, _] rfl ⟨(by exact sh_agg rfl), (by exact sh_ptr rfl), (by exact sh_sc rfl), (by exact sh_ptr rfl), (by exact sh_sc rfl), (by exact sh_sc rfl), (by exact sh_sc rfl), (by exact sh_sc rfl), (by exact sh_sc rfl), (by exact sh_sc rfl), trivial⟩ ?_
    refine W.region ?_
    refine WO.op rfl rfl rfl rfl (step_loadA Try.isAgg25 Try.sizeOf25 rfl rfl (by exact Nat.le_refl _)) ?_
    refine WO.put 66 (.agg [.sc (.int .i64 3), .sc (.int .i64 a1), .sc (.int .i64 a2), .sc (.int .u32 a3), .sc (.int .i64 a4), .sc (.int .i64 a5), .sc (.bool a6), .sc (.int .u32 a7), .sc (.int .u32 a8), .sc (.int .i64 a9), .sc (.int .i64 a10), .sc (.int .i64 a11), .sc (.string a12), .sc (.string a13)]) (by kernel_rfl) ?_
    refine WO.op rfl rfl rfl rfl (step_loadA Try.isAgg25 Try.sizeOf25 rfl rfl (by exact Nat.le_refl _)) ?_
    refine WO.put 67 (.agg [.sc (.int .i64 3), .sc (.int .i64 0), .sc (.int .i64 0), .sc (.int .u32 0), .sc (.int .i64 a4), .sc (.int .i64 a5), .sc (.bool false), .sc (.int .u32 a7), .sc (.int .u32 a8), .sc (.int .i64 a9), .sc (.int .i64 a10), .sc (.int .i64 a11), .sc (.string a12), .sc (.string a13)]) (by kernel_rfl) ?_
    refine WO.op rfl rfl rfl rfl (ne2_L4 (a0 := 3) (a1 := a1) (a2 := a2) (a3 := a3) (a4 := a4) (a5 := a5) (a6 := a6) (a7 := a7) (a8 := a8) (a9 := a9) (a10 := a10) (a11 := a11) (a12 := a12) (a13 := a13) (b0 := 3) (b1 := 0) (b2 := 0) (b3 := 0) (b4 := a4) (b5 := a5) (b6 := false) (b7 := a7) (b8 := a8) (b9 := a9) (b10 := a10) (b11 := a11) (b12 := a12) (b13 := a13) (by (constructor <;> decide)) (by assumption) (by assumption) (by assumption) (by assumption) (by assumption) (by assumption) (by assumption) (by assumption) (by assumption) (by assumption) (by assumption) (by assumption) (by (constructor <;> decide)) (by (constructor <;> decide)) (by (constructor <;> decide)) (by (constructor <;> decide)) (by assumption) (by assumption) (by assumption) (by assumption) (by assumption) (by assumption) (by assumption) (by assumption) (by assumption) hne rfl rfl) ?_
    refine WO.put 68 (.sc (.bool true)) (rfl) ?_
    iterate 8 (refine WO.op rfl rfl rfl rfl (mv_sc rfl) ?_; refine WO.sk rfl rfl rfl rfl ?_; refine WO.sk rfl rfl rfl rfl ?_; refine WO.sk rfl rfl rfl rfl ?_; refine WO.sk rfl rfl rfl rfl ?_; refine WO.op rfl rfl rfl rfl (pk_t rfl rfl rfl) ?_)
    refine WO.op rfl rfl rfl rfl (mv_sc rfl) ?_
    iterate 5 (refine WO.sk rfl rfl rfl rfl ?_)
    refine WO.op rfl rfl rfl rfl (pk_t rfl rfl rfl) ?_
    refine WO.op rfl rfl rfl rfl (mv_sc rfl) ?_
    iterate 6 (refine WO.sk rfl rfl rfl rfl ?_)
    refine WO.op rfl rfl rfl rfl (pk_t rfl rfl rfl) ?_
    refine WO.nil ?_
    refine W.condT rfl ?_
    refine W.seq ?_
    refine W.to [(0, _), (1, _), (2, _), (3, _), (4, _), (11, _), (12, _), (14, _), (25, _), (36, _), (131, _)] [_, _] rfl ⟨(by exact sh_agg rfl), (by exact sh_ptr rfl), (by exact sh_sc rfl), (by exact sh_ptr rfl), (by exact sh_sc rfl), (by exact sh_sc rfl), (by exact sh_sc rfl), (by exact sh_sc rfl), (by exact sh_sc rfl), (by exact sh_sc rfl), (by exact sh_sc rfl), trivial⟩ ?_
    refine W.region ?_
    refine WO.op rfl rfl rfl rfl (as_sc rfl) ?_
    refine WO.nil ?_
    refine W.ret ?_
    refine ⟨.inl rfl, ?_⟩
    exact ret0 (Res.tmp rfl Res.nil) (.keep rfl)

theorem w_rChkR3 {a4 : Int} {a5 : Int} {a7 : Int} {a8 : Int} {a9 : Int} {a10 : Int} {a11 : Int} {a12 : ByteArray} {a13 : ByteArray} (g4 : isI a4) (g5 : isI a5) (g7 : isU a7) (g8 : isU a8) (g9 : isI a9) (g10 : isI a10) (g11 : isI a11) (g12 : a12.size ≤ 200000000000000) (g13 : a13.size ≤ 200000000000000) (h : ¬ ((0 ≤ a4 ∧ a4 ≤ 65535) ∧ (0 ≤ a5 ∧ a5 ≤ 65535) ∧ (0 ≤ a10 ∧ a10 ≤ 65535) ∧ (0 ≤ a11 ∧ a11 ≤ 65535) ∧ (0 ≤ a9 ∧ a9 ≤ 4095) ∧ (a12.size ≤ 40) ∧ (a12.size % 4 = 0) ∧ (a13.size + 20 + a12.size ≤ 65515))) : Spec0 Try.prog 14 [.agg [.sc (.int .i64 3), .sc (.int .i64 0), .sc (.int .i64 0), .sc (.int .u32 0), .sc (.int .i64 a4), .sc (.int .i64 a5), .sc (.bool false), .sc (.int .u32 a7), .sc (.int .u32 a8), .sc (.int .i64 a9), .sc (.int .i64 a10), .sc (.int .i64 a11), .sc (.string a12), .sc (.string a13)]] (.sc (.int .i64 1)) := by
  refine Spec.body Try.func14 rfl (Nat.le_of_ble_eq_true rfl) ?_
  simp only [isI, isU] at *
  refine W.seq ?_
  refine W.region ?_
  refine WO.opA rfl rfl rfl rfl (al_boxA rfl rfl) rfl rfl ?_
  refine WO.put 1 (.ptr 0 0) rfl ?_
  refine WO.op rfl rfl rfl rfl (as_sc rfl) ?_
  refine WO.nil ?_
  refine W.seq ?_
  refine W.to [(0, _), (1, _), (2, _)] [_] rfl ⟨(by exact sh_agg rfl), (by exact sh_ptr rfl), (by exact sh_sc rfl), trivial⟩ ?_
  refine W.region ?_
  refine WO.op rfl rfl rfl rfl (step_fieldR (k := 0) (FieldOff.mk (by kernel_rfl)) rfl rfl (by exact Nat.zero_add _)) ?_
  refine WO.op rfl rfl rfl rfl (step_load Try.isAgg3 rfl rfl rfl) ?_
  refine WO.op rfl rfl rfl rfl (step_fieldR (k := 13) (FieldOff.mk (by kernel_rfl)) rfl rfl (by exact Nat.zero_add _)) ?_
  refine WO.op rfl rfl rfl rfl (step_load Try.isAgg9 rfl rfl rfl) ?_
  refine WO.op rfl rfl rfl rfl (step_build (out := [.sc (.int .i64 3), .sc (.int .i64 0), .sc (.int .i64 0), .sc (.int .u32 0), .sc (.int .i64 0), .sc (.int .i64 0), .sc (.bool false), .sc (.int .u32 0), .sc (.int .u32 0), .sc (.int .i64 0), .sc (.int .i64 0), .sc (.int .i64 0), .sc (.string ⟨#[]⟩), .sc (.string a13)]) Try.zeroValue25 (pl := [(0, 1), (1, 1), (2, 1), (3, 1), (4, 1), (5, 1), (6, 1), (7, 1), (8, 1), (9, 1), (10, 1), (11, 1), (12, 1), (13, 1)]) (PlacesOf.mk (by kernel_rfl)) (by kernel_rfl)) ?_
  refine WO.put 9 (.agg [.sc (.int .i64 3), .sc (.int .i64 0), .sc (.int .i64 0), .sc (.int .u32 0), .sc (.int .i64 0), .sc (.int .i64 0), .sc (.bool false), .sc (.int .u32 0), .sc (.int .u32 0), .sc (.int .i64 0), .sc (.int .i64 0), .sc (.int .i64 0), .sc (.string ⟨#[]⟩), .sc (.string a13)]) (by kernel_rfl) ?_
  refine WO.opA rfl rfl rfl rfl (al_alloc Try.zeroValue25) rfl rfl ?_
  refine WO.put 3 (.ptr 1 0) rfl ?_
  refine WO.op0 rfl rfl rfl (step_storeA Try.sizeOf25 rfl rfl rfl (by repeat (exact all_cell rfl rfl)) rfl rfl) ?_
  refine WO.nil ?_
  refine W.seq ?_
  refine W.to [(0, _), (1, _), (2, _), (3, _)] [_, _] rfl ⟨(by exact sh_agg rfl), (by exact sh_ptr rfl), (by exact sh_sc rfl), (by exact sh_ptr rfl), trivial⟩ ?_
  refine W.region ?_
  refine WO.op rfl rfl rfl rfl (as_sc rfl) ?_
  refine WO.nil ?_
  refine W.seq ?_
  refine W.seq ?_
  refine W.to [(0, _), (1, _), (2, _), (3, _), (4, _)] [_, _] rfl ⟨(by exact sh_agg rfl), (by exact sh_ptr rfl), (by exact sh_sc rfl), (by exact sh_ptr rfl), (by exact sh_sc rfl), trivial⟩ ?_
  refine W.region ?_
  refine WO.op rfl rfl rfl rfl (step_fieldR (k := 0) (FieldOff.mk (by kernel_rfl)) rfl rfl (by exact Nat.zero_add _)) ?_
  refine WO.op rfl rfl rfl rfl (step_load Try.isAgg3 rfl rfl rfl) ?_
  refine WO.nil ?_
  refine W.block ?_
  refine W.seq ?_
  refine W.to [(0, _), (1, _), (2, _), (3, _), (4, _), (11, _)] [_, _] rfl ⟨(by exact sh_agg rfl), (by exact sh_ptr rfl), (by exact sh_sc rfl), (by exact sh_ptr rfl), (by exact sh_sc rfl), (by exact sh_sc rfl), trivial⟩ ?_
  refine W.region ?_
  refine WO.op rfl rfl rfl rfl (step_int2 rfl rfl rfl) ?_
  refine WO.put 13 (.sc (.bool false)) (by kernel_rfl) ?_
  refine WO.op rfl rfl rfl rfl (as_sc rfl) ?_
  refine WO.nil ?_
  refine W.condF rfl ?_
  refine W.seq ?_
  refine W.to [(0, _), (1, _), (2, _), (3, _), (4, _), (11, _), (12, _)] [_, _] rfl ⟨(by exact sh_agg rfl), (by exact sh_ptr rfl), (by exact sh_sc rfl), (by exact sh_ptr rfl), (by exact sh_sc rfl), (by exact sh_sc rfl), (by exact sh_sc rfl), trivial⟩ ?_
  refine W.region ?_
  refine WO.op rfl rfl rfl rfl (step_int2 rfl rfl rfl) ?_
  refine WO.put 15 (.sc (.bool false)) (by kernel_rfl) ?_
  refine WO.op rfl rfl rfl rfl (as_sc rfl) ?_
  refine WO.nil ?_
  refine W.condF rfl ?_
  refine W.seq ?_
  refine W.to [(0, _), (1, _), (2, _), (3, _), (4, _), (11, _), (12, _), (14, _)] [_, _] rfl ⟨(by exact sh_agg rfl), (by exact sh_ptr rfl), (by exact sh_sc rfl), (by exact sh_ptr rfl), (by exact sh_sc rfl), (by exact sh_sc rfl), (by exact sh_sc rfl), (by exact sh_sc rfl), trivial⟩ ?_
  refine W.region ?_
  refine WO.op rfl rfl rfl rfl (step_int2 rfl rfl rfl) ?_
  refine WO.put 26 (.sc (.bool false)) (by kernel_rfl) ?_
  refine WO.op rfl rfl rfl rfl (as_sc rfl) ?_
  refine WO.nil ?_
  refine W.condF rfl ?_
  refine W.seq ?_
  refine W.to [(0, _), (1, _), (2, _), (3, _), (4, _), (11, _), (12, _), (14, _), (25, _)] [_, _] rfl ⟨(by exact sh_agg rfl), (by exact sh_ptr rfl), (by exact sh_sc rfl), (by exact sh_ptr rfl), (by exact sh_sc rfl), (by exact sh_sc rfl), (by exact sh_sc rfl), (by exact sh_sc rfl), (by exact sh_sc rfl), trivial⟩ ?_
  refine W.region ?_
  refine WO.op rfl rfl rfl rfl (step_int2 rfl rfl rfl) ?_
  refine WO.put 37 (.sc (.bool true)) (by kernel_rfl) ?_
  refine WO.op rfl rfl rfl rfl (as_sc rfl) ?_
  refine WO.nil ?_
  refine W.condT rfl ?_
  refine W.seq ?_
  refine W.to [(0, _), (1, _), (2, _), (3, _), (4, _), (11, _), (12, _), (14, _), (25, _), (36, _)] [_, _] rfl ⟨(by exact sh_agg rfl), (by exact sh_ptr rfl), (by exact sh_sc rfl), (by exact sh_ptr rfl), (by exact sh_sc rfl), (by exact sh_sc rfl), (by exact sh_sc rfl), (by exact sh_sc rfl), (by exact sh_sc rfl), (by exact sh_sc rfl), trivial⟩ ?_
  refine W.draw (Checked.mixed Try.checked) ?_
  refine DC.op1 rfl rfl rfl rfl (fun _ ho => step_fieldR (k := 4) (FieldOff.mk (by kernel_rfl)) rfl ho (by exact Nat.zero_add _)) ?_
  refine DC.op1 rfl rfl rfl rfl (fun _ ho => step_load Try.isAgg3 rfl ho rfl) ?_
  refine DC.op1 rfl rfl rfl rfl (fun _ ho => step_fieldR (k := 5) (FieldOff.mk (by kernel_rfl)) rfl ho (by exact Nat.zero_add _)) ?_
  refine DC.op1 rfl rfl rfl rfl (fun _ ho => step_load Try.isAgg3 rfl ho rfl) ?_
  refine DC.op1 rfl rfl rfl rfl (fun _ ho => step_fieldR (k := 7) (FieldOff.mk (by kernel_rfl)) rfl ho (by exact Nat.zero_add _)) ?_
  refine DC.op1 rfl rfl rfl rfl (fun _ ho => step_load Try.isAgg22 rfl ho rfl) ?_
  refine DC.op1 rfl rfl rfl rfl (fun _ ho => step_fieldR (k := 8) (FieldOff.mk (by kernel_rfl)) rfl ho (by exact Nat.zero_add _)) ?_
  refine DC.op1 rfl rfl rfl rfl (fun _ ho => step_load Try.isAgg22 rfl ho rfl) ?_
  refine DC.op1 rfl rfl rfl rfl (fun _ ho => step_fieldR (k := 9) (FieldOff.mk (by kernel_rfl)) rfl ho (by exact Nat.zero_add _)) ?_
  refine DC.op1 rfl rfl rfl rfl (fun _ ho => step_load Try.isAgg3 rfl ho rfl) ?_
  refine DC.op1 rfl rfl rfl rfl (fun _ ho => step_fieldR (k := 10) (FieldOff.mk (by kernel_rfl)) rfl ho (by exact Nat.zero_add _)) ?_
  refine DC.op1 rfl rfl rfl rfl (fun _ ho => step_load Try.isAgg3 rfl ho rfl) ?_
  refine DC.op1 rfl rfl rfl rfl (fun _ ho => step_fieldR (k := 11) (FieldOff.mk (by kernel_rfl)) rfl ho (by exact Nat.zero_add _)) ?_
  refine DC.op1 rfl rfl rfl rfl (fun _ ho => step_load Try.isAgg3 rfl ho rfl) ?_
  refine DC.op1 rfl rfl rfl rfl (fun _ ho => step_fieldR (k := 12) (FieldOff.mk (by kernel_rfl)) rfl ho (by exact Nat.zero_add _)) ?_
  refine DC.op1 rfl rfl rfl rfl (fun _ ho => step_load Try.isAgg9 rfl ho rfl) ?_
  refine DC.op1 rfl rfl rfl rfl (fun _ ho => step_fieldR (k := 4) (FieldOff.mk (by kernel_rfl)) rfl ho (by exact Nat.zero_add _)) ?_
  refine DC.opE0 rfl rfl (step_store1 Try.sizeOf3 rfl rfl rfl rfl (by (simp only [List.length_map, List.length_append, List.length_take, List.length_drop, List.length_set, List.length_cons, List.length_nil, List.length_replicate] <;> omega))) (by simp) (by repeat (first | exact True.intro | refine And.intro (by rfl) ?_)) (by repeat (first | exact True.intro | refine And.intro (by rfl) ?_)) ?_
  refine DC.op1 rfl rfl rfl rfl (fun _ ho => step_fieldR (k := 5) (FieldOff.mk (by kernel_rfl)) rfl ho (by exact Nat.zero_add _)) ?_
  refine DC.opE0 rfl rfl (step_store1 Try.sizeOf3 rfl rfl rfl rfl (by (simp only [List.length_map, List.length_append, List.length_take, List.length_drop, List.length_set, List.length_cons, List.length_nil, List.length_replicate] <;> omega))) (by simp) (by repeat (first | exact True.intro | refine And.intro (by rfl) ?_)) (by repeat (first | exact True.intro | refine And.intro (by rfl) ?_)) ?_
  refine DC.op1 rfl rfl rfl rfl (fun _ ho => step_fieldR (k := 7) (FieldOff.mk (by kernel_rfl)) rfl ho (by exact Nat.zero_add _)) ?_
  refine DC.opE0 rfl rfl (step_store1 Try.sizeOf22 rfl rfl rfl rfl (by (simp only [List.length_map, List.length_append, List.length_take, List.length_drop, List.length_set, List.length_cons, List.length_nil, List.length_replicate] <;> omega))) (by simp) (by repeat (first | exact True.intro | refine And.intro (by rfl) ?_)) (by repeat (first | exact True.intro | refine And.intro (by rfl) ?_)) ?_
  refine DC.op1 rfl rfl rfl rfl (fun _ ho => step_fieldR (k := 8) (FieldOff.mk (by kernel_rfl)) rfl ho (by exact Nat.zero_add _)) ?_
  refine DC.opE0 rfl rfl (step_store1 Try.sizeOf22 rfl rfl rfl rfl (by (simp only [List.length_map, List.length_append, List.length_take, List.length_drop, List.length_set, List.length_cons, List.length_nil, List.length_replicate] <;> omega))) (by simp) (by repeat (first | exact True.intro | refine And.intro (by rfl) ?_)) (by repeat (first | exact True.intro | refine And.intro (by rfl) ?_)) ?_
  refine DC.op1 rfl rfl rfl rfl (fun _ ho => step_fieldR (k := 9) (FieldOff.mk (by kernel_rfl)) rfl ho (by exact Nat.zero_add _)) ?_
  refine DC.opE0 rfl rfl (step_store1 Try.sizeOf3 rfl rfl rfl rfl (by (simp only [List.length_map, List.length_append, List.length_take, List.length_drop, List.length_set, List.length_cons, List.length_nil, List.length_replicate] <;> omega))) (by simp) (by repeat (first | exact True.intro | refine And.intro (by rfl) ?_)) (by repeat (first | exact True.intro | refine And.intro (by rfl) ?_)) ?_
  refine DC.op1 rfl rfl rfl rfl (fun _ ho => step_fieldR (k := 10) (FieldOff.mk (by kernel_rfl)) rfl ho (by exact Nat.zero_add _)) ?_
  refine DC.opE0 rfl rfl (step_store1 Try.sizeOf3 rfl rfl rfl rfl (by (simp only [List.length_map, List.length_append, List.length_take, List.length_drop, List.length_set, List.length_cons, List.length_nil, List.length_replicate] <;> omega))) (by simp) (by repeat (first | exact True.intro | refine And.intro (by rfl) ?_)) (by repeat (first | exact True.intro | refine And.intro (by rfl) ?_)) ?_
  refine DC.op1 rfl rfl rfl rfl (fun _ ho => step_fieldR (k := 11) (FieldOff.mk (by kernel_rfl)) rfl ho (by exact Nat.zero_add _)) ?_
  refine DC.opE0 rfl rfl (step_store1 Try.sizeOf3 rfl rfl rfl rfl (by (simp only [List.length_map, List.length_append, List.length_take, List.length_drop, List.length_set, List.length_cons, List.length_nil, List.length_replicate] <;> omega))) (by simp) (by repeat (first | exact True.intro | refine And.intro (by rfl) ?_)) (by repeat (first | exact True.intro | refine And.intro (by rfl) ?_)) ?_
  refine DC.op1 rfl rfl rfl rfl (fun _ ho => step_fieldR (k := 12) (FieldOff.mk (by kernel_rfl)) rfl ho (by exact Nat.zero_add _)) ?_
  refine DC.opE0 rfl rfl (step_store1 Try.sizeOf9 rfl rfl rfl rfl (by (simp only [List.length_map, List.length_append, List.length_take, List.length_drop, List.length_set, List.length_cons, List.length_nil, List.length_replicate] <;> omega))) (by simp) (by repeat (first | exact True.intro | refine And.intro (by rfl) ?_)) (by repeat (first | exact True.intro | refine And.intro (by rfl) ?_)) ?_
  refine DC.fin [(0, 0), (1, 0), (2, 0), (2, 1), (3, 0), (3, 1), (4, 0), (4, 1), (4, 2), (5, 0), (5, 1), (5, 2), (6, 0), (6, 1), (6, 2), (6, 3), (7, 0), (7, 1), (7, 2), (7, 3), (8, 0), (8, 1), (8, 2), (8, 3), (8, 4), (9, 0), (9, 1), (9, 2), (9, 3), (9, 4), (10, 0), (10, 1), (10, 2), (10, 3), (10, 4), (10, 5), (11, 0), (11, 1), (11, 2), (11, 3), (11, 4), (11, 5), (12, 0), (12, 1), (12, 2), (12, 3), (12, 4), (12, 5), (12, 6), (13, 0), (13, 1), (13, 2), (13, 3), (13, 4), (13, 5), (13, 6), (14, 0), (14, 1), (14, 2), (14, 3), (14, 4), (14, 5), (14, 6), (14, 7), (15, 0), (15, 1), (15, 2), (15, 3), (15, 4), (15, 5), (15, 6), (15, 7), (16, 0), (18, 1), (20, 2), (22, 3), (24, 4), (26, 5), (28, 6), (30, 7)] (by kernel_rfl) (by kernel_rfl) ?_ ?_
  · repeat (first | exact True.intro | refine And.intro ?_ ?_ | kernel_rfl)
  · refine W.to [(0, _), (1, _), (2, _), (3, _), (4, _), (11, _), (12, _), (14, _), (25, _), (36, _)] [_, _] rfl ⟨(by exact sh_agg rfl), (by exact sh_ptr rfl), (by exact sh_sc rfl), (by exact sh_ptr rfl), (by exact sh_sc rfl), (by exact sh_sc rfl), (by exact sh_sc rfl), (by exact sh_sc rfl), (by exact sh_sc rfl), (by exact sh_sc rfl), trivial⟩ ?_
    refine W.region ?_
    refine WO.op rfl rfl rfl rfl (step_fieldR (k := 12) (FieldOff.mk (by kernel_rfl)) rfl rfl (by exact Nat.zero_add _)) ?_
    refine WO.op rfl rfl rfl rfl (step_load Try.isAgg9 rfl rfl rfl) ?_
    refine WO.op rfl rfl rfl rfl (step_lenS Try.runUnderlying9 rfl) ?_
    refine WO.op rfl rfl rfl rfl (step_addN (p := 20) rfl rfl (by (simp only [cap]; omega))) ?_
    refine WO.op rfl rfl rfl rfl (as_sc rfl) ?_
    refine WO.nil ?_
    refine W.seq ?_
    refine W.seq ?_
    refine W.to [(0, _), (1, _), (2, _), (3, _), (4, _), (11, _), (12, _), (14, _), (25, _), (36, _)] [_, _] rfl ⟨(by exact sh_agg rfl), (by exact sh_ptr rfl), (by exact sh_sc rfl), (by exact sh_ptr rfl), (by exact sh_sc rfl), (by exact sh_sc rfl), (by exact sh_sc rfl), (by exact sh_sc rfl), (by exact sh_sc rfl), (by exact sh_sc rfl), trivial⟩ ?_
    refine W.region ?_
    refine WO.op rfl rfl rfl rfl (step_loadA Try.isAgg25 Try.sizeOf25 rfl rfl (by exact Nat.le_refl _)) ?_
    refine WO.put 66 (.agg [.sc (.int .i64 3), .sc (.int .i64 0), .sc (.int .i64 0), .sc (.int .u32 0), .sc (.int .i64 a4), .sc (.int .i64 a5), .sc (.bool false), .sc (.int .u32 a7), .sc (.int .u32 a8), .sc (.int .i64 a9), .sc (.int .i64 a10), .sc (.int .i64 a11), .sc (.string a12), .sc (.string a13)]) (by kernel_rfl) ?_
    refine WO.op rfl rfl rfl rfl (step_loadA Try.isAgg25 Try.sizeOf25 rfl rfl (by exact Nat.le_refl _)) ?_
    refine WO.put 67 (.agg [.sc (.int .i64 3), .sc (.int .i64 0), .sc (.int .i64 0), .sc (.int .u32 0), .sc (.int .i64 a4), .sc (.int .i64 a5), .sc (.bool false), .sc (.int .u32 a7), .sc (.int .u32 a8), .sc (.int .i64 a9), .sc (.int .i64 a10), .sc (.int .i64 a11), .sc (.string a12), .sc (.string a13)]) (by kernel_rfl) ?_
    refine WO.op rfl rfl rfl rfl (ne_L4 (a0 := 3) (a1 := 0) (a2 := 0) (a3 := 0) (a4 := a4) (a5 := a5) (a6 := false) (a7 := a7) (a8 := a8) (a9 := a9) (a10 := a10) (a11 := a11) (a12 := a12) (a13 := a13) (by (constructor <;> decide)) (by (constructor <;> decide)) (by (constructor <;> decide)) (by (constructor <;> decide)) (by assumption) (by assumption) (by assumption) (by assumption) (by assumption) (by assumption) (by assumption) (by assumption) (by assumption) rfl rfl) ?_
    refine WO.put 68 (.sc (.bool false)) (rfl) ?_
    refine WO.op rfl rfl rfl rfl (mv_sc rfl) ?_
    refine WO.op rfl rfl rfl rfl (step_fieldR (k := 1) (FieldOff.mk (by kernel_rfl)) rfl rfl (by exact Nat.zero_add _)) ?_
    refine WO.op rfl rfl rfl rfl (step_load Try.isAgg3 rfl rfl rfl) ?_
    refine WO.op rfl rfl rfl rfl (step_pure Try.call34 rfl (by (repeat (first | exact Nl.nil | refine Nl.keep (by rfl) ?_))) (w_to) (by repeat (rfl))) ?_
    refine WO.op rfl rfl rfl rfl (step_not rfl) ?_
    refine WO.op rfl rfl rfl rfl (pk_f rfl rfl rfl) ?_
    refine WO.op rfl rfl rfl rfl (mv_sc rfl) ?_
    refine WO.spl 75 rfl (fun h1 => ?_) (fun h1 => ?_)
    · try simp only [decide_eq_true_eq, decide_eq_false_iff_not, Bool.not_eq_true', Bool.not_eq_false', beq_iff_eq, bne_iff_ne, beq_eq_false_iff_ne, bne_eq_false_iff_eq, gt_iff_lt, ge_iff_le, Int.not_lt, Int.not_le] at h1
      iterate 7 (refine WO.sk rfl rfl rfl rfl ?_; refine WO.sk rfl rfl rfl rfl ?_; refine WO.sk rfl rfl rfl rfl ?_; refine WO.sk rfl rfl rfl rfl ?_; refine WO.op rfl rfl rfl rfl (pk_t rfl rfl rfl) ?_; refine WO.op rfl rfl rfl rfl (mv_sc rfl) ?_)
      iterate 5 (refine WO.sk rfl rfl rfl rfl ?_)
      refine WO.op rfl rfl rfl rfl (pk_t rfl rfl rfl) ?_
      refine WO.op rfl rfl rfl rfl (mv_sc rfl) ?_
      iterate 6 (refine WO.sk rfl rfl rfl rfl ?_)
      refine WO.op rfl rfl rfl rfl (pk_t rfl rfl rfl) ?_
      refine WO.nil ?_
      refine W.condT rfl ?_
      refine W.seq ?_
      refine W.to [(0, _), (1, _), (2, _), (3, _), (4, _), (11, _), (12, _), (14, _), (25, _), (36, _), (131, _)] [_, _] rfl ⟨(by exact sh_agg rfl), (by exact sh_ptr rfl), (by exact sh_sc rfl), (by exact sh_ptr rfl), (by exact sh_sc rfl), (by exact sh_sc rfl), (by exact sh_sc rfl), (by exact sh_sc rfl), (by exact sh_sc rfl), (by exact sh_sc rfl), (by exact sh_sc rfl), trivial⟩ ?_
      refine W.region ?_
      refine WO.op rfl rfl rfl rfl (as_sc rfl) ?_
      refine WO.nil ?_
      refine W.ret ?_
      refine ⟨.inl rfl, ?_⟩
      exact ret0 (Res.tmp rfl Res.nil) (.keep rfl)
    · try simp only [decide_eq_true_eq, decide_eq_false_iff_not, Bool.not_eq_true', Bool.not_eq_false', beq_iff_eq, bne_iff_ne, beq_eq_false_iff_ne, bne_eq_false_iff_eq, gt_iff_lt, ge_iff_le, Int.not_lt, Int.not_le] at h1
      refine WO.op rfl rfl rfl rfl (step_fieldR (k := 2) (FieldOff.mk (by kernel_rfl)) rfl rfl (by exact Nat.zero_add _)) ?_
      refine WO.op rfl rfl rfl rfl (step_load Try.isAgg3 rfl rfl rfl) ?_
      refine WO.op rfl rfl rfl rfl (step_pure Try.call34 rfl (by (repeat (first | exact Nl.nil | refine Nl.keep (by rfl) ?_))) (w_to) (by repeat (rfl))) ?_
      refine WO.op rfl rfl rfl rfl (step_not rfl) ?_
      refine WO.op rfl rfl rfl rfl (pk_f rfl rfl rfl) ?_
      refine WO.op rfl rfl rfl rfl (mv_sc rfl) ?_
      refine WO.spl 81 rfl (fun h2 => ?_) (fun h2 => ?_)
      · try simp only [decide_eq_true_eq, decide_eq_false_iff_not, Bool.not_eq_true', Bool.not_eq_false', beq_iff_eq, bne_iff_ne, beq_eq_false_iff_ne, bne_eq_false_iff_eq, gt_iff_lt, ge_iff_le, Int.not_lt, Int.not_le] at h2
        iterate 6 (refine WO.sk rfl rfl rfl rfl ?_; refine WO.sk rfl rfl rfl rfl ?_; refine WO.sk rfl rfl rfl rfl ?_; refine WO.sk rfl rfl rfl rfl ?_; refine WO.op rfl rfl rfl rfl (pk_t rfl rfl rfl) ?_; refine WO.op rfl rfl rfl rfl (mv_sc rfl) ?_)
        iterate 5 (refine WO.sk rfl rfl rfl rfl ?_)
        refine WO.op rfl rfl rfl rfl (pk_t rfl rfl rfl) ?_
        refine WO.op rfl rfl rfl rfl (mv_sc rfl) ?_
        iterate 6 (refine WO.sk rfl rfl rfl rfl ?_)
        refine WO.op rfl rfl rfl rfl (pk_t rfl rfl rfl) ?_
        refine WO.nil ?_
        refine W.condT rfl ?_
        refine W.seq ?_
        refine W.to [(0, _), (1, _), (2, _), (3, _), (4, _), (11, _), (12, _), (14, _), (25, _), (36, _), (131, _)] [_, _] rfl ⟨(by exact sh_agg rfl), (by exact sh_ptr rfl), (by exact sh_sc rfl), (by exact sh_ptr rfl), (by exact sh_sc rfl), (by exact sh_sc rfl), (by exact sh_sc rfl), (by exact sh_sc rfl), (by exact sh_sc rfl), (by exact sh_sc rfl), (by exact sh_sc rfl), trivial⟩ ?_
        refine W.region ?_
        refine WO.op rfl rfl rfl rfl (as_sc rfl) ?_
        refine WO.nil ?_
        refine W.ret ?_
        refine ⟨.inl rfl, ?_⟩
        exact ret0 (Res.tmp rfl Res.nil) (.keep rfl)
      · try simp only [decide_eq_true_eq, decide_eq_false_iff_not, Bool.not_eq_true', Bool.not_eq_false', beq_iff_eq, bne_iff_ne, beq_eq_false_iff_ne, bne_eq_false_iff_eq, gt_iff_lt, ge_iff_le, Int.not_lt, Int.not_le] at h2
        refine WO.op rfl rfl rfl rfl (step_fieldR (k := 4) (FieldOff.mk (by kernel_rfl)) rfl rfl (by exact Nat.zero_add _)) ?_
        refine WO.op rfl rfl rfl rfl (step_load Try.isAgg3 rfl rfl rfl) ?_
        refine WO.op rfl rfl rfl rfl (step_pure Try.call34 rfl (by (repeat (first | exact Nl.nil | refine Nl.keep (by rfl) ?_))) (w_to) (by repeat (rfl))) ?_
        refine WO.op rfl rfl rfl rfl (step_not rfl) ?_
        refine WO.op rfl rfl rfl rfl (pk_f rfl rfl rfl) ?_
        refine WO.op rfl rfl rfl rfl (mv_sc rfl) ?_
        refine WO.spl 87 rfl (fun h3 => ?_) (fun h3 => ?_)
        · try simp only [decide_eq_true_eq, decide_eq_false_iff_not, Bool.not_eq_true', Bool.not_eq_false', beq_iff_eq, bne_iff_ne, beq_eq_false_iff_ne, bne_eq_false_iff_eq, gt_iff_lt, ge_iff_le, Int.not_lt, Int.not_le] at h3
          iterate 5 (refine WO.sk rfl rfl rfl rfl ?_; refine WO.sk rfl rfl rfl rfl ?_; refine WO.sk rfl rfl rfl rfl ?_; refine WO.sk rfl rfl rfl rfl ?_; refine WO.op rfl rfl rfl rfl (pk_t rfl rfl rfl) ?_; refine WO.op rfl rfl rfl rfl (mv_sc rfl) ?_)
          iterate 5 (refine WO.sk rfl rfl rfl rfl ?_)
          refine WO.op rfl rfl rfl rfl (pk_t rfl rfl rfl) ?_
          refine WO.op rfl rfl rfl rfl (mv_sc rfl) ?_
          iterate 6 (refine WO.sk rfl rfl rfl rfl ?_)
          refine WO.op rfl rfl rfl rfl (pk_t rfl rfl rfl) ?_
          refine WO.nil ?_
          refine W.condT rfl ?_
          refine W.seq ?_
          refine W.to [(0, _), (1, _), (2, _), (3, _), (4, _), (11, _), (12, _), (14, _), (25, _), (36, _), (131, _)] [_, _] rfl ⟨(by exact sh_agg rfl), (by exact sh_ptr rfl), (by exact sh_sc rfl), (by exact sh_ptr rfl), (by exact sh_sc rfl), (by exact sh_sc rfl), (by exact sh_sc rfl), (by exact sh_sc rfl), (by exact sh_sc rfl), (by exact sh_sc rfl), (by exact sh_sc rfl), trivial⟩ ?_
          refine W.region ?_
          refine WO.op rfl rfl rfl rfl (as_sc rfl) ?_
          refine WO.nil ?_
          refine W.ret ?_
          refine ⟨.inl rfl, ?_⟩
          exact ret0 (Res.tmp rfl Res.nil) (.keep rfl)
        · try simp only [decide_eq_true_eq, decide_eq_false_iff_not, Bool.not_eq_true', Bool.not_eq_false', beq_iff_eq, bne_iff_ne, beq_eq_false_iff_ne, bne_eq_false_iff_eq, gt_iff_lt, ge_iff_le, Int.not_lt, Int.not_le] at h3
          refine WO.op rfl rfl rfl rfl (step_fieldR (k := 5) (FieldOff.mk (by kernel_rfl)) rfl rfl (by exact Nat.zero_add _)) ?_
          refine WO.op rfl rfl rfl rfl (step_load Try.isAgg3 rfl rfl rfl) ?_
          refine WO.op rfl rfl rfl rfl (step_pure Try.call34 rfl (by (repeat (first | exact Nl.nil | refine Nl.keep (by rfl) ?_))) (w_to) (by repeat (rfl))) ?_
          refine WO.op rfl rfl rfl rfl (step_not rfl) ?_
          refine WO.op rfl rfl rfl rfl (pk_f rfl rfl rfl) ?_
          refine WO.op rfl rfl rfl rfl (mv_sc rfl) ?_
          refine WO.spl 93 rfl (fun h4 => ?_) (fun h4 => ?_)
          · try simp only [decide_eq_true_eq, decide_eq_false_iff_not, Bool.not_eq_true', Bool.not_eq_false', beq_iff_eq, bne_iff_ne, beq_eq_false_iff_ne, bne_eq_false_iff_eq, gt_iff_lt, ge_iff_le, Int.not_lt, Int.not_le] at h4
            iterate 4 (refine WO.sk rfl rfl rfl rfl ?_; refine WO.sk rfl rfl rfl rfl ?_; refine WO.sk rfl rfl rfl rfl ?_; refine WO.sk rfl rfl rfl rfl ?_; refine WO.op rfl rfl rfl rfl (pk_t rfl rfl rfl) ?_; refine WO.op rfl rfl rfl rfl (mv_sc rfl) ?_)
            iterate 5 (refine WO.sk rfl rfl rfl rfl ?_)
            refine WO.op rfl rfl rfl rfl (pk_t rfl rfl rfl) ?_
            refine WO.op rfl rfl rfl rfl (mv_sc rfl) ?_
            iterate 6 (refine WO.sk rfl rfl rfl rfl ?_)
            refine WO.op rfl rfl rfl rfl (pk_t rfl rfl rfl) ?_
            refine WO.nil ?_
            refine W.condT rfl ?_
            refine W.seq ?_
            refine W.to [(0, _), (1, _), (2, _), (3, _), (4, _), (11, _), (12, _), (14, _), (25, _), (36, _), (131, _)] [_, _] rfl ⟨(by exact sh_agg rfl), (by exact sh_ptr rfl), (by exact sh_sc rfl), (by exact sh_ptr rfl), (by exact sh_sc rfl), (by exact sh_sc rfl), (by exact sh_sc rfl), (by exact sh_sc rfl), (by exact sh_sc rfl), (by exact sh_sc rfl), (by exact sh_sc rfl), trivial⟩ ?_
            refine W.region ?_
            refine WO.op rfl rfl rfl rfl (as_sc rfl) ?_
            refine WO.nil ?_
            refine W.ret ?_
            refine ⟨.inl rfl, ?_⟩
            exact ret0 (Res.tmp rfl Res.nil) (.keep rfl)
          · try simp only [decide_eq_true_eq, decide_eq_false_iff_not, Bool.not_eq_true', Bool.not_eq_false', beq_iff_eq, bne_iff_ne, beq_eq_false_iff_ne, bne_eq_false_iff_eq, gt_iff_lt, ge_iff_le, Int.not_lt, Int.not_le] at h4
            refine WO.op rfl rfl rfl rfl (step_fieldR (k := 10) (FieldOff.mk (by kernel_rfl)) rfl rfl (by exact Nat.zero_add _)) ?_
            refine WO.op rfl rfl rfl rfl (step_load Try.isAgg3 rfl rfl rfl) ?_
            refine WO.op rfl rfl rfl rfl (step_pure Try.call34 rfl (by (repeat (first | exact Nl.nil | refine Nl.keep (by rfl) ?_))) (w_to) (by repeat (rfl))) ?_
            refine WO.op rfl rfl rfl rfl (step_not rfl) ?_
            refine WO.op rfl rfl rfl rfl (pk_f rfl rfl rfl) ?_
            refine WO.op rfl rfl rfl rfl (mv_sc rfl) ?_
            refine WO.spl 99 rfl (fun h5 => ?_) (fun h5 => ?_)
            · try simp only [decide_eq_true_eq, decide_eq_false_iff_not, Bool.not_eq_true', Bool.not_eq_false', beq_iff_eq, bne_iff_ne, beq_eq_false_iff_ne, bne_eq_false_iff_eq, gt_iff_lt, ge_iff_le, Int.not_lt, Int.not_le] at h5
              iterate 3 (refine WO.sk rfl rfl rfl rfl ?_; refine WO.sk rfl rfl rfl rfl ?_; refine WO.sk rfl rfl rfl rfl ?_; refine WO.sk rfl rfl rfl rfl ?_; refine WO.op rfl rfl rfl rfl (pk_t rfl rfl rfl) ?_; refine WO.op rfl rfl rfl rfl (mv_sc rfl) ?_)
              iterate 5 (refine WO.sk rfl rfl rfl rfl ?_)
              refine WO.op rfl rfl rfl rfl (pk_t rfl rfl rfl) ?_
              refine WO.op rfl rfl rfl rfl (mv_sc rfl) ?_
              iterate 6 (refine WO.sk rfl rfl rfl rfl ?_)
              refine WO.op rfl rfl rfl rfl (pk_t rfl rfl rfl) ?_
              refine WO.nil ?_
              refine W.condT rfl ?_
              refine W.seq ?_
              refine W.to [(0, _), (1, _), (2, _), (3, _), (4, _), (11, _), (12, _), (14, _), (25, _), (36, _), (131, _)] [_, _] rfl ⟨(by exact sh_agg rfl), (by exact sh_ptr rfl), (by exact sh_sc rfl), (by exact sh_ptr rfl), (by exact sh_sc rfl), (by exact sh_sc rfl), (by exact sh_sc rfl), (by exact sh_sc rfl), (by exact sh_sc rfl), (by exact sh_sc rfl), (by exact sh_sc rfl), trivial⟩ ?_
              refine W.region ?_
              refine WO.op rfl rfl rfl rfl (as_sc rfl) ?_
              refine WO.nil ?_
              refine W.ret ?_
              refine ⟨.inl rfl, ?_⟩
              exact ret0 (Res.tmp rfl Res.nil) (.keep rfl)
            · try simp only [decide_eq_true_eq, decide_eq_false_iff_not, Bool.not_eq_true', Bool.not_eq_false', beq_iff_eq, bne_iff_ne, beq_eq_false_iff_ne, bne_eq_false_iff_eq, gt_iff_lt, ge_iff_le, Int.not_lt, Int.not_le] at h5
              refine WO.op rfl rfl rfl rfl (step_fieldR (k := 11) (FieldOff.mk (by kernel_rfl)) rfl rfl (by exact Nat.zero_add _)) ?_
              refine WO.op rfl rfl rfl rfl (step_load Try.isAgg3 rfl rfl rfl) ?_
              refine WO.op rfl rfl rfl rfl (step_pure Try.call34 rfl (by (repeat (first | exact Nl.nil | refine Nl.keep (by rfl) ?_))) (w_to) (by repeat (rfl))) ?_
              refine WO.op rfl rfl rfl rfl (step_not rfl) ?_
              refine WO.op rfl rfl rfl rfl (pk_f rfl rfl rfl) ?_
              refine WO.op rfl rfl rfl rfl (mv_sc rfl) ?_
              refine WO.spl 105 rfl (fun h6 => ?_) (fun h6 => ?_)
              · try simp only [decide_eq_true_eq, decide_eq_false_iff_not, Bool.not_eq_true', Bool.not_eq_false', beq_iff_eq, bne_iff_ne, beq_eq_false_iff_ne, bne_eq_false_iff_eq, gt_iff_lt, ge_iff_le, Int.not_lt, Int.not_le] at h6
                iterate 2 (refine WO.sk rfl rfl rfl rfl ?_; refine WO.sk rfl rfl rfl rfl ?_; refine WO.sk rfl rfl rfl rfl ?_; refine WO.sk rfl rfl rfl rfl ?_; refine WO.op rfl rfl rfl rfl (pk_t rfl rfl rfl) ?_; refine WO.op rfl rfl rfl rfl (mv_sc rfl) ?_)
                iterate 5 (refine WO.sk rfl rfl rfl rfl ?_)
                refine WO.op rfl rfl rfl rfl (pk_t rfl rfl rfl) ?_
                refine WO.op rfl rfl rfl rfl (mv_sc rfl) ?_
                iterate 6 (refine WO.sk rfl rfl rfl rfl ?_)
                refine WO.op rfl rfl rfl rfl (pk_t rfl rfl rfl) ?_
                refine WO.nil ?_
                refine W.condT rfl ?_
                refine W.seq ?_
                refine W.to [(0, _), (1, _), (2, _), (3, _), (4, _), (11, _), (12, _), (14, _), (25, _), (36, _), (131, _)] [_, _] rfl ⟨(by exact sh_agg rfl), (by exact sh_ptr rfl), (by exact sh_sc rfl), (by exact sh_ptr rfl), (by exact sh_sc rfl), (by exact sh_sc rfl), (by exact sh_sc rfl), (by exact sh_sc rfl), (by exact sh_sc rfl), (by exact sh_sc rfl), (by exact sh_sc rfl), trivial⟩ ?_
                refine W.region ?_
                refine WO.op rfl rfl rfl rfl (as_sc rfl) ?_
                refine WO.nil ?_
                refine W.ret ?_
                refine ⟨.inl rfl, ?_⟩
                exact ret0 (Res.tmp rfl Res.nil) (.keep rfl)
              · try simp only [decide_eq_true_eq, decide_eq_false_iff_not, Bool.not_eq_true', Bool.not_eq_false', beq_iff_eq, bne_iff_ne, beq_eq_false_iff_ne, bne_eq_false_iff_eq, gt_iff_lt, ge_iff_le, Int.not_lt, Int.not_le] at h6
                refine WO.op rfl rfl rfl rfl (step_fieldR (k := 9) (FieldOff.mk (by kernel_rfl)) rfl rfl (by exact Nat.zero_add _)) ?_
                refine WO.op rfl rfl rfl rfl (step_load Try.isAgg3 rfl rfl rfl) ?_
                refine WO.op rfl rfl rfl rfl (step_pure Try.call34 rfl (by (repeat (first | exact Nl.nil | refine Nl.keep (by rfl) ?_))) (w_to) (by repeat (rfl))) ?_
                refine WO.op rfl rfl rfl rfl (step_not rfl) ?_
                refine WO.op rfl rfl rfl rfl (pk_f rfl rfl rfl) ?_
                refine WO.op rfl rfl rfl rfl (mv_sc rfl) ?_
                refine WO.spl 111 rfl (fun h7 => ?_) (fun h7 => ?_)
                · try simp only [decide_eq_true_eq, decide_eq_false_iff_not, Bool.not_eq_true', Bool.not_eq_false', beq_iff_eq, bne_iff_ne, beq_eq_false_iff_ne, bne_eq_false_iff_eq, gt_iff_lt, ge_iff_le, Int.not_lt, Int.not_le] at h7
                  iterate 2 (refine WO.sk rfl rfl rfl rfl ?_; refine WO.sk rfl rfl rfl rfl ?_; refine WO.sk rfl rfl rfl rfl ?_; refine WO.sk rfl rfl rfl rfl ?_; refine WO.op rfl rfl rfl rfl (pk_t rfl rfl rfl) ?_; refine WO.op rfl rfl rfl rfl (mv_sc rfl) ?_; refine WO.sk rfl rfl rfl rfl ?_)
                  iterate 5 (refine WO.sk rfl rfl rfl rfl ?_)
                  refine WO.op rfl rfl rfl rfl (pk_t rfl rfl rfl) ?_
                  refine WO.nil ?_
                  refine W.condT rfl ?_
                  refine W.seq ?_
                  refine W.to [(0, _), (1, _), (2, _), (3, _), (4, _), (11, _), (12, _), (14, _), (25, _), (36, _), (131, _)] [_, _] rfl ⟨(by exact sh_agg rfl), (by exact sh_ptr rfl), (by exact sh_sc rfl), (by exact sh_ptr rfl), (by exact sh_sc rfl), (by exact sh_sc rfl), (by exact sh_sc rfl), (by exact sh_sc rfl), (by exact sh_sc rfl), (by exact sh_sc rfl), (by exact sh_sc rfl), trivial⟩ ?_
                  refine W.region ?_
                  refine WO.op rfl rfl rfl rfl (as_sc rfl) ?_
                  refine WO.nil ?_
                  refine W.ret ?_
                  refine ⟨.inl rfl, ?_⟩
                  exact ret0 (Res.tmp rfl Res.nil) (.keep rfl)
                · try simp only [decide_eq_true_eq, decide_eq_false_iff_not, Bool.not_eq_true', Bool.not_eq_false', beq_iff_eq, bne_iff_ne, beq_eq_false_iff_ne, bne_eq_false_iff_eq, gt_iff_lt, ge_iff_le, Int.not_lt, Int.not_le] at h7
                  refine WO.op rfl rfl rfl rfl (step_fieldR (k := 12) (FieldOff.mk (by kernel_rfl)) rfl rfl (by exact Nat.zero_add _)) ?_
                  refine WO.op rfl rfl rfl rfl (step_load Try.isAgg9 rfl rfl rfl) ?_
                  refine WO.op rfl rfl rfl rfl (step_lenS Try.runUnderlying9 rfl) ?_
                  refine WO.op rfl rfl rfl rfl (step_int2 rfl rfl rfl) ?_
                  refine WO.op rfl rfl rfl rfl (pk_f rfl rfl rfl) ?_
                  refine WO.op rfl rfl rfl rfl (mv_sc rfl) ?_
                  refine WO.spl 117 rfl (fun h8 => ?_) (fun h8 => ?_)
                  · try simp only [decide_eq_true_eq, decide_eq_false_iff_not, Bool.not_eq_true', Bool.not_eq_false', beq_iff_eq, bne_iff_ne, beq_eq_false_iff_ne, bne_eq_false_iff_eq, gt_iff_lt, ge_iff_le, Int.not_lt, Int.not_le] at h8
                    iterate 5 (refine WO.sk rfl rfl rfl rfl ?_)
                    refine WO.op rfl rfl rfl rfl (pk_t rfl rfl rfl) ?_
                    refine WO.op rfl rfl rfl rfl (mv_sc rfl) ?_
                    iterate 6 (refine WO.sk rfl rfl rfl rfl ?_)
                    refine WO.op rfl rfl rfl rfl (pk_t rfl rfl rfl) ?_
                    refine WO.nil ?_
                    refine W.condT rfl ?_
                    refine W.seq ?_
                    refine W.to [(0, _), (1, _), (2, _), (3, _), (4, _), (11, _), (12, _), (14, _), (25, _), (36, _), (131, _)] [_, _] rfl ⟨(by exact sh_agg rfl), (by exact sh_ptr rfl), (by exact sh_sc rfl), (by exact sh_ptr rfl), (by exact sh_sc rfl), (by exact sh_sc rfl), (by exact sh_sc rfl), (by exact sh_sc rfl), (by exact sh_sc rfl), (by exact sh_sc rfl), (by exact sh_sc rfl), trivial⟩ ?_
                    refine W.region ?_
                    refine WO.op rfl rfl rfl rfl (as_sc rfl) ?_
                    refine WO.nil ?_
                    refine W.ret ?_
                    refine ⟨.inl rfl, ?_⟩
                    exact ret0 (Res.tmp rfl Res.nil) (.keep rfl)
                  · try simp only [decide_eq_true_eq, decide_eq_false_iff_not, Bool.not_eq_true', Bool.not_eq_false', beq_iff_eq, bne_iff_ne, beq_eq_false_iff_ne, bne_eq_false_iff_eq, gt_iff_lt, ge_iff_le, Int.not_lt, Int.not_le] at h8
                    refine WO.op rfl rfl rfl rfl (step_fieldR (k := 12) (FieldOff.mk (by kernel_rfl)) rfl rfl (by exact Nat.zero_add _)) ?_
                    refine WO.op rfl rfl rfl rfl (step_load Try.isAgg9 rfl rfl rfl) ?_
                    refine WO.op rfl rfl rfl rfl (step_lenS Try.runUnderlying9 rfl) ?_
                    refine WO.op rfl rfl rfl rfl (step_remN (q := 4) rfl rfl (by omega)) ?_
                    refine WO.op rfl rfl rfl rfl (step_int2 rfl rfl rfl) ?_
                    refine WO.op rfl rfl rfl rfl (pk_f rfl rfl rfl) ?_
                    refine WO.op rfl rfl rfl rfl (mv_sc rfl) ?_
                    refine WO.spl 124 rfl (fun h9 => ?_) (fun h9 => ?_)
                    · try simp only [decide_eq_true_eq, decide_eq_false_iff_not, Bool.not_eq_true', Bool.not_eq_false', beq_iff_eq, bne_iff_ne, beq_eq_false_iff_ne, bne_eq_false_iff_eq, gt_iff_lt, ge_iff_le, Int.not_lt, Int.not_le] at h9
                      iterate 6 (refine WO.sk rfl rfl rfl rfl ?_)
                      refine WO.op rfl rfl rfl rfl (pk_t rfl rfl rfl) ?_
                      refine WO.nil ?_
                      refine W.condT rfl ?_
                      refine W.seq ?_
                      refine W.to [(0, _), (1, _), (2, _), (3, _), (4, _), (11, _), (12, _), (14, _), (25, _), (36, _), (131, _)] [_, _] rfl ⟨(by exact sh_agg rfl), (by exact sh_ptr rfl), (by exact sh_sc rfl), (by exact sh_ptr rfl), (by exact sh_sc rfl), (by exact sh_sc rfl), (by exact sh_sc rfl), (by exact sh_sc rfl), (by exact sh_sc rfl), (by exact sh_sc rfl), (by exact sh_sc rfl), trivial⟩ ?_
                      refine W.region ?_
                      refine WO.op rfl rfl rfl rfl (as_sc rfl) ?_
                      refine WO.nil ?_
                      refine W.ret ?_
                      refine ⟨.inl rfl, ?_⟩
                      exact ret0 (Res.tmp rfl Res.nil) (.keep rfl)
                    · try simp only [decide_eq_true_eq, decide_eq_false_iff_not, Bool.not_eq_true', Bool.not_eq_false', beq_iff_eq, bne_iff_ne, beq_eq_false_iff_ne, bne_eq_false_iff_eq, gt_iff_lt, ge_iff_le, Int.not_lt, Int.not_le] at h9
                      refine WO.op rfl rfl rfl rfl (step_fieldR (k := 13) (FieldOff.mk (by kernel_rfl)) rfl rfl (by exact Nat.zero_add _)) ?_
                      refine WO.op rfl rfl rfl rfl (step_load Try.isAgg9 rfl rfl rfl) ?_
                      refine WO.op rfl rfl rfl rfl (step_lenS Try.runUnderlying9 rfl) ?_
                      refine WO.op rfl rfl rfl rfl (mv_sc rfl) ?_
                      refine WO.op rfl rfl rfl rfl (step_subN (p := 65515) rfl rfl (by omega) (by (simp only [cap]; omega))) ?_
                      refine WO.op rfl rfl rfl rfl (step_int2 rfl rfl rfl) ?_
                      refine WO.op rfl rfl rfl rfl (pk_f rfl rfl rfl) ?_
                      refine WO.nil ?_
                      refine W.cond rfl (fun h10 => ?_) (fun h10 => ?_)
                      · try simp only [decide_eq_true_eq, decide_eq_false_iff_not, Bool.not_eq_true', Bool.not_eq_false', beq_iff_eq, bne_iff_ne, beq_eq_false_iff_ne, bne_eq_false_iff_eq, gt_iff_lt, ge_iff_le, Int.not_lt, Int.not_le] at h10
                        refine W.seq ?_
                        refine W.to [(0, _), (1, _), (2, _), (3, _), (4, _), (11, _), (12, _), (14, _), (25, _), (36, _), (131, _)] [_, _] rfl ⟨(by exact sh_agg rfl), (by exact sh_ptr rfl), (by exact sh_sc rfl), (by exact sh_ptr rfl), (by exact sh_sc rfl), (by exact sh_sc rfl), (by exact sh_sc rfl), (by exact sh_sc rfl), (by exact sh_sc rfl), (by exact sh_sc rfl), (by exact sh_sc rfl), trivial⟩ ?_
                        refine W.region ?_
                        refine WO.op rfl rfl rfl rfl (as_sc rfl) ?_
                        refine WO.nil ?_
                        refine W.ret ?_
                        refine ⟨.inl rfl, ?_⟩
                        exact ret0 (Res.tmp rfl Res.nil) (.keep rfl)
                      · try simp only [decide_eq_true_eq, decide_eq_false_iff_not, Bool.not_eq_true', Bool.not_eq_false', beq_iff_eq, bne_iff_ne, beq_eq_false_iff_ne, bne_eq_false_iff_eq, gt_iff_lt, ge_iff_le, Int.not_lt, Int.not_le] at h10
                        exact False.elim (h ⟨by omega, by omega, by omega, by omega, by omega, by omega, by omega, by omega⟩)

theorem w_rChkG3 {a4 : Int} {a5 : Int} {a7 : Int} {a8 : Int} {a9 : Int} {a10 : Int} {a11 : Int} {a12 : ByteArray} {a13 : ByteArray} (g4 : isI a4) (g5 : isI a5) (g7 : isU a7) (g8 : isU a8) (g9 : isI a9) (g10 : isI a10) (g11 : isI a11) (g12 : a12.size ≤ 200000000000000) (g13 : a13.size ≤ 200000000000000) (h : (0 ≤ a4 ∧ a4 ≤ 65535) ∧ (0 ≤ a5 ∧ a5 ≤ 65535) ∧ (0 ≤ a10 ∧ a10 ≤ 65535) ∧ (0 ≤ a11 ∧ a11 ≤ 65535) ∧ (0 ≤ a9 ∧ a9 ≤ 4095) ∧ (a12.size ≤ 40) ∧ (a12.size % 4 = 0) ∧ (a13.size + 20 + a12.size ≤ 65515)) : Spec0 Try.prog 14 [.agg [.sc (.int .i64 3), .sc (.int .i64 0), .sc (.int .i64 0), .sc (.int .u32 0), .sc (.int .i64 a4), .sc (.int .i64 a5), .sc (.bool false), .sc (.int .u32 a7), .sc (.int .u32 a8), .sc (.int .i64 a9), .sc (.int .i64 a10), .sc (.int .i64 a11), .sc (.string a12), .sc (.string a13)]] (.sc (.int .i64 0)) := by
  refine Spec.body Try.func14 rfl (Nat.le_of_ble_eq_true rfl) ?_
  simp only [isI, isU] at *
  refine W.seq ?_
  refine W.region ?_
  refine WO.opA rfl rfl rfl rfl (al_boxA rfl rfl) rfl rfl ?_
  refine WO.put 1 (.ptr 0 0) rfl ?_
  refine WO.op rfl rfl rfl rfl (as_sc rfl) ?_
  refine WO.nil ?_
  refine W.seq ?_
  refine W.to [(0, _), (1, _), (2, _)] [_] rfl ⟨(by exact sh_agg rfl), (by exact sh_ptr rfl), (by exact sh_sc rfl), trivial⟩ ?_
  refine W.region ?_
  refine WO.op rfl rfl rfl rfl (step_fieldR (k := 0) (FieldOff.mk (by kernel_rfl)) rfl rfl (by exact Nat.zero_add _)) ?_
  refine WO.op rfl rfl rfl rfl (step_load Try.isAgg3 rfl rfl rfl) ?_
  refine WO.op rfl rfl rfl rfl (step_fieldR (k := 13) (FieldOff.mk (by kernel_rfl)) rfl rfl (by exact Nat.zero_add _)) ?_
  refine WO.op rfl rfl rfl rfl (step_load Try.isAgg9 rfl rfl rfl) ?_
  refine WO.op rfl rfl rfl rfl (step_build (out := [.sc (.int .i64 3), .sc (.int .i64 0), .sc (.int .i64 0), .sc (.int .u32 0), .sc (.int .i64 0), .sc (.int .i64 0), .sc (.bool false), .sc (.int .u32 0), .sc (.int .u32 0), .sc (.int .i64 0), .sc (.int .i64 0), .sc (.int .i64 0), .sc (.string ⟨#[]⟩), .sc (.string a13)]) Try.zeroValue25 (pl := [(0, 1), (1, 1), (2, 1), (3, 1), (4, 1), (5, 1), (6, 1), (7, 1), (8, 1), (9, 1), (10, 1), (11, 1), (12, 1), (13, 1)]) (PlacesOf.mk (by kernel_rfl)) (by kernel_rfl)) ?_
  refine WO.put 9 (.agg [.sc (.int .i64 3), .sc (.int .i64 0), .sc (.int .i64 0), .sc (.int .u32 0), .sc (.int .i64 0), .sc (.int .i64 0), .sc (.bool false), .sc (.int .u32 0), .sc (.int .u32 0), .sc (.int .i64 0), .sc (.int .i64 0), .sc (.int .i64 0), .sc (.string ⟨#[]⟩), .sc (.string a13)]) (by kernel_rfl) ?_
  refine WO.opA rfl rfl rfl rfl (al_alloc Try.zeroValue25) rfl rfl ?_
  refine WO.put 3 (.ptr 1 0) rfl ?_
  refine WO.op0 rfl rfl rfl (step_storeA Try.sizeOf25 rfl rfl rfl (by repeat (exact all_cell rfl rfl)) rfl rfl) ?_
  refine WO.nil ?_
  refine W.seq ?_
  refine W.to [(0, _), (1, _), (2, _), (3, _)] [_, _] rfl ⟨(by exact sh_agg rfl), (by exact sh_ptr rfl), (by exact sh_sc rfl), (by exact sh_ptr rfl), trivial⟩ ?_
  refine W.region ?_
  refine WO.op rfl rfl rfl rfl (as_sc rfl) ?_
  refine WO.nil ?_
  refine W.seq ?_
  refine W.seq ?_
  refine W.to [(0, _), (1, _), (2, _), (3, _), (4, _)] [_, _] rfl ⟨(by exact sh_agg rfl), (by exact sh_ptr rfl), (by exact sh_sc rfl), (by exact sh_ptr rfl), (by exact sh_sc rfl), trivial⟩ ?_
  refine W.region ?_
  refine WO.op rfl rfl rfl rfl (step_fieldR (k := 0) (FieldOff.mk (by kernel_rfl)) rfl rfl (by exact Nat.zero_add _)) ?_
  refine WO.op rfl rfl rfl rfl (step_load Try.isAgg3 rfl rfl rfl) ?_
  refine WO.nil ?_
  refine W.block ?_
  refine W.seq ?_
  refine W.to [(0, _), (1, _), (2, _), (3, _), (4, _), (11, _)] [_, _] rfl ⟨(by exact sh_agg rfl), (by exact sh_ptr rfl), (by exact sh_sc rfl), (by exact sh_ptr rfl), (by exact sh_sc rfl), (by exact sh_sc rfl), trivial⟩ ?_
  refine W.region ?_
  refine WO.op rfl rfl rfl rfl (step_int2 rfl rfl rfl) ?_
  refine WO.put 13 (.sc (.bool false)) (by kernel_rfl) ?_
  refine WO.op rfl rfl rfl rfl (as_sc rfl) ?_
  refine WO.nil ?_
  refine W.condF rfl ?_
  refine W.seq ?_
  refine W.to [(0, _), (1, _), (2, _), (3, _), (4, _), (11, _), (12, _)] [_, _] rfl ⟨(by exact sh_agg rfl), (by exact sh_ptr rfl), (by exact sh_sc rfl), (by exact sh_ptr rfl), (by exact sh_sc rfl), (by exact sh_sc rfl), (by exact sh_sc rfl), trivial⟩ ?_
  refine W.region ?_
  refine WO.op rfl rfl rfl rfl (step_int2 rfl rfl rfl) ?_
  refine WO.put 15 (.sc (.bool false)) (by kernel_rfl) ?_
  refine WO.op rfl rfl rfl rfl (as_sc rfl) ?_
  refine WO.nil ?_
  refine W.condF rfl ?_
  refine W.seq ?_
  refine W.to [(0, _), (1, _), (2, _), (3, _), (4, _), (11, _), (12, _), (14, _)] [_, _] rfl ⟨(by exact sh_agg rfl), (by exact sh_ptr rfl), (by exact sh_sc rfl), (by exact sh_ptr rfl), (by exact sh_sc rfl), (by exact sh_sc rfl), (by exact sh_sc rfl), (by exact sh_sc rfl), trivial⟩ ?_
  refine W.region ?_
  refine WO.op rfl rfl rfl rfl (step_int2 rfl rfl rfl) ?_
  refine WO.put 26 (.sc (.bool false)) (by kernel_rfl) ?_
  refine WO.op rfl rfl rfl rfl (as_sc rfl) ?_
  refine WO.nil ?_
  refine W.condF rfl ?_
  refine W.seq ?_
  refine W.to [(0, _), (1, _), (2, _), (3, _), (4, _), (11, _), (12, _), (14, _), (25, _)] [_, _] rfl ⟨(by exact sh_agg rfl), (by exact sh_ptr rfl), (by exact sh_sc rfl), (by exact sh_ptr rfl), (by exact sh_sc rfl), (by exact sh_sc rfl), (by exact sh_sc rfl), (by exact sh_sc rfl), (by exact sh_sc rfl), trivial⟩ ?_
  refine W.region ?_
  refine WO.op rfl rfl rfl rfl (step_int2 rfl rfl rfl) ?_
  refine WO.put 37 (.sc (.bool true)) (by kernel_rfl) ?_
  refine WO.op rfl rfl rfl rfl (as_sc rfl) ?_
  refine WO.nil ?_
  refine W.condT rfl ?_
  refine W.seq ?_
  refine W.to [(0, _), (1, _), (2, _), (3, _), (4, _), (11, _), (12, _), (14, _), (25, _), (36, _)] [_, _] rfl ⟨(by exact sh_agg rfl), (by exact sh_ptr rfl), (by exact sh_sc rfl), (by exact sh_ptr rfl), (by exact sh_sc rfl), (by exact sh_sc rfl), (by exact sh_sc rfl), (by exact sh_sc rfl), (by exact sh_sc rfl), (by exact sh_sc rfl), trivial⟩ ?_
  refine W.draw (Checked.mixed Try.checked) ?_
  refine DC.op1 rfl rfl rfl rfl (fun _ ho => step_fieldR (k := 4) (FieldOff.mk (by kernel_rfl)) rfl ho (by exact Nat.zero_add _)) ?_
  refine DC.op1 rfl rfl rfl rfl (fun _ ho => step_load Try.isAgg3 rfl ho rfl) ?_
  refine DC.op1 rfl rfl rfl rfl (fun _ ho => step_fieldR (k := 5) (FieldOff.mk (by kernel_rfl)) rfl ho (by exact Nat.zero_add _)) ?_
  refine DC.op1 rfl rfl rfl rfl (fun _ ho => step_load Try.isAgg3 rfl ho rfl) ?_
  refine DC.op1 rfl rfl rfl rfl (fun _ ho => step_fieldR (k := 7) (FieldOff.mk (by kernel_rfl)) rfl ho (by exact Nat.zero_add _)) ?_
  refine DC.op1 rfl rfl rfl rfl (fun _ ho => step_load Try.isAgg22 rfl ho rfl) ?_
  refine DC.op1 rfl rfl rfl rfl (fun _ ho => step_fieldR (k := 8) (FieldOff.mk (by kernel_rfl)) rfl ho (by exact Nat.zero_add _)) ?_
  refine DC.op1 rfl rfl rfl rfl (fun _ ho => step_load Try.isAgg22 rfl ho rfl) ?_
  refine DC.op1 rfl rfl rfl rfl (fun _ ho => step_fieldR (k := 9) (FieldOff.mk (by kernel_rfl)) rfl ho (by exact Nat.zero_add _)) ?_
  refine DC.op1 rfl rfl rfl rfl (fun _ ho => step_load Try.isAgg3 rfl ho rfl) ?_
  refine DC.op1 rfl rfl rfl rfl (fun _ ho => step_fieldR (k := 10) (FieldOff.mk (by kernel_rfl)) rfl ho (by exact Nat.zero_add _)) ?_
  refine DC.op1 rfl rfl rfl rfl (fun _ ho => step_load Try.isAgg3 rfl ho rfl) ?_
  refine DC.op1 rfl rfl rfl rfl (fun _ ho => step_fieldR (k := 11) (FieldOff.mk (by kernel_rfl)) rfl ho (by exact Nat.zero_add _)) ?_
  refine DC.op1 rfl rfl rfl rfl (fun _ ho => step_load Try.isAgg3 rfl ho rfl) ?_
  refine DC.op1 rfl rfl rfl rfl (fun _ ho => step_fieldR (k := 12) (FieldOff.mk (by kernel_rfl)) rfl ho (by exact Nat.zero_add _)) ?_
  refine DC.op1 rfl rfl rfl rfl (fun _ ho => step_load Try.isAgg9 rfl ho rfl) ?_
  refine DC.op1 rfl rfl rfl rfl (fun _ ho => step_fieldR (k := 4) (FieldOff.mk (by kernel_rfl)) rfl ho (by exact Nat.zero_add _)) ?_
  refine DC.opE0 rfl rfl (step_store1 Try.sizeOf3 rfl rfl rfl rfl (by (simp only [List.length_map, List.length_append, List.length_take, List.length_drop, List.length_set, List.length_cons, List.length_nil, List.length_replicate] <;> omega))) (by simp) (by repeat (first | exact True.intro | refine And.intro (by rfl) ?_)) (by repeat (first | exact True.intro | refine And.intro (by rfl) ?_)) ?_
  refine DC.op1 rfl rfl rfl rfl (fun _ ho => step_fieldR (k := 5) (FieldOff.mk (by kernel_rfl)) rfl ho (by exact Nat.zero_add _)) ?_
  refine DC.opE0 rfl rfl (step_store1 Try.sizeOf3 rfl rfl rfl rfl (by (simp only [List.length_map, List.length_append, List.length_take, List.length_drop, List.length_set, List.length_cons, List.length_nil, List.length_replicate] <;> omega))) (by simp) (by repeat (first | exact True.intro | refine And.intro (by rfl) ?_)) (by repeat (first | exact True.intro | refine And.intro (by rfl) ?_)) ?_
  refine DC.op1 rfl rfl rfl rfl (fun _ ho => step_fieldR (k := 7) (FieldOff.mk (by kernel_rfl)) rfl ho (by exact Nat.zero_add _)) ?_
  refine DC.opE0 rfl rfl (step_store1 Try.sizeOf22 rfl rfl rfl rfl (by (simp only [List.length_map, List.length_append, List.length_take, List.length_drop, List.length_set, List.length_cons, List.length_nil, List.length_replicate] <;> omega))) (by simp) (by repeat (first | exact True.intro | refine And.intro (by rfl) ?_)) (by repeat (first | exact True.intro | refine And.intro (by rfl) ?_)) ?_
  refine DC.op1 rfl rfl rfl rfl (fun _ ho => step_fieldR (k := 8) (FieldOff.mk (by kernel_rfl)) rfl ho (by exact Nat.zero_add _)) ?_
  refine DC.opE0 rfl rfl (step_store1 Try.sizeOf22 rfl rfl rfl rfl (by (simp only [List.length_map, List.length_append, List.length_take, List.length_drop, List.length_set, List.length_cons, List.length_nil, List.length_replicate] <;> omega))) (by simp) (by repeat (first | exact True.intro | refine And.intro (by rfl) ?_)) (by repeat (first | exact True.intro | refine And.intro (by rfl) ?_)) ?_
  refine DC.op1 rfl rfl rfl rfl (fun _ ho => step_fieldR (k := 9) (FieldOff.mk (by kernel_rfl)) rfl ho (by exact Nat.zero_add _)) ?_
  refine DC.opE0 rfl rfl (step_store1 Try.sizeOf3 rfl rfl rfl rfl (by (simp only [List.length_map, List.length_append, List.length_take, List.length_drop, List.length_set, List.length_cons, List.length_nil, List.length_replicate] <;> omega))) (by simp) (by repeat (first | exact True.intro | refine And.intro (by rfl) ?_)) (by repeat (first | exact True.intro | refine And.intro (by rfl) ?_)) ?_
  refine DC.op1 rfl rfl rfl rfl (fun _ ho => step_fieldR (k := 10) (FieldOff.mk (by kernel_rfl)) rfl ho (by exact Nat.zero_add _)) ?_
  refine DC.opE0 rfl rfl (step_store1 Try.sizeOf3 rfl rfl rfl rfl (by (simp only [List.length_map, List.length_append, List.length_take, List.length_drop, List.length_set, List.length_cons, List.length_nil, List.length_replicate] <;> omega))) (by simp) (by repeat (first | exact True.intro | refine And.intro (by rfl) ?_)) (by repeat (first | exact True.intro | refine And.intro (by rfl) ?_)) ?_
  refine DC.op1 rfl rfl rfl rfl (fun _ ho => step_fieldR (k := 11) (FieldOff.mk (by kernel_rfl)) rfl ho (by exact Nat.zero_add _)) ?_
  refine DC.opE0 rfl rfl (step_store1 Try.sizeOf3 rfl rfl rfl rfl (by (simp only [List.length_map, List.length_append, List.length_take, List.length_drop, List.length_set, List.length_cons, List.length_nil, List.length_replicate] <;> omega))) (by simp) (by repeat (first | exact True.intro | refine And.intro (by rfl) ?_)) (by repeat (first | exact True.intro | refine And.intro (by rfl) ?_)) ?_
  refine DC.op1 rfl rfl rfl rfl (fun _ ho => step_fieldR (k := 12) (FieldOff.mk (by kernel_rfl)) rfl ho (by exact Nat.zero_add _)) ?_
  refine DC.opE0 rfl rfl (step_store1 Try.sizeOf9 rfl rfl rfl rfl (by (simp only [List.length_map, List.length_append, List.length_take, List.length_drop, List.length_set, List.length_cons, List.length_nil, List.length_replicate] <;> omega))) (by simp) (by repeat (first | exact True.intro | refine And.intro (by rfl) ?_)) (by repeat (first | exact True.intro | refine And.intro (by rfl) ?_)) ?_
  refine DC.fin [(0, 0), (1, 0), (2, 0), (2, 1), (3, 0), (3, 1), (4, 0), (4, 1), (4, 2), (5, 0), (5, 1), (5, 2), (6, 0), (6, 1), (6, 2), (6, 3), (7, 0), (7, 1), (7, 2), (7, 3), (8, 0), (8, 1), (8, 2), (8, 3), (8, 4), (9, 0), (9, 1), (9, 2), (9, 3), (9, 4), (10, 0), (10, 1), (10, 2), (10, 3), (10, 4), (10, 5), (11, 0), (11, 1), (11, 2), (11, 3), (11, 4), (11, 5), (12, 0), (12, 1), (12, 2), (12, 3), (12, 4), (12, 5), (12, 6), (13, 0), (13, 1), (13, 2), (13, 3), (13, 4), (13, 5), (13, 6), (14, 0), (14, 1), (14, 2), (14, 3), (14, 4), (14, 5), (14, 6), (14, 7), (15, 0), (15, 1), (15, 2), (15, 3), (15, 4), (15, 5), (15, 6), (15, 7), (16, 0), (18, 1), (20, 2), (22, 3), (24, 4), (26, 5), (28, 6), (30, 7)] (by kernel_rfl) (by kernel_rfl) ?_ ?_
  · repeat (first | exact True.intro | refine And.intro ?_ ?_ | kernel_rfl)
  · refine W.to [(0, _), (1, _), (2, _), (3, _), (4, _), (11, _), (12, _), (14, _), (25, _), (36, _)] [_, _] rfl ⟨(by exact sh_agg rfl), (by exact sh_ptr rfl), (by exact sh_sc rfl), (by exact sh_ptr rfl), (by exact sh_sc rfl), (by exact sh_sc rfl), (by exact sh_sc rfl), (by exact sh_sc rfl), (by exact sh_sc rfl), (by exact sh_sc rfl), trivial⟩ ?_
    refine W.region ?_
    refine WO.op rfl rfl rfl rfl (step_fieldR (k := 12) (FieldOff.mk (by kernel_rfl)) rfl rfl (by exact Nat.zero_add _)) ?_
    refine WO.op rfl rfl rfl rfl (step_load Try.isAgg9 rfl rfl rfl) ?_
    refine WO.op rfl rfl rfl rfl (step_lenS Try.runUnderlying9 rfl) ?_
    refine WO.op rfl rfl rfl rfl (step_addN (p := 20) rfl rfl (by (simp only [cap]; omega))) ?_
    refine WO.op rfl rfl rfl rfl (as_sc rfl) ?_
    refine WO.nil ?_
    refine W.seq ?_
    refine W.seq ?_
    refine W.to [(0, _), (1, _), (2, _), (3, _), (4, _), (11, _), (12, _), (14, _), (25, _), (36, _)] [_, _] rfl ⟨(by exact sh_agg rfl), (by exact sh_ptr rfl), (by exact sh_sc rfl), (by exact sh_ptr rfl), (by exact sh_sc rfl), (by exact sh_sc rfl), (by exact sh_sc rfl), (by exact sh_sc rfl), (by exact sh_sc rfl), (by exact sh_sc rfl), trivial⟩ ?_
    refine W.region ?_
    refine WO.op rfl rfl rfl rfl (step_loadA Try.isAgg25 Try.sizeOf25 rfl rfl (by exact Nat.le_refl _)) ?_
    refine WO.put 66 (.agg [.sc (.int .i64 3), .sc (.int .i64 0), .sc (.int .i64 0), .sc (.int .u32 0), .sc (.int .i64 a4), .sc (.int .i64 a5), .sc (.bool false), .sc (.int .u32 a7), .sc (.int .u32 a8), .sc (.int .i64 a9), .sc (.int .i64 a10), .sc (.int .i64 a11), .sc (.string a12), .sc (.string a13)]) (by kernel_rfl) ?_
    refine WO.op rfl rfl rfl rfl (step_loadA Try.isAgg25 Try.sizeOf25 rfl rfl (by exact Nat.le_refl _)) ?_
    refine WO.put 67 (.agg [.sc (.int .i64 3), .sc (.int .i64 0), .sc (.int .i64 0), .sc (.int .u32 0), .sc (.int .i64 a4), .sc (.int .i64 a5), .sc (.bool false), .sc (.int .u32 a7), .sc (.int .u32 a8), .sc (.int .i64 a9), .sc (.int .i64 a10), .sc (.int .i64 a11), .sc (.string a12), .sc (.string a13)]) (by kernel_rfl) ?_
    refine WO.op rfl rfl rfl rfl (ne_L4 (a0 := 3) (a1 := 0) (a2 := 0) (a3 := 0) (a4 := a4) (a5 := a5) (a6 := false) (a7 := a7) (a8 := a8) (a9 := a9) (a10 := a10) (a11 := a11) (a12 := a12) (a13 := a13) (by (constructor <;> decide)) (by (constructor <;> decide)) (by (constructor <;> decide)) (by (constructor <;> decide)) (by assumption) (by assumption) (by assumption) (by assumption) (by assumption) (by assumption) (by assumption) (by assumption) (by assumption) rfl rfl) ?_
    refine WO.put 68 (.sc (.bool false)) (rfl) ?_
    refine WO.op rfl rfl rfl rfl (mv_sc rfl) ?_
    refine WO.op rfl rfl rfl rfl (step_fieldR (k := 1) (FieldOff.mk (by kernel_rfl)) rfl rfl (by exact Nat.zero_add _)) ?_
    refine WO.op rfl rfl rfl rfl (step_load Try.isAgg3 rfl rfl rfl) ?_
    refine WO.op rfl rfl rfl rfl (step_pure Try.call34 rfl (by (repeat (first | exact Nl.nil | refine Nl.keep (by rfl) ?_))) (w_to) (by repeat (rfl))) ?_
    refine WO.op rfl rfl rfl rfl (step_not rfl) ?_
    refine WO.op rfl rfl rfl rfl (pk_f rfl rfl rfl) ?_
    refine WO.op rfl rfl rfl rfl (mv_sc rfl) ?_
    refine WO.spl 75 rfl (fun h1 => ?_) (fun h1 => ?_)
    · try simp only [decide_eq_true_eq, decide_eq_false_iff_not, Bool.not_eq_true', Bool.not_eq_false', beq_iff_eq, bne_iff_ne, beq_eq_false_iff_ne, bne_eq_false_iff_eq, gt_iff_lt, ge_iff_le, Int.not_lt, Int.not_le] at h1
      exact False.elim (by omega)
    · try simp only [decide_eq_true_eq, decide_eq_false_iff_not, Bool.not_eq_true', Bool.not_eq_false', beq_iff_eq, bne_iff_ne, beq_eq_false_iff_ne, bne_eq_false_iff_eq, gt_iff_lt, ge_iff_le, Int.not_lt, Int.not_le] at h1
      refine WO.op rfl rfl rfl rfl (step_fieldR (k := 2) (FieldOff.mk (by kernel_rfl)) rfl rfl (by exact Nat.zero_add _)) ?_
      refine WO.op rfl rfl rfl rfl (step_load Try.isAgg3 rfl rfl rfl) ?_
      refine WO.op rfl rfl rfl rfl (step_pure Try.call34 rfl (by (repeat (first | exact Nl.nil | refine Nl.keep (by rfl) ?_))) (w_to) (by repeat (rfl))) ?_
      refine WO.op rfl rfl rfl rfl (step_not rfl) ?_
      refine WO.op rfl rfl rfl rfl (pk_f rfl rfl rfl) ?_
      refine WO.op rfl rfl rfl rfl (mv_sc rfl) ?_
      refine WO.spl 81 rfl (fun h2 => ?_) (fun h2 => ?_)
      · try simp only [decide_eq_true_eq, decide_eq_false_iff_not, Bool.not_eq_true', Bool.not_eq_false', beq_iff_eq, bne_iff_ne, beq_eq_false_iff_ne, bne_eq_false_iff_eq, gt_iff_lt, ge_iff_le, Int.not_lt, Int.not_le] at h2
        exact False.elim (by omega)
      · try simp only [decide_eq_true_eq, decide_eq_false_iff_not, Bool.not_eq_true', Bool.not_eq_false', beq_iff_eq, bne_iff_ne, beq_eq_false_iff_ne, bne_eq_false_iff_eq, gt_iff_lt, ge_iff_le, Int.not_lt, Int.not_le] at h2
        refine WO.op rfl rfl rfl rfl (step_fieldR (k := 4) (FieldOff.mk (by kernel_rfl)) rfl rfl (by exact Nat.zero_add _)) ?_
        refine WO.op rfl rfl rfl rfl (step_load Try.isAgg3 rfl rfl rfl) ?_
        refine WO.op rfl rfl rfl rfl (step_pure Try.call34 rfl (by (repeat (first | exact Nl.nil | refine Nl.keep (by rfl) ?_))) (w_to) (by repeat (rfl))) ?_
        refine WO.op rfl rfl rfl rfl (step_not rfl) ?_
        refine WO.op rfl rfl rfl rfl (pk_f rfl rfl rfl) ?_
        refine WO.op rfl rfl rfl rfl (mv_sc rfl) ?_
        refine WO.spl 87 rfl (fun h3 => ?_) (fun h3 => ?_)
        · try simp only [decide_eq_true_eq, decide_eq_false_iff_not, Bool.not_eq_true', Bool.not_eq_false', beq_iff_eq, bne_iff_ne, beq_eq_false_iff_ne, bne_eq_false_iff_eq, gt_iff_lt, ge_iff_le, Int.not_lt, Int.not_le] at h3
          exact False.elim (by omega)
        · try simp only [decide_eq_true_eq, decide_eq_false_iff_not, Bool.not_eq_true', Bool.not_eq_false', beq_iff_eq, bne_iff_ne, beq_eq_false_iff_ne, bne_eq_false_iff_eq, gt_iff_lt, ge_iff_le, Int.not_lt, Int.not_le] at h3
          refine WO.op rfl rfl rfl rfl (step_fieldR (k := 5) (FieldOff.mk (by kernel_rfl)) rfl rfl (by exact Nat.zero_add _)) ?_
          refine WO.op rfl rfl rfl rfl (step_load Try.isAgg3 rfl rfl rfl) ?_
          refine WO.op rfl rfl rfl rfl (step_pure Try.call34 rfl (by (repeat (first | exact Nl.nil | refine Nl.keep (by rfl) ?_))) (w_to) (by repeat (rfl))) ?_
          refine WO.op rfl rfl rfl rfl (step_not rfl) ?_
          refine WO.op rfl rfl rfl rfl (pk_f rfl rfl rfl) ?_
          refine WO.op rfl rfl rfl rfl (mv_sc rfl) ?_
          refine WO.spl 93 rfl (fun h4 => ?_) (fun h4 => ?_)
          · try simp only [decide_eq_true_eq, decide_eq_false_iff_not, Bool.not_eq_true', Bool.not_eq_false', beq_iff_eq, bne_iff_ne, beq_eq_false_iff_ne, bne_eq_false_iff_eq, gt_iff_lt, ge_iff_le, Int.not_lt, Int.not_le] at h4
            exact False.elim (by omega)
          · try simp only [decide_eq_true_eq, decide_eq_false_iff_not, Bool.not_eq_true', Bool.not_eq_false', beq_iff_eq, bne_iff_ne, beq_eq_false_iff_ne, bne_eq_false_iff_eq, gt_iff_lt, ge_iff_le, Int.not_lt, Int.not_le] at h4
            refine WO.op rfl rfl rfl rfl (step_fieldR (k := 10) (FieldOff.mk (by kernel_rfl)) rfl rfl (by exact Nat.zero_add _)) ?_
            refine WO.op rfl rfl rfl rfl (step_load Try.isAgg3 rfl rfl rfl) ?_
            refine WO.op rfl rfl rfl rfl (step_pure Try.call34 rfl (by (repeat (first | exact Nl.nil | refine Nl.keep (by rfl) ?_))) (w_to) (by repeat (rfl))) ?_
            refine WO.op rfl rfl rfl rfl (step_not rfl) ?_
            refine WO.op rfl rfl rfl rfl (pk_f rfl rfl rfl) ?_
            refine WO.op rfl rfl rfl rfl (mv_sc rfl) ?_
            refine WO.spl 99 rfl (fun h5 => ?_) (fun h5 => ?_)
            · try simp only [decide_eq_true_eq, decide_eq_false_iff_not, Bool.not_eq_true', Bool.not_eq_false', beq_iff_eq, bne_iff_ne, beq_eq_false_iff_ne, bne_eq_false_iff_eq, gt_iff_lt, ge_iff_le, Int.not_lt, Int.not_le] at h5
              exact False.elim (by omega)
            · try simp only [decide_eq_true_eq, decide_eq_false_iff_not, Bool.not_eq_true', Bool.not_eq_false', beq_iff_eq, bne_iff_ne, beq_eq_false_iff_ne, bne_eq_false_iff_eq, gt_iff_lt, ge_iff_le, Int.not_lt, Int.not_le] at h5
              refine WO.op rfl rfl rfl rfl (step_fieldR (k := 11) (FieldOff.mk (by kernel_rfl)) rfl rfl (by exact Nat.zero_add _)) ?_
              refine WO.op rfl rfl rfl rfl (step_load Try.isAgg3 rfl rfl rfl) ?_
              refine WO.op rfl rfl rfl rfl (step_pure Try.call34 rfl (by (repeat (first | exact Nl.nil | refine Nl.keep (by rfl) ?_))) (w_to) (by repeat (rfl))) ?_
              refine WO.op rfl rfl rfl rfl (step_not rfl) ?_
              refine WO.op rfl rfl rfl rfl (pk_f rfl rfl rfl) ?_
              refine WO.op rfl rfl rfl rfl (mv_sc rfl) ?_
              refine WO.spl 105 rfl (fun h6 => ?_) (fun h6 => ?_)
              · try simp only [decide_eq_true_eq, decide_eq_false_iff_not, Bool.not_eq_true', Bool.not_eq_false', beq_iff_eq, bne_iff_ne, beq_eq_false_iff_ne, bne_eq_false_iff_eq, gt_iff_lt, ge_iff_le, Int.not_lt, Int.not_le] at h6
                exact False.elim (by omega)
              · try simp only [decide_eq_true_eq, decide_eq_false_iff_not, Bool.not_eq_true', Bool.not_eq_false', beq_iff_eq, bne_iff_ne, beq_eq_false_iff_ne, bne_eq_false_iff_eq, gt_iff_lt, ge_iff_le, Int.not_lt, Int.not_le] at h6
                refine WO.op rfl rfl rfl rfl (step_fieldR (k := 9) (FieldOff.mk (by kernel_rfl)) rfl rfl (by exact Nat.zero_add _)) ?_
                refine WO.op rfl rfl rfl rfl (step_load Try.isAgg3 rfl rfl rfl) ?_
                refine WO.op rfl rfl rfl rfl (step_pure Try.call34 rfl (by (repeat (first | exact Nl.nil | refine Nl.keep (by rfl) ?_))) (w_to) (by repeat (rfl))) ?_
                refine WO.op rfl rfl rfl rfl (step_not rfl) ?_
                refine WO.op rfl rfl rfl rfl (pk_f rfl rfl rfl) ?_
                refine WO.op rfl rfl rfl rfl (mv_sc rfl) ?_
                refine WO.spl 111 rfl (fun h7 => ?_) (fun h7 => ?_)
                · try simp only [decide_eq_true_eq, decide_eq_false_iff_not, Bool.not_eq_true', Bool.not_eq_false', beq_iff_eq, bne_iff_ne, beq_eq_false_iff_ne, bne_eq_false_iff_eq, gt_iff_lt, ge_iff_le, Int.not_lt, Int.not_le] at h7
                  exact False.elim (by omega)
                · try simp only [decide_eq_true_eq, decide_eq_false_iff_not, Bool.not_eq_true', Bool.not_eq_false', beq_iff_eq, bne_iff_ne, beq_eq_false_iff_ne, bne_eq_false_iff_eq, gt_iff_lt, ge_iff_le, Int.not_lt, Int.not_le] at h7
                  refine WO.op rfl rfl rfl rfl (step_fieldR (k := 12) (FieldOff.mk (by kernel_rfl)) rfl rfl (by exact Nat.zero_add _)) ?_
                  refine WO.op rfl rfl rfl rfl (step_load Try.isAgg9 rfl rfl rfl) ?_
                  refine WO.op rfl rfl rfl rfl (step_lenS Try.runUnderlying9 rfl) ?_
                  refine WO.op rfl rfl rfl rfl (step_int2 rfl rfl rfl) ?_
                  refine WO.op rfl rfl rfl rfl (pk_f rfl rfl rfl) ?_
                  refine WO.op rfl rfl rfl rfl (mv_sc rfl) ?_
                  refine WO.spl 117 rfl (fun h8 => ?_) (fun h8 => ?_)
                  · try simp only [decide_eq_true_eq, decide_eq_false_iff_not, Bool.not_eq_true', Bool.not_eq_false', beq_iff_eq, bne_iff_ne, beq_eq_false_iff_ne, bne_eq_false_iff_eq, gt_iff_lt, ge_iff_le, Int.not_lt, Int.not_le] at h8
                    exact False.elim (by omega)
                  · try simp only [decide_eq_true_eq, decide_eq_false_iff_not, Bool.not_eq_true', Bool.not_eq_false', beq_iff_eq, bne_iff_ne, beq_eq_false_iff_ne, bne_eq_false_iff_eq, gt_iff_lt, ge_iff_le, Int.not_lt, Int.not_le] at h8
                    refine WO.op rfl rfl rfl rfl (step_fieldR (k := 12) (FieldOff.mk (by kernel_rfl)) rfl rfl (by exact Nat.zero_add _)) ?_
                    refine WO.op rfl rfl rfl rfl (step_load Try.isAgg9 rfl rfl rfl) ?_
                    refine WO.op rfl rfl rfl rfl (step_lenS Try.runUnderlying9 rfl) ?_
                    refine WO.op rfl rfl rfl rfl (step_remN (q := 4) rfl rfl (by omega)) ?_
                    refine WO.op rfl rfl rfl rfl (step_int2 rfl rfl rfl) ?_
                    refine WO.op rfl rfl rfl rfl (pk_f rfl rfl rfl) ?_
                    refine WO.op rfl rfl rfl rfl (mv_sc rfl) ?_
                    refine WO.spl 124 rfl (fun h9 => ?_) (fun h9 => ?_)
                    · try simp only [decide_eq_true_eq, decide_eq_false_iff_not, Bool.not_eq_true', Bool.not_eq_false', beq_iff_eq, bne_iff_ne, beq_eq_false_iff_ne, bne_eq_false_iff_eq, gt_iff_lt, ge_iff_le, Int.not_lt, Int.not_le] at h9
                      exact False.elim (by omega)
                    · try simp only [decide_eq_true_eq, decide_eq_false_iff_not, Bool.not_eq_true', Bool.not_eq_false', beq_iff_eq, bne_iff_ne, beq_eq_false_iff_ne, bne_eq_false_iff_eq, gt_iff_lt, ge_iff_le, Int.not_lt, Int.not_le] at h9
                      refine WO.op rfl rfl rfl rfl (step_fieldR (k := 13) (FieldOff.mk (by kernel_rfl)) rfl rfl (by exact Nat.zero_add _)) ?_
                      refine WO.op rfl rfl rfl rfl (step_load Try.isAgg9 rfl rfl rfl) ?_
                      refine WO.op rfl rfl rfl rfl (step_lenS Try.runUnderlying9 rfl) ?_
                      refine WO.op rfl rfl rfl rfl (mv_sc rfl) ?_
                      refine WO.op rfl rfl rfl rfl (step_subN (p := 65515) rfl rfl (by omega) (by (simp only [cap]; omega))) ?_
                      refine WO.op rfl rfl rfl rfl (step_int2 rfl rfl rfl) ?_
                      refine WO.op rfl rfl rfl rfl (pk_f rfl rfl rfl) ?_
                      refine WO.nil ?_
                      refine W.cond rfl (fun h10 => ?_) (fun h10 => ?_)
                      · try simp only [decide_eq_true_eq, decide_eq_false_iff_not, Bool.not_eq_true', Bool.not_eq_false', beq_iff_eq, bne_iff_ne, beq_eq_false_iff_ne, bne_eq_false_iff_eq, gt_iff_lt, ge_iff_le, Int.not_lt, Int.not_le] at h10
                        exact False.elim (by omega)
                      · try simp only [decide_eq_true_eq, decide_eq_false_iff_not, Bool.not_eq_true', Bool.not_eq_false', beq_iff_eq, bne_iff_ne, beq_eq_false_iff_ne, bne_eq_false_iff_eq, gt_iff_lt, ge_iff_le, Int.not_lt, Int.not_le] at h10
                        refine W.skip ?_
                        refine W.seq ?_
                        refine W.to [(0, _), (1, _), (2, _), (3, _), (4, _), (11, _), (12, _), (14, _), (25, _), (36, _), (131, _)] [_, _] rfl ⟨(by exact sh_agg rfl), (by exact sh_ptr rfl), (by exact sh_sc rfl), (by exact sh_ptr rfl), (by exact sh_sc rfl), (by exact sh_sc rfl), (by exact sh_sc rfl), (by exact sh_sc rfl), (by exact sh_sc rfl), (by exact sh_sc rfl), (by exact sh_sc rfl), trivial⟩ ?_
                        refine W.region ?_
                        refine WO.op rfl rfl rfl rfl (as_sc rfl) ?_
                        refine WO.nil ?_
                        refine W.ret ?_
                        refine ⟨.inl rfl, ?_⟩
                        exact ret0 (Res.tmp rfl Res.nil) (.keep rfl)

theorem w_rChkK {a0 : Int} {a1 : Int} {a2 : Int} {a3 : Int} {a4 : Int} {a5 : Int} {a6 : Bool} {a7 : Int} {a8 : Int} {a9 : Int} {a10 : Int} {a11 : Int} {a12 : ByteArray} {a13 : ByteArray}(hk : a0 ≠ 0 ∧ a0 ≠ 1 ∧ a0 ≠ 2 ∧ a0 ≠ 3) : Spec0 Try.prog 14 [.agg [.sc (.int .i64 a0), .sc (.int .i64 a1), .sc (.int .i64 a2), .sc (.int .u32 a3), .sc (.int .i64 a4), .sc (.int .i64 a5), .sc (.bool a6), .sc (.int .u32 a7), .sc (.int .u32 a8), .sc (.int .i64 a9), .sc (.int .i64 a10), .sc (.int .i64 a11), .sc (.string a12), .sc (.string a13)]] (.sc (.int .i64 1)) := by
  refine Spec.body Try.func14 rfl (Nat.le_of_ble_eq_true rfl) ?_
  refine W.seq ?_
  refine W.region ?_
  refine WO.opA rfl rfl rfl rfl (al_boxA rfl rfl) rfl rfl ?_
  refine WO.put 1 (.ptr 0 0) rfl ?_
  refine WO.op rfl rfl rfl rfl (as_sc rfl) ?_
  refine WO.nil ?_
  refine W.seq ?_
  refine W.to [(0, _), (1, _), (2, _)] [_] rfl ⟨(by exact sh_agg rfl), (by exact sh_ptr rfl), (by exact sh_sc rfl), trivial⟩ ?_
  refine W.region ?_
  refine WO.op rfl rfl rfl rfl (step_fieldR (k := 0) (FieldOff.mk (by kernel_rfl)) rfl rfl (by exact Nat.zero_add _)) ?_
  refine WO.op rfl rfl rfl rfl (step_load Try.isAgg3 rfl rfl rfl) ?_
  refine WO.op rfl rfl rfl rfl (step_fieldR (k := 13) (FieldOff.mk (by kernel_rfl)) rfl rfl (by exact Nat.zero_add _)) ?_
  refine WO.op rfl rfl rfl rfl (step_load Try.isAgg9 rfl rfl rfl) ?_
  refine WO.op rfl rfl rfl rfl (step_build (out := [.sc (.int .i64 a0), .sc (.int .i64 0), .sc (.int .i64 0), .sc (.int .u32 0), .sc (.int .i64 0), .sc (.int .i64 0), .sc (.bool false), .sc (.int .u32 0), .sc (.int .u32 0), .sc (.int .i64 0), .sc (.int .i64 0), .sc (.int .i64 0), .sc (.string ⟨#[]⟩), .sc (.string a13)]) Try.zeroValue25 (pl := [(0, 1), (1, 1), (2, 1), (3, 1), (4, 1), (5, 1), (6, 1), (7, 1), (8, 1), (9, 1), (10, 1), (11, 1), (12, 1), (13, 1)]) (PlacesOf.mk (by kernel_rfl)) (by kernel_rfl)) ?_
  refine WO.put 9 (.agg [.sc (.int .i64 a0), .sc (.int .i64 0), .sc (.int .i64 0), .sc (.int .u32 0), .sc (.int .i64 0), .sc (.int .i64 0), .sc (.bool false), .sc (.int .u32 0), .sc (.int .u32 0), .sc (.int .i64 0), .sc (.int .i64 0), .sc (.int .i64 0), .sc (.string ⟨#[]⟩), .sc (.string a13)]) (by kernel_rfl) ?_
  refine WO.opA rfl rfl rfl rfl (al_alloc Try.zeroValue25) rfl rfl ?_
  refine WO.put 3 (.ptr 1 0) rfl ?_
  refine WO.op0 rfl rfl rfl (step_storeA Try.sizeOf25 rfl rfl rfl (by repeat (exact all_cell rfl rfl)) rfl rfl) ?_
  refine WO.nil ?_
  refine W.seq ?_
  refine W.to [(0, _), (1, _), (2, _), (3, _)] [_, _] rfl ⟨(by exact sh_agg rfl), (by exact sh_ptr rfl), (by exact sh_sc rfl), (by exact sh_ptr rfl), trivial⟩ ?_
  refine W.region ?_
  refine WO.op rfl rfl rfl rfl (as_sc rfl) ?_
  refine WO.nil ?_
  refine W.seq ?_
  refine W.seq ?_
  refine W.to [(0, _), (1, _), (2, _), (3, _), (4, _)] [_, _] rfl ⟨(by exact sh_agg rfl), (by exact sh_ptr rfl), (by exact sh_sc rfl), (by exact sh_ptr rfl), (by exact sh_sc rfl), trivial⟩ ?_
  refine W.region ?_
  refine WO.op rfl rfl rfl rfl (step_fieldR (k := 0) (FieldOff.mk (by kernel_rfl)) rfl rfl (by exact Nat.zero_add _)) ?_
  refine WO.op rfl rfl rfl rfl (step_load Try.isAgg3 rfl rfl rfl) ?_
  refine WO.nil ?_
  refine W.block ?_
  refine W.seq ?_
  refine W.to [(0, _), (1, _), (2, _), (3, _), (4, _), (11, _)] [_, _] rfl ⟨(by exact sh_agg rfl), (by exact sh_ptr rfl), (by exact sh_sc rfl), (by exact sh_ptr rfl), (by exact sh_sc rfl), (by exact sh_sc rfl), trivial⟩ ?_
  refine W.region ?_
  refine WO.op rfl rfl rfl rfl (step_int2 rfl rfl rfl) ?_
  refine WO.put 13 (.sc (.bool false)) (congrArg (fun b : Bool => AV.sc (.bool b)) (by simp; omega)) ?_
  refine WO.op rfl rfl rfl rfl (as_sc rfl) ?_
  refine WO.nil ?_
  refine W.condF rfl ?_
  refine W.seq ?_
  refine W.to [(0, _), (1, _), (2, _), (3, _), (4, _), (11, _), (12, _)] [_, _] rfl ⟨(by exact sh_agg rfl), (by exact sh_ptr rfl), (by exact sh_sc rfl), (by exact sh_ptr rfl), (by exact sh_sc rfl), (by exact sh_sc rfl), (by exact sh_sc rfl), trivial⟩ ?_
  refine W.region ?_
  refine WO.op rfl rfl rfl rfl (step_int2 rfl rfl rfl) ?_
  refine WO.put 15 (.sc (.bool false)) (congrArg (fun b : Bool => AV.sc (.bool b)) (by simp; omega)) ?_
  refine WO.op rfl rfl rfl rfl (as_sc rfl) ?_
  refine WO.nil ?_
  refine W.condF rfl ?_
  refine W.seq ?_
  refine W.to [(0, _), (1, _), (2, _), (3, _), (4, _), (11, _), (12, _), (14, _)] [_, _] rfl ⟨(by exact sh_agg rfl), (by exact sh_ptr rfl), (by exact sh_sc rfl), (by exact sh_ptr rfl), (by exact sh_sc rfl), (by exact sh_sc rfl), (by exact sh_sc rfl), (by exact sh_sc rfl), trivial⟩ ?_
  refine W.region ?_
  refine WO.op rfl rfl rfl rfl (step_int2 rfl rfl rfl) ?_
  refine WO.put 26 (.sc (.bool false)) (congrArg (fun b : Bool => AV.sc (.bool b)) (by simp; omega)) ?_
  refine WO.op rfl rfl rfl rfl (as_sc rfl) ?_
  refine WO.nil ?_
  refine W.condF rfl ?_
  refine W.seq ?_
  refine W.to [(0, _), (1, _), (2, _), (3, _), (4, _), (11, _), (12, _), (14, _), (25, _)] [_, _] rfl ⟨(by exact sh_agg rfl), (by exact sh_ptr rfl), (by exact sh_sc rfl), (by exact sh_ptr rfl), (by exact sh_sc rfl), (by exact sh_sc rfl), (by exact sh_sc rfl), (by exact sh_sc rfl), (by exact sh_sc rfl), trivial⟩ ?_
  refine W.region ?_
  refine WO.op rfl rfl rfl rfl (step_int2 rfl rfl rfl) ?_
  refine WO.put 37 (.sc (.bool false)) (congrArg (fun b : Bool => AV.sc (.bool b)) (by simp; omega)) ?_
  refine WO.op rfl rfl rfl rfl (as_sc rfl) ?_
  refine WO.nil ?_
  refine W.condF rfl ?_
  refine W.seq ?_
  refine W.to [(0, _), (1, _), (2, _), (3, _), (4, _), (11, _), (12, _), (14, _), (25, _), (36, _)] [_, _] rfl ⟨(by exact sh_agg rfl), (by exact sh_ptr rfl), (by exact sh_sc rfl), (by exact sh_ptr rfl), (by exact sh_sc rfl), (by exact sh_sc rfl), (by exact sh_sc rfl), (by exact sh_sc rfl), (by exact sh_sc rfl), (by exact sh_sc rfl), trivial⟩ ?_
  refine W.region ?_
  refine WO.op rfl rfl rfl rfl (as_sc rfl) ?_
  refine WO.nil ?_
  refine W.ret ?_
  refine ⟨.inl rfl, ?_⟩
  exact ret0 (Res.tmp rfl Res.nil) (.keep rfl)

end Go.Proofs.Ytdmlkcphlidcfaa
