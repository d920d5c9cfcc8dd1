/-
  Contracts of functions of chapter 04: each theorem says what a call of one function answers, for all arguments that its hypotheses let in.
-/
import Derived.Test.YtdmlkcphlidcfaaW4y
set_option linter.unusedVariables false
set_option linter.unusedSimpArgs false
set_option maxRecDepth 100000
set_option maxHeartbeats 1000000
namespace Go.Proofs.Ytdmlkcphlidcfaa
open Go Go.SL Go.Proofs
theorem w_ChkN0 {a1 : Int} {a2 : Int} {a3 : Int} {a4 : Int} {a5 : Int} {a6 : Bool} {a7 : Int} {a8 : Int} {a9 : Int} {a10 : Int} {a11 : Int} {a12 : ByteArray} {a13 : ByteArray} (g1 : isI a1) (g2 : isI a2) (g3 : isU a3) (g4 : isI a4) (g5 : isI a5) (g7 : isU a7) (g8 : isU a8) (g9 : isI a9) (g10 : isI a10) (g11 : isI a11) (g12 : a12.size ≤ 200000000000000) (g13 : a13.size ≤ 200000000000000) (hne : ¬ (0 = (0 : Int) ∧ a1 = 0 ∧ a2 = 0 ∧ a3 = 0 ∧ a4 = 0 ∧ a5 = 0 ∧ a6 = false ∧ a7 = 0 ∧ a8 = 0 ∧ a9 = 0 ∧ a10 = 0 ∧ a11 = 0 ∧ a12.data.toList = (⟨#[]⟩ : ByteArray).data.toList ∧ a13.data.toList = (a13 : ByteArray).data.toList)) : Spec0 Try.prog 13 [.agg [.sc (.int .i64 0), .sc (.int .i64 a1), .sc (.int .i64 a2), .sc (.int .u32 a3), .sc (.int .i64 a4), .sc (.int .i64 a5), .sc (.bool a6), .sc (.int .u32 a7), .sc (.int .u32 a8), .sc (.int .i64 a9), .sc (.int .i64 a10), .sc (.int .i64 a11), .sc (.string a12), .sc (.string a13)]] (.sc (.int .i64 1)) := by
  refine Spec.body Try.func13 rfl (Nat.le_of_ble_eq_true rfl) ?_
  refine W.seq ?_
  refine W.region ?_
  refine WO.opA rfl rfl rfl rfl (al_boxA rfl rfl) rfl rfl ?_
  refine WO.put 1 (.ptr 0 0) rfl ?_
  refine WO.op rfl rfl rfl rfl (as_sc rfl) ?_
  refine WO.nil ?_
  refine W.seq ?_
  refine W.to [(0, _), (1, _), (2, _)] [_] rfl ⟨(by exact sh_agg rfl), (by exact sh_ptr rfl), (by exact sh_sc rfl), trivial⟩ ?_
  refine W.region ?_
  refine WO.op rfl rfl rfl rfl (step_loadA Try.isAgg25 Try.sizeOf25 rfl rfl (by exact Nat.le_refl _)) ?_
  refine WO.op rfl rfl rfl rfl (step_pure Try.call26 rfl (by (repeat (first | exact Nl.nil | refine Nl.keep (by rfl) ?_))) (w_ownG0) (by repeat (first | with_reducible refine noOwn_tup ?_ | with_reducible refine noOwn_agg ?_ | with_reducible exact noOwnL_nil | with_reducible refine noOwnL_cons ?_ ?_ | rfl))) ?_
  refine WO.op rfl rfl rfl rfl (mv_tup rfl) ?_
  refine WO.op rfl rfl rfl rfl (step_extract rfl rfl) ?_
  refine WO.put 9 (.agg [.sc (.int .i64 0), .sc (.int .i64 0), .sc (.int .i64 0), .sc (.int .u32 0), .sc (.int .i64 0), .sc (.int .i64 0), .sc (.bool false), .sc (.int .u32 0), .sc (.int .u32 0), .sc (.int .i64 0), .sc (.int .i64 0), .sc (.int .i64 0), .sc (.string ⟨#[]⟩), .sc (.string a13)]) (by kernel_rfl) ?_
  iterate 2 (refine WO.op rfl rfl rfl rfl (step_extract rfl rfl) ?_)
  refine WO.opA rfl rfl rfl rfl (al_alloc Try.zeroValue25) rfl rfl ?_
  refine WO.put 3 (.ptr 1 0) rfl ?_
  refine WO.op0 rfl rfl rfl (step_storeA Try.sizeOf25 rfl rfl rfl (by repeat (exact all_cell rfl rfl)) rfl rfl) ?_
  iterate 2 (refine WO.op rfl rfl rfl rfl (as_sc rfl) ?_)
  refine WO.nil ?_
  refine W.seq ?_
  refine W.seq ?_
  refine W.to [(0, _), (1, _), (2, _), (3, _), (4, _), (5, _)] [_, _] rfl ⟨(by exact sh_agg rfl), (by exact sh_ptr rfl), (by exact sh_sc rfl), (by exact sh_ptr rfl), (by exact sh_sc rfl), (by exact sh_sc rfl), trivial⟩ ?_
  refine W.region ?_
  refine WO.op rfl rfl rfl rfl (mv_sc rfl) ?_
  refine WO.op rfl rfl rfl rfl (step_not rfl) ?_
  refine WO.put 13 (.sc (.bool false)) (by kernel_rfl) ?_
  refine WO.op rfl rfl rfl rfl (mv_sc rfl) ?_
  refine WO.op rfl rfl rfl rfl (step_loadA Try.isAgg25 Try.sizeOf25 rfl rfl (by exact Nat.le_refl _)) ?_
  refine WO.put 15 (.agg [.sc (.int .i64 0), .sc (.int .i64 a1), .sc (.int .i64 a2), .sc (.int .u32 a3), .sc (.int .i64 a4), .sc (.int .i64 a5), .sc (.bool a6), .sc (.int .u32 a7), .sc (.int .u32 a8), .sc (.int .i64 a9), .sc (.int .i64 a10), .sc (.int .i64 a11), .sc (.string a12), .sc (.string a13)]) (by kernel_rfl) ?_
  refine WO.op rfl rfl rfl rfl (step_loadA Try.isAgg25 Try.sizeOf25 rfl rfl (by exact Nat.le_refl _)) ?_
  refine WO.put 16 (.agg [.sc (.int .i64 0), .sc (.int .i64 0), .sc (.int .i64 0), .sc (.int .u32 0), .sc (.int .i64 0), .sc (.int .i64 0), .sc (.bool false), .sc (.int .u32 0), .sc (.int .u32 0), .sc (.int .i64 0), .sc (.int .i64 0), .sc (.int .i64 0), .sc (.string ⟨#[]⟩), .sc (.string a13)]) (by kernel_rfl) ?_
  refine WO.op rfl rfl rfl rfl (ne2_L4 (a0 := 0) (a1 := a1) (a2 := a2) (a3 := a3) (a4 := a4) (a5 := a5) (a6 := a6) (a7 := a7) (a8 := a8) (a9 := a9) (a10 := a10) (a11 := a11) (a12 := a12) (a13 := a13) (b0 := 0) (b1 := 0) (b2 := 0) (b3 := 0) (b4 := 0) (b5 := 0) (b6 := false) (b7 := 0) (b8 := 0) (b9 := 0) (b10 := 0) (b11 := 0) (b12 := ⟨#[]⟩) (b13 := a13) (by (constructor <;> decide)) (by assumption) (by assumption) (by assumption) (by assumption) (by assumption) (by assumption) (by assumption) (by assumption) (by assumption) (by assumption) (by assumption) (by assumption) (by (constructor <;> decide)) (by (constructor <;> decide)) (by (constructor <;> decide)) (by (constructor <;> decide)) (by (constructor <;> decide)) (by (constructor <;> decide)) (by (constructor <;> decide)) (by (constructor <;> decide)) (by (constructor <;> decide)) (by (constructor <;> decide)) (by (constructor <;> decide)) (by decide) (by assumption) hne rfl rfl) ?_
  refine WO.put 17 (.sc (.bool true)) (rfl) ?_
  refine WO.op rfl rfl rfl rfl (pk_f rfl rfl rfl) ?_
  iterate 8 (refine WO.op rfl rfl rfl rfl (mv_sc rfl) ?_; refine WO.sk rfl rfl rfl rfl ?_; refine WO.sk rfl rfl rfl rfl ?_; refine WO.sk rfl rfl rfl rfl ?_; refine WO.sk rfl rfl rfl rfl ?_; refine WO.op rfl rfl rfl rfl (pk_t rfl rfl rfl) ?_)
  refine WO.op rfl rfl rfl rfl (mv_sc rfl) ?_
  iterate 5 (refine WO.sk rfl rfl rfl rfl ?_)
  refine WO.op rfl rfl rfl rfl (pk_t rfl rfl rfl) ?_
  refine WO.op rfl rfl rfl rfl (mv_sc rfl) ?_
  iterate 6 (refine WO.sk rfl rfl rfl rfl ?_)
  refine WO.op rfl rfl rfl rfl (pk_t rfl rfl rfl) ?_
  refine WO.nil ?_
  refine W.condT rfl ?_
  refine W.seq ?_
  refine W.to [(0, _), (1, _), (2, _), (3, _), (4, _), (5, _), (81, _)] [_, _] rfl ⟨(by exact sh_agg rfl), (by exact sh_ptr rfl), (by exact sh_sc rfl), (by exact sh_ptr rfl), (by exact sh_sc rfl), (by exact sh_sc rfl), (by exact sh_sc rfl), trivial⟩ ?_
  refine W.region ?_
  refine WO.op rfl rfl rfl rfl (as_sc rfl) ?_
  refine WO.nil ?_
  refine W.ret ?_
  refine ⟨.inl rfl, ?_⟩
  exact ret0 (Res.tmp rfl Res.nil) (.keep rfl)

theorem w_ChkR0 {a13 : ByteArray} (g13 : a13.size ≤ 200000000000000) (h : ¬ ((a13.size ≤ 65515))) : Spec0 Try.prog 13 [.agg [.sc (.int .i64 0), .sc (.int .i64 0), .sc (.int .i64 0), .sc (.int .u32 0), .sc (.int .i64 0), .sc (.int .i64 0), .sc (.bool false), .sc (.int .u32 0), .sc (.int .u32 0), .sc (.int .i64 0), .sc (.int .i64 0), .sc (.int .i64 0), .sc (.string ⟨#[]⟩), .sc (.string a13)]] (.sc (.int .i64 1)) := by
  refine Spec.body Try.func13 rfl (Nat.le_of_ble_eq_true rfl) ?_
  refine W.seq ?_
  refine W.region ?_
  refine WO.opA rfl rfl rfl rfl (al_boxA rfl rfl) rfl rfl ?_
  refine WO.put 1 (.ptr 0 0) rfl ?_
  refine WO.op rfl rfl rfl rfl (as_sc rfl) ?_
  refine WO.nil ?_
  refine W.seq ?_
  refine W.to [(0, _), (1, _), (2, _)] [_] rfl ⟨(by exact sh_agg rfl), (by exact sh_ptr rfl), (by exact sh_sc rfl), trivial⟩ ?_
  refine W.region ?_
  refine WO.op rfl rfl rfl rfl (step_loadA Try.isAgg25 Try.sizeOf25 rfl rfl (by exact Nat.le_refl _)) ?_
  refine WO.op rfl rfl rfl rfl (step_pure Try.call26 rfl (by (repeat (first | exact Nl.nil | refine Nl.keep (by rfl) ?_))) (w_ownG0) (by repeat (first | with_reducible refine noOwn_tup ?_ | with_reducible refine noOwn_agg ?_ | with_reducible exact noOwnL_nil | with_reducible refine noOwnL_cons ?_ ?_ | rfl))) ?_
  refine WO.op rfl rfl rfl rfl (mv_tup rfl) ?_
  refine WO.op rfl rfl rfl rfl (step_extract rfl rfl) ?_
  refine WO.put 9 (.agg [.sc (.int .i64 0), .sc (.int .i64 0), .sc (.int .i64 0), .sc (.int .u32 0), .sc (.int .i64 0), .sc (.int .i64 0), .sc (.bool false), .sc (.int .u32 0), .sc (.int .u32 0), .sc (.int .i64 0), .sc (.int .i64 0), .sc (.int .i64 0), .sc (.string ⟨#[]⟩), .sc (.string a13)]) (by kernel_rfl) ?_
  iterate 2 (refine WO.op rfl rfl rfl rfl (step_extract rfl rfl) ?_)
  refine WO.opA rfl rfl rfl rfl (al_alloc Try.zeroValue25) rfl rfl ?_
  refine WO.put 3 (.ptr 1 0) rfl ?_
  refine WO.op0 rfl rfl rfl (step_storeA Try.sizeOf25 rfl rfl rfl (by repeat (exact all_cell rfl rfl)) rfl rfl) ?_
  iterate 2 (refine WO.op rfl rfl rfl rfl (as_sc rfl) ?_)
  refine WO.nil ?_
  refine W.seq ?_
  refine W.seq ?_
  refine W.to [(0, _), (1, _), (2, _), (3, _), (4, _), (5, _)] [_, _] rfl ⟨(by exact sh_agg rfl), (by exact sh_ptr rfl), (by exact sh_sc rfl), (by exact sh_ptr rfl), (by exact sh_sc rfl), (by exact sh_sc rfl), trivial⟩ ?_
  refine W.region ?_
  refine WO.op rfl rfl rfl rfl (mv_sc rfl) ?_
  refine WO.op rfl rfl rfl rfl (step_not rfl) ?_
  refine WO.put 13 (.sc (.bool false)) (by kernel_rfl) ?_
  refine WO.op rfl rfl rfl rfl (mv_sc rfl) ?_
  refine WO.op rfl rfl rfl rfl (step_loadA Try.isAgg25 Try.sizeOf25 rfl rfl (by exact Nat.le_refl _)) ?_
  refine WO.put 15 (.agg [.sc (.int .i64 0), .sc (.int .i64 0), .sc (.int .i64 0), .sc (.int .u32 0), .sc (.int .i64 0), .sc (.int .i64 0), .sc (.bool false), .sc (.int .u32 0), .sc (.int .u32 0), .sc (.int .i64 0), .sc (.int .i64 0), .sc (.int .i64 0), .sc (.string ⟨#[]⟩), .sc (.string a13)]) (by kernel_rfl) ?_
  refine WO.op rfl rfl rfl rfl (step_loadA Try.isAgg25 Try.sizeOf25 rfl rfl (by exact Nat.le_refl _)) ?_
  refine WO.put 16 (.agg [.sc (.int .i64 0), .sc (.int .i64 0), .sc (.int .i64 0), .sc (.int .u32 0), .sc (.int .i64 0), .sc (.int .i64 0), .sc (.bool false), .sc (.int .u32 0), .sc (.int .u32 0), .sc (.int .i64 0), .sc (.int .i64 0), .sc (.int .i64 0), .sc (.string ⟨#[]⟩), .sc (.string a13)]) (by kernel_rfl) ?_
  refine WO.op rfl rfl rfl rfl (ne_L4 (a0 := 0) (a1 := 0) (a2 := 0) (a3 := 0) (a4 := 0) (a5 := 0) (a6 := false) (a7 := 0) (a8 := 0) (a9 := 0) (a10 := 0) (a11 := 0) (a12 := ⟨#[]⟩) (a13 := a13) (by (constructor <;> decide)) (by (constructor <;> decide)) (by (constructor <;> decide)) (by (constructor <;> decide)) (by (constructor <;> decide)) (by (constructor <;> decide)) (by (constructor <;> decide)) (by (constructor <;> decide)) (by (constructor <;> decide)) (by (constructor <;> decide)) (by (constructor <;> decide)) (by decide) (by assumption) rfl rfl) ?_
  refine WO.put 17 (.sc (.bool false)) (rfl) ?_
  refine WO.op rfl rfl rfl rfl (pk_f rfl rfl rfl) ?_
  refine WO.op rfl rfl rfl rfl (mv_sc rfl) ?_
  refine WO.op rfl rfl rfl rfl (step_fieldR (k := 1) (FieldOff.mk (by kernel_rfl)) rfl rfl (by exact Nat.zero_add _)) ?_
  refine WO.op rfl rfl rfl rfl (step_load Try.isAgg3 rfl rfl rfl) ?_
  refine WO.op rfl rfl rfl rfl (step_pure Try.call33 rfl (by (repeat (first | exact Nl.nil | refine Nl.keep (by rfl) ?_))) (w_within) (by repeat (rfl))) ?_
  refine WO.op rfl rfl rfl rfl (step_not rfl) ?_
  refine WO.op rfl rfl rfl rfl (pk_f rfl rfl rfl) ?_
  refine WO.op rfl rfl rfl rfl (mv_sc rfl) ?_
  refine WO.spl 25 rfl (fun h1 => ?_) (fun h1 => ?_)
  · try simp only [decide_eq_true_eq, decide_eq_false_iff_not, Bool.not_eq_true', Bool.not_eq_false', beq_iff_eq, bne_iff_ne, beq_eq_false_iff_ne, bne_eq_false_iff_eq, gt_iff_lt, ge_iff_le, Int.not_lt, Int.not_le] at h1
    iterate 7 (refine WO.sk rfl rfl rfl rfl ?_; refine WO.sk rfl rfl rfl rfl ?_; refine WO.sk rfl rfl rfl rfl ?_; refine WO.sk rfl rfl rfl rfl ?_; refine WO.op rfl rfl rfl rfl (pk_t rfl rfl rfl) ?_; refine WO.op rfl rfl rfl rfl (mv_sc rfl) ?_)
    iterate 5 (refine WO.sk rfl rfl rfl rfl ?_)
    refine WO.op rfl rfl rfl rfl (pk_t rfl rfl rfl) ?_
    refine WO.op rfl rfl rfl rfl (mv_sc rfl) ?_
    iterate 6 (refine WO.sk rfl rfl rfl rfl ?_)
    refine WO.op rfl rfl rfl rfl (pk_t rfl rfl rfl) ?_
    refine WO.nil ?_
    refine W.condT rfl ?_
    refine W.seq ?_
    refine W.to [(0, _), (1, _), (2, _), (3, _), (4, _), (5, _), (81, _)] [_, _] rfl ⟨(by exact sh_agg rfl), (by exact sh_ptr rfl), (by exact sh_sc rfl), (by exact sh_ptr rfl), (by exact sh_sc rfl), (by exact sh_sc rfl), (by exact sh_sc rfl), trivial⟩ ?_
    refine W.region ?_
    refine WO.op rfl rfl rfl rfl (as_sc rfl) ?_
    refine WO.nil ?_
    refine W.ret ?_
    refine ⟨.inl rfl, ?_⟩
    exact ret0 (Res.tmp rfl Res.nil) (.keep rfl)
  · try simp only [decide_eq_true_eq, decide_eq_false_iff_not, Bool.not_eq_true', Bool.not_eq_false', beq_iff_eq, bne_iff_ne, beq_eq_false_iff_ne, bne_eq_false_iff_eq, gt_iff_lt, ge_iff_le, Int.not_lt, Int.not_le] at h1
    refine WO.op rfl rfl rfl rfl (step_fieldR (k := 2) (FieldOff.mk (by kernel_rfl)) rfl rfl (by exact Nat.zero_add _)) ?_
    refine WO.op rfl rfl rfl rfl (step_load Try.isAgg3 rfl rfl rfl) ?_
    refine WO.op rfl rfl rfl rfl (step_pure Try.call33 rfl (by (repeat (first | exact Nl.nil | refine Nl.keep (by rfl) ?_))) (w_within) (by repeat (rfl))) ?_
    refine WO.op rfl rfl rfl rfl (step_not rfl) ?_
    refine WO.op rfl rfl rfl rfl (pk_f rfl rfl rfl) ?_
    refine WO.op rfl rfl rfl rfl (mv_sc rfl) ?_
    refine WO.spl 31 rfl (fun h2 => ?_) (fun h2 => ?_)
    · try simp only [decide_eq_true_eq, decide_eq_false_iff_not, Bool.not_eq_true', Bool.not_eq_false', beq_iff_eq, bne_iff_ne, beq_eq_false_iff_ne, bne_eq_false_iff_eq, gt_iff_lt, ge_iff_le, Int.not_lt, Int.not_le] at h2
      iterate 6 (refine WO.sk rfl rfl rfl rfl ?_; refine WO.sk rfl rfl rfl rfl ?_; refine WO.sk rfl rfl rfl rfl ?_; refine WO.sk rfl rfl rfl rfl ?_; refine WO.op rfl rfl rfl rfl (pk_t rfl rfl rfl) ?_; refine WO.op rfl rfl rfl rfl (mv_sc rfl) ?_)
      iterate 5 (refine WO.sk rfl rfl rfl rfl ?_)
      refine WO.op rfl rfl rfl rfl (pk_t rfl rfl rfl) ?_
      refine WO.op rfl rfl rfl rfl (mv_sc rfl) ?_
      iterate 6 (refine WO.sk rfl rfl rfl rfl ?_)
      refine WO.op rfl rfl rfl rfl (pk_t rfl rfl rfl) ?_
      refine WO.nil ?_
      refine W.condT rfl ?_
      refine W.seq ?_
      refine W.to [(0, _), (1, _), (2, _), (3, _), (4, _), (5, _), (81, _)] [_, _] rfl ⟨(by exact sh_agg rfl), (by exact sh_ptr rfl), (by exact sh_sc rfl), (by exact sh_ptr rfl), (by exact sh_sc rfl), (by exact sh_sc rfl), (by exact sh_sc rfl), trivial⟩ ?_
      refine W.region ?_
      refine WO.op rfl rfl rfl rfl (as_sc rfl) ?_
      refine WO.nil ?_
      refine W.ret ?_
      refine ⟨.inl rfl, ?_⟩
      exact ret0 (Res.tmp rfl Res.nil) (.keep rfl)
    · try simp only [decide_eq_true_eq, decide_eq_false_iff_not, Bool.not_eq_true', Bool.not_eq_false', beq_iff_eq, bne_iff_ne, beq_eq_false_iff_ne, bne_eq_false_iff_eq, gt_iff_lt, ge_iff_le, Int.not_lt, Int.not_le] at h2
      refine WO.op rfl rfl rfl rfl (step_fieldR (k := 4) (FieldOff.mk (by kernel_rfl)) rfl rfl (by exact Nat.zero_add _)) ?_
      refine WO.op rfl rfl rfl rfl (step_load Try.isAgg3 rfl rfl rfl) ?_
      refine WO.op rfl rfl rfl rfl (step_pure Try.call33 rfl (by (repeat (first | exact Nl.nil | refine Nl.keep (by rfl) ?_))) (w_within) (by repeat (rfl))) ?_
      refine WO.op rfl rfl rfl rfl (step_not rfl) ?_
      refine WO.op rfl rfl rfl rfl (pk_f rfl rfl rfl) ?_
      refine WO.op rfl rfl rfl rfl (mv_sc rfl) ?_
      refine WO.spl 37 rfl (fun h3 => ?_) (fun h3 => ?_)
      · try simp only [decide_eq_true_eq, decide_eq_false_iff_not, Bool.not_eq_true', Bool.not_eq_false', beq_iff_eq, bne_iff_ne, beq_eq_false_iff_ne, bne_eq_false_iff_eq, gt_iff_lt, ge_iff_le, Int.not_lt, Int.not_le] at h3
        iterate 5 (refine WO.sk rfl rfl rfl rfl ?_; refine WO.sk rfl rfl rfl rfl ?_; refine WO.sk rfl rfl rfl rfl ?_; refine WO.sk rfl rfl rfl rfl ?_; refine WO.op rfl rfl rfl rfl (pk_t rfl rfl rfl) ?_; refine WO.op rfl rfl rfl rfl (mv_sc rfl) ?_)
        iterate 5 (refine WO.sk rfl rfl rfl rfl ?_)
        refine WO.op rfl rfl rfl rfl (pk_t rfl rfl rfl) ?_
        refine WO.op rfl rfl rfl rfl (mv_sc rfl) ?_
        iterate 6 (refine WO.sk rfl rfl rfl rfl ?_)
        refine WO.op rfl rfl rfl rfl (pk_t rfl rfl rfl) ?_
        refine WO.nil ?_
        refine W.condT rfl ?_
        refine W.seq ?_
        refine W.to [(0, _), (1, _), (2, _), (3, _), (4, _), (5, _), (81, _)] [_, _] rfl ⟨(by exact sh_agg rfl), (by exact sh_ptr rfl), (by exact sh_sc rfl), (by exact sh_ptr rfl), (by exact sh_sc rfl), (by exact sh_sc rfl), (by exact sh_sc rfl), trivial⟩ ?_
        refine W.region ?_
        refine WO.op rfl rfl rfl rfl (as_sc rfl) ?_
        refine WO.nil ?_
        refine W.ret ?_
        refine ⟨.inl rfl, ?_⟩
        exact ret0 (Res.tmp rfl Res.nil) (.keep rfl)
      · try simp only [decide_eq_true_eq, decide_eq_false_iff_not, Bool.not_eq_true', Bool.not_eq_false', beq_iff_eq, bne_iff_ne, beq_eq_false_iff_ne, bne_eq_false_iff_eq, gt_iff_lt, ge_iff_le, Int.not_lt, Int.not_le] at h3
        refine WO.op rfl rfl rfl rfl (step_fieldR (k := 5) (FieldOff.mk (by kernel_rfl)) rfl rfl (by exact Nat.zero_add _)) ?_
        refine WO.op rfl rfl rfl rfl (step_load Try.isAgg3 rfl rfl rfl) ?_
        refine WO.op rfl rfl rfl rfl (step_pure Try.call33 rfl (by (repeat (first | exact Nl.nil | refine Nl.keep (by rfl) ?_))) (w_within) (by repeat (rfl))) ?_
        refine WO.op rfl rfl rfl rfl (step_not rfl) ?_
        refine WO.op rfl rfl rfl rfl (pk_f rfl rfl rfl) ?_
        refine WO.op rfl rfl rfl rfl (mv_sc rfl) ?_
        refine WO.spl 43 rfl (fun h4 => ?_) (fun h4 => ?_)
        · try simp only [decide_eq_true_eq, decide_eq_false_iff_not, Bool.not_eq_true', Bool.not_eq_false', beq_iff_eq, bne_iff_ne, beq_eq_false_iff_ne, bne_eq_false_iff_eq, gt_iff_lt, ge_iff_le, Int.not_lt, Int.not_le] at h4
          iterate 4 (refine WO.sk rfl rfl rfl rfl ?_; refine WO.sk rfl rfl rfl rfl ?_; refine WO.sk rfl rfl rfl rfl ?_; refine WO.sk rfl rfl rfl rfl ?_; refine WO.op rfl rfl rfl rfl (pk_t rfl rfl rfl) ?_; refine WO.op rfl rfl rfl rfl (mv_sc rfl) ?_)
          iterate 5 (refine WO.sk rfl rfl rfl rfl ?_)
          refine WO.op rfl rfl rfl rfl (pk_t rfl rfl rfl) ?_
          refine WO.op rfl rfl rfl rfl (mv_sc rfl) ?_
          iterate 6 (refine WO.sk rfl rfl rfl rfl ?_)
          refine WO.op rfl rfl rfl rfl (pk_t rfl rfl rfl) ?_
          refine WO.nil ?_
          refine W.condT rfl ?_
          refine W.seq ?_
          refine W.to [(0, _), (1, _), (2, _), (3, _), (4, _), (5, _), (81, _)] [_, _] rfl ⟨(by exact sh_agg rfl), (by exact sh_ptr rfl), (by exact sh_sc rfl), (by exact sh_ptr rfl), (by exact sh_sc rfl), (by exact sh_sc rfl), (by exact sh_sc rfl), trivial⟩ ?_
          refine W.region ?_
          refine WO.op rfl rfl rfl rfl (as_sc rfl) ?_
          refine WO.nil ?_
          refine W.ret ?_
          refine ⟨.inl rfl, ?_⟩
          exact ret0 (Res.tmp rfl Res.nil) (.keep rfl)
        · try simp only [decide_eq_true_eq, decide_eq_false_iff_not, Bool.not_eq_true', Bool.not_eq_false', beq_iff_eq, bne_iff_ne, beq_eq_false_iff_ne, bne_eq_false_iff_eq, gt_iff_lt, ge_iff_le, Int.not_lt, Int.not_le] at h4
          refine WO.op rfl rfl rfl rfl (step_fieldR (k := 10) (FieldOff.mk (by kernel_rfl)) rfl rfl (by exact Nat.zero_add _)) ?_
          refine WO.op rfl rfl rfl rfl (step_load Try.isAgg3 rfl rfl rfl) ?_
          refine WO.op rfl rfl rfl rfl (step_pure Try.call33 rfl (by (repeat (first | exact Nl.nil | refine Nl.keep (by rfl) ?_))) (w_within) (by repeat (rfl))) ?_
          refine WO.op rfl rfl rfl rfl (step_not rfl) ?_
          refine WO.op rfl rfl rfl rfl (pk_f rfl rfl rfl) ?_
          refine WO.op rfl rfl rfl rfl (mv_sc rfl) ?_
          refine WO.spl 49 rfl (fun h5 => ?_) (fun h5 => ?_)
          · try simp only [decide_eq_true_eq, decide_eq_false_iff_not, Bool.not_eq_true', Bool.not_eq_false', beq_iff_eq, bne_iff_ne, beq_eq_false_iff_ne, bne_eq_false_iff_eq, gt_iff_lt, ge_iff_le, Int.not_lt, Int.not_le] at h5
            iterate 3 (refine WO.sk rfl rfl rfl rfl ?_; refine WO.sk rfl rfl rfl rfl ?_; refine WO.sk rfl rfl rfl rfl ?_; refine WO.sk rfl rfl rfl rfl ?_; refine WO.op rfl rfl rfl rfl (pk_t rfl rfl rfl) ?_; refine WO.op rfl rfl rfl rfl (mv_sc rfl) ?_)
            iterate 5 (refine WO.sk rfl rfl rfl rfl ?_)
            refine WO.op rfl rfl rfl rfl (pk_t rfl rfl rfl) ?_
            refine WO.op rfl rfl rfl rfl (mv_sc rfl) ?_
            iterate 6 (refine WO.sk rfl rfl rfl rfl ?_)
            refine WO.op rfl rfl rfl rfl (pk_t rfl rfl rfl) ?_
            refine WO.nil ?_
            refine W.condT rfl ?_
            refine W.seq ?_
            refine W.to [(0, _), (1, _), (2, _), (3, _), (4, _), (5, _), (81, _)] [_, _] rfl ⟨(by exact sh_agg rfl), (by exact sh_ptr rfl), (by exact sh_sc rfl), (by exact sh_ptr rfl), (by exact sh_sc rfl), (by exact sh_sc rfl), (by exact sh_sc rfl), trivial⟩ ?_
            refine W.region ?_
            refine WO.op rfl rfl rfl rfl (as_sc rfl) ?_
            refine WO.nil ?_
            refine W.ret ?_
            refine ⟨.inl rfl, ?_⟩
            exact ret0 (Res.tmp rfl Res.nil) (.keep rfl)
          · try simp only [decide_eq_true_eq, decide_eq_false_iff_not, Bool.not_eq_true', Bool.not_eq_false', beq_iff_eq, bne_iff_ne, beq_eq_false_iff_ne, bne_eq_false_iff_eq, gt_iff_lt, ge_iff_le, Int.not_lt, Int.not_le] at h5
            refine WO.op rfl rfl rfl rfl (step_fieldR (k := 11) (FieldOff.mk (by kernel_rfl)) rfl rfl (by exact Nat.zero_add _)) ?_
            refine WO.op rfl rfl rfl rfl (step_load Try.isAgg3 rfl rfl rfl) ?_
            refine WO.op rfl rfl rfl rfl (step_pure Try.call33 rfl (by (repeat (first | exact Nl.nil | refine Nl.keep (by rfl) ?_))) (w_within) (by repeat (rfl))) ?_
            refine WO.op rfl rfl rfl rfl (step_not rfl) ?_
            refine WO.op rfl rfl rfl rfl (pk_f rfl rfl rfl) ?_
            refine WO.op rfl rfl rfl rfl (mv_sc rfl) ?_
            refine WO.spl 55 rfl (fun h6 => ?_) (fun h6 => ?_)
            · try simp only [decide_eq_true_eq, decide_eq_false_iff_not, Bool.not_eq_true', Bool.not_eq_false', beq_iff_eq, bne_iff_ne, beq_eq_false_iff_ne, bne_eq_false_iff_eq, gt_iff_lt, ge_iff_le, Int.not_lt, Int.not_le] at h6
              iterate 2 (refine WO.sk rfl rfl rfl rfl ?_; refine WO.sk rfl rfl rfl rfl ?_; refine WO.sk rfl rfl rfl rfl ?_; refine WO.sk rfl rfl rfl rfl ?_; refine WO.op rfl rfl rfl rfl (pk_t rfl rfl rfl) ?_; refine WO.op rfl rfl rfl rfl (mv_sc rfl) ?_)
              iterate 5 (refine WO.sk rfl rfl rfl rfl ?_)
              refine WO.op rfl rfl rfl rfl (pk_t rfl rfl rfl) ?_
              refine WO.op rfl rfl rfl rfl (mv_sc rfl) ?_
              iterate 6 (refine WO.sk rfl rfl rfl rfl ?_)
              refine WO.op rfl rfl rfl rfl (pk_t rfl rfl rfl) ?_
              refine WO.nil ?_
              refine W.condT rfl ?_
              refine W.seq ?_
              refine W.to [(0, _), (1, _), (2, _), (3, _), (4, _), (5, _), (81, _)] [_, _] rfl ⟨(by exact sh_agg rfl), (by exact sh_ptr rfl), (by exact sh_sc rfl), (by exact sh_ptr rfl), (by exact sh_sc rfl), (by exact sh_sc rfl), (by exact sh_sc rfl), trivial⟩ ?_
              refine W.region ?_
              refine WO.op rfl rfl rfl rfl (as_sc rfl) ?_
              refine WO.nil ?_
              refine W.ret ?_
              refine ⟨.inl rfl, ?_⟩
              exact ret0 (Res.tmp rfl Res.nil) (.keep rfl)
            · try simp only [decide_eq_true_eq, decide_eq_false_iff_not, Bool.not_eq_true', Bool.not_eq_false', beq_iff_eq, bne_iff_ne, beq_eq_false_iff_ne, bne_eq_false_iff_eq, gt_iff_lt, ge_iff_le, Int.not_lt, Int.not_le] at h6
              refine WO.op rfl rfl rfl rfl (step_fieldR (k := 9) (FieldOff.mk (by kernel_rfl)) rfl rfl (by exact Nat.zero_add _)) ?_
              refine WO.op rfl rfl rfl rfl (step_load Try.isAgg3 rfl rfl rfl) ?_
              refine WO.op rfl rfl rfl rfl (step_pure Try.call33 rfl (by (repeat (first | exact Nl.nil | refine Nl.keep (by rfl) ?_))) (w_within) (by repeat (rfl))) ?_
              refine WO.op rfl rfl rfl rfl (step_not rfl) ?_
              refine WO.op rfl rfl rfl rfl (pk_f rfl rfl rfl) ?_
              refine WO.op rfl rfl rfl rfl (mv_sc rfl) ?_
              refine WO.spl 61 rfl (fun h7 => ?_) (fun h7 => ?_)
              · try simp only [decide_eq_true_eq, decide_eq_false_iff_not, Bool.not_eq_true', Bool.not_eq_false', beq_iff_eq, bne_iff_ne, beq_eq_false_iff_ne, bne_eq_false_iff_eq, gt_iff_lt, ge_iff_le, Int.not_lt, Int.not_le] at h7
                iterate 2 (refine WO.sk rfl rfl rfl rfl ?_; refine WO.sk rfl rfl rfl rfl ?_; refine WO.sk rfl rfl rfl rfl ?_; refine WO.sk rfl rfl rfl rfl ?_; refine WO.op rfl rfl rfl rfl (pk_t rfl rfl rfl) ?_; refine WO.op rfl rfl rfl rfl (mv_sc rfl) ?_; refine WO.sk rfl rfl rfl rfl ?_)
                iterate 5 (refine WO.sk rfl rfl rfl rfl ?_)
                refine WO.op rfl rfl rfl rfl (pk_t rfl rfl rfl) ?_
                refine WO.nil ?_
                refine W.condT rfl ?_
                refine W.seq ?_
                refine W.to [(0, _), (1, _), (2, _), (3, _), (4, _), (5, _), (81, _)] [_, _] rfl ⟨(by exact sh_agg rfl), (by exact sh_ptr rfl), (by exact sh_sc rfl), (by exact sh_ptr rfl), (by exact sh_sc rfl), (by exact sh_sc rfl), (by exact sh_sc rfl), trivial⟩ ?_
                refine W.region ?_
                refine WO.op rfl rfl rfl rfl (as_sc rfl) ?_
                refine WO.nil ?_
                refine W.ret ?_
                refine ⟨.inl rfl, ?_⟩
                exact ret0 (Res.tmp rfl Res.nil) (.keep rfl)
              · try simp only [decide_eq_true_eq, decide_eq_false_iff_not, Bool.not_eq_true', Bool.not_eq_false', beq_iff_eq, bne_iff_ne, beq_eq_false_iff_ne, bne_eq_false_iff_eq, gt_iff_lt, ge_iff_le, Int.not_lt, Int.not_le] at h7
                refine WO.op rfl rfl rfl rfl (step_fieldR (k := 12) (FieldOff.mk (by kernel_rfl)) rfl rfl (by exact Nat.zero_add _)) ?_
                refine WO.op rfl rfl rfl rfl (step_load Try.isAgg9 rfl rfl rfl) ?_
                refine WO.op rfl rfl rfl rfl (step_lenS Try.runUnderlying9 rfl) ?_
                refine WO.op rfl rfl rfl rfl (step_int2 rfl rfl rfl) ?_
                refine WO.put 65 (.sc (.bool false)) (by kernel_rfl) ?_
                refine WO.op rfl rfl rfl rfl (pk_f rfl rfl rfl) ?_
                refine WO.op rfl rfl rfl rfl (mv_sc rfl) ?_
                refine WO.op rfl rfl rfl rfl (step_fieldR (k := 12) (FieldOff.mk (by kernel_rfl)) rfl rfl (by exact Nat.zero_add _)) ?_
                refine WO.op rfl rfl rfl rfl (step_load Try.isAgg9 rfl rfl rfl) ?_
                refine WO.op rfl rfl rfl rfl (step_lenS Try.runUnderlying9 rfl) ?_
                refine WO.op rfl rfl rfl rfl (step_remN (q := 4) rfl rfl (by omega)) ?_
                refine WO.op rfl rfl rfl rfl (step_int2 rfl rfl rfl) ?_
                refine WO.put 72 (.sc (.bool false)) (by kernel_rfl) ?_
                refine WO.op rfl rfl rfl rfl (pk_f rfl rfl rfl) ?_
                refine WO.op rfl rfl rfl rfl (mv_sc rfl) ?_
                refine WO.op rfl rfl rfl rfl (step_fieldR (k := 13) (FieldOff.mk (by kernel_rfl)) rfl rfl (by exact Nat.zero_add _)) ?_
                refine WO.op rfl rfl rfl rfl (step_load Try.isAgg9 rfl rfl rfl) ?_
                refine WO.op rfl rfl rfl rfl (step_lenS Try.runUnderlying9 rfl) ?_
                refine WO.op rfl rfl rfl rfl (mv_sc rfl) ?_
                refine WO.op rfl rfl rfl rfl (step_subN (p := 65515) rfl rfl (by (simp only [List.length_map, List.length_append, List.length_take, List.length_drop, List.length_set, List.length_cons, List.length_nil, List.length_replicate] <;> omega)) (by (simp only [cap]; omega))) ?_
                refine WO.op rfl rfl rfl rfl (step_int2 rfl rfl rfl) ?_
                refine WO.op rfl rfl rfl rfl (pk_f rfl rfl rfl) ?_
                refine WO.nil ?_
                refine W.cond rfl (fun h8 => ?_) (fun h8 => ?_)
                · try simp only [decide_eq_true_eq, decide_eq_false_iff_not, Bool.not_eq_true', Bool.not_eq_false', beq_iff_eq, bne_iff_ne, beq_eq_false_iff_ne, bne_eq_false_iff_eq, gt_iff_lt, ge_iff_le, Int.not_lt, Int.not_le] at h8
                  refine W.seq ?_
                  refine W.to [(0, _), (1, _), (2, _), (3, _), (4, _), (5, _), (81, _)] [_, _] rfl ⟨(by exact sh_agg rfl), (by exact sh_ptr rfl), (by exact sh_sc rfl), (by exact sh_ptr rfl), (by exact sh_sc rfl), (by exact sh_sc rfl), (by exact sh_sc rfl), trivial⟩ ?_
                  refine W.region ?_
                  refine WO.op rfl rfl rfl rfl (as_sc rfl) ?_
                  refine WO.nil ?_
                  refine W.ret ?_
                  refine ⟨.inl rfl, ?_⟩
                  exact ret0 (Res.tmp rfl Res.nil) (.keep rfl)
                · try simp only [decide_eq_true_eq, decide_eq_false_iff_not, Bool.not_eq_true', Bool.not_eq_false', beq_iff_eq, bne_iff_ne, beq_eq_false_iff_ne, bne_eq_false_iff_eq, gt_iff_lt, ge_iff_le, Int.not_lt, Int.not_le] at h8
                  exact False.elim (h (by omega))

theorem w_ChkN1 {a1 : Int} {a2 : Int} {a3 : Int} {a4 : Int} {a5 : Int} {a6 : Bool} {a7 : Int} {a8 : Int} {a9 : Int} {a10 : Int} {a11 : Int} {a12 : ByteArray} {a13 : ByteArray} (g1 : isI a1) (g2 : isI a2) (g3 : isU a3) (g4 : isI a4) (g5 : isI a5) (g7 : isU a7) (g8 : isU a8) (g9 : isI a9) (g10 : isI a10) (g11 : isI a11) (g12 : a12.size ≤ 200000000000000) (g13 : a13.size ≤ 200000000000000) (hne : ¬ (1 = (1 : Int) ∧ a1 = a1 ∧ a2 = a2 ∧ a3 = a3 ∧ a4 = 0 ∧ a5 = 0 ∧ a6 = false ∧ a7 = 0 ∧ a8 = 0 ∧ a9 = 0 ∧ a10 = 0 ∧ a11 = 0 ∧ a12.data.toList = (⟨#[]⟩ : ByteArray).data.toList ∧ a13.data.toList = (a13 : ByteArray).data.toList)) : Spec0 Try.prog 13 [.agg [.sc (.int .i64 1), .sc (.int .i64 a1), .sc (.int .i64 a2), .sc (.int .u32 a3), .sc (.int .i64 a4), .sc (.int .i64 a5), .sc (.bool a6), .sc (.int .u32 a7), .sc (.int .u32 a8), .sc (.int .i64 a9), .sc (.int .i64 a10), .sc (.int .i64 a11), .sc (.string a12), .sc (.string a13)]] (.sc (.int .i64 1)) := by
  refine Spec.body Try.func13 rfl (Nat.le_of_ble_eq_true rfl) ?_
  refine W.seq ?_
  refine W.region ?_
  refine WO.opA rfl rfl rfl rfl (al_boxA rfl rfl) rfl rfl ?_
  refine WO.put 1 (.ptr 0 0) rfl ?_
  refine WO.op rfl rfl rfl rfl (as_sc rfl) ?_
  refine WO.nil ?_
  refine W.seq ?_
  refine W.to [(0, _), (1, _), (2, _)] [_] rfl ⟨(by exact sh_agg rfl), (by exact sh_ptr rfl), (by exact sh_sc rfl), trivial⟩ ?_
  refine W.region ?_
  refine WO.op rfl rfl rfl rfl (step_loadA Try.isAgg25 Try.sizeOf25 rfl rfl (by exact Nat.le_refl _)) ?_
  refine WO.op rfl rfl rfl rfl (step_pure Try.call26 rfl (by (repeat (first | exact Nl.nil | refine Nl.keep (by rfl) ?_))) (w_ownG1) (by repeat (first | with_reducible refine noOwn_tup ?_ | with_reducible refine noOwn_agg ?_ | with_reducible exact noOwnL_nil | with_reducible refine noOwnL_cons ?_ ?_ | rfl))) ?_
  refine WO.op rfl rfl rfl rfl (mv_tup rfl) ?_
  refine WO.op rfl rfl rfl rfl (step_extract rfl rfl) ?_
  refine WO.put 9 (.agg [.sc (.int .i64 1), .sc (.int .i64 a1), .sc (.int .i64 a2), .sc (.int .u32 a3), .sc (.int .i64 0), .sc (.int .i64 0), .sc (.bool false), .sc (.int .u32 0), .sc (.int .u32 0), .sc (.int .i64 0), .sc (.int .i64 0), .sc (.int .i64 0), .sc (.string ⟨#[]⟩), .sc (.string a13)]) (by kernel_rfl) ?_
  iterate 2 (refine WO.op rfl rfl rfl rfl (step_extract rfl rfl) ?_)
  refine WO.opA rfl rfl rfl rfl (al_alloc Try.zeroValue25) rfl rfl ?_
  refine WO.put 3 (.ptr 1 0) rfl ?_
  refine WO.op0 rfl rfl rfl (step_storeA Try.sizeOf25 rfl rfl rfl (by repeat (exact all_cell rfl rfl)) rfl rfl) ?_
  iterate 2 (refine WO.op rfl rfl rfl rfl (as_sc rfl) ?_)
  refine WO.nil ?_
  refine W.seq ?_
  refine W.seq ?_
  refine W.to [(0, _), (1, _), (2, _), (3, _), (4, _), (5, _)] [_, _] rfl ⟨(by exact sh_agg rfl), (by exact sh_ptr rfl), (by exact sh_sc rfl), (by exact sh_ptr rfl), (by exact sh_sc rfl), (by exact sh_sc rfl), trivial⟩ ?_
  refine W.region ?_
  refine WO.op rfl rfl rfl rfl (mv_sc rfl) ?_
  refine WO.op rfl rfl rfl rfl (step_not rfl) ?_
  refine WO.put 13 (.sc (.bool false)) (by kernel_rfl) ?_
  refine WO.op rfl rfl rfl rfl (mv_sc rfl) ?_
  refine WO.op rfl rfl rfl rfl (step_loadA Try.isAgg25 Try.sizeOf25 rfl rfl (by exact Nat.le_refl _)) ?_
  refine WO.put 15 (.agg [.sc (.int .i64 1), .sc (.int .i64 a1), .sc (.int .i64 a2), .sc (.int .u32 a3), .sc (.int .i64 a4), .sc (.int .i64 a5), .sc (.bool a6), .sc (.int .u32 a7), .sc (.int .u32 a8), .sc (.int .i64 a9), .sc (.int .i64 a10), .sc (.int .i64 a11), .sc (.string a12), .sc (.string a13)]) (by kernel_rfl) ?_
  refine WO.op rfl rfl rfl rfl (step_loadA Try.isAgg25 Try.sizeOf25 rfl rfl (by exact Nat.le_refl _)) ?_
  refine WO.put 16 (.agg [.sc (.int .i64 1), .sc (.int .i64 a1), .sc (.int .i64 a2), .sc (.int .u32 a3), .sc (.int .i64 0), .sc (.int .i64 0), .sc (.bool false), .sc (.int .u32 0), .sc (.int .u32 0), .sc (.int .i64 0), .sc (.int .i64 0), .sc (.int .i64 0), .sc (.string ⟨#[]⟩), .sc (.string a13)]) (by kernel_rfl) ?_
  refine WO.op rfl rfl rfl rfl (ne2_L4 (a0 := 1) (a1 := a1) (a2 := a2) (a3 := a3) (a4 := a4) (a5 := a5) (a6 := a6) (a7 := a7) (a8 := a8) (a9 := a9) (a10 := a10) (a11 := a11) (a12 := a12) (a13 := a13) (b0 := 1) (b1 := a1) (b2 := a2) (b3 := a3) (b4 := 0) (b5 := 0) (b6 := false) (b7 := 0) (b8 := 0) (b9 := 0) (b10 := 0) (b11 := 0) (b12 := ⟨#[]⟩) (b13 := a13) (by (constructor <;> decide)) (by assumption) (by assumption) (by assumption) (by assumption) (by assumption) (by assumption) (by assumption) (by assumption) (by assumption) (by assumption) (by assumption) (by assumption) (by (constructor <;> decide)) (by assumption) (by assumption) (by assumption) (by (constructor <;> decide)) (by (constructor <;> decide)) (by (constructor <;> decide)) (by (constructor <;> decide)) (by (constructor <;> decide)) (by (constructor <;> decide)) (by (constructor <;> decide)) (by decide) (by assumption) hne rfl rfl) ?_
  refine WO.put 17 (.sc (.bool true)) (rfl) ?_
  refine WO.op rfl rfl rfl rfl (pk_f rfl rfl rfl) ?_
  iterate 8 (refine WO.op rfl rfl rfl rfl (mv_sc rfl) ?_; refine WO.sk rfl rfl rfl rfl ?_; refine WO.sk rfl rfl rfl rfl ?_; refine WO.sk rfl rfl rfl rfl ?_; refine WO.sk rfl rfl rfl rfl ?_; refine WO.op rfl rfl rfl rfl (pk_t rfl rfl rfl) ?_)
  refine WO.op rfl rfl rfl rfl (mv_sc rfl) ?_
  iterate 5 (refine WO.sk rfl rfl rfl rfl ?_)
  refine WO.op rfl rfl rfl rfl (pk_t rfl rfl rfl) ?_
  refine WO.op rfl rfl rfl rfl (mv_sc rfl) ?_
  iterate 6 (refine WO.sk rfl rfl rfl rfl ?_)
  refine WO.op rfl rfl rfl rfl (pk_t rfl rfl rfl) ?_
  refine WO.nil ?_
  refine W.condT rfl ?_
  refine W.seq ?_
  refine W.to [(0, _), (1, _), (2, _), (3, _), (4, _), (5, _), (81, _)] [_, _] rfl ⟨(by exact sh_agg rfl), (by exact sh_ptr rfl), (by exact sh_sc rfl), (by exact sh_ptr rfl), (by exact sh_sc rfl), (by exact sh_sc rfl), (by exact sh_sc rfl), trivial⟩ ?_
  refine W.region ?_
  refine WO.op rfl rfl rfl rfl (as_sc rfl) ?_
  refine WO.nil ?_
  refine W.ret ?_
  refine ⟨.inl rfl, ?_⟩
  exact ret0 (Res.tmp rfl Res.nil) (.keep rfl)

theorem w_ChkR1 {a1 : Int} {a2 : Int} {a3 : Int} {a13 : ByteArray} (g1 : isI a1) (g2 : isI a2) (g3 : isU a3) (g13 : a13.size ≤ 200000000000000) (h : ¬ ((0 ≤ a1 ∧ a1 ≤ 255) ∧ (0 ≤ a2 ∧ a2 ≤ 255) ∧ (a13.size ≤ 65507))) : Spec0 Try.prog 13 [.agg [.sc (.int .i64 1), .sc (.int .i64 a1), .sc (.int .i64 a2), .sc (.int .u32 a3), .sc (.int .i64 0), .sc (.int .i64 0), .sc (.bool false), .sc (.int .u32 0), .sc (.int .u32 0), .sc (.int .i64 0), .sc (.int .i64 0), .sc (.int .i64 0), .sc (.string ⟨#[]⟩), .sc (.string a13)]] (.sc (.int .i64 1)) := by
  refine Spec.body Try.func13 rfl (Nat.le_of_ble_eq_true rfl) ?_
  simp only [isI, isU] at *
  refine W.seq ?_
  refine W.region ?_
  refine WO.opA rfl rfl rfl rfl (al_boxA rfl rfl) rfl rfl ?_
  refine WO.put 1 (.ptr 0 0) rfl ?_
  refine WO.op rfl rfl rfl rfl (as_sc rfl) ?_
  refine WO.nil ?_
  refine W.seq ?_
  refine W.to [(0, _), (1, _), (2, _)] [_] rfl ⟨(by exact sh_agg rfl), (by exact sh_ptr rfl), (by exact sh_sc rfl), trivial⟩ ?_
  refine W.region ?_
  refine WO.op rfl rfl rfl rfl (step_loadA Try.isAgg25 Try.sizeOf25 rfl rfl (by exact Nat.le_refl _)) ?_
  refine WO.op rfl rfl rfl rfl (step_pure Try.call26 rfl (by (repeat (first | exact Nl.nil | refine Nl.keep (by rfl) ?_))) (w_ownG1) (by repeat (first | with_reducible refine noOwn_tup ?_ | with_reducible refine noOwn_agg ?_ | with_reducible exact noOwnL_nil | with_reducible refine noOwnL_cons ?_ ?_ | rfl))) ?_
  refine WO.op rfl rfl rfl rfl (mv_tup rfl) ?_
  refine WO.op rfl rfl rfl rfl (step_extract rfl rfl) ?_
  refine WO.put 9 (.agg [.sc (.int .i64 1), .sc (.int .i64 a1), .sc (.int .i64 a2), .sc (.int .u32 a3), .sc (.int .i64 0), .sc (.int .i64 0), .sc (.bool false), .sc (.int .u32 0), .sc (.int .u32 0), .sc (.int .i64 0), .sc (.int .i64 0), .sc (.int .i64 0), .sc (.string ⟨#[]⟩), .sc (.string a13)]) (by kernel_rfl) ?_
  iterate 2 (refine WO.op rfl rfl rfl rfl (step_extract rfl rfl) ?_)
  refine WO.opA rfl rfl rfl rfl (al_alloc Try.zeroValue25) rfl rfl ?_
  refine WO.put 3 (.ptr 1 0) rfl ?_
  refine WO.op0 rfl rfl rfl (step_storeA Try.sizeOf25 rfl rfl rfl (by repeat (exact all_cell rfl rfl)) rfl rfl) ?_
  iterate 2 (refine WO.op rfl rfl rfl rfl (as_sc rfl) ?_)
  refine WO.nil ?_
  refine W.seq ?_
  refine W.seq ?_
  refine W.to [(0, _), (1, _), (2, _), (3, _), (4, _), (5, _)] [_, _] rfl ⟨(by exact sh_agg rfl), (by exact sh_ptr rfl), (by exact sh_sc rfl), (by exact sh_ptr rfl), (by exact sh_sc rfl), (by exact sh_sc rfl), trivial⟩ ?_
  refine W.region ?_
  refine WO.op rfl rfl rfl rfl (mv_sc rfl) ?_
  refine WO.op rfl rfl rfl rfl (step_not rfl) ?_
  refine WO.put 13 (.sc (.bool false)) (by kernel_rfl) ?_
  refine WO.op rfl rfl rfl rfl (mv_sc rfl) ?_
  refine WO.op rfl rfl rfl rfl (step_loadA Try.isAgg25 Try.sizeOf25 rfl rfl (by exact Nat.le_refl _)) ?_
  refine WO.put 15 (.agg [.sc (.int .i64 1), .sc (.int .i64 a1), .sc (.int .i64 a2), .sc (.int .u32 a3), .sc (.int .i64 0), .sc (.int .i64 0), .sc (.bool false), .sc (.int .u32 0), .sc (.int .u32 0), .sc (.int .i64 0), .sc (.int .i64 0), .sc (.int .i64 0), .sc (.string ⟨#[]⟩), .sc (.string a13)]) (by kernel_rfl) ?_
  refine WO.op rfl rfl rfl rfl (step_loadA Try.isAgg25 Try.sizeOf25 rfl rfl (by exact Nat.le_refl _)) ?_
  refine WO.put 16 (.agg [.sc (.int .i64 1), .sc (.int .i64 a1), .sc (.int .i64 a2), .sc (.int .u32 a3), .sc (.int .i64 0), .sc (.int .i64 0), .sc (.bool false), .sc (.int .u32 0), .sc (.int .u32 0), .sc (.int .i64 0), .sc (.int .i64 0), .sc (.int .i64 0), .sc (.string ⟨#[]⟩), .sc (.string a13)]) (by kernel_rfl) ?_
  refine WO.op rfl rfl rfl rfl (ne_L4 (a0 := 1) (a1 := a1) (a2 := a2) (a3 := a3) (a4 := 0) (a5 := 0) (a6 := false) (a7 := 0) (a8 := 0) (a9 := 0) (a10 := 0) (a11 := 0) (a12 := ⟨#[]⟩) (a13 := a13) (by (constructor <;> decide)) (by assumption) (by assumption) (by assumption) (by (constructor <;> decide)) (by (constructor <;> decide)) (by (constructor <;> decide)) (by (constructor <;> decide)) (by (constructor <;> decide)) (by (constructor <;> decide)) (by (constructor <;> decide)) (by decide) (by assumption) rfl rfl) ?_
  refine WO.put 17 (.sc (.bool false)) (rfl) ?_
  refine WO.op rfl rfl rfl rfl (pk_f rfl rfl rfl) ?_
  refine WO.op rfl rfl rfl rfl (mv_sc rfl) ?_
  refine WO.op rfl rfl rfl rfl (step_fieldR (k := 1) (FieldOff.mk (by kernel_rfl)) rfl rfl (by exact Nat.zero_add _)) ?_
  refine WO.op rfl rfl rfl rfl (step_load Try.isAgg3 rfl rfl rfl) ?_
  refine WO.op rfl rfl rfl rfl (step_pure Try.call33 rfl (by (repeat (first | exact Nl.nil | refine Nl.keep (by rfl) ?_))) (w_within) (by repeat (rfl))) ?_
  refine WO.op rfl rfl rfl rfl (step_not rfl) ?_
  refine WO.op rfl rfl rfl rfl (pk_f rfl rfl rfl) ?_
  refine WO.op rfl rfl rfl rfl (mv_sc rfl) ?_
  refine WO.spl 25 rfl (fun h1 => ?_) (fun h1 => ?_)
  · try simp only [decide_eq_true_eq, decide_eq_false_iff_not, Bool.not_eq_true', Bool.not_eq_false', beq_iff_eq, bne_iff_ne, beq_eq_false_iff_ne, bne_eq_false_iff_eq, gt_iff_lt, ge_iff_le, Int.not_lt, Int.not_le] at h1
    iterate 7 (refine WO.sk rfl rfl rfl rfl ?_; refine WO.sk rfl rfl rfl rfl ?_; refine WO.sk rfl rfl rfl rfl ?_; refine WO.sk rfl rfl rfl rfl ?_; refine WO.op rfl rfl rfl rfl (pk_t rfl rfl rfl) ?_; refine WO.op rfl rfl rfl rfl (mv_sc rfl) ?_)
    iterate 5 (refine WO.sk rfl rfl rfl rfl ?_)
    refine WO.op rfl rfl rfl rfl (pk_t rfl rfl rfl) ?_
    refine WO.op rfl rfl rfl rfl (mv_sc rfl) ?_
    iterate 6 (refine WO.sk rfl rfl rfl rfl ?_)
    refine WO.op rfl rfl rfl rfl (pk_t rfl rfl rfl) ?_
    refine WO.nil ?_
    refine W.condT rfl ?_
    refine W.seq ?_
    refine W.to [(0, _), (1, _), (2, _), (3, _), (4, _), (5, _), (81, _)] [_, _] rfl ⟨(by exact sh_agg rfl), (by exact sh_ptr rfl), (by exact sh_sc rfl), (by exact sh_ptr rfl), (by exact sh_sc rfl), (by exact sh_sc rfl), (by exact sh_sc rfl), trivial⟩ ?_
    refine W.region ?_
    refine WO.op rfl rfl rfl rfl (as_sc rfl) ?_
    refine WO.nil ?_
    refine W.ret ?_
    refine ⟨.inl rfl, ?_⟩
    exact ret0 (Res.tmp rfl Res.nil) (.keep rfl)
  · try simp only [decide_eq_true_eq, decide_eq_false_iff_not, Bool.not_eq_true', Bool.not_eq_false', beq_iff_eq, bne_iff_ne, beq_eq_false_iff_ne, bne_eq_false_iff_eq, gt_iff_lt, ge_iff_le, Int.not_lt, Int.not_le] at h1
    refine WO.op rfl rfl rfl rfl (step_fieldR (k := 2) (FieldOff.mk (by kernel_rfl)) rfl rfl (by exact Nat.zero_add _)) ?_
    refine WO.op rfl rfl rfl rfl (step_load Try.isAgg3 rfl rfl rfl) ?_
    refine WO.op rfl rfl rfl rfl (step_pure Try.call33 rfl (by (repeat (first | exact Nl.nil | refine Nl.keep (by rfl) ?_))) (w_within) (by repeat (rfl))) ?_
    refine WO.op rfl rfl rfl rfl (step_not rfl) ?_
    refine WO.op rfl rfl rfl rfl (pk_f rfl rfl rfl) ?_
    refine WO.op rfl rfl rfl rfl (mv_sc rfl) ?_
    refine WO.spl 31 rfl (fun h2 => ?_) (fun h2 => ?_)
    · try simp only [decide_eq_true_eq, decide_eq_false_iff_not, Bool.not_eq_true', Bool.not_eq_false', beq_iff_eq, bne_iff_ne, beq_eq_false_iff_ne, bne_eq_false_iff_eq, gt_iff_lt, ge_iff_le, Int.not_lt, Int.not_le] at h2
      iterate 6 (refine WO.sk rfl rfl rfl rfl ?_; refine WO.sk rfl rfl rfl rfl ?_; refine WO.sk rfl rfl rfl rfl ?_; refine WO.sk rfl rfl rfl rfl ?_; refine WO.op rfl rfl rfl rfl (pk_t rfl rfl rfl) ?_; refine WO.op rfl rfl rfl rfl (mv_sc rfl) ?_)
      iterate 5 (refine WO.sk rfl rfl rfl rfl ?_)
      refine WO.op rfl rfl rfl rfl (pk_t rfl rfl rfl) ?_
      refine WO.op rfl rfl rfl rfl (mv_sc rfl) ?_
      iterate 6 (refine WO.sk rfl rfl rfl rfl ?_)
      refine WO.op rfl rfl rfl rfl (pk_t rfl rfl rfl) ?_
      refine WO.nil ?_
      refine W.condT rfl ?_
      refine W.seq ?_
      refine W.to [(0, _), (1, _), (2, _), (3, _), (4, _), (5, _), (81, _)] [_, _] rfl ⟨(by exact sh_agg rfl), (by exact sh_ptr rfl), (by exact sh_sc rfl), (by exact sh_ptr rfl), (by exact sh_sc rfl), (by exact sh_sc rfl), (by exact sh_sc rfl), trivial⟩ ?_
      refine W.region ?_
      refine WO.op rfl rfl rfl rfl (as_sc rfl) ?_
      refine WO.nil ?_
      refine W.ret ?_
      refine ⟨.inl rfl, ?_⟩
      exact ret0 (Res.tmp rfl Res.nil) (.keep rfl)
    · try simp only [decide_eq_true_eq, decide_eq_false_iff_not, Bool.not_eq_true', Bool.not_eq_false', beq_iff_eq, bne_iff_ne, beq_eq_false_iff_ne, bne_eq_false_iff_eq, gt_iff_lt, ge_iff_le, Int.not_lt, Int.not_le] at h2
      refine WO.op rfl rfl rfl rfl (step_fieldR (k := 4) (FieldOff.mk (by kernel_rfl)) rfl rfl (by exact Nat.zero_add _)) ?_
      refine WO.op rfl rfl rfl rfl (step_load Try.isAgg3 rfl rfl rfl) ?_
      refine WO.op rfl rfl rfl rfl (step_pure Try.call33 rfl (by (repeat (first | exact Nl.nil | refine Nl.keep (by rfl) ?_))) (w_within) (by repeat (rfl))) ?_
      refine WO.op rfl rfl rfl rfl (step_not rfl) ?_
      refine WO.op rfl rfl rfl rfl (pk_f rfl rfl rfl) ?_
      refine WO.op rfl rfl rfl rfl (mv_sc rfl) ?_
      refine WO.spl 37 rfl (fun h3 => ?_) (fun h3 => ?_)
      · try simp only [decide_eq_true_eq, decide_eq_false_iff_not, Bool.not_eq_true', Bool.not_eq_false', beq_iff_eq, bne_iff_ne, beq_eq_false_iff_ne, bne_eq_false_iff_eq, gt_iff_lt, ge_iff_le, Int.not_lt, Int.not_le] at h3
        iterate 5 (refine WO.sk rfl rfl rfl rfl ?_; refine WO.sk rfl rfl rfl rfl ?_; refine WO.sk rfl rfl rfl rfl ?_; refine WO.sk rfl rfl rfl rfl ?_; refine WO.op rfl rfl rfl rfl (pk_t rfl rfl rfl) ?_; refine WO.op rfl rfl rfl rfl (mv_sc rfl) ?_)
        iterate 5 (refine WO.sk rfl rfl rfl rfl ?_)
        refine WO.op rfl rfl rfl rfl (pk_t rfl rfl rfl) ?_
        refine WO.op rfl rfl rfl rfl (mv_sc rfl) ?_
        iterate 6 (refine WO.sk rfl rfl rfl rfl ?_)
        refine WO.op rfl rfl rfl rfl (pk_t rfl rfl rfl) ?_
        refine WO.nil ?_
        refine W.condT rfl ?_
        refine W.seq ?_
        refine W.to [(0, _), (1, _), (2, _), (3, _), (4, _), (5, _), (81, _)] [_, _] rfl ⟨(by exact sh_agg rfl), (by exact sh_ptr rfl), (by exact sh_sc rfl), (by exact sh_ptr rfl), (by exact sh_sc rfl), (by exact sh_sc rfl), (by exact sh_sc rfl), trivial⟩ ?_
        refine W.region ?_
        refine WO.op rfl rfl rfl rfl (as_sc rfl) ?_
        refine WO.nil ?_
        refine W.ret ?_
        refine ⟨.inl rfl, ?_⟩
        exact ret0 (Res.tmp rfl Res.nil) (.keep rfl)
      · try simp only [decide_eq_true_eq, decide_eq_false_iff_not, Bool.not_eq_true', Bool.not_eq_false', beq_iff_eq, bne_iff_ne, beq_eq_false_iff_ne, bne_eq_false_iff_eq, gt_iff_lt, ge_iff_le, Int.not_lt, Int.not_le] at h3
        refine WO.op rfl rfl rfl rfl (step_fieldR (k := 5) (FieldOff.mk (by kernel_rfl)) rfl rfl (by exact Nat.zero_add _)) ?_
        refine WO.op rfl rfl rfl rfl (step_load Try.isAgg3 rfl rfl rfl) ?_
        refine WO.op rfl rfl rfl rfl (step_pure Try.call33 rfl (by (repeat (first | exact Nl.nil | refine Nl.keep (by rfl) ?_))) (w_within) (by repeat (rfl))) ?_
        refine WO.op rfl rfl rfl rfl (step_not rfl) ?_
        refine WO.op rfl rfl rfl rfl (pk_f rfl rfl rfl) ?_
        refine WO.op rfl rfl rfl rfl (mv_sc rfl) ?_
        refine WO.spl 43 rfl (fun h4 => ?_) (fun h4 => ?_)
        · try simp only [decide_eq_true_eq, decide_eq_false_iff_not, Bool.not_eq_true', Bool.not_eq_false', beq_iff_eq, bne_iff_ne, beq_eq_false_iff_ne, bne_eq_false_iff_eq, gt_iff_lt, ge_iff_le, Int.not_lt, Int.not_le] at h4
          iterate 4 (refine WO.sk rfl rfl rfl rfl ?_; refine WO.sk rfl rfl rfl rfl ?_; refine WO.sk rfl rfl rfl rfl ?_; refine WO.sk rfl rfl rfl rfl ?_; refine WO.op rfl rfl rfl rfl (pk_t rfl rfl rfl) ?_; refine WO.op rfl rfl rfl rfl (mv_sc rfl) ?_)
          iterate 5 (refine WO.sk rfl rfl rfl rfl ?_)
          refine WO.op rfl rfl rfl rfl (pk_t rfl rfl rfl) ?_
          refine WO.op rfl rfl rfl rfl (mv_sc rfl) ?_
          iterate 6 (refine WO.sk rfl rfl rfl rfl ?_)
          refine WO.op rfl rfl rfl rfl (pk_t rfl rfl rfl) ?_
          refine WO.nil ?_
          refine W.condT rfl ?_
          refine W.seq ?_
          refine W.to [(0, _), (1, _), (2, _), (3, _), (4, _), (5, _), (81, _)] [_, _] rfl ⟨(by exact sh_agg rfl), (by exact sh_ptr rfl), (by exact sh_sc rfl), (by exact sh_ptr rfl), (by exact sh_sc rfl), (by exact sh_sc rfl), (by exact sh_sc rfl), trivial⟩ ?_
          refine W.region ?_
          refine WO.op rfl rfl rfl rfl (as_sc rfl) ?_
          refine WO.nil ?_
          refine W.ret ?_
          refine ⟨.inl rfl, ?_⟩
          exact ret0 (Res.tmp rfl Res.nil) (.keep rfl)
        · try simp only [decide_eq_true_eq, decide_eq_false_iff_not, Bool.not_eq_true', Bool.not_eq_false', beq_iff_eq, bne_iff_ne, beq_eq_false_iff_ne, bne_eq_false_iff_eq, gt_iff_lt, ge_iff_le, Int.not_lt, Int.not_le] at h4
          refine WO.op rfl rfl rfl rfl (step_fieldR (k := 10) (FieldOff.mk (by kernel_rfl)) rfl rfl (by exact Nat.zero_add _)) ?_
          refine WO.op rfl rfl rfl rfl (step_load Try.isAgg3 rfl rfl rfl) ?_
          refine WO.op rfl rfl rfl rfl (step_pure Try.call33 rfl (by (repeat (first | exact Nl.nil | refine Nl.keep (by rfl) ?_))) (w_within) (by repeat (rfl))) ?_
          refine WO.op rfl rfl rfl rfl (step_not rfl) ?_
          refine WO.op rfl rfl rfl rfl (pk_f rfl rfl rfl) ?_
          refine WO.op rfl rfl rfl rfl (mv_sc rfl) ?_
          refine WO.spl 49 rfl (fun h5 => ?_) (fun h5 => ?_)
          · try simp only [decide_eq_true_eq, decide_eq_false_iff_not, Bool.not_eq_true', Bool.not_eq_false', beq_iff_eq, bne_iff_ne, beq_eq_false_iff_ne, bne_eq_false_iff_eq, gt_iff_lt, ge_iff_le, Int.not_lt, Int.not_le] at h5
            iterate 3 (refine WO.sk rfl rfl rfl rfl ?_; refine WO.sk rfl rfl rfl rfl ?_; refine WO.sk rfl rfl rfl rfl ?_; refine WO.sk rfl rfl rfl rfl ?_; refine WO.op rfl rfl rfl rfl (pk_t rfl rfl rfl) ?_; refine WO.op rfl rfl rfl rfl (mv_sc rfl) ?_)
            iterate 5 (refine WO.sk rfl rfl rfl rfl ?_)
            refine WO.op rfl rfl rfl rfl (pk_t rfl rfl rfl) ?_
            refine WO.op rfl rfl rfl rfl (mv_sc rfl) ?_
            iterate 6 (refine WO.sk rfl rfl rfl rfl ?_)
            refine WO.op rfl rfl rfl rfl (pk_t rfl rfl rfl) ?_
            refine WO.nil ?_
            refine W.condT rfl ?_
            refine W.seq ?_
            refine W.to [(0, _), (1, _), (2, _), (3, _), (4, _), (5, _), (81, _)] [_, _] rfl ⟨(by exact sh_agg rfl), (by exact sh_ptr rfl), (by exact sh_sc rfl), (by exact sh_ptr rfl), (by exact sh_sc rfl), (by exact sh_sc rfl), (by exact sh_sc rfl), trivial⟩ ?_
            refine W.region ?_
            refine WO.op rfl rfl rfl rfl (as_sc rfl) ?_
            refine WO.nil ?_
            refine W.ret ?_
            refine ⟨.inl rfl, ?_⟩
            exact ret0 (Res.tmp rfl Res.nil) (.keep rfl)
          · try simp only [decide_eq_true_eq, decide_eq_false_iff_not, Bool.not_eq_true', Bool.not_eq_false', beq_iff_eq, bne_iff_ne, beq_eq_false_iff_ne, bne_eq_false_iff_eq, gt_iff_lt, ge_iff_le, Int.not_lt, Int.not_le] at h5
            refine WO.op rfl rfl rfl rfl (step_fieldR (k := 11) (FieldOff.mk (by kernel_rfl)) rfl rfl (by exact Nat.zero_add _)) ?_
            refine WO.op rfl rfl rfl rfl (step_load Try.isAgg3 rfl rfl rfl) ?_
            refine WO.op rfl rfl rfl rfl (step_pure Try.call33 rfl (by (repeat (first | exact Nl.nil | refine Nl.keep (by rfl) ?_))) (w_within) (by repeat (rfl))) ?_
            refine WO.op rfl rfl rfl rfl (step_not rfl) ?_
            refine WO.op rfl rfl rfl rfl (pk_f rfl rfl rfl) ?_
            refine WO.op rfl rfl rfl rfl (mv_sc rfl) ?_
            refine WO.spl 55 rfl (fun h6 => ?_) (fun h6 => ?_)
            · try simp only [decide_eq_true_eq, decide_eq_false_iff_not, Bool.not_eq_true', Bool.not_eq_false', beq_iff_eq, bne_iff_ne, beq_eq_false_iff_ne, bne_eq_false_iff_eq, gt_iff_lt, ge_iff_le, Int.not_lt, Int.not_le] at h6
              iterate 2 (refine WO.sk rfl rfl rfl rfl ?_; refine WO.sk rfl rfl rfl rfl ?_; refine WO.sk rfl rfl rfl rfl ?_; refine WO.sk rfl rfl rfl rfl ?_; refine WO.op rfl rfl rfl rfl (pk_t rfl rfl rfl) ?_; refine WO.op rfl rfl rfl rfl (mv_sc rfl) ?_)
              iterate 5 (refine WO.sk rfl rfl rfl rfl ?_)
              refine WO.op rfl rfl rfl rfl (pk_t rfl rfl rfl) ?_
              refine WO.op rfl rfl rfl rfl (mv_sc rfl) ?_
              iterate 6 (refine WO.sk rfl rfl rfl rfl ?_)
              refine WO.op rfl rfl rfl rfl (pk_t rfl rfl rfl) ?_
              refine WO.nil ?_
              refine W.condT rfl ?_
              refine W.seq ?_
              refine W.to [(0, _), (1, _), (2, _), (3, _), (4, _), (5, _), (81, _)] [_, _] rfl ⟨(by exact sh_agg rfl), (by exact sh_ptr rfl), (by exact sh_sc rfl), (by exact sh_ptr rfl), (by exact sh_sc rfl), (by exact sh_sc rfl), (by exact sh_sc rfl), trivial⟩ ?_
              refine W.region ?_
              refine WO.op rfl rfl rfl rfl (as_sc rfl) ?_
              refine WO.nil ?_
              refine W.ret ?_
              refine ⟨.inl rfl, ?_⟩
              exact ret0 (Res.tmp rfl Res.nil) (.keep rfl)
            · try simp only [decide_eq_true_eq, decide_eq_false_iff_not, Bool.not_eq_true', Bool.not_eq_false', beq_iff_eq, bne_iff_ne, beq_eq_false_iff_ne, bne_eq_false_iff_eq, gt_iff_lt, ge_iff_le, Int.not_lt, Int.not_le] at h6
              refine WO.op rfl rfl rfl rfl (step_fieldR (k := 9) (FieldOff.mk (by kernel_rfl)) rfl rfl (by exact Nat.zero_add _)) ?_
              refine WO.op rfl rfl rfl rfl (step_load Try.isAgg3 rfl rfl rfl) ?_
              refine WO.op rfl rfl rfl rfl (step_pure Try.call33 rfl (by (repeat (first | exact Nl.nil | refine Nl.keep (by rfl) ?_))) (w_within) (by repeat (rfl))) ?_
              refine WO.op rfl rfl rfl rfl (step_not rfl) ?_
              refine WO.op rfl rfl rfl rfl (pk_f rfl rfl rfl) ?_
              refine WO.op rfl rfl rfl rfl (mv_sc rfl) ?_
              refine WO.spl 61 rfl (fun h7 => ?_) (fun h7 => ?_)
              · try simp only [decide_eq_true_eq, decide_eq_false_iff_not, Bool.not_eq_true', Bool.not_eq_false', beq_iff_eq, bne_iff_ne, beq_eq_false_iff_ne, bne_eq_false_iff_eq, gt_iff_lt, ge_iff_le, Int.not_lt, Int.not_le] at h7
                iterate 2 (refine WO.sk rfl rfl rfl rfl ?_; refine WO.sk rfl rfl rfl rfl ?_; refine WO.sk rfl rfl rfl rfl ?_; refine WO.sk rfl rfl rfl rfl ?_; refine WO.op rfl rfl rfl rfl (pk_t rfl rfl rfl) ?_; refine WO.op rfl rfl rfl rfl (mv_sc rfl) ?_; refine WO.sk rfl rfl rfl rfl ?_)
                iterate 5 (refine WO.sk rfl rfl rfl rfl ?_)
                refine WO.op rfl rfl rfl rfl (pk_t rfl rfl rfl) ?_
                refine WO.nil ?_
                refine W.condT rfl ?_
                refine W.seq ?_
                refine W.to [(0, _), (1, _), (2, _), (3, _), (4, _), (5, _), (81, _)] [_, _] rfl ⟨(by exact sh_agg rfl), (by exact sh_ptr rfl), (by exact sh_sc rfl), (by exact sh_ptr rfl), (by exact sh_sc rfl), (by exact sh_sc rfl), (by exact sh_sc rfl), trivial⟩ ?_
                refine W.region ?_
                refine WO.op rfl rfl rfl rfl (as_sc rfl) ?_
                refine WO.nil ?_
                refine W.ret ?_
                refine ⟨.inl rfl, ?_⟩
                exact ret0 (Res.tmp rfl Res.nil) (.keep rfl)
              · try simp only [decide_eq_true_eq, decide_eq_false_iff_not, Bool.not_eq_true', Bool.not_eq_false', beq_iff_eq, bne_iff_ne, beq_eq_false_iff_ne, bne_eq_false_iff_eq, gt_iff_lt, ge_iff_le, Int.not_lt, Int.not_le] at h7
                refine WO.op rfl rfl rfl rfl (step_fieldR (k := 12) (FieldOff.mk (by kernel_rfl)) rfl rfl (by exact Nat.zero_add _)) ?_
                refine WO.op rfl rfl rfl rfl (step_load Try.isAgg9 rfl rfl rfl) ?_
                refine WO.op rfl rfl rfl rfl (step_lenS Try.runUnderlying9 rfl) ?_
                refine WO.op rfl rfl rfl rfl (step_int2 rfl rfl rfl) ?_
                refine WO.put 65 (.sc (.bool false)) (by kernel_rfl) ?_
                refine WO.op rfl rfl rfl rfl (pk_f rfl rfl rfl) ?_
                refine WO.op rfl rfl rfl rfl (mv_sc rfl) ?_
                refine WO.op rfl rfl rfl rfl (step_fieldR (k := 12) (FieldOff.mk (by kernel_rfl)) rfl rfl (by exact Nat.zero_add _)) ?_
                refine WO.op rfl rfl rfl rfl (step_load Try.isAgg9 rfl rfl rfl) ?_
                refine WO.op rfl rfl rfl rfl (step_lenS Try.runUnderlying9 rfl) ?_
                refine WO.op rfl rfl rfl rfl (step_remN (q := 4) rfl rfl (by omega)) ?_
                refine WO.op rfl rfl rfl rfl (step_int2 rfl rfl rfl) ?_
                refine WO.put 72 (.sc (.bool false)) (by kernel_rfl) ?_
                refine WO.op rfl rfl rfl rfl (pk_f rfl rfl rfl) ?_
                refine WO.op rfl rfl rfl rfl (mv_sc rfl) ?_
                refine WO.op rfl rfl rfl rfl (step_fieldR (k := 13) (FieldOff.mk (by kernel_rfl)) rfl rfl (by exact Nat.zero_add _)) ?_
                refine WO.op rfl rfl rfl rfl (step_load Try.isAgg9 rfl rfl rfl) ?_
                refine WO.op rfl rfl rfl rfl (step_lenS Try.runUnderlying9 rfl) ?_
                refine WO.op rfl rfl rfl rfl (mv_sc rfl) ?_
                refine WO.op rfl rfl rfl rfl (step_subN (p := 65515) rfl rfl (by (simp only [List.length_map, List.length_append, List.length_take, List.length_drop, List.length_set, List.length_cons, List.length_nil, List.length_replicate] <;> omega)) (by (simp only [cap]; omega))) ?_
                refine WO.op rfl rfl rfl rfl (step_int2 rfl rfl rfl) ?_
                refine WO.op rfl rfl rfl rfl (pk_f rfl rfl rfl) ?_
                refine WO.nil ?_
                refine W.cond rfl (fun h8 => ?_) (fun h8 => ?_)
                · try simp only [decide_eq_true_eq, decide_eq_false_iff_not, Bool.not_eq_true', Bool.not_eq_false', beq_iff_eq, bne_iff_ne, beq_eq_false_iff_ne, bne_eq_false_iff_eq, gt_iff_lt, ge_iff_le, Int.not_lt, Int.not_le] at h8
                  refine W.seq ?_
                  refine W.to [(0, _), (1, _), (2, _), (3, _), (4, _), (5, _), (81, _)] [_, _] rfl ⟨(by exact sh_agg rfl), (by exact sh_ptr rfl), (by exact sh_sc rfl), (by exact sh_ptr rfl), (by exact sh_sc rfl), (by exact sh_sc rfl), (by exact sh_sc rfl), trivial⟩ ?_
                  refine W.region ?_
                  refine WO.op rfl rfl rfl rfl (as_sc rfl) ?_
                  refine WO.nil ?_
                  refine W.ret ?_
                  refine ⟨.inl rfl, ?_⟩
                  exact ret0 (Res.tmp rfl Res.nil) (.keep rfl)
                · try simp only [decide_eq_true_eq, decide_eq_false_iff_not, Bool.not_eq_true', Bool.not_eq_false', beq_iff_eq, bne_iff_ne, beq_eq_false_iff_ne, bne_eq_false_iff_eq, gt_iff_lt, ge_iff_le, Int.not_lt, Int.not_le] at h8
                  exact False.elim (h ⟨by omega, by omega, by omega⟩)

theorem w_ChkN2 {a1 : Int} {a2 : Int} {a3 : Int} {a4 : Int} {a5 : Int} {a6 : Bool} {a7 : Int} {a8 : Int} {a9 : Int} {a10 : Int} {a11 : Int} {a12 : ByteArray} {a13 : ByteArray} (g1 : isI a1) (g2 : isI a2) (g3 : isU a3) (g4 : isI a4) (g5 : isI a5) (g7 : isU a7) (g8 : isU a8) (g9 : isI a9) (g10 : isI a10) (g11 : isI a11) (g12 : a12.size ≤ 200000000000000) (g13 : a13.size ≤ 200000000000000) (hne : ¬ (2 = (2 : Int) ∧ a1 = 0 ∧ a2 = 0 ∧ a3 = 0 ∧ a4 = a4 ∧ a5 = a5 ∧ a6 = a6 ∧ a7 = 0 ∧ a8 = 0 ∧ a9 = 0 ∧ a10 = 0 ∧ a11 = 0 ∧ a12.data.toList = (⟨#[]⟩ : ByteArray).data.toList ∧ a13.data.toList = (a13 : ByteArray).data.toList)) : Spec0 Try.prog 13 [.agg [.sc (.int .i64 2), .sc (.int .i64 a1), .sc (.int .i64 a2), .sc (.int .u32 a3), .sc (.int .i64 a4), .sc (.int .i64 a5), .sc (.bool a6), .sc (.int .u32 a7), .sc (.int .u32 a8), .sc (.int .i64 a9), .sc (.int .i64 a10), .sc (.int .i64 a11), .sc (.string a12), .sc (.string a13)]] (.sc (.int .i64 1)) := by
  refine Spec.body Try.func13 rfl (Nat.le_of_ble_eq_true rfl) ?_
  refine W.seq ?_
  refine W.region ?_
  refine WO.opA rfl rfl rfl rfl (al_boxA rfl rfl) rfl rfl ?_
  refine WO.put 1 (.ptr 0 0) rfl ?_
  refine WO.op rfl rfl rfl rfl (as_sc rfl) ?_
  refine WO.nil ?_
  refine W.seq ?_
  refine W.to [(0, _), (1, _), (2, _)] [_] rfl ⟨(by exact sh_agg rfl), (by exact sh_ptr rfl), (by exact sh_sc rfl), trivial⟩ ?_
  refine W.region ?_
  refine WO.op rfl rfl rfl rfl (step_loadA Try.isAgg25 Try.sizeOf25 rfl rfl (by exact Nat.le_refl _)) ?_
  refine WO.op rfl rfl rfl rfl (step_pure Try.call26 rfl (by (repeat (first | exact Nl.nil | refine Nl.keep (by rfl) ?_))) (w_ownG2) (by repeat (first | with_reducible refine noOwn_tup ?_ | with_reducible refine noOwn_agg ?_ | with_reducible exact noOwnL_nil | with_reducible refine noOwnL_cons ?_ ?_ | rfl))) ?_
  refine WO.op rfl rfl rfl rfl (mv_tup rfl) ?_
  refine WO.op rfl rfl rfl rfl (step_extract rfl rfl) ?_
  refine WO.put 9 (.agg [.sc (.int .i64 2), .sc (.int .i64 0), .sc (.int .i64 0), .sc (.int .u32 0), .sc (.int .i64 a4), .sc (.int .i64 a5), .sc (.bool a6), .sc (.int .u32 0), .sc (.int .u32 0), .sc (.int .i64 0), .sc (.int .i64 0), .sc (.int .i64 0), .sc (.string ⟨#[]⟩), .sc (.string a13)]) (by kernel_rfl) ?_
  iterate 2 (refine WO.op rfl rfl rfl rfl (step_extract rfl rfl) ?_)
  refine WO.opA rfl rfl rfl rfl (al_alloc Try.zeroValue25) rfl rfl ?_
  refine WO.put 3 (.ptr 1 0) rfl ?_
  refine WO.op0 rfl rfl rfl (step_storeA Try.sizeOf25 rfl rfl rfl (by repeat (exact all_cell rfl rfl)) rfl rfl) ?_
  iterate 2 (refine WO.op rfl rfl rfl rfl (as_sc rfl) ?_)
  refine WO.nil ?_
  refine W.seq ?_
  refine W.seq ?_
  refine W.to [(0, _), (1, _), (2, _), (3, _), (4, _), (5, _)] [_, _] rfl ⟨(by exact sh_agg rfl), (by exact sh_ptr rfl), (by exact sh_sc rfl), (by exact sh_ptr rfl), (by exact sh_sc rfl), (by exact sh_sc rfl), trivial⟩ ?_
  refine W.region ?_
  refine WO.op rfl rfl rfl rfl (mv_sc rfl) ?_
  refine WO.op rfl rfl rfl rfl (step_not rfl) ?_
  refine WO.put 13 (.sc (.bool false)) (by kernel_rfl) ?_
  refine WO.op rfl rfl rfl rfl (mv_sc rfl) ?_
  refine WO.op rfl rfl rfl rfl (step_loadA Try.isAgg25 Try.sizeOf25 rfl rfl (by exact Nat.le_refl _)) ?_
  refine WO.put 15 (.agg [.sc (.int .i64 2), .sc (.int .i64 a1), .sc (.int .i64 a2), .sc (.int .u32 a3), .sc (.int .i64 a4), .sc (.int .i64 a5), .sc (.bool a6), .sc (.int .u32 a7), .sc (.int .u32 a8), .sc (.int .i64 a9), .sc (.int .i64 a10), .sc (.int .i64 a11), .sc (.string a12), .sc (.string a13)]) (by kernel_rfl) ?_
  refine WO.op rfl rfl rfl rfl (step_loadA Try.isAgg25 Try.sizeOf25 rfl rfl (by exact Nat.le_refl _)) ?_
  refine WO.put 16 (.agg [.sc (.int .i64 2), .sc (.int .i64 0), .sc (.int .i64 0), .sc (.int .u32 0), .sc (.int .i64 a4), .sc (.int .i64 a5), .sc (.bool a6), .sc (.int .u32 0), .sc (.int .u32 0), .sc (.int .i64 0), .sc (.int .i64 0), .sc (.int .i64 0), .sc (.string ⟨#[]⟩), .sc (.string a13)]) (by kernel_rfl) ?_
  refine WO.op rfl rfl rfl rfl (ne2_L4 (a0 := 2) (a1 := a1) (a2 := a2) (a3 := a3) (a4 := a4) (a5 := a5) (a6 := a6) (a7 := a7) (a8 := a8) (a9 := a9) (a10 := a10) (a11 := a11) (a12 := a12) (a13 := a13) (b0 := 2) (b1 := 0) (b2 := 0) (b3 := 0) (b4 := a4) (b5 := a5) (b6 := a6) (b7 := 0) (b8 := 0) (b9 := 0) (b10 := 0) (b11 := 0) (b12 := ⟨#[]⟩) (b13 := a13) (by (constructor <;> decide)) (by assumption) (by assumption) (by assumption) (by assumption) (by assumption) (by assumption) (by assumption) (by assumption) (by assumption) (by assumption) (by assumption) (by assumption) (by (constructor <;> decide)) (by (constructor <;> decide)) (by (constructor <;> decide)) (by (constructor <;> decide)) (by assumption) (by assumption) (by (constructor <;> decide)) (by (constructor <;> decide)) (by (constructor <;> decide)) (by (constructor <;> decide)) (by (constructor <;> decide)) (by decide) (by assumption) hne rfl rfl) ?_
  refine WO.put 17 (.sc (.bool true)) (rfl) ?_
  refine WO.op rfl rfl rfl rfl (pk_f rfl rfl rfl) ?_
  iterate 8 (refine WO.op rfl rfl rfl rfl (mv_sc rfl) ?_; refine WO.sk rfl rfl rfl rfl ?_; refine WO.sk rfl rfl rfl rfl ?_; refine WO.sk rfl rfl rfl rfl ?_; refine WO.sk rfl rfl rfl rfl ?_; refine WO.op rfl rfl rfl rfl (pk_t rfl rfl rfl) ?_)
  refine WO.op rfl rfl rfl rfl (mv_sc rfl) ?_
  iterate 5 (refine WO.sk rfl rfl rfl rfl ?_)
  refine WO.op rfl rfl rfl rfl (pk_t rfl rfl rfl) ?_
  refine WO.op rfl rfl rfl rfl (mv_sc rfl) ?_
  iterate 6 (refine WO.sk rfl rfl rfl rfl ?_)
  refine WO.op rfl rfl rfl rfl (pk_t rfl rfl rfl) ?_
  refine WO.nil ?_
  refine W.condT rfl ?_
  refine W.seq ?_
  refine W.to [(0, _), (1, _), (2, _), (3, _), (4, _), (5, _), (81, _)] [_, _] rfl ⟨(by exact sh_agg rfl), (by exact sh_ptr rfl), (by exact sh_sc rfl), (by exact sh_ptr rfl), (by exact sh_sc rfl), (by exact sh_sc rfl), (by exact sh_sc rfl), trivial⟩ ?_
  refine W.region ?_
  refine WO.op rfl rfl rfl rfl (as_sc rfl) ?_
  refine WO.nil ?_
  refine W.ret ?_
  refine ⟨.inl rfl, ?_⟩
  exact ret0 (Res.tmp rfl Res.nil) (.keep rfl)

theorem w_ChkR2 {a4 : Int} {a5 : Int} {a6 : Bool} {a13 : ByteArray} (g4 : isI a4) (g5 : isI a5) (g13 : a13.size ≤ 200000000000000) (h : ¬ ((0 ≤ a4 ∧ a4 ≤ 65535) ∧ (0 ≤ a5 ∧ a5 ≤ 65535) ∧ (a13.size ≤ 65507))) : Spec0 Try.prog 13 [.agg [.sc (.int .i64 2), .sc (.int .i64 0), .sc (.int .i64 0), .sc (.int .u32 0), .sc (.int .i64 a4), .sc (.int .i64 a5), .sc (.bool a6), .sc (.int .u32 0), .sc (.int .u32 0), .sc (.int .i64 0), .sc (.int .i64 0), .sc (.int .i64 0), .sc (.string ⟨#[]⟩), .sc (.string a13)]] (.sc (.int .i64 1)) := by
  refine Spec.body Try.func13 rfl (Nat.le_of_ble_eq_true rfl) ?_
  simp only [isI, isU] at *
  refine W.seq ?_
  refine W.region ?_
  refine WO.opA rfl rfl rfl rfl (al_boxA rfl rfl) rfl rfl ?_
  refine WO.put 1 (.ptr 0 0) rfl ?_
  refine WO.op rfl rfl rfl rfl (as_sc rfl) ?_
  refine WO.nil ?_
  refine W.seq ?_
  refine W.to [(0, _), (1, _), (2, _)] [_] rfl ⟨(by exact sh_agg rfl), (by exact sh_ptr rfl), (by exact sh_sc rfl), trivial⟩ ?_
  refine W.region ?_
  refine WO.op rfl rfl rfl rfl (step_loadA Try.isAgg25 Try.sizeOf25 rfl rfl (by exact Nat.le_refl _)) ?_
  refine WO.op rfl rfl rfl rfl (step_pure Try.call26 rfl (by (repeat (first | exact Nl.nil | refine Nl.keep (by rfl) ?_))) (w_ownG2) (by repeat (first | with_reducible refine noOwn_tup ?_ | with_reducible refine noOwn_agg ?_ | with_reducible exact noOwnL_nil | with_reducible refine noOwnL_cons ?_ ?_ | rfl))) ?_
  refine WO.op rfl rfl rfl rfl (mv_tup rfl) ?_
  refine WO.op rfl rfl rfl rfl (step_extract rfl rfl) ?_
  refine WO.put 9 (.agg [.sc (.int .i64 2), .sc (.int .i64 0), .sc (.int .i64 0), .sc (.int .u32 0), .sc (.int .i64 a4), .sc (.int .i64 a5), .sc (.bool a6), .sc (.int .u32 0), .sc (.int .u32 0), .sc (.int .i64 0), .sc (.int .i64 0), .sc (.int .i64 0), .sc (.string ⟨#[]⟩), .sc (.string a13)]) (by kernel_rfl) ?_
  iterate 2 (refine WO.op rfl rfl rfl rfl (step_extract rfl rfl) ?_)
  refine WO.opA rfl rfl rfl rfl (al_alloc Try.zeroValue25) rfl rfl ?_
  refine WO.put 3 (.ptr 1 0) rfl ?_
  refine WO.op0 rfl rfl rfl (step_storeA Try.sizeOf25 rfl rfl rfl (by repeat (exact all_cell rfl rfl)) rfl rfl) ?_
  iterate 2 (refine WO.op rfl rfl rfl rfl (as_sc rfl) ?_)
  refine WO.nil ?_
  refine W.seq ?_
  refine W.seq ?_
  refine W.to [(0, _), (1, _), (2, _), (3, _), (4, _), (5, _)] [_, _] rfl ⟨(by exact sh_agg rfl), (by exact sh_ptr rfl), (by exact sh_sc rfl), (by exact sh_ptr rfl), (by exact sh_sc rfl), (by exact sh_sc rfl), trivial⟩ ?_
  refine W.region ?_
  refine WO.op rfl rfl rfl rfl (mv_sc rfl) ?_
  refine WO.op rfl rfl rfl rfl (step_not rfl) ?_
  refine WO.put 13 (.sc (.bool false)) (by kernel_rfl) ?_
  refine WO.op rfl rfl rfl rfl (mv_sc rfl) ?_
  refine WO.op rfl rfl rfl rfl (step_loadA Try.isAgg25 Try.sizeOf25 rfl rfl (by exact Nat.le_refl _)) ?_
  refine WO.put 15 (.agg [.sc (.int .i64 2), .sc (.int .i64 0), .sc (.int .i64 0), .sc (.int .u32 0), .sc (.int .i64 a4), .sc (.int .i64 a5), .sc (.bool a6), .sc (.int .u32 0), .sc (.int .u32 0), .sc (.int .i64 0), .sc (.int .i64 0), .sc (.int .i64 0), .sc (.string ⟨#[]⟩), .sc (.string a13)]) (by kernel_rfl) ?_
  refine WO.op rfl rfl rfl rfl (step_loadA Try.isAgg25 Try.sizeOf25 rfl rfl (by exact Nat.le_refl _)) ?_
  refine WO.put 16 (.agg [.sc (.int .i64 2), .sc (.int .i64 0), .sc (.int .i64 0), .sc (.int .u32 0), .sc (.int .i64 a4), .sc (.int .i64 a5), .sc (.bool a6), .sc (.int .u32 0), .sc (.int .u32 0), .sc (.int .i64 0), .sc (.int .i64 0), .sc (.int .i64 0), .sc (.string ⟨#[]⟩), .sc (.string a13)]) (by kernel_rfl) ?_
  refine WO.op rfl rfl rfl rfl (ne_L4 (a0 := 2) (a1 := 0) (a2 := 0) (a3 := 0) (a4 := a4) (a5 := a5) (a6 := a6) (a7 := 0) (a8 := 0) (a9 := 0) (a10 := 0) (a11 := 0) (a12 := ⟨#[]⟩) (a13 := a13) (by (constructor <;> decide)) (by (constructor <;> decide)) (by (constructor <;> decide)) (by (constructor <;> decide)) (by assumption) (by assumption) (by (constructor <;> decide)) (by (constructor <;> decide)) (by (constructor <;> decide)) (by (constructor <;> decide)) (by (constructor <;> decide)) (by decide) (by assumption) rfl rfl) ?_
  refine WO.put 17 (.sc (.bool false)) (rfl) ?_
  refine WO.op rfl rfl rfl rfl (pk_f rfl rfl rfl) ?_
  refine WO.op rfl rfl rfl rfl (mv_sc rfl) ?_
  refine WO.op rfl rfl rfl rfl (step_fieldR (k := 1) (FieldOff.mk (by kernel_rfl)) rfl rfl (by exact Nat.zero_add _)) ?_
  refine WO.op rfl rfl rfl rfl (step_load Try.isAgg3 rfl rfl rfl) ?_
  refine WO.op rfl rfl rfl rfl (step_pure Try.call33 rfl (by (repeat (first | exact Nl.nil | refine Nl.keep (by rfl) ?_))) (w_within) (by repeat (rfl))) ?_
  refine WO.op rfl rfl rfl rfl (step_not rfl) ?_
  refine WO.op rfl rfl rfl rfl (pk_f rfl rfl rfl) ?_
  refine WO.op rfl rfl rfl rfl (mv_sc rfl) ?_
  refine WO.spl 25 rfl (fun h1 => ?_) (fun h1 => ?_)
  · try simp only [decide_eq_true_eq, decide_eq_false_iff_not, Bool.not_eq_true', Bool.not_eq_false', beq_iff_eq, bne_iff_ne, beq_eq_false_iff_ne, bne_eq_false_iff_eq, gt_iff_lt, ge_iff_le, Int.not_lt, Int.not_le] at h1
    iterate 7 (refine WO.sk rfl rfl rfl rfl ?_; refine WO.sk rfl rfl rfl rfl ?_; refine WO.sk rfl rfl rfl rfl ?_; refine WO.sk rfl rfl rfl rfl ?_; refine WO.op rfl rfl rfl rfl (pk_t rfl rfl rfl) ?_; refine WO.op rfl rfl rfl rfl (mv_sc rfl) ?_)
    iterate 5 (refine WO.sk rfl rfl rfl rfl ?_)
    refine WO.op rfl rfl rfl rfl (pk_t rfl rfl rfl) ?_
    refine WO.op rfl rfl rfl rfl (mv_sc rfl) ?_
    iterate 6 (refine WO.sk rfl rfl rfl rfl ?_)
    refine WO.op rfl rfl rfl rfl (pk_t rfl rfl rfl) ?_
    refine WO.nil ?_
    refine W.condT rfl ?_
    refine W.seq ?_
    refine W.to [(0, _), (1, _), (2, _), (3, _), (4, _), (5, _), (81, _)] [_, _] rfl ⟨(by exact sh_agg rfl), (by exact sh_ptr rfl), (by exact sh_sc rfl), (by exact sh_ptr rfl), (by exact sh_sc rfl), (by exact sh_sc rfl), (by exact sh_sc rfl), trivial⟩ ?_
    refine W.region ?_
    refine WO.op rfl rfl rfl rfl (as_sc rfl) ?_
    refine WO.nil ?_
    refine W.ret ?_
    refine ⟨.inl rfl, ?_⟩
    exact ret0 (Res.tmp rfl Res.nil) (.keep rfl)
  · try simp only [decide_eq_true_eq, decide_eq_false_iff_not, Bool.not_eq_true', Bool.not_eq_false', beq_iff_eq, bne_iff_ne, beq_eq_false_iff_ne, bne_eq_false_iff_eq, gt_iff_lt, ge_iff_le, Int.not_lt, Int.not_le] at h1
    refine WO.op rfl rfl rfl rfl (step_fieldR (k := 2) (FieldOff.mk (by kernel_rfl)) rfl rfl (by exact Nat.zero_add _)) ?_
    refine WO.op rfl rfl rfl rfl (step_load Try.isAgg3 rfl rfl rfl) ?_
    refine WO.op rfl rfl rfl rfl (step_pure Try.call33 rfl (by (repeat (first | exact Nl.nil | refine Nl.keep (by rfl) ?_))) (w_within) (by repeat (rfl))) ?_
    refine WO.op rfl rfl rfl rfl (step_not rfl) ?_
    refine WO.op rfl rfl rfl rfl (pk_f rfl rfl rfl) ?_
    refine WO.op rfl rfl rfl rfl (mv_sc rfl) ?_
    refine WO.spl 31 rfl (fun h2 => ?_) (fun h2 => ?_)
    · try simp only [decide_eq_true_eq, decide_eq_false_iff_not, Bool.not_eq_true', Bool.not_eq_false', beq_iff_eq, bne_iff_ne, beq_eq_false_iff_ne, bne_eq_false_iff_eq, gt_iff_lt, ge_iff_le, Int.not_lt, Int.not_le] at h2
      iterate 6 (refine WO.sk rfl rfl rfl rfl ?_; refine WO.sk rfl rfl rfl rfl ?_; refine WO.sk rfl rfl rfl rfl ?_; refine WO.sk rfl rfl rfl rfl ?_; refine WO.op rfl rfl rfl rfl (pk_t rfl rfl rfl) ?_; refine WO.op rfl rfl rfl rfl (mv_sc rfl) ?_)
      iterate 5 (refine WO.sk rfl rfl rfl rfl ?_)
      refine WO.op rfl rfl rfl rfl (pk_t rfl rfl rfl) ?_
      refine WO.op rfl rfl rfl rfl (mv_sc rfl) ?_
      iterate 6 (refine WO.sk rfl rfl rfl rfl ?_)
      refine WO.op rfl rfl rfl rfl (pk_t rfl rfl rfl) ?_
      refine WO.nil ?_
      refine W.condT rfl ?_
      refine W.seq ?_
      refine W.to [(0, _), (1, _), (2, _), (3, _), (4, _), (5, _), (81, _)] [_, _] rfl ⟨(by exact sh_agg rfl), (by exact sh_ptr rfl), (by exact sh_sc rfl), (by exact sh_ptr rfl), (by exact sh_sc rfl), (by exact sh_sc rfl), (by exact sh_sc rfl), trivial⟩ ?_
      refine W.region ?_
      refine WO.op rfl rfl rfl rfl (as_sc rfl) ?_
      refine WO.nil ?_
      refine W.ret ?_
      refine ⟨.inl rfl, ?_⟩
      exact ret0 (Res.tmp rfl Res.nil) (.keep rfl)
    · try simp only [decide_eq_true_eq, decide_eq_false_iff_not, Bool.not_eq_true', Bool.not_eq_false', beq_iff_eq, bne_iff_ne, beq_eq_false_iff_ne, bne_eq_false_iff_eq, gt_iff_lt, ge_iff_le, Int.not_lt, Int.not_le] at h2
      refine WO.op rfl rfl rfl rfl (step_fieldR (k := 4) (FieldOff.mk (by kernel_rfl)) rfl rfl (by exact Nat.zero_add _)) ?_
      refine WO.op rfl rfl rfl rfl (step_load Try.isAgg3 rfl rfl rfl) ?_
      refine WO.op rfl rfl rfl rfl (step_pure Try.call33 rfl (by (repeat (first | exact Nl.nil | refine Nl.keep (by rfl) ?_))) (w_within) (by repeat (rfl))) ?_
      refine WO.op rfl rfl rfl rfl (step_not rfl) ?_
      refine WO.op rfl rfl rfl rfl (pk_f rfl rfl rfl) ?_
      refine WO.op rfl rfl rfl rfl (mv_sc rfl) ?_
      refine WO.spl 37 rfl (fun h3 => ?_) (fun h3 => ?_)
      · try simp only [decide_eq_true_eq, decide_eq_false_iff_not, Bool.not_eq_true', Bool.not_eq_false', beq_iff_eq, bne_iff_ne, beq_eq_false_iff_ne, bne_eq_false_iff_eq, gt_iff_lt, ge_iff_le, Int.not_lt, Int.not_le] at h3
        iterate 5 (refine WO.sk rfl rfl rfl rfl ?_; refine WO.sk rfl rfl rfl rfl ?_; refine WO.sk rfl rfl rfl rfl ?_; refine WO.sk rfl rfl rfl rfl ?_; refine WO.op rfl rfl rfl rfl (pk_t rfl rfl rfl) ?_; refine WO.op rfl rfl rfl rfl (mv_sc rfl) ?_)
        iterate 5 (refine WO.sk rfl rfl rfl rfl ?_)
        refine WO.op rfl rfl rfl rfl (pk_t rfl rfl rfl) ?_
        refine WO.op rfl rfl rfl rfl (mv_sc rfl) ?_
        iterate 6 (refine WO.sk rfl rfl rfl rfl ?_)
        refine WO.op rfl rfl rfl rfl (pk_t rfl rfl rfl) ?_
        refine WO.nil ?_
        refine W.condT rfl ?_
        refine W.seq ?_
        refine W.to [(0, _), (1, _), (2, _), (3, _), (4, _), (5, _), (81, _)] [_, _] rfl ⟨(by exact sh_agg rfl), (by exact sh_ptr rfl), (by exact sh_sc rfl), (by exact sh_ptr rfl), (by exact sh_sc rfl), (by exact sh_sc rfl), (by exact sh_sc rfl), trivial⟩ ?_
        refine W.region ?_
        refine WO.op rfl rfl rfl rfl (as_sc rfl) ?_
        refine WO.nil ?_
        refine W.ret ?_
        refine ⟨.inl rfl, ?_⟩
        exact ret0 (Res.tmp rfl Res.nil) (.keep rfl)
      · try simp only [decide_eq_true_eq, decide_eq_false_iff_not, Bool.not_eq_true', Bool.not_eq_false', beq_iff_eq, bne_iff_ne, beq_eq_false_iff_ne, bne_eq_false_iff_eq, gt_iff_lt, ge_iff_le, Int.not_lt, Int.not_le] at h3
        refine WO.op rfl rfl rfl rfl (step_fieldR (k := 5) (FieldOff.mk (by kernel_rfl)) rfl rfl (by exact Nat.zero_add _)) ?_
        refine WO.op rfl rfl rfl rfl (step_load Try.isAgg3 rfl rfl rfl) ?_
        refine WO.op rfl rfl rfl rfl (step_pure Try.call33 rfl (by (repeat (first | exact Nl.nil | refine Nl.keep (by rfl) ?_))) (w_within) (by repeat (rfl))) ?_
        refine WO.op rfl rfl rfl rfl (step_not rfl) ?_
        refine WO.op rfl rfl rfl rfl (pk_f rfl rfl rfl) ?_
        refine WO.op rfl rfl rfl rfl (mv_sc rfl) ?_
        refine WO.spl 43 rfl (fun h4 => ?_) (fun h4 => ?_)
        · try simp only [decide_eq_true_eq, decide_eq_false_iff_not, Bool.not_eq_true', Bool.not_eq_false', beq_iff_eq, bne_iff_ne, beq_eq_false_iff_ne, bne_eq_false_iff_eq, gt_iff_lt, ge_iff_le, Int.not_lt, Int.not_le] at h4
          iterate 4 (refine WO.sk rfl rfl rfl rfl ?_; refine WO.sk rfl rfl rfl rfl ?_; refine WO.sk rfl rfl rfl rfl ?_; refine WO.sk rfl rfl rfl rfl ?_; refine WO.op rfl rfl rfl rfl (pk_t rfl rfl rfl) ?_; refine WO.op rfl rfl rfl rfl (mv_sc rfl) ?_)
          iterate 5 (refine WO.sk rfl rfl rfl rfl ?_)
          refine WO.op rfl rfl rfl rfl (pk_t rfl rfl rfl) ?_
          refine WO.op rfl rfl rfl rfl (mv_sc rfl) ?_
          iterate 6 (refine WO.sk rfl rfl rfl rfl ?_)
          refine WO.op rfl rfl rfl rfl (pk_t rfl rfl rfl) ?_
          refine WO.nil ?_
          refine W.condT rfl ?_
          refine W.seq ?_
          refine W.to [(0, _), (1, _), (2, _), (3, _), (4, _), (5, _), (81, _)] [_, _] rfl ⟨(by exact sh_agg rfl), (by exact sh_ptr rfl), (by exact sh_sc rfl), (by exact sh_ptr rfl), (by exact sh_sc rfl), (by exact sh_sc rfl), (by exact sh_sc rfl), trivial⟩ ?_
          refine W.region ?_
          refine WO.op rfl rfl rfl rfl (as_sc rfl) ?_
          refine WO.nil ?_
          refine W.ret ?_
          refine ⟨.inl rfl, ?_⟩
          exact ret0 (Res.tmp rfl Res.nil) (.keep rfl)
        · try simp only [decide_eq_true_eq, decide_eq_false_iff_not, Bool.not_eq_true', Bool.not_eq_false', beq_iff_eq, bne_iff_ne, beq_eq_false_iff_ne, bne_eq_false_iff_eq, gt_iff_lt, ge_iff_le, Int.not_lt, Int.not_le] at h4
          refine WO.op rfl rfl rfl rfl (step_fieldR (k := 10) (FieldOff.mk (by kernel_rfl)) rfl rfl (by exact Nat.zero_add _)) ?_
          refine WO.op rfl rfl rfl rfl (step_load Try.isAgg3 rfl rfl rfl) ?_
          refine WO.op rfl rfl rfl rfl (step_pure Try.call33 rfl (by (repeat (first | exact Nl.nil | refine Nl.keep (by rfl) ?_))) (w_within) (by repeat (rfl))) ?_
          refine WO.op rfl rfl rfl rfl (step_not rfl) ?_
          refine WO.op rfl rfl rfl rfl (pk_f rfl rfl rfl) ?_
          refine WO.op rfl rfl rfl rfl (mv_sc rfl) ?_
          refine WO.spl 49 rfl (fun h5 => ?_) (fun h5 => ?_)
          · try simp only [decide_eq_true_eq, decide_eq_false_iff_not, Bool.not_eq_true', Bool.not_eq_false', beq_iff_eq, bne_iff_ne, beq_eq_false_iff_ne, bne_eq_false_iff_eq, gt_iff_lt, ge_iff_le, Int.not_lt, Int.not_le] at h5
            iterate 3 (refine WO.sk rfl rfl rfl rfl ?_; refine WO.sk rfl rfl rfl rfl ?_; refine WO.sk rfl rfl rfl rfl ?_; refine WO.sk rfl rfl rfl rfl ?_; refine WO.op rfl rfl rfl rfl (pk_t rfl rfl rfl) ?_; refine WO.op rfl rfl rfl rfl (mv_sc rfl) ?_)
            iterate 5 (refine WO.sk rfl rfl rfl rfl ?_)
            refine WO.op rfl rfl rfl rfl (pk_t rfl rfl rfl) ?_
            refine WO.op rfl rfl rfl rfl (mv_sc rfl) ?_
            iterate 6 (refine WO.sk rfl rfl rfl rfl ?_)
            refine WO.op rfl rfl rfl rfl (pk_t rfl rfl rfl) ?_
            refine WO.nil ?_
            refine W.condT rfl ?_
            refine W.seq ?_
            refine W.to [(0, _), (1, _), (2, _), (3, _), (4, _), (5, _), (81, _)] [_, _] rfl ⟨(by exact sh_agg rfl), (by exact sh_ptr rfl), (by exact sh_sc rfl), (by exact sh_ptr rfl), (by exact sh_sc rfl), (by exact sh_sc rfl), (by exact sh_sc rfl), trivial⟩ ?_
            refine W.region ?_
            refine WO.op rfl rfl rfl rfl (as_sc rfl) ?_
            refine WO.nil ?_
            refine W.ret ?_
            refine ⟨.inl rfl, ?_⟩
            exact ret0 (Res.tmp rfl Res.nil) (.keep rfl)
          · try simp only [decide_eq_true_eq, decide_eq_false_iff_not, Bool.not_eq_true', Bool.not_eq_false', beq_iff_eq, bne_iff_ne, beq_eq_false_iff_ne, bne_eq_false_iff_eq, gt_iff_lt, ge_iff_le, Int.not_lt, Int.not_le] at h5
            refine WO.op rfl rfl rfl rfl (step_fieldR (k := 11) (FieldOff.mk (by kernel_rfl)) rfl rfl (by exact Nat.zero_add _)) ?_
            refine WO.op rfl rfl rfl rfl (step_load Try.isAgg3 rfl rfl rfl) ?_
            refine WO.op rfl rfl rfl rfl (step_pure Try.call33 rfl (by (repeat (first | exact Nl.nil | refine Nl.keep (by rfl) ?_))) (w_within) (by repeat (rfl))) ?_
            refine WO.op rfl rfl rfl rfl (step_not rfl) ?_
            refine WO.op rfl rfl rfl rfl (pk_f rfl rfl rfl) ?_
            refine WO.op rfl rfl rfl rfl (mv_sc rfl) ?_
            refine WO.spl 55 rfl (fun h6 => ?_) (fun h6 => ?_)
            · try simp only [decide_eq_true_eq, decide_eq_false_iff_not, Bool.not_eq_true', Bool.not_eq_false', beq_iff_eq, bne_iff_ne, beq_eq_false_iff_ne, bne_eq_false_iff_eq, gt_iff_lt, ge_iff_le, Int.not_lt, Int.not_le] at h6
              iterate 2 (refine WO.sk rfl rfl rfl rfl ?_; refine WO.sk rfl rfl rfl rfl ?_; refine WO.sk rfl rfl rfl rfl ?_; refine WO.sk rfl rfl rfl rfl ?_; refine WO.op rfl rfl rfl rfl (pk_t rfl rfl rfl) ?_; refine WO.op rfl rfl rfl rfl (mv_sc rfl) ?_)
              iterate 5 (refine WO.sk rfl rfl rfl rfl ?_)
              refine WO.op rfl rfl rfl rfl (pk_t rfl rfl rfl) ?_
              refine WO.op rfl rfl rfl rfl (mv_sc rfl) ?_
              iterate 6 (refine WO.sk rfl rfl rfl rfl ?_)
              refine WO.op rfl rfl rfl rfl (pk_t rfl rfl rfl) ?_
              refine WO.nil ?_
              refine W.condT rfl ?_
              refine W.seq ?_
              refine W.to [(0, _), (1, _), (2, _), (3, _), (4, _), (5, _), (81, _)] [_, _] rfl ⟨(by exact sh_agg rfl), (by exact sh_ptr rfl), (by exact sh_sc rfl), (by exact sh_ptr rfl), (by exact sh_sc rfl), (by exact sh_sc rfl), (by exact sh_sc rfl), trivial⟩ ?_
              refine W.region ?_
              refine WO.op rfl rfl rfl rfl (as_sc rfl) ?_
              refine WO.nil ?_
              refine W.ret ?_
              refine ⟨.inl rfl, ?_⟩
              exact ret0 (Res.tmp rfl Res.nil) (.keep rfl)
            · try simp only [decide_eq_true_eq, decide_eq_false_iff_not, Bool.not_eq_true', Bool.not_eq_false', beq_iff_eq, bne_iff_ne, beq_eq_false_iff_ne, bne_eq_false_iff_eq, gt_iff_lt, ge_iff_le, Int.not_lt, Int.not_le] at h6
              refine WO.op rfl rfl rfl rfl (step_fieldR (k := 9) (FieldOff.mk (by kernel_rfl)) rfl rfl (by exact Nat.zero_add _)) ?_
              refine WO.op rfl rfl rfl rfl (step_load Try.isAgg3 rfl rfl rfl) ?_
              refine WO.op rfl rfl rfl rfl (step_pure Try.call33 rfl (by (repeat (first | exact Nl.nil | refine Nl.keep (by rfl) ?_))) (w_within) (by repeat (rfl))) ?_
              refine WO.op rfl rfl rfl rfl (step_not rfl) ?_
              refine WO.op rfl rfl rfl rfl (pk_f rfl rfl rfl) ?_
              refine WO.op rfl rfl rfl rfl (mv_sc rfl) ?_
              refine WO.spl 61 rfl (fun h7 => ?_) (fun h7 => ?_)
              · try simp only [decide_eq_true_eq, decide_eq_false_iff_not, Bool.not_eq_true', Bool.not_eq_false', beq_iff_eq, bne_iff_ne, beq_eq_false_iff_ne, bne_eq_false_iff_eq, gt_iff_lt, ge_iff_le, Int.not_lt, Int.not_le] at h7
                iterate 2 (refine WO.sk rfl rfl rfl rfl ?_; refine WO.sk rfl rfl rfl rfl ?_; refine WO.sk rfl rfl rfl rfl ?_; refine WO.sk rfl rfl rfl rfl ?_; refine WO.op rfl rfl rfl rfl (pk_t rfl rfl rfl) ?_; refine WO.op rfl rfl rfl rfl (mv_sc rfl) ?_; refine WO.sk rfl rfl rfl rfl ?_)
                iterate 5 (refine WO.sk rfl rfl rfl rfl ?_)
                refine WO.op rfl rfl rfl rfl (pk_t rfl rfl rfl) ?_
                refine WO.nil ?_
                refine W.condT rfl ?_
                refine W.seq ?_
                refine W.to [(0, _), (1, _), (2, _), (3, _), (4, _), (5, _), (81, _)] [_, _] rfl ⟨(by exact sh_agg rfl), (by exact sh_ptr rfl), (by exact sh_sc rfl), (by exact sh_ptr rfl), (by exact sh_sc rfl), (by exact sh_sc rfl), (by exact sh_sc rfl), trivial⟩ ?_
                refine W.region ?_
                refine WO.op rfl rfl rfl rfl (as_sc rfl) ?_
                refine WO.nil ?_
                refine W.ret ?_
                refine ⟨.inl rfl, ?_⟩
                exact ret0 (Res.tmp rfl Res.nil) (.keep rfl)
              · try simp only [decide_eq_true_eq, decide_eq_false_iff_not, Bool.not_eq_true', Bool.not_eq_false', beq_iff_eq, bne_iff_ne, beq_eq_false_iff_ne, bne_eq_false_iff_eq, gt_iff_lt, ge_iff_le, Int.not_lt, Int.not_le] at h7
                refine WO.op rfl rfl rfl rfl (step_fieldR (k := 12) (FieldOff.mk (by kernel_rfl)) rfl rfl (by exact Nat.zero_add _)) ?_
                refine WO.op rfl rfl rfl rfl (step_load Try.isAgg9 rfl rfl rfl) ?_
                refine WO.op rfl rfl rfl rfl (step_lenS Try.runUnderlying9 rfl) ?_
                refine WO.op rfl rfl rfl rfl (step_int2 rfl rfl rfl) ?_
                refine WO.put 65 (.sc (.bool false)) (by kernel_rfl) ?_
                refine WO.op rfl rfl rfl rfl (pk_f rfl rfl rfl) ?_
                refine WO.op rfl rfl rfl rfl (mv_sc rfl) ?_
                refine WO.op rfl rfl rfl rfl (step_fieldR (k := 12) (FieldOff.mk (by kernel_rfl)) rfl rfl (by exact Nat.zero_add _)) ?_
                refine WO.op rfl rfl rfl rfl (step_load Try.isAgg9 rfl rfl rfl) ?_
                refine WO.op rfl rfl rfl rfl (step_lenS Try.runUnderlying9 rfl) ?_
                refine WO.op rfl rfl rfl rfl (step_remN (q := 4) rfl rfl (by omega)) ?_
                refine WO.op rfl rfl rfl rfl (step_int2 rfl rfl rfl) ?_
                refine WO.put 72 (.sc (.bool false)) (by kernel_rfl) ?_
                refine WO.op rfl rfl rfl rfl (pk_f rfl rfl rfl) ?_
                refine WO.op rfl rfl rfl rfl (mv_sc rfl) ?_
                refine WO.op rfl rfl rfl rfl (step_fieldR (k := 13) (FieldOff.mk (by kernel_rfl)) rfl rfl (by exact Nat.zero_add _)) ?_
                refine WO.op rfl rfl rfl rfl (step_load Try.isAgg9 rfl rfl rfl) ?_
                refine WO.op rfl rfl rfl rfl (step_lenS Try.runUnderlying9 rfl) ?_
                refine WO.op rfl rfl rfl rfl (mv_sc rfl) ?_
                refine WO.op rfl rfl rfl rfl (step_subN (p := 65515) rfl rfl (by (simp only [List.length_map, List.length_append, List.length_take, List.length_drop, List.length_set, List.length_cons, List.length_nil, List.length_replicate] <;> omega)) (by (simp only [cap]; omega))) ?_
                refine WO.op rfl rfl rfl rfl (step_int2 rfl rfl rfl) ?_
                refine WO.op rfl rfl rfl rfl (pk_f rfl rfl rfl) ?_
                refine WO.nil ?_
                refine W.cond rfl (fun h8 => ?_) (fun h8 => ?_)
                · try simp only [decide_eq_true_eq, decide_eq_false_iff_not, Bool.not_eq_true', Bool.not_eq_false', beq_iff_eq, bne_iff_ne, beq_eq_false_iff_ne, bne_eq_false_iff_eq, gt_iff_lt, ge_iff_le, Int.not_lt, Int.not_le] at h8
                  refine W.seq ?_
                  refine W.to [(0, _), (1, _), (2, _), (3, _), (4, _), (5, _), (81, _)] [_, _] rfl ⟨(by exact sh_agg rfl), (by exact sh_ptr rfl), (by exact sh_sc rfl), (by exact sh_ptr rfl), (by exact sh_sc rfl), (by exact sh_sc rfl), (by exact sh_sc rfl), trivial⟩ ?_
                  refine W.region ?_
                  refine WO.op rfl rfl rfl rfl (as_sc rfl) ?_
                  refine WO.nil ?_
                  refine W.ret ?_
                  refine ⟨.inl rfl, ?_⟩
                  exact ret0 (Res.tmp rfl Res.nil) (.keep rfl)
                · try simp only [decide_eq_true_eq, decide_eq_false_iff_not, Bool.not_eq_true', Bool.not_eq_false', beq_iff_eq, bne_iff_ne, beq_eq_false_iff_ne, bne_eq_false_iff_eq, gt_iff_lt, ge_iff_le, Int.not_lt, Int.not_le] at h8
                  exact False.elim (h ⟨by omega, by omega, by omega⟩)

theorem w_ChkN3 {a1 : Int} {a2 : Int} {a3 : Int} {a4 : Int} {a5 : Int} {a6 : Bool} {a7 : Int} {a8 : Int} {a9 : Int} {a10 : Int} {a11 : Int} {a12 : ByteArray} {a13 : ByteArray} (g1 : isI a1) (g2 : isI a2) (g3 : isU a3) (g4 : isI a4) (g5 : isI a5) (g7 : isU a7) (g8 : isU a8) (g9 : isI a9) (g10 : isI a10) (g11 : isI a11) (g12 : a12.size ≤ 200000000000000) (g13 : a13.size ≤ 200000000000000) (hne : ¬ (3 = (3 : Int) ∧ a1 = 0 ∧ a2 = 0 ∧ a3 = 0 ∧ a4 = a4 ∧ a5 = a5 ∧ a6 = false ∧ a7 = a7 ∧ a8 = a8 ∧ a9 = a9 ∧ a10 = a10 ∧ a11 = a11 ∧ a12.data.toList = (a12 : ByteArray).data.toList ∧ a13.data.toList = (a13 : ByteArray).data.toList)) : Spec0 Try.prog 13 [.agg [.sc (.int .i64 3), .sc (.int .i64 a1), .sc (.int .i64 a2), .sc (.int .u32 a3), .sc (.int .i64 a4), .sc (.int .i64 a5), .sc (.bool a6), .sc (.int .u32 a7), .sc (.int .u32 a8), .sc (.int .i64 a9), .sc (.int .i64 a10), .sc (.int .i64 a11), .sc (.string a12), .sc (.string a13)]] (.sc (.int .i64 1)) := by
  refine Spec.body Try.func13 rfl (Nat.le_of_ble_eq_true rfl) ?_
  refine W.seq ?_
  refine W.region ?_
  refine WO.opA rfl rfl rfl rfl (al_boxA rfl rfl) rfl rfl ?_
  refine WO.put 1 (.ptr 0 0) rfl ?_
  refine WO.op rfl rfl rfl rfl (as_sc rfl) ?_
  refine WO.nil ?_
  refine W.seq ?_
  refine W.to [(0, _), (1, _), (2, _)] [_] rfl ⟨(by exact sh_agg rfl), (by exact sh_ptr rfl), (by exact sh_sc rfl), trivial⟩ ?_
  refine W.region ?_
  refine WO.op rfl rfl rfl rfl (step_loadA Try.isAgg25 Try.sizeOf25 rfl rfl (by exact Nat.le_refl _)) ?_
  refine WO.op rfl rfl rfl rfl (step_pure Try.call26 rfl (by (repeat (first | exact Nl.nil | refine Nl.keep (by rfl) ?_))) (w_ownG3 g12) (by repeat (first | with_reducible refine noOwn_tup ?_ | with_reducible refine noOwn_agg ?_ | with_reducible exact noOwnL_nil | with_reducible refine noOwnL_cons ?_ ?_ | rfl))) ?_
  refine WO.op rfl rfl rfl rfl (mv_tup rfl) ?_
  refine WO.op rfl rfl rfl rfl (step_extract rfl rfl) ?_
  refine WO.put 9 (.agg [.sc (.int .i64 3), .sc (.int .i64 0), .sc (.int .i64 0), .sc (.int .u32 0), .sc (.int .i64 a4), .sc (.int .i64 a5), .sc (.bool false), .sc (.int .u32 a7), .sc (.int .u32 a8), .sc (.int .i64 a9), .sc (.int .i64 a10), .sc (.int .i64 a11), .sc (.string a12), .sc (.string a13)]) (by kernel_rfl) ?_
  iterate 2 (refine WO.op rfl rfl rfl rfl (step_extract rfl rfl) ?_)
  refine WO.opA rfl rfl rfl rfl (al_alloc Try.zeroValue25) rfl rfl ?_
  refine WO.put 3 (.ptr 1 0) rfl ?_
  refine WO.op0 rfl rfl rfl (step_storeA Try.sizeOf25 rfl rfl rfl (by repeat (exact all_cell rfl rfl)) rfl rfl) ?_
  iterate 2 (refine WO.op rfl rfl rfl rfl (as_sc rfl) ?_)
  refine WO.nil ?_
  refine W.seq ?_
  refine W.seq ?_
  refine W.to [(0, _), (1, _), (2, _), (3, _), (4, _), (5, _)] [_, _] rfl ⟨(by exact sh_agg rfl), (by exact sh_ptr rfl), (by exact sh_sc rfl), (by exact sh_ptr rfl), (by exact sh_sc rfl), (by exact sh_sc rfl), trivial⟩ ?_
  refine W.region ?_
  refine WO.op rfl rfl rfl rfl (mv_sc rfl) ?_
  refine WO.op rfl rfl rfl rfl (step_not rfl) ?_
  refine WO.put 13 (.sc (.bool false)) (by kernel_rfl) ?_
  refine WO.op rfl rfl rfl rfl (mv_sc rfl) ?_
  refine WO.op rfl rfl rfl rfl (step_loadA Try.isAgg25 Try.sizeOf25 rfl rfl (by exact Nat.le_refl _)) ?_
  refine WO.put 15 (.agg [.sc (.int .i64 3), .sc (.int .i64 a1), .sc (.int .i64 a2), .sc (.int .u32 a3), .sc (.int .i64 a4), .sc (.int .i64 a5), .sc (.bool a6), .sc (.int .u32 a7), .sc (.int .u32 a8), .sc (.int .i64 a9), .sc (.int .i64 a10), .sc (.int .i64 a11), .sc (.string a12), .sc (.string a13)]) (by kernel_rfl) ?_
  refine WO.op rfl rfl rfl rfl (step_loadA Try.isAgg25 Try.sizeOf25 rfl rfl (by exact Nat.le_refl _)) ?_
  refine WO.put 16 (.agg [.sc (.int .i64 3), .sc (.int .i64 0), .sc (.int .i64 0), .sc (.int .u32 0), .sc (.int .i64 a4), .sc (.int .i64 a5), .sc (.bool false), .sc (.int .u32 a7), .sc (.int .u32 a8), .sc (.int .i64 a9), .sc (.int .i64 a10), .sc (.int .i64 a11), .sc (.string a12), .sc (.string a13)]) (by kernel_rfl) ?_
  refine WO.op rfl rfl rfl rfl (ne2_L4 (a0 := 3) (a1 := a1) (a2 := a2) (a3 := a3) (a4 := a4) (a5 := a5) (a6 := a6) (a7 := a7) (a8 := a8) (a9 := a9) (a10 := a10) (a11 := a11) (a12 := a12) (a13 := a13) (b0 := 3) (b1 := 0) (b2 := 0) (b3 := 0) (b4 := a4) (b5 := a5) (b6 := false) (b7 := a7) (b8 := a8) (b9 := a9) (b10 := a10) (b11 := a11) (b12 := a12) (b13 := a13) (by (constructor <;> decide)) (by assumption) (by assumption) (by assumption) (by assumption) (by assumption) (by assumption) (by assumption) (by assumption) (by assumption) (by assumption) (by assumption) (by assumption) (by (constructor <;> decide)) (by (constructor <;> decide)) (by (constructor <;> decide)) (by (constructor <;> decide)) (by assumption) (by assumption) (by assumption) (by assumption) (by assumption) (by assumption) (by assumption) (by assumption) (by assumption) hne rfl rfl) ?_
  refine WO.put 17 (.sc (.bool true)) (rfl) ?_
  refine WO.op rfl rfl rfl rfl (pk_f rfl rfl rfl) ?_
  iterate 8 (refine WO.op rfl rfl rfl rfl (mv_sc rfl) ?_; refine WO.sk rfl rfl rfl rfl ?_; refine WO.sk rfl rfl rfl rfl ?_; refine WO.sk rfl rfl rfl rfl ?_; refine WO.sk rfl rfl rfl rfl ?_; refine WO.op rfl rfl rfl rfl (pk_t rfl rfl rfl) ?_)
  refine WO.op rfl rfl rfl rfl (mv_sc rfl) ?_
  iterate 5 (refine WO.sk rfl rfl rfl rfl ?_)
  refine WO.op rfl rfl rfl rfl (pk_t rfl rfl rfl) ?_
  refine WO.op rfl rfl rfl rfl (mv_sc rfl) ?_
  iterate 6 (refine WO.sk rfl rfl rfl rfl ?_)
  refine WO.op rfl rfl rfl rfl (pk_t rfl rfl rfl) ?_
  refine WO.nil ?_
  refine W.condT rfl ?_
  refine W.seq ?_
  refine W.to [(0, _), (1, _), (2, _), (3, _), (4, _), (5, _), (81, _)] [_, _] rfl ⟨(by exact sh_agg rfl), (by exact sh_ptr rfl), (by exact sh_sc rfl), (by exact sh_ptr rfl), (by exact sh_sc rfl), (by exact sh_sc rfl), (by exact sh_sc rfl), trivial⟩ ?_
  refine W.region ?_
  refine WO.op rfl rfl rfl rfl (as_sc rfl) ?_
  refine WO.nil ?_
  refine W.ret ?_
  refine ⟨.inl rfl, ?_⟩
  exact ret0 (Res.tmp rfl Res.nil) (.keep rfl)

theorem w_ChkR3 {a4 : Int} {a5 : Int} {a7 : Int} {a8 : Int} {a9 : Int} {a10 : Int} {a11 : Int} {a12 : ByteArray} {a13 : ByteArray} (g4 : isI a4) (g5 : isI a5) (g7 : isU a7) (g8 : isU a8) (g9 : isI a9) (g10 : isI a10) (g11 : isI a11) (g12 : a12.size ≤ 200000000000000) (g13 : a13.size ≤ 200000000000000) (h : ¬ ((0 ≤ a4 ∧ a4 ≤ 65535) ∧ (0 ≤ a5 ∧ a5 ≤ 65535) ∧ (0 ≤ a10 ∧ a10 ≤ 65535) ∧ (0 ≤ a11 ∧ a11 ≤ 65535) ∧ (0 ≤ a9 ∧ a9 ≤ 4095) ∧ (a12.size ≤ 40) ∧ (a12.size % 4 = 0) ∧ (a13.size + 20 + a12.size ≤ 65515))) : Spec0 Try.prog 13 [.agg [.sc (.int .i64 3), .sc (.int .i64 0), .sc (.int .i64 0), .sc (.int .u32 0), .sc (.int .i64 a4), .sc (.int .i64 a5), .sc (.bool false), .sc (.int .u32 a7), .sc (.int .u32 a8), .sc (.int .i64 a9), .sc (.int .i64 a10), .sc (.int .i64 a11), .sc (.string a12), .sc (.string a13)]] (.sc (.int .i64 1)) := by
  refine Spec.body Try.func13 rfl (Nat.le_of_ble_eq_true rfl) ?_
  simp only [isI, isU] at *
  refine W.seq ?_
  refine W.region ?_
  refine WO.opA rfl rfl rfl rfl (al_boxA rfl rfl) rfl rfl ?_
  refine WO.put 1 (.ptr 0 0) rfl ?_
  refine WO.op rfl rfl rfl rfl (as_sc rfl) ?_
  refine WO.nil ?_
  refine W.seq ?_
  refine W.to [(0, _), (1, _), (2, _)] [_] rfl ⟨(by exact sh_agg rfl), (by exact sh_ptr rfl), (by exact sh_sc rfl), trivial⟩ ?_
  refine W.region ?_
  refine WO.op rfl rfl rfl rfl (step_loadA Try.isAgg25 Try.sizeOf25 rfl rfl (by exact Nat.le_refl _)) ?_
  refine WO.op rfl rfl rfl rfl (step_pure Try.call26 rfl (by (repeat (first | exact Nl.nil | refine Nl.keep (by rfl) ?_))) (w_ownG3 g12) (by repeat (first | with_reducible refine noOwn_tup ?_ | with_reducible refine noOwn_agg ?_ | with_reducible exact noOwnL_nil | with_reducible refine noOwnL_cons ?_ ?_ | rfl))) ?_
  refine WO.op rfl rfl rfl rfl (mv_tup rfl) ?_
  refine WO.op rfl rfl rfl rfl (step_extract rfl rfl) ?_
  refine WO.put 9 (.agg [.sc (.int .i64 3), .sc (.int .i64 0), .sc (.int .i64 0), .sc (.int .u32 0), .sc (.int .i64 a4), .sc (.int .i64 a5), .sc (.bool false), .sc (.int .u32 a7), .sc (.int .u32 a8), .sc (.int .i64 a9), .sc (.int .i64 a10), .sc (.int .i64 a11), .sc (.string a12), .sc (.string a13)]) (by kernel_rfl) ?_
  iterate 2 (refine WO.op rfl rfl rfl rfl (step_extract rfl rfl) ?_)
  refine WO.opA rfl rfl rfl rfl (al_alloc Try.zeroValue25) rfl rfl ?_
  refine WO.put 3 (.ptr 1 0) rfl ?_
  refine WO.op0 rfl rfl rfl (step_storeA Try.sizeOf25 rfl rfl rfl (by repeat (exact all_cell rfl rfl)) rfl rfl) ?_
  iterate 2 (refine WO.op rfl rfl rfl rfl (as_sc rfl) ?_)
  refine WO.nil ?_
  refine W.seq ?_
  refine W.seq ?_
  refine W.to [(0, _), (1, _), (2, _), (3, _), (4, _), (5, _)] [_, _] rfl ⟨(by exact sh_agg rfl), (by exact sh_ptr rfl), (by exact sh_sc rfl), (by exact sh_ptr rfl), (by exact sh_sc rfl), (by exact sh_sc rfl), trivial⟩ ?_
  refine W.region ?_
  refine WO.op rfl rfl rfl rfl (mv_sc rfl) ?_
  refine WO.op rfl rfl rfl rfl (step_not rfl) ?_
  refine WO.put 13 (.sc (.bool false)) (by kernel_rfl) ?_
  refine WO.op rfl rfl rfl rfl (mv_sc rfl) ?_
  refine WO.op rfl rfl rfl rfl (step_loadA Try.isAgg25 Try.sizeOf25 rfl rfl (by exact Nat.le_refl _)) ?_
  refine WO.put 15 (.agg [.sc (.int .i64 3), .sc (.int .i64 0), .sc (.int .i64 0), .sc (.int .u32 0), .sc (.int .i64 a4), .sc (.int .i64 a5), .sc (.bool false), .sc (.int .u32 a7), .sc (.int .u32 a8), .sc (.int .i64 a9), .sc (.int .i64 a10), .sc (.int .i64 a11), .sc (.string a12), .sc (.string a13)]) (by kernel_rfl) ?_
  refine WO.op rfl rfl rfl rfl (step_loadA Try.isAgg25 Try.sizeOf25 rfl rfl (by exact Nat.le_refl _)) ?_
  refine WO.put 16 (.agg [.sc (.int .i64 3), .sc (.int .i64 0), .sc (.int .i64 0), .sc (.int .u32 0), .sc (.int .i64 a4), .sc (.int .i64 a5), .sc (.bool false), .sc (.int .u32 a7), .sc (.int .u32 a8), .sc (.int .i64 a9), .sc (.int .i64 a10), .sc (.int .i64 a11), .sc (.string a12), .sc (.string a13)]) (by kernel_rfl) ?_
  refine WO.op rfl rfl rfl rfl (ne_L4 (a0 := 3) (a1 := 0) (a2 := 0) (a3 := 0) (a4 := a4) (a5 := a5) (a6 := false) (a7 := a7) (a8 := a8) (a9 := a9) (a10 := a10) (a11 := a11) (a12 := a12) (a13 := a13) (by (constructor <;> decide)) (by (constructor <;> decide)) (by (constructor <;> decide)) (by (constructor <;> decide)) (by assumption) (by assumption) (by assumption) (by assumption) (by assumption) (by assumption) (by assumption) (by assumption) (by assumption) rfl rfl) ?_
  refine WO.put 17 (.sc (.bool false)) (rfl) ?_
  refine WO.op rfl rfl rfl rfl (pk_f rfl rfl rfl) ?_
  refine WO.op rfl rfl rfl rfl (mv_sc rfl) ?_
  refine WO.op rfl rfl rfl rfl (step_fieldR (k := 1) (FieldOff.mk (by kernel_rfl)) rfl rfl (by exact Nat.zero_add _)) ?_
  refine WO.op rfl rfl rfl rfl (step_load Try.isAgg3 rfl rfl rfl) ?_
  refine WO.op rfl rfl rfl rfl (step_pure Try.call33 rfl (by (repeat (first | exact Nl.nil | refine Nl.keep (by rfl) ?_))) (w_within) (by repeat (rfl))) ?_
  refine WO.op rfl rfl rfl rfl (step_not rfl) ?_
  refine WO.op rfl rfl rfl rfl (pk_f rfl rfl rfl) ?_
  refine WO.op rfl rfl rfl rfl (mv_sc rfl) ?_
  refine WO.spl 25 rfl (fun h1 => ?_) (fun h1 => ?_)
  · try simp only [decide_eq_true_eq, decide_eq_false_iff_not, Bool.not_eq_true', Bool.not_eq_false', beq_iff_eq, bne_iff_ne, beq_eq_false_iff_ne, bne_eq_false_iff_eq, gt_iff_lt, ge_iff_le, Int.not_lt, Int.not_le] at h1
    iterate 7 (refine WO.sk rfl rfl rfl rfl ?_; refine WO.sk rfl rfl rfl rfl ?_; refine WO.sk rfl rfl rfl rfl ?_; refine WO.sk rfl rfl rfl rfl ?_; refine WO.op rfl rfl rfl rfl (pk_t rfl rfl rfl) ?_; refine WO.op rfl rfl rfl rfl (mv_sc rfl) ?_)
    iterate 5 (refine WO.sk rfl rfl rfl rfl ?_)
    refine WO.op rfl rfl rfl rfl (pk_t rfl rfl rfl) ?_
    refine WO.op rfl rfl rfl rfl (mv_sc rfl) ?_
    iterate 6 (refine WO.sk rfl rfl rfl rfl ?_)
    refine WO.op rfl rfl rfl rfl (pk_t rfl rfl rfl) ?_
    refine WO.nil ?_
    refine W.condT rfl ?_
    refine W.seq ?_
    refine W.to [(0, _), (1, _), (2, _), (3, _), (4, _), (5, _), (81, _)] [_, _] rfl ⟨(by exact sh_agg rfl), (by exact sh_ptr rfl), (by exact sh_sc rfl), (by exact sh_ptr rfl), (by exact sh_sc rfl), (by exact sh_sc rfl), (by exact sh_sc rfl), trivial⟩ ?_
    refine W.region ?_
    refine WO.op rfl rfl rfl rfl (as_sc rfl) ?_
    refine WO.nil ?_
    refine W.ret ?_
    refine ⟨.inl rfl, ?_⟩
    exact ret0 (Res.tmp rfl Res.nil) (.keep rfl)
  · try simp only [decide_eq_true_eq, decide_eq_false_iff_not, Bool.not_eq_true', Bool.not_eq_false', beq_iff_eq, bne_iff_ne, beq_eq_false_iff_ne, bne_eq_false_iff_eq, gt_iff_lt, ge_iff_le, Int.not_lt, Int.not_le] at h1
    refine WO.op rfl rfl rfl rfl (step_fieldR (k := 2) (FieldOff.mk (by kernel_rfl)) rfl rfl (by exact Nat.zero_add _)) ?_
    refine WO.op rfl rfl rfl rfl (step_load Try.isAgg3 rfl rfl rfl) ?_
    refine WO.op rfl rfl rfl rfl (step_pure Try.call33 rfl (by (repeat (first | exact Nl.nil | refine Nl.keep (by rfl) ?_))) (w_within) (by repeat (rfl))) ?_
    refine WO.op rfl rfl rfl rfl (step_not rfl) ?_
    refine WO.op rfl rfl rfl rfl (pk_f rfl rfl rfl) ?_
    refine WO.op rfl rfl rfl rfl (mv_sc rfl) ?_
    refine WO.spl 31 rfl (fun h2 => ?_) (fun h2 => ?_)
    · try simp only [decide_eq_true_eq, decide_eq_false_iff_not, Bool.not_eq_true', Bool.not_eq_false', beq_iff_eq, bne_iff_ne, beq_eq_false_iff_ne, bne_eq_false_iff_eq, gt_iff_lt, ge_iff_le, Int.not_lt, Int.not_le] at h2
      iterate 6 (refine WO.sk rfl rfl rfl rfl ?_; refine WO.sk rfl rfl rfl rfl ?_; refine WO.sk rfl rfl rfl rfl ?_; refine WO.sk rfl rfl rfl rfl ?_; refine WO.op rfl rfl rfl rfl (pk_t rfl rfl rfl) ?_; refine WO.op rfl rfl rfl rfl (mv_sc rfl) ?_)
      iterate 5 (refine WO.sk rfl rfl rfl rfl ?_)
      refine WO.op rfl rfl rfl rfl (pk_t rfl rfl rfl) ?_
      refine WO.op rfl rfl rfl rfl (mv_sc rfl) ?_
      iterate 6 (refine WO.sk rfl rfl rfl rfl ?_)
      refine WO.op rfl rfl rfl rfl (pk_t rfl rfl rfl) ?_
      refine WO.nil ?_
      refine W.condT rfl ?_
      refine W.seq ?_
      refine W.to [(0, _), (1, _), (2, _), (3, _), (4, _), (5, _), (81, _)] [_, _] rfl ⟨(by exact sh_agg rfl), (by exact sh_ptr rfl), (by exact sh_sc rfl), (by exact sh_ptr rfl), (by exact sh_sc rfl), (by exact sh_sc rfl), (by exact sh_sc rfl), trivial⟩ ?_
      refine W.region ?_
      refine WO.op rfl rfl rfl rfl (as_sc rfl) ?_
      refine WO.nil ?_
      refine W.ret ?_
      refine ⟨.inl rfl, ?_⟩
      exact ret0 (Res.tmp rfl Res.nil) (.keep rfl)
    · try simp only [decide_eq_true_eq, decide_eq_false_iff_not, Bool.not_eq_true', Bool.not_eq_false', beq_iff_eq, bne_iff_ne, beq_eq_false_iff_ne, bne_eq_false_iff_eq, gt_iff_lt, ge_iff_le, Int.not_lt, Int.not_le] at h2
      refine WO.op rfl rfl rfl rfl (step_fieldR (k := 4) (FieldOff.mk (by kernel_rfl)) rfl rfl (by exact Nat.zero_add _)) ?_
      refine WO.op rfl rfl rfl rfl (step_load Try.isAgg3 rfl rfl rfl) ?_
      refine WO.op rfl rfl rfl rfl (step_pure Try.call33 rfl (by (repeat (first | exact Nl.nil | refine Nl.keep (by rfl) ?_))) (w_within) (by repeat (rfl))) ?_
      refine WO.op rfl rfl rfl rfl (step_not rfl) ?_
      refine WO.op rfl rfl rfl rfl (pk_f rfl rfl rfl) ?_
      refine WO.op rfl rfl rfl rfl (mv_sc rfl) ?_
      refine WO.spl 37 rfl (fun h3 => ?_) (fun h3 => ?_)
      · try simp only [decide_eq_true_eq, decide_eq_false_iff_not, Bool.not_eq_true', Bool.not_eq_false', beq_iff_eq, bne_iff_ne, beq_eq_false_iff_ne, bne_eq_false_iff_eq, gt_iff_lt, ge_iff_le, Int.not_lt, Int.not_le] at h3
        iterate 5 (refine WO.sk rfl rfl rfl rfl ?_; refine WO.sk rfl rfl rfl rfl ?_; refine WO.sk rfl rfl rfl rfl ?_; refine WO.sk rfl rfl rfl rfl ?_; refine WO.op rfl rfl rfl rfl (pk_t rfl rfl rfl) ?_; refine WO.op rfl rfl rfl rfl (mv_sc rfl) ?_)
        iterate 5 (refine WO.sk rfl rfl rfl rfl ?_)
        refine WO.op rfl rfl rfl rfl (pk_t rfl rfl rfl) ?_
        refine WO.op rfl rfl rfl rfl (mv_sc rfl) ?_
        iterate 6 (refine WO.sk rfl rfl rfl rfl ?_)
        refine WO.op rfl rfl rfl rfl (pk_t rfl rfl rfl) ?_
        refine WO.nil ?_
        refine W.condT rfl ?_
        refine W.seq ?_
        refine W.to [(0, _), (1, _), (2, _), (3, _), (4, _), (5, _), (81, _)] [_, _] rfl ⟨(by exact sh_agg rfl), (by exact sh_ptr rfl), (by exact sh_sc rfl), (by exact sh_ptr rfl), (by exact sh_sc rfl), (by exact sh_sc rfl), (by exact sh_sc rfl), trivial⟩ ?_
        refine W.region ?_
        refine WO.op rfl rfl rfl rfl (as_sc rfl) ?_
        refine WO.nil ?_
        refine W.ret ?_
        refine ⟨.inl rfl, ?_⟩
        exact ret0 (Res.tmp rfl Res.nil) (.keep rfl)
      · try simp only [decide_eq_true_eq, decide_eq_false_iff_not, Bool.not_eq_true', Bool.not_eq_false', beq_iff_eq, bne_iff_ne, beq_eq_false_iff_ne, bne_eq_false_iff_eq, gt_iff_lt, ge_iff_le, Int.not_lt, Int.not_le] at h3
        refine WO.op rfl rfl rfl rfl (step_fieldR (k := 5) (FieldOff.mk (by kernel_rfl)) rfl rfl (by exact Nat.zero_add _)) ?_
        refine WO.op rfl rfl rfl rfl (step_load Try.isAgg3 rfl rfl rfl) ?_
        refine WO.op rfl rfl rfl rfl (step_pure Try.call33 rfl (by (repeat (first | exact Nl.nil | refine Nl.keep (by rfl) ?_))) (w_within) (by repeat (rfl))) ?_
        refine WO.op rfl rfl rfl rfl (step_not rfl) ?_
        refine WO.op rfl rfl rfl rfl (pk_f rfl rfl rfl) ?_
        refine WO.op rfl rfl rfl rfl (mv_sc rfl) ?_
        refine WO.spl 43 rfl (fun h4 => ?_) (fun h4 => ?_)
        · try simp only [decide_eq_true_eq, decide_eq_false_iff_not, Bool.not_eq_true', Bool.not_eq_false', beq_iff_eq, bne_iff_ne, beq_eq_false_iff_ne, bne_eq_false_iff_eq, gt_iff_lt, ge_iff_le, Int.not_lt, Int.not_le] at h4
          iterate 4 (refine WO.sk rfl rfl rfl rfl ?_; refine WO.sk rfl rfl rfl rfl ?_; refine WO.sk rfl rfl rfl rfl ?_; refine WO.sk rfl rfl rfl rfl ?_; refine WO.op rfl rfl rfl rfl (pk_t rfl rfl rfl) ?_; refine WO.op rfl rfl rfl rfl (mv_sc rfl) ?_)
          iterate 5 (refine WO.sk rfl rfl rfl rfl ?_)
          refine WO.op rfl rfl rfl rfl (pk_t rfl rfl rfl) ?_
          refine WO.op rfl rfl rfl rfl (mv_sc rfl) ?_
          iterate 6 (refine WO.sk rfl rfl rfl rfl ?_)
          refine WO.op rfl rfl rfl rfl (pk_t rfl rfl rfl) ?_
          refine WO.nil ?_
          refine W.condT rfl ?_
          refine W.seq ?_
          refine W.to [(0, _), (1, _), (2, _), (3, _), (4, _), (5, _), (81, _)] [_, _] rfl ⟨(by exact sh_agg rfl), (by exact sh_ptr rfl), (by exact sh_sc rfl), (by exact sh_ptr rfl), (by exact sh_sc rfl), (by exact sh_sc rfl), (by exact sh_sc rfl), trivial⟩ ?_
          refine W.region ?_
          refine WO.op rfl rfl rfl rfl (as_sc rfl) ?_
          refine WO.nil ?_
          refine W.ret ?_
          refine ⟨.inl rfl, ?_⟩
          exact ret0 (Res.tmp rfl Res.nil) (.keep rfl)
        · try simp only [decide_eq_true_eq, decide_eq_false_iff_not, Bool.not_eq_true', Bool.not_eq_false', beq_iff_eq, bne_iff_ne, beq_eq_false_iff_ne, bne_eq_false_iff_eq, gt_iff_lt, ge_iff_le, Int.not_lt, Int.not_le] at h4
          refine WO.op rfl rfl rfl rfl (step_fieldR (k := 10) (FieldOff.mk (by kernel_rfl)) rfl rfl (by exact Nat.zero_add _)) ?_
          refine WO.op rfl rfl rfl rfl (step_load Try.isAgg3 rfl rfl rfl) ?_
          refine WO.op rfl rfl rfl rfl (step_pure Try.call33 rfl (by (repeat (first | exact Nl.nil | refine Nl.keep (by rfl) ?_))) (w_within) (by repeat (rfl))) ?_
          refine WO.op rfl rfl rfl rfl (step_not rfl) ?_
          refine WO.op rfl rfl rfl rfl (pk_f rfl rfl rfl) ?_
          refine WO.op rfl rfl rfl rfl (mv_sc rfl) ?_
          refine WO.spl 49 rfl (fun h5 => ?_) (fun h5 => ?_)
          · try simp only [decide_eq_true_eq, decide_eq_false_iff_not, Bool.not_eq_true', Bool.not_eq_false', beq_iff_eq, bne_iff_ne, beq_eq_false_iff_ne, bne_eq_false_iff_eq, gt_iff_lt, ge_iff_le, Int.not_lt, Int.not_le] at h5
            iterate 3 (refine WO.sk rfl rfl rfl rfl ?_; refine WO.sk rfl rfl rfl rfl ?_; refine WO.sk rfl rfl rfl rfl ?_; refine WO.sk rfl rfl rfl rfl ?_; refine WO.op rfl rfl rfl rfl (pk_t rfl rfl rfl) ?_; refine WO.op rfl rfl rfl rfl (mv_sc rfl) ?_)
            iterate 5 (refine WO.sk rfl rfl rfl rfl ?_)
            refine WO.op rfl rfl rfl rfl (pk_t rfl rfl rfl) ?_
            refine WO.op rfl rfl rfl rfl (mv_sc rfl) ?_
            iterate 6 (refine WO.sk rfl rfl rfl rfl ?_)
            refine WO.op rfl rfl rfl rfl (pk_t rfl rfl rfl) ?_
            refine WO.nil ?_
            refine W.condT rfl ?_
            refine W.seq ?_
            refine W.to [(0, _), (1, _), (2, _), (3, _), (4, _), (5, _), (81, _)] [_, _] rfl ⟨(by exact sh_agg rfl), (by exact sh_ptr rfl), (by exact sh_sc rfl), (by exact sh_ptr rfl), (by exact sh_sc rfl), (by exact sh_sc rfl), (by exact sh_sc rfl), trivial⟩ ?_
            refine W.region ?_
            refine WO.op rfl rfl rfl rfl (as_sc rfl) ?_
            refine WO.nil ?_
            refine W.ret ?_
            refine ⟨.inl rfl, ?_⟩
            exact ret0 (Res.tmp rfl Res.nil) (.keep rfl)
          · try simp only [decide_eq_true_eq, decide_eq_false_iff_not, Bool.not_eq_true', Bool.not_eq_false', beq_iff_eq, bne_iff_ne, beq_eq_false_iff_ne, bne_eq_false_iff_eq, gt_iff_lt, ge_iff_le, Int.not_lt, Int.not_le] at h5
            refine WO.op rfl rfl rfl rfl (step_fieldR (k := 11) (FieldOff.mk (by kernel_rfl)) rfl rfl (by exact Nat.zero_add _)) ?_
            refine WO.op rfl rfl rfl rfl (step_load Try.isAgg3 rfl rfl rfl) ?_
            refine WO.op rfl rfl rfl rfl (step_pure Try.call33 rfl (by (repeat (first | exact Nl.nil | refine Nl.keep (by rfl) ?_))) (w_within) (by repeat (rfl))) ?_
            refine WO.op rfl rfl rfl rfl (step_not rfl) ?_
            refine WO.op rfl rfl rfl rfl (pk_f rfl rfl rfl) ?_
            refine WO.op rfl rfl rfl rfl (mv_sc rfl) ?_
            refine WO.spl 55 rfl (fun h6 => ?_) (fun h6 => ?_)
            · try simp only [decide_eq_true_eq, decide_eq_false_iff_not, Bool.not_eq_true', Bool.not_eq_false', beq_iff_eq, bne_iff_ne, beq_eq_false_iff_ne, bne_eq_false_iff_eq, gt_iff_lt, ge_iff_le, Int.not_lt, Int.not_le] at h6
              iterate 2 (refine WO.sk rfl rfl rfl rfl ?_; refine WO.sk rfl rfl rfl rfl ?_; refine WO.sk rfl rfl rfl rfl ?_; refine WO.sk rfl rfl rfl rfl ?_; refine WO.op rfl rfl rfl rfl (pk_t rfl rfl rfl) ?_; refine WO.op rfl rfl rfl rfl (mv_sc rfl) ?_)
              iterate 5 (refine WO.sk rfl rfl rfl rfl ?_)
              refine WO.op rfl rfl rfl rfl (pk_t rfl rfl rfl) ?_
              refine WO.op rfl rfl rfl rfl (mv_sc rfl) ?_
              iterate 6 (refine WO.sk rfl rfl rfl rfl ?_)
              refine WO.op rfl rfl rfl rfl (pk_t rfl rfl rfl) ?_
              refine WO.nil ?_
              refine W.condT rfl ?_
              refine W.seq ?_
              refine W.to [(0, _), (1, _), (2, _), (3, _), (4, _), (5, _), (81, _)] [_, _] rfl ⟨(by exact sh_agg rfl), (by exact sh_ptr rfl), (by exact sh_sc rfl), (by exact sh_ptr rfl), (by exact sh_sc rfl), (by exact sh_sc rfl), (by exact sh_sc rfl), trivial⟩ ?_
              refine W.region ?_
              refine WO.op rfl rfl rfl rfl (as_sc rfl) ?_
              refine WO.nil ?_
              refine W.ret ?_
              refine ⟨.inl rfl, ?_⟩
              exact ret0 (Res.tmp rfl Res.nil) (.keep rfl)
            · try simp only [decide_eq_true_eq, decide_eq_false_iff_not, Bool.not_eq_true', Bool.not_eq_false', beq_iff_eq, bne_iff_ne, beq_eq_false_iff_ne, bne_eq_false_iff_eq, gt_iff_lt, ge_iff_le, Int.not_lt, Int.not_le] at h6
              refine WO.op rfl rfl rfl rfl (step_fieldR (k := 9) (FieldOff.mk (by kernel_rfl)) rfl rfl (by exact Nat.zero_add _)) ?_
              refine WO.op rfl rfl rfl rfl (step_load Try.isAgg3 rfl rfl rfl) ?_
              refine WO.op rfl rfl rfl rfl (step_pure Try.call33 rfl (by (repeat (first | exact Nl.nil | refine Nl.keep (by rfl) ?_))) (w_within) (by repeat (rfl))) ?_
              refine WO.op rfl rfl rfl rfl (step_not rfl) ?_
              refine WO.op rfl rfl rfl rfl (pk_f rfl rfl rfl) ?_
              refine WO.op rfl rfl rfl rfl (mv_sc rfl) ?_
              refine WO.spl 61 rfl (fun h7 => ?_) (fun h7 => ?_)
              · try simp only [decide_eq_true_eq, decide_eq_false_iff_not, Bool.not_eq_true', Bool.not_eq_false', beq_iff_eq, bne_iff_ne, beq_eq_false_iff_ne, bne_eq_false_iff_eq, gt_iff_lt, ge_iff_le, Int.not_lt, Int.not_le] at h7
                iterate 2 (refine WO.sk rfl rfl rfl rfl ?_; refine WO.sk rfl rfl rfl rfl ?_; refine WO.sk rfl rfl rfl rfl ?_; refine WO.sk rfl rfl rfl rfl ?_; refine WO.op rfl rfl rfl rfl (pk_t rfl rfl rfl) ?_; refine WO.op rfl rfl rfl rfl (mv_sc rfl) ?_; refine WO.sk rfl rfl rfl rfl ?_)
                iterate 5 (refine WO.sk rfl rfl rfl rfl ?_)
                refine WO.op rfl rfl rfl rfl (pk_t rfl rfl rfl) ?_
                refine WO.nil ?_
                refine W.condT rfl ?_
                refine W.seq ?_
                refine W.to [(0, _), (1, _), (2, _), (3, _), (4, _), (5, _), (81, _)] [_, _] rfl ⟨(by exact sh_agg rfl), (by exact sh_ptr rfl), (by exact sh_sc rfl), (by exact sh_ptr rfl), (by exact sh_sc rfl), (by exact sh_sc rfl), (by exact sh_sc rfl), trivial⟩ ?_
                refine W.region ?_
                refine WO.op rfl rfl rfl rfl (as_sc rfl) ?_
                refine WO.nil ?_
                refine W.ret ?_
                refine ⟨.inl rfl, ?_⟩
                exact ret0 (Res.tmp rfl Res.nil) (.keep rfl)
              · try simp only [decide_eq_true_eq, decide_eq_false_iff_not, Bool.not_eq_true', Bool.not_eq_false', beq_iff_eq, bne_iff_ne, beq_eq_false_iff_ne, bne_eq_false_iff_eq, gt_iff_lt, ge_iff_le, Int.not_lt, Int.not_le] at h7
                refine WO.op rfl rfl rfl rfl (step_fieldR (k := 12) (FieldOff.mk (by kernel_rfl)) rfl rfl (by exact Nat.zero_add _)) ?_
                refine WO.op rfl rfl rfl rfl (step_load Try.isAgg9 rfl rfl rfl) ?_
                refine WO.op rfl rfl rfl rfl (step_lenS Try.runUnderlying9 rfl) ?_
                refine WO.op rfl rfl rfl rfl (step_int2 rfl rfl rfl) ?_
                refine WO.op rfl rfl rfl rfl (pk_f rfl rfl rfl) ?_
                refine WO.op rfl rfl rfl rfl (mv_sc rfl) ?_
                refine WO.spl 67 rfl (fun h8 => ?_) (fun h8 => ?_)
                · try simp only [decide_eq_true_eq, decide_eq_false_iff_not, Bool.not_eq_true', Bool.not_eq_false', beq_iff_eq, bne_iff_ne, beq_eq_false_iff_ne, bne_eq_false_iff_eq, gt_iff_lt, ge_iff_le, Int.not_lt, Int.not_le] at h8
                  iterate 5 (refine WO.sk rfl rfl rfl rfl ?_)
                  refine WO.op rfl rfl rfl rfl (pk_t rfl rfl rfl) ?_
                  refine WO.op rfl rfl rfl rfl (mv_sc rfl) ?_
                  iterate 6 (refine WO.sk rfl rfl rfl rfl ?_)
                  refine WO.op rfl rfl rfl rfl (pk_t rfl rfl rfl) ?_
                  refine WO.nil ?_
                  refine W.condT rfl ?_
                  refine W.seq ?_
                  refine W.to [(0, _), (1, _), (2, _), (3, _), (4, _), (5, _), (81, _)] [_, _] rfl ⟨(by exact sh_agg rfl), (by exact sh_ptr rfl), (by exact sh_sc rfl), (by exact sh_ptr rfl), (by exact sh_sc rfl), (by exact sh_sc rfl), (by exact sh_sc rfl), trivial⟩ ?_
                  refine W.region ?_
                  refine WO.op rfl rfl rfl rfl (as_sc rfl) ?_
                  refine WO.nil ?_
                  refine W.ret ?_
                  refine ⟨.inl rfl, ?_⟩
                  exact ret0 (Res.tmp rfl Res.nil) (.keep rfl)
                · try simp only [decide_eq_true_eq, decide_eq_false_iff_not, Bool.not_eq_true', Bool.not_eq_false', beq_iff_eq, bne_iff_ne, beq_eq_false_iff_ne, bne_eq_false_iff_eq, gt_iff_lt, ge_iff_le, Int.not_lt, Int.not_le] at h8
                  refine WO.op rfl rfl rfl rfl (step_fieldR (k := 12) (FieldOff.mk (by kernel_rfl)) rfl rfl (by exact Nat.zero_add _)) ?_
                  refine WO.op rfl rfl rfl rfl (step_load Try.isAgg9 rfl rfl rfl) ?_
                  refine WO.op rfl rfl rfl rfl (step_lenS Try.runUnderlying9 rfl) ?_
                  refine WO.op rfl rfl rfl rfl (step_remN (q := 4) rfl rfl (by omega)) ?_
                  refine WO.op rfl rfl rfl rfl (step_int2 rfl rfl rfl) ?_
                  refine WO.op rfl rfl rfl rfl (pk_f rfl rfl rfl) ?_
                  refine WO.op rfl rfl rfl rfl (mv_sc rfl) ?_
                  refine WO.spl 74 rfl (fun h9 => ?_) (fun h9 => ?_)
                  · try simp only [decide_eq_true_eq, decide_eq_false_iff_not, Bool.not_eq_true', Bool.not_eq_false', beq_iff_eq, bne_iff_ne, beq_eq_false_iff_ne, bne_eq_false_iff_eq, gt_iff_lt, ge_iff_le, Int.not_lt, Int.not_le] at h9
                    iterate 6 (refine WO.sk rfl rfl rfl rfl ?_)
                    refine WO.op rfl rfl rfl rfl (pk_t rfl rfl rfl) ?_
                    refine WO.nil ?_
                    refine W.condT rfl ?_
                    refine W.seq ?_
                    refine W.to [(0, _), (1, _), (2, _), (3, _), (4, _), (5, _), (81, _)] [_, _] rfl ⟨(by exact sh_agg rfl), (by exact sh_ptr rfl), (by exact sh_sc rfl), (by exact sh_ptr rfl), (by exact sh_sc rfl), (by exact sh_sc rfl), (by exact sh_sc rfl), trivial⟩ ?_
                    refine W.region ?_
                    refine WO.op rfl rfl rfl rfl (as_sc rfl) ?_
                    refine WO.nil ?_
                    refine W.ret ?_
                    refine ⟨.inl rfl, ?_⟩
                    exact ret0 (Res.tmp rfl Res.nil) (.keep rfl)
                  · try simp only [decide_eq_true_eq, decide_eq_false_iff_not, Bool.not_eq_true', Bool.not_eq_false', beq_iff_eq, bne_iff_ne, beq_eq_false_iff_ne, bne_eq_false_iff_eq, gt_iff_lt, ge_iff_le, Int.not_lt, Int.not_le] at h9
                    refine WO.op rfl rfl rfl rfl (step_fieldR (k := 13) (FieldOff.mk (by kernel_rfl)) rfl rfl (by exact Nat.zero_add _)) ?_
                    refine WO.op rfl rfl rfl rfl (step_load Try.isAgg9 rfl rfl rfl) ?_
                    refine WO.op rfl rfl rfl rfl (step_lenS Try.runUnderlying9 rfl) ?_
                    refine WO.op rfl rfl rfl rfl (mv_sc rfl) ?_
                    refine WO.op rfl rfl rfl rfl (step_subN (p := 65515) rfl rfl (by omega) (by (simp only [cap]; omega))) ?_
                    refine WO.op rfl rfl rfl rfl (step_int2 rfl rfl rfl) ?_
                    refine WO.op rfl rfl rfl rfl (pk_f rfl rfl rfl) ?_
                    refine WO.nil ?_
                    refine W.cond rfl (fun h10 => ?_) (fun h10 => ?_)
                    · try simp only [decide_eq_true_eq, decide_eq_false_iff_not, Bool.not_eq_true', Bool.not_eq_false', beq_iff_eq, bne_iff_ne, beq_eq_false_iff_ne, bne_eq_false_iff_eq, gt_iff_lt, ge_iff_le, Int.not_lt, Int.not_le] at h10
                      refine W.seq ?_
                      refine W.to [(0, _), (1, _), (2, _), (3, _), (4, _), (5, _), (81, _)] [_, _] rfl ⟨(by exact sh_agg rfl), (by exact sh_ptr rfl), (by exact sh_sc rfl), (by exact sh_ptr rfl), (by exact sh_sc rfl), (by exact sh_sc rfl), (by exact sh_sc rfl), trivial⟩ ?_
                      refine W.region ?_
                      refine WO.op rfl rfl rfl rfl (as_sc rfl) ?_
                      refine WO.nil ?_
                      refine W.ret ?_
                      refine ⟨.inl rfl, ?_⟩
                      exact ret0 (Res.tmp rfl Res.nil) (.keep rfl)
                    · try simp only [decide_eq_true_eq, decide_eq_false_iff_not, Bool.not_eq_true', Bool.not_eq_false', beq_iff_eq, bne_iff_ne, beq_eq_false_iff_ne, bne_eq_false_iff_eq, gt_iff_lt, ge_iff_le, Int.not_lt, Int.not_le] at h10
                      exact False.elim (h ⟨by omega, by omega, by omega, by omega, by omega, by omega, by omega, by omega⟩)

theorem w_ChkK {a0 : Int} {a1 : Int} {a2 : Int} {a3 : Int} {a4 : Int} {a5 : Int} {a6 : Bool} {a7 : Int} {a8 : Int} {a9 : Int} {a10 : Int} {a11 : Int} {a12 : ByteArray} {a13 : ByteArray}(hk : a0 ≠ 0 ∧ a0 ≠ 1 ∧ a0 ≠ 2 ∧ a0 ≠ 3) : Spec0 Try.prog 13 [.agg [.sc (.int .i64 a0), .sc (.int .i64 a1), .sc (.int .i64 a2), .sc (.int .u32 a3), .sc (.int .i64 a4), .sc (.int .i64 a5), .sc (.bool a6), .sc (.int .u32 a7), .sc (.int .u32 a8), .sc (.int .i64 a9), .sc (.int .i64 a10), .sc (.int .i64 a11), .sc (.string a12), .sc (.string a13)]] (.sc (.int .i64 1)) := by
  refine Spec.body Try.func13 rfl (Nat.le_of_ble_eq_true rfl) ?_
  refine W.seq ?_
  refine W.region ?_
  refine WO.opA rfl rfl rfl rfl (al_boxA rfl rfl) rfl rfl ?_
  refine WO.put 1 (.ptr 0 0) rfl ?_
  refine WO.op rfl rfl rfl rfl (as_sc rfl) ?_
  refine WO.nil ?_
  refine W.seq ?_
  refine W.to [(0, _), (1, _), (2, _)] [_] rfl ⟨(by exact sh_agg rfl), (by exact sh_ptr rfl), (by exact sh_sc rfl), trivial⟩ ?_
  refine W.region ?_
  refine WO.op rfl rfl rfl rfl (step_loadA Try.isAgg25 Try.sizeOf25 rfl rfl (by exact Nat.le_refl _)) ?_
  refine WO.op rfl rfl rfl rfl (step_pure Try.call26 rfl (by (repeat (first | exact Nl.nil | refine Nl.keep (by rfl) ?_))) (w_ownGX hk) (by repeat (first | with_reducible refine noOwn_tup ?_ | with_reducible refine noOwn_agg ?_ | with_reducible exact noOwnL_nil | with_reducible refine noOwnL_cons ?_ ?_ | rfl))) ?_
  refine WO.op rfl rfl rfl rfl (mv_tup rfl) ?_
  refine WO.op rfl rfl rfl rfl (step_extract rfl rfl) ?_
  refine WO.put 9 (.agg [.sc (.int .i64 a0), .sc (.int .i64 0), .sc (.int .i64 0), .sc (.int .u32 0), .sc (.int .i64 0), .sc (.int .i64 0), .sc (.bool false), .sc (.int .u32 0), .sc (.int .u32 0), .sc (.int .i64 0), .sc (.int .i64 0), .sc (.int .i64 0), .sc (.string ⟨#[]⟩), .sc (.string a13)]) (by kernel_rfl) ?_
  iterate 2 (refine WO.op rfl rfl rfl rfl (step_extract rfl rfl) ?_)
  refine WO.opA rfl rfl rfl rfl (al_alloc Try.zeroValue25) rfl rfl ?_
  refine WO.put 3 (.ptr 1 0) rfl ?_
  refine WO.op0 rfl rfl rfl (step_storeA Try.sizeOf25 rfl rfl rfl (by repeat (exact all_cell rfl rfl)) rfl rfl) ?_
  iterate 2 (refine WO.op rfl rfl rfl rfl (as_sc rfl) ?_)
  refine WO.nil ?_
  refine W.seq ?_
  refine W.seq ?_
  refine W.to [(0, _), (1, _), (2, _), (3, _), (4, _), (5, _)] [_, _] rfl ⟨(by exact sh_agg rfl), (by exact sh_ptr rfl), (by exact sh_sc rfl), (by exact sh_ptr rfl), (by exact sh_sc rfl), (by exact sh_sc rfl), trivial⟩ ?_
  refine W.region ?_
  refine WO.op rfl rfl rfl rfl (mv_sc rfl) ?_
  refine WO.op rfl rfl rfl rfl (step_not rfl) ?_
  refine WO.put 13 (.sc (.bool true)) (by kernel_rfl) ?_
  refine WO.op rfl rfl rfl rfl (mv_sc rfl) ?_
  iterate 9 (refine WO.sk rfl rfl rfl rfl ?_; refine WO.sk rfl rfl rfl rfl ?_; refine WO.sk rfl rfl rfl rfl ?_; refine WO.op rfl rfl rfl rfl (pk_t rfl rfl rfl) ?_; refine WO.op rfl rfl rfl rfl (mv_sc rfl) ?_; refine WO.sk rfl rfl rfl rfl ?_)
  iterate 4 (refine WO.sk rfl rfl rfl rfl ?_)
  refine WO.op rfl rfl rfl rfl (pk_t rfl rfl rfl) ?_
  refine WO.op rfl rfl rfl rfl (mv_sc rfl) ?_
  iterate 6 (refine WO.sk rfl rfl rfl rfl ?_)
  refine WO.op rfl rfl rfl rfl (pk_t rfl rfl rfl) ?_
  refine WO.nil ?_
  refine W.condT rfl ?_
  refine W.seq ?_
  refine W.to [(0, _), (1, _), (2, _), (3, _), (4, _), (5, _), (81, _)] [_, _] rfl ⟨(by exact sh_agg rfl), (by exact sh_ptr rfl), (by exact sh_sc rfl), (by exact sh_ptr rfl), (by exact sh_sc rfl), (by exact sh_sc rfl), (by exact sh_sc rfl), trivial⟩ ?_
  refine W.region ?_
  refine WO.op rfl rfl rfl rfl (as_sc rfl) ?_
  refine WO.nil ?_
  refine W.ret ?_
  refine ⟨.inl rfl, ?_⟩
  exact ret0 (Res.tmp rfl Res.nil) (.keep rfl)

end Go.Proofs.Ytdmlkcphlidcfaa
