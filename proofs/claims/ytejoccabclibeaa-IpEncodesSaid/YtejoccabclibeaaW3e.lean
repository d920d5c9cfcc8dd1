/-
  Contracts of functions of chapter 03: each theorem says what a call of one function answers, for all arguments that its hypotheses let in.
-/
import Derived.Test.YtejoccabclibeaaW3d
set_option linter.unusedVariables false
set_option linter.unusedSimpArgs false
set_option maxRecDepth 100000
set_option maxHeartbeats 1000000
namespace Go.Proofs.Ytejoccabclibeaa
open Go Go.SL Go.Proofs

def liv1 : List UInt8 := [69, 0, 0, 28, 0, 0, 0, 0, 64, 1, 102, 223, 10, 0, 0, 1, 10, 0, 0, 2]
def liv2 : List UInt8 := [69, 0, 0, 28, 0, 0, 0, 0, 63, 1, 103, 223, 10, 0, 0, 1, 10, 0, 0, 2]
theorem liv_enc : Spec0 Try.prog 12 [.agg [.sc (.int .i64 0), .sc (.int .i64 0), .sc (.int .i64 0), .sc (.int .i64 64), .sc (.int .i64 1), .sc (.int .u32 167772161), .sc (.int .u32 167772162), .sc (.string ⟨#[]⟩)], .sc (.int .i64 8)] (.tup [.im 1 (liv1.map byteAV), .sc (.int .i64 0)]) := by
  have h := w_EncG (a0 := 0) (a1 := 0) (a2 := 0) (a3 := 64) (a4 := 1) (a5 := 167772161) (a6 := 167772162) (d := 8) (a7 := ⟨#[]⟩) (by decide) (by decide) (by decide) (by decide) (by decide) (by decide) (by decide) (by decide) (by decide) (by decide)
  have e : encB 0 0 0 64 1 167772161 167772162 (ByteArray.mk #[]).data.toList 8 = liv1 := by decide
  rw [e] at h
  exact h
theorem liv_hop : Spec0 Try.prog 8 [.im 1 (liv1.map byteAV)] (.tup [.im 1 (liv2.map byteAV), .sc (.bool true)]) := by
  have h := w_HopG (l := liv1) (by decide) (by unfold hopOK; decide)
  have e : hopB liv1 = liv2 := by decide
  rw [e] at h
  exact h
theorem liv_sum : Spec0 Try.prog 11 [.im 1 (liv2.map byteAV)] (.sc (.int .u16 65535)) := by
  have h := w_Sum (l := liv2) (by decide)
  have e : fo (ws liv2 liv2.length) = 65535 := by decide
  rw [e] at h
  exact h

theorem w_lives  : Spec0 Try.prog 10 [] (.sc (.bool true)) := by
  refine Spec.body Try.func10 rfl (Nat.le_of_ble_eq_true rfl) ?_
  refine W.seq ?_
  refine W.region ?_
  refine WO.op rfl rfl rfl rfl (as_sc rfl) ?_
  refine WO.nil ?_
  refine W.seq ?_
  refine W.to [(0, _)] [] rfl ⟨(by exact sh_sc rfl), trivial⟩ ?_
  refine W.region ?_
  refine WO.op rfl rfl rfl rfl (step_build Try.zeroValue31 (pl := [(0, 1), (1, 1), (2, 1), (3, 1), (4, 1), (5, 1), (6, 1), (7, 1)]) (PlacesOf.mk (by kernel_rfl)) rfl) ?_
  refine WO.op rfl rfl rfl rfl (step_pure Try.call12 rfl (by (repeat (first | exact Nl.nil | refine Nl.keep (by rfl) ?_))) (liv_enc) rfl) ?_
  refine WO.op rfl rfl rfl rfl (mv_tup rfl) ?_
  refine WO.op rfl rfl rfl rfl (step_extract rfl rfl) ?_
  refine WO.op rfl rfl rfl rfl (step_extract rfl rfl) ?_
  refine WO.op rfl rfl rfl rfl (as_im rfl) ?_
  refine WO.op rfl rfl rfl rfl (as_sc rfl) ?_
  refine WO.nil ?_
  refine W.seq ?_
  refine W.to [(0, _), (1, _), (2, _)] [] rfl ⟨(by exact sh_sc rfl), (by exact sh_im rfl), (by exact sh_sc rfl), trivial⟩ ?_
  refine W.region ?_
  refine WO.op rfl rfl rfl rfl (mv_im rfl) ?_
  refine WO.op rfl rfl rfl rfl (step_pure Try.call8 rfl (by (repeat (first | exact Nl.nil | refine Nl.keep (by rfl) ?_))) (liv_hop) rfl) ?_
  refine WO.op rfl rfl rfl rfl (mv_tup rfl) ?_
  refine WO.op rfl rfl rfl rfl (step_extract rfl rfl) ?_
  refine WO.op rfl rfl rfl rfl (step_extract rfl rfl) ?_
  refine WO.op rfl rfl rfl rfl (as_im rfl) ?_
  refine WO.op rfl rfl rfl rfl (as_sc rfl) ?_
  refine WO.nil ?_
  refine W.seq ?_
  refine W.to [(0, _), (1, _), (2, _), (3, _), (4, _)] [] rfl ⟨(by exact sh_sc rfl), (by exact sh_im rfl), (by exact sh_sc rfl), (by exact sh_im rfl), (by exact sh_sc rfl), trivial⟩ ?_
  refine W.region ?_
  refine WO.op rfl rfl rfl rfl (mv_sc rfl) ?_
  refine WO.op rfl rfl rfl rfl (step_int2 rfl rfl rfl) ?_
  refine WO.put 16 (.sc (.bool true)) (by kernel_rfl) ?_
  refine WO.op rfl rfl rfl rfl (mv_sc rfl) ?_
  refine WO.op rfl rfl rfl rfl (mv_im rfl) ?_
  refine WO.op rfl rfl rfl rfl (step_lenB Try.runUnderlying22 rfl) ?_
  refine WO.op rfl rfl rfl rfl (step_int2 rfl rfl rfl) ?_
  refine WO.put 20 (.sc (.bool true)) (by kernel_rfl) ?_
  refine WO.op rfl rfl rfl rfl (pk_t rfl rfl rfl) ?_
  refine WO.op rfl rfl rfl rfl (mv_sc rfl) ?_
  refine WO.op rfl rfl rfl rfl (mv_im rfl) ?_
  refine WO.op rfl rfl rfl rfl (step_idxB (j := 10) Try.runUnderlying22 Try.sizeOf5 rfl rfl (by (exact rfl)) (by decide)) ?_
  refine WO.op rfl rfl rfl rfl (step_loadB Try.isAgg5 rfl (by decide)) ?_
  refine WO.op rfl rfl rfl rfl (step_int2 rfl rfl rfl) ?_
  refine WO.put 26 (.sc (.bool true)) (by kernel_rfl) ?_
  refine WO.op rfl rfl rfl rfl (pk_t rfl rfl rfl) ?_
  refine WO.op rfl rfl rfl rfl (mv_sc rfl) ?_
  refine WO.op rfl rfl rfl rfl (mv_im rfl) ?_
  refine WO.op rfl rfl rfl rfl (step_idxB (j := 11) Try.runUnderlying22 Try.sizeOf5 rfl rfl (by (exact rfl)) (by decide)) ?_
  refine WO.op rfl rfl rfl rfl (step_loadB Try.isAgg5 rfl (by decide)) ?_
  refine WO.op rfl rfl rfl rfl (step_int2 rfl rfl rfl) ?_
  refine WO.put 32 (.sc (.bool true)) (by kernel_rfl) ?_
  refine WO.op rfl rfl rfl rfl (pk_t rfl rfl rfl) ?_
  refine WO.op rfl rfl rfl rfl (mv_sc rfl) ?_
  refine WO.op rfl rfl rfl rfl (mv_sc rfl) ?_
  refine WO.put 35 (.sc (.bool true)) (by kernel_rfl) ?_
  refine WO.op rfl rfl rfl rfl (pk_t rfl rfl rfl) ?_
  refine WO.op rfl rfl rfl rfl (mv_sc rfl) ?_
  refine WO.op rfl rfl rfl rfl (mv_im rfl) ?_
  refine WO.op rfl rfl rfl rfl (step_lenB Try.runUnderlying22 rfl) ?_
  refine WO.op rfl rfl rfl rfl (step_int2 rfl rfl rfl) ?_
  refine WO.put 40 (.sc (.bool true)) (by kernel_rfl) ?_
  refine WO.op rfl rfl rfl rfl (pk_t rfl rfl rfl) ?_
  refine WO.op rfl rfl rfl rfl (mv_sc rfl) ?_
  refine WO.op rfl rfl rfl rfl (mv_im rfl) ?_
  refine WO.op rfl rfl rfl rfl (step_idxB (j := 8) Try.runUnderlying22 Try.sizeOf5 rfl rfl (by (exact rfl)) (by decide)) ?_
  refine WO.op rfl rfl rfl rfl (step_loadB Try.isAgg5 rfl (by decide)) ?_
  refine WO.op rfl rfl rfl rfl (step_int2 rfl rfl rfl) ?_
  refine WO.put 46 (.sc (.bool true)) (by kernel_rfl) ?_
  refine WO.op rfl rfl rfl rfl (pk_t rfl rfl rfl) ?_
  refine WO.op rfl rfl rfl rfl (mv_sc rfl) ?_
  refine WO.op rfl rfl rfl rfl (mv_im rfl) ?_
  refine WO.op rfl rfl rfl rfl (step_pure Try.call11 rfl (by (repeat (first | exact Nl.nil | refine Nl.keep (by rfl) ?_))) (liv_sum) rfl) ?_
  refine WO.op rfl rfl rfl rfl (step_int2 rfl rfl rfl) ?_
  refine WO.put 51 (.sc (.bool true)) (by kernel_rfl) ?_
  refine WO.op rfl rfl rfl rfl (pk_t rfl rfl rfl) ?_
  refine WO.op rfl rfl rfl rfl (as_sc rfl) ?_
  refine WO.nil ?_
  refine W.ret ?_
  refine ⟨.inl rfl, ?_⟩
  exact ret0 (Res.tmp rfl Res.nil) (.keep rfl)

end Go.Proofs.Ytejoccabclibeaa
