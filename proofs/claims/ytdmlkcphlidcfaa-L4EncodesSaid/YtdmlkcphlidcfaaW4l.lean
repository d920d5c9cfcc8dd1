/-
  Contracts of functions of chapter 04: each theorem says what a call of one function answers, for all arguments that its hypotheses let in.
-/
import Derived.Test.YtdmlkcphlidcfaaW4d
import Derived.Test.YtdmlkcphlidcfaaSlW
set_option linter.unusedVariables false
set_option linter.unusedSimpArgs false
set_option maxRecDepth 100000
set_option maxHeartbeats 1000000
namespace Go.Proofs.Ytdmlkcphlidcfaa
open Go Go.SL Go.Proofs

/-- Why a packet can't be read, by protocol; 0 if it can. -/
def icE (l : List UInt8) : Nat := if l.length < 8 then 20 else if fo (ws l l.length) ≠ 65535 then 30 else 0
def udE (src dst : Nat) (l : List UInt8) : Nat := if l.length < 8 then 20 else if be (sub l 4 2) ≠ l.length then 21 else if be (sub l 6 2) = 0 then 0 else if fo (psu src dst 17 l.length + ws l l.length) ≠ 65535 then 30 else 0
def tcS (l : List UInt8) : Nat := 4 * ((l.getD 12 0).toNat / 16)
def tcE (src dst : Nat) (l : List UInt8) : Nat := if l.length < 20 then 20 else if tcS l < 20 then 21 else if l.length < tcS l then 20 else if fo (psu src dst 6 l.length + ws l l.length) ≠ 65535 then 30 else 0

theorem w_num2 {l : List UInt8} {i : Nat} (hi : i + 2 ≤ l.length) (hl : l.length ≤ 200000000000000) : Spec0 Try.prog 23 [.im 1 (l.map byteAV), .sc (.int .i64 ((i : Nat) : Int)), .sc (.int .i64 2)] (.sc (.int .i64 ((be (sub l i 2) : Nat) : Int))) := by
  refine Spec.body Try.func23 rfl (Nat.le_of_ble_eq_true rfl) ?_
  have e2 : be (List.take 2 (List.drop i l)) < 65536 := be2 _
  refine W.seq ?_
  refine W.region ?_
  refine WO.op rfl rfl rfl rfl (as_sc rfl) ?_
  refine WO.nil ?_
  refine W.seq ?_
  refine W.to [(0, _), (1, _), (2, _), (6, _)] [] rfl ⟨(by exact sh_im rfl), (by exact sh_sc rfl), (by exact sh_sc rfl), (by exact sh_sc rfl), trivial⟩ ?_
  refine W.region ?_
  refine WO.op rfl rfl rfl rfl (mv_im rfl) ?_
  refine WO.op rfl rfl rfl rfl (mv_sc rfl) ?_
  refine WO.op rfl rfl rfl rfl (mv_sc rfl) ?_
  refine WO.op rfl rfl rfl rfl (mv_sc rfl) ?_
  refine WO.op rfl rfl rfl rfl (step_addN rfl rfl (by (simp only [cap]; omega))) ?_
  refine WO.op rfl rfl rfl rfl (step_subB Try.runUnderlying23 Try.sizeOf5 rfl (Bd.some rfl (by (exact rfl))) (Bd.some rfl (by (exact rfl))) (by omega) (by omega) (by exact Nat.sub_zero _) rfl) ?_
  refine WO.put 12 (.im 1 ((List.take 2 (List.drop i l)).map byteAV)) (congrArg (fun z : Nat => AV.im 1 ((List.take z (List.drop i l)).map byteAV)) (by exact Nat.add_sub_cancel_left _ _)) ?_
  refine WO.op rfl rfl rfl rfl (step_pure Try.call37 rfl (by (repeat (first | exact Nl.nil | refine Nl.keep (by exact noOwn_im) ?_))) (w_Num2) (by repeat (rfl))) ?_
  refine WO.op rfl rfl rfl rfl (step_convR Try.runUnderlying55 Try.runUnderlying3 rfl (by exact convN (by (simp only [cap]; omega)))) ?_
  refine WO.op rfl rfl rfl rfl (as_sc rfl) ?_
  refine WO.nil ?_
  refine W.ret ?_
  refine ⟨.inl rfl, ?_⟩
  exact ret0 (Res.tmp rfl Res.nil) (.keep rfl)

theorem w_num4 {l : List UInt8} {i : Nat} (hi : i + 4 ≤ l.length) (hl : l.length ≤ 200000000000000) : Spec0 Try.prog 23 [.im 1 (l.map byteAV), .sc (.int .i64 ((i : Nat) : Int)), .sc (.int .i64 4)] (.sc (.int .i64 ((be (sub l i 4) : Nat) : Int))) := by
  refine Spec.body Try.func23 rfl (Nat.le_of_ble_eq_true rfl) ?_
  have e2 : be (List.take 4 (List.drop i l)) < 4294967296 := be4 _
  refine W.seq ?_
  refine W.region ?_
  refine WO.op rfl rfl rfl rfl (as_sc rfl) ?_
  refine WO.nil ?_
  refine W.seq ?_
  refine W.to [(0, _), (1, _), (2, _), (6, _)] [] rfl ⟨(by exact sh_im rfl), (by exact sh_sc rfl), (by exact sh_sc rfl), (by exact sh_sc rfl), trivial⟩ ?_
  refine W.region ?_
  refine WO.op rfl rfl rfl rfl (mv_im rfl) ?_
  refine WO.op rfl rfl rfl rfl (mv_sc rfl) ?_
  refine WO.op rfl rfl rfl rfl (mv_sc rfl) ?_
  refine WO.op rfl rfl rfl rfl (mv_sc rfl) ?_
  refine WO.op rfl rfl rfl rfl (step_addN rfl rfl (by (simp only [cap]; omega))) ?_
  refine WO.op rfl rfl rfl rfl (step_subB Try.runUnderlying23 Try.sizeOf5 rfl (Bd.some rfl (by (exact rfl))) (Bd.some rfl (by (exact rfl))) (by omega) (by omega) (by exact Nat.sub_zero _) rfl) ?_
  refine WO.put 12 (.im 1 ((List.take 4 (List.drop i l)).map byteAV)) (congrArg (fun z : Nat => AV.im 1 ((List.take z (List.drop i l)).map byteAV)) (by exact Nat.add_sub_cancel_left _ _)) ?_
  refine WO.op rfl rfl rfl rfl (step_pure Try.call37 rfl (by (repeat (first | exact Nl.nil | refine Nl.keep (by exact noOwn_im) ?_))) (w_Num4) (by repeat (rfl))) ?_
  refine WO.op rfl rfl rfl rfl (step_convR Try.runUnderlying55 Try.runUnderlying3 rfl (by exact convN (by (simp only [cap]; omega)))) ?_
  refine WO.op rfl rfl rfl rfl (as_sc rfl) ?_
  refine WO.nil ?_
  refine W.ret ?_
  refine ⟨.inl rfl, ?_⟩
  exact ret0 (Res.tmp rfl Res.nil) (.keep rfl)

end Go.Proofs.Ytdmlkcphlidcfaa
