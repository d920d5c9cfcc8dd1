/-
  Contracts of functions of chapter 03: each theorem says what a call of one function answers, for all arguments that its hypotheses let in.
-/
import Derived.Test.YtejoccabclibeaaW3b
set_option linter.unusedVariables false
set_option linter.unusedSimpArgs false
set_option maxRecDepth 100000
set_option maxHeartbeats 1000000
namespace Go.Proofs.Ytejoccabclibeaa
open Go Go.SL Go.Proofs

theorem hd_ok {l : List UInt8} (h : hdE l = 0) : 20 ≤ l.length ∧ 20 ≤ hdS l ∧ hdS l ≤ l.length := by
  unfold hdE at h
  split at h; · omega
  split at h; · omega
  split at h; · omega
  omega
theorem w_headG {l : List UInt8} (hl : l.length ≤ 200000000000000) (h : hdE l = 0) : Spec0 Try.prog 20 [.im 1 (l.map byteAV)] (.tup [.sc (.int .i64 ((hdS l : Nat) : Int)), .sc (.int .i64 0)]) := by
  have := w_head hl
  rw [if_pos h, h] at this
  exact this
theorem w_headX {l : List UInt8} (hl : l.length ≤ 200000000000000) (h : hdE l ≠ 0) : Spec0 Try.prog 20 [.im 1 (l.map byteAV)] (.tup [.sc (.int .i64 0), .sc (.int .i64 ((hdE l : Nat) : Int))]) := by
  have := w_head hl
  rw [if_neg h] at this
  exact this
def sub (l : List UInt8) (i n : Nat) : List UInt8 := (l.drop i).take n
def u16at (l : List UInt8) (i : Nat) : Nat := be (sub l i 2) % 4294967296 % 65536
def hopOK (l : List UInt8) : Prop := hdE l = 0 ∧ hdS l ≤ be (sub l 2 2) % 4294967296 ∧ fo (ws (sub l 0 (hdS l)) (sub l 0 (hdS l)).length) = 65535 ∧ 2 ≤ (l.getD 8 0).toNat
def hopC (l : List UInt8) : List UInt8 := l.set 8 (UInt8.ofNat ((l.getD 8 0).toNat - 1))
def hopN (l : List UInt8) : Nat := 65535 - fo ((65535 - u16at l 10) + (65535 - u16at l 8) + u16at (hopC l) 8)
def hopB (l : List UInt8) : List UInt8 := putN (hopC l) 10 2 (hopN l) 2

theorem w_HopX1 {l : List UInt8} (hl : l.length ≤ 200000000000000) (h : hdE l ≠ 0) : Spec0 Try.prog 8 [.im 1 (l.map byteAV)] (.tup [.im 1 (([] : List UInt8).map byteAV), .sc (.bool false)]) := by
  refine Spec.body Try.func8 rfl (Nat.le_of_ble_eq_true rfl) ?_
  refine W.seq ?_
  refine W.region ?_
  refine WO.op rfl rfl rfl rfl (as_nil rfl) ?_
  refine WO.op rfl rfl rfl rfl (as_sc rfl) ?_
  refine WO.nil ?_
  refine W.seq ?_
  refine W.to [(0, _), (2, _), (3, _)] [] rfl ⟨(by exact sh_im rfl), (by exact sh_nil rfl), (by exact sh_sc rfl), trivial⟩ ?_
  refine W.region ?_
  refine WO.op rfl rfl rfl rfl (mv_im rfl) ?_
  refine WO.op rfl rfl rfl rfl (step_pure Try.call20 rfl (by (repeat (first | exact Nl.nil | refine Nl.keep (by exact noOwn_im) ?_))) (w_headX hl h) rfl) ?_
  refine WO.op rfl rfl rfl rfl (mv_tup rfl) ?_
  refine WO.op rfl rfl rfl rfl (step_extract rfl rfl) ?_
  refine WO.op rfl rfl rfl rfl (step_extract rfl rfl) ?_
  refine WO.op rfl rfl rfl rfl (as_sc rfl) ?_
  refine WO.op rfl rfl rfl rfl (as_sc rfl) ?_
  refine WO.nil ?_
  refine W.seq ?_
  refine W.seq ?_
  refine W.to [(0, _), (2, _), (3, _), (4, _), (5, _)] [] rfl ⟨(by exact sh_im rfl), (by exact sh_nil rfl), (by exact sh_sc rfl), (by exact sh_sc rfl), (by exact sh_sc rfl), trivial⟩ ?_
  refine W.region ?_
  refine WO.op rfl rfl rfl rfl (mv_sc rfl) ?_
  refine WO.op rfl rfl rfl rfl (step_int2 rfl rfl rfl) ?_
  refine WO.op rfl rfl rfl rfl (mv_sc rfl) ?_
  refine WO.spl 15 rfl (fun h1 => ?_) (fun h1 => ?_)
  · try simp only [decide_eq_true_eq, decide_eq_false_iff_not, Bool.not_eq_true', Bool.not_eq_false', beq_iff_eq, bne_iff_ne, beq_eq_false_iff_ne, bne_eq_false_iff_eq, gt_iff_lt, ge_iff_le, Int.not_lt, Int.not_le] at h1
    refine WO.sk rfl rfl rfl rfl ?_
    refine WO.sk rfl rfl rfl rfl ?_
    refine WO.sk rfl rfl rfl rfl ?_
    refine WO.sk rfl rfl rfl rfl ?_
    refine WO.sk rfl rfl rfl rfl ?_
    refine WO.sk rfl rfl rfl rfl ?_
    refine WO.op rfl rfl rfl rfl (pk_t rfl rfl rfl) ?_
    refine WO.op rfl rfl rfl rfl (mv_sc rfl) ?_
    refine WO.sk rfl rfl rfl rfl ?_
    refine WO.sk rfl rfl rfl rfl ?_
    refine WO.sk rfl rfl rfl rfl ?_
    refine WO.sk rfl rfl rfl rfl ?_
    refine WO.sk rfl rfl rfl rfl ?_
    refine WO.op rfl rfl rfl rfl (pk_t rfl rfl rfl) ?_
    refine WO.op rfl rfl rfl rfl (mv_sc rfl) ?_
    refine WO.sk rfl rfl rfl rfl ?_
    refine WO.sk rfl rfl rfl rfl ?_
    refine WO.sk rfl rfl rfl rfl ?_
    refine WO.sk rfl rfl rfl rfl ?_
    refine WO.op rfl rfl rfl rfl (pk_t rfl rfl rfl) ?_
    refine WO.nil ?_
    refine W.condT rfl ?_
    refine W.seq ?_
    refine W.to [(0, _), (2, _), (3, _), (4, _), (5, _), (35, _)] [] rfl ⟨(by exact sh_im rfl), (by exact sh_nil rfl), (by exact sh_sc rfl), (by exact sh_sc rfl), (by exact sh_sc rfl), (by exact sh_sc rfl), trivial⟩ ?_
    refine W.region ?_
    refine WO.op rfl rfl rfl rfl (as_nil rfl) ?_
    refine WO.op rfl rfl rfl rfl (as_sc rfl) ?_
    refine WO.nil ?_
    refine W.wk 2 (.im 1 (([] : List UInt8).map byteAV)) Wk.noneB ?_
    refine W.ret ?_
    refine ⟨.inl rfl, ?_⟩
    exact ret0 (Res.tmp rfl (Res.tmp rfl Res.nil)) (.keep rfl)
  · try simp only [decide_eq_true_eq, decide_eq_false_iff_not, Bool.not_eq_true', Bool.not_eq_false', beq_iff_eq, bne_iff_ne, beq_eq_false_iff_ne, bne_eq_false_iff_eq, gt_iff_lt, ge_iff_le, Int.not_lt, Int.not_le] at h1
    exact False.elim (by omega)

theorem w_HopX2 {l : List UInt8} (hl : l.length ≤ 200000000000000) (h0 : hdE l = 0) (h : ¬ hopOK l) : Spec0 Try.prog 8 [.im 1 (l.map byteAV)] (.tup [.im 1 (([] : List UInt8).map byteAV), .sc (.bool false)]) := by
  refine Spec.body Try.func8 rfl (Nat.le_of_ble_eq_true rfl) ?_
  have hq := hd_ok h0
  obtain ⟨q1, q2, q3⟩ := hq
  have hb8 := byte_le (l.getD 8 0)
  refine W.seq ?_
  refine W.region ?_
  refine WO.op rfl rfl rfl rfl (as_nil rfl) ?_
  refine WO.op rfl rfl rfl rfl (as_sc rfl) ?_
  refine WO.nil ?_
  refine W.seq ?_
  refine W.to [(0, _), (2, _), (3, _)] [] rfl ⟨(by exact sh_im rfl), (by exact sh_nil rfl), (by exact sh_sc rfl), trivial⟩ ?_
  refine W.region ?_
  refine WO.op rfl rfl rfl rfl (mv_im rfl) ?_
  refine WO.op rfl rfl rfl rfl (step_pure Try.call20 rfl (by (repeat (first | exact Nl.nil | refine Nl.keep (by exact noOwn_im) ?_))) (w_headG hl h0) rfl) ?_
  refine WO.op rfl rfl rfl rfl (mv_tup rfl) ?_
  refine WO.op rfl rfl rfl rfl (step_extract rfl rfl) ?_
  refine WO.op rfl rfl rfl rfl (step_extract rfl rfl) ?_
  refine WO.op rfl rfl rfl rfl (as_sc rfl) ?_
  refine WO.op rfl rfl rfl rfl (as_sc rfl) ?_
  refine WO.nil ?_
  refine W.seq ?_
  refine W.seq ?_
  refine W.to [(0, _), (2, _), (3, _), (4, _), (5, _)] [] rfl ⟨(by exact sh_im rfl), (by exact sh_nil rfl), (by exact sh_sc rfl), (by exact sh_sc rfl), (by exact sh_sc rfl), trivial⟩ ?_
  refine W.region ?_
  refine WO.op rfl rfl rfl rfl (mv_sc rfl) ?_
  refine WO.op rfl rfl rfl rfl (step_int2 rfl rfl rfl) ?_
  refine WO.op rfl rfl rfl rfl (mv_sc rfl) ?_
  refine WO.spl 15 rfl (fun h1 => ?_) (fun h1 => ?_)
  · try simp only [decide_eq_true_eq, decide_eq_false_iff_not, Bool.not_eq_true', Bool.not_eq_false', beq_iff_eq, bne_iff_ne, beq_eq_false_iff_ne, bne_eq_false_iff_eq, gt_iff_lt, ge_iff_le, Int.not_lt, Int.not_le] at h1
    exact False.elim (by omega)
  · try simp only [decide_eq_true_eq, decide_eq_false_iff_not, Bool.not_eq_true', Bool.not_eq_false', beq_iff_eq, bne_iff_ne, beq_eq_false_iff_ne, bne_eq_false_iff_eq, gt_iff_lt, ge_iff_le, Int.not_lt, Int.not_le] at h1
    refine WO.op rfl rfl rfl rfl (mv_im rfl) ?_
    refine WO.op rfl rfl rfl rfl (step_subB (m := 2) Try.runUnderlying22 Try.sizeOf5 rfl (Bd.some (v := 2) rfl (by (exact rfl))) (Bd.some (v := 4) rfl (by (exact rfl))) (by omega) (by omega) (by exact Nat.sub_zero _) rfl) ?_
    refine WO.op rfl rfl rfl rfl (step_pure Try.call21 rfl (by (repeat (first | exact Nl.nil | refine Nl.keep (by exact noOwn_im) ?_))) (w_get (by (simp only [List.length_take, List.length_drop] ; omega))) rfl) ?_
    refine WO.op rfl rfl rfl rfl (step_convR Try.runUnderlying29 Try.runUnderlying3 rfl (by exact convN (by (simp only [cap]; omega)))) ?_
    refine WO.op rfl rfl rfl rfl (mv_sc rfl) ?_
    refine WO.op rfl rfl rfl rfl (step_int2 rfl rfl rfl) ?_
    refine WO.op rfl rfl rfl rfl (pk_f rfl rfl rfl) ?_
    refine WO.op rfl rfl rfl rfl (mv_sc rfl) ?_
    refine WO.spl 23 rfl (fun h2 => ?_) (fun h2 => ?_)
    · try simp only [decide_eq_true_eq, decide_eq_false_iff_not, Bool.not_eq_true', Bool.not_eq_false', beq_iff_eq, bne_iff_ne, beq_eq_false_iff_ne, bne_eq_false_iff_eq, gt_iff_lt, ge_iff_le, Int.not_lt, Int.not_le] at h2
      refine WO.sk rfl rfl rfl rfl ?_
      refine WO.sk rfl rfl rfl rfl ?_
      refine WO.sk rfl rfl rfl rfl ?_
      refine WO.sk rfl rfl rfl rfl ?_
      refine WO.sk rfl rfl rfl rfl ?_
      refine WO.op rfl rfl rfl rfl (pk_t rfl rfl rfl) ?_
      refine WO.op rfl rfl rfl rfl (mv_sc rfl) ?_
      refine WO.sk rfl rfl rfl rfl ?_
      refine WO.sk rfl rfl rfl rfl ?_
      refine WO.sk rfl rfl rfl rfl ?_
      refine WO.sk rfl rfl rfl rfl ?_
      refine WO.op rfl rfl rfl rfl (pk_t rfl rfl rfl) ?_
      refine WO.nil ?_
      refine W.condT rfl ?_
      refine W.seq ?_
      refine W.to [(0, _), (2, _), (3, _), (4, _), (5, _), (35, _)] [] rfl ⟨(by exact sh_im rfl), (by exact sh_nil rfl), (by exact sh_sc rfl), (by exact sh_sc rfl), (by exact sh_sc rfl), (by exact sh_sc rfl), trivial⟩ ?_
      refine W.region ?_
      refine WO.op rfl rfl rfl rfl (as_nil rfl) ?_
      refine WO.op rfl rfl rfl rfl (as_sc rfl) ?_
      refine WO.nil ?_
      refine W.wk 2 (.im 1 (([] : List UInt8).map byteAV)) Wk.noneB ?_
      refine W.ret ?_
      refine ⟨.inl rfl, ?_⟩
      exact ret0 (Res.tmp rfl (Res.tmp rfl Res.nil)) (.keep rfl)
    · try simp only [decide_eq_true_eq, decide_eq_false_iff_not, Bool.not_eq_true', Bool.not_eq_false', beq_iff_eq, bne_iff_ne, beq_eq_false_iff_ne, bne_eq_false_iff_eq, gt_iff_lt, ge_iff_le, Int.not_lt, Int.not_le] at h2
      refine WO.op rfl rfl rfl rfl (mv_im rfl) ?_
      refine WO.op rfl rfl rfl rfl (mv_sc rfl) ?_
      refine WO.op rfl rfl rfl rfl (step_subB Try.runUnderlying22 Try.sizeOf5 rfl Bd.none (Bd.some rfl (by (exact rfl))) (by omega) (by omega) (by exact Nat.sub_zero _) rfl) ?_
      refine WO.op rfl rfl rfl rfl (step_pure Try.call11 rfl (by (repeat (first | exact Nl.nil | refine Nl.keep (by exact noOwn_im) ?_))) (w_Sum (by (simp only [List.length_take, List.length_drop]; omega))) rfl) ?_
      refine WO.op rfl rfl rfl rfl (step_int2 rfl rfl rfl) ?_
      refine WO.op rfl rfl rfl rfl (pk_f rfl rfl rfl) ?_
      refine WO.op rfl rfl rfl rfl (mv_sc rfl) ?_
      refine WO.spl 30 rfl (fun h3 => ?_) (fun h3 => ?_)
      · try simp only [decide_eq_true_eq, decide_eq_false_iff_not, Bool.not_eq_true', Bool.not_eq_false', beq_iff_eq, bne_iff_ne, beq_eq_false_iff_ne, bne_eq_false_iff_eq, gt_iff_lt, ge_iff_le, Int.not_lt, Int.not_le] at h3
        refine WO.sk rfl rfl rfl rfl ?_
        refine WO.sk rfl rfl rfl rfl ?_
        refine WO.sk rfl rfl rfl rfl ?_
        refine WO.sk rfl rfl rfl rfl ?_
        refine WO.op rfl rfl rfl rfl (pk_t rfl rfl rfl) ?_
        refine WO.nil ?_
        refine W.condT rfl ?_
        refine W.seq ?_
        refine W.to [(0, _), (2, _), (3, _), (4, _), (5, _), (35, _)] [] rfl ⟨(by exact sh_im rfl), (by exact sh_nil rfl), (by exact sh_sc rfl), (by exact sh_sc rfl), (by exact sh_sc rfl), (by exact sh_sc rfl), trivial⟩ ?_
        refine W.region ?_
        refine WO.op rfl rfl rfl rfl (as_nil rfl) ?_
        refine WO.op rfl rfl rfl rfl (as_sc rfl) ?_
        refine WO.nil ?_
        refine W.wk 2 (.im 1 (([] : List UInt8).map byteAV)) Wk.noneB ?_
        refine W.ret ?_
        refine ⟨.inl rfl, ?_⟩
        exact ret0 (Res.tmp rfl (Res.tmp rfl Res.nil)) (.keep rfl)
      · try simp only [decide_eq_true_eq, decide_eq_false_iff_not, Bool.not_eq_true', Bool.not_eq_false', beq_iff_eq, bne_iff_ne, beq_eq_false_iff_ne, bne_eq_false_iff_eq, gt_iff_lt, ge_iff_le, Int.not_lt, Int.not_le] at h3
        refine WO.op rfl rfl rfl rfl (mv_im rfl) ?_
        refine WO.op rfl rfl rfl rfl (step_idxB (j := 8) Try.runUnderlying22 Try.sizeOf5 rfl rfl (by (exact rfl)) (by omega)) ?_
        refine WO.op rfl rfl rfl rfl (step_loadB Try.isAgg5 rfl (by omega)) ?_
        refine WO.op rfl rfl rfl rfl (step_int2 rfl rfl rfl) ?_
        refine WO.op rfl rfl rfl rfl (pk_f rfl rfl rfl) ?_
        refine WO.nil ?_
        refine W.cond rfl (fun h4 => ?_) (fun h4 => ?_)
        · try simp only [decide_eq_true_eq, decide_eq_false_iff_not, Bool.not_eq_true', Bool.not_eq_false', beq_iff_eq, bne_iff_ne, beq_eq_false_iff_ne, bne_eq_false_iff_eq, gt_iff_lt, ge_iff_le, Int.not_lt, Int.not_le] at h4
          refine W.seq ?_
          refine W.to [(0, _), (2, _), (3, _), (4, _), (5, _), (35, _)] [] rfl ⟨(by exact sh_im rfl), (by exact sh_nil rfl), (by exact sh_sc rfl), (by exact sh_sc rfl), (by exact sh_sc rfl), (by exact sh_sc rfl), trivial⟩ ?_
          refine W.region ?_
          refine WO.op rfl rfl rfl rfl (as_nil rfl) ?_
          refine WO.op rfl rfl rfl rfl (as_sc rfl) ?_
          refine WO.nil ?_
          refine W.wk 2 (.im 1 (([] : List UInt8).map byteAV)) Wk.noneB ?_
          refine W.ret ?_
          refine ⟨.inl rfl, ?_⟩
          exact ret0 (Res.tmp rfl (Res.tmp rfl Res.nil)) (.keep rfl)
        · try simp only [decide_eq_true_eq, decide_eq_false_iff_not, Bool.not_eq_true', Bool.not_eq_false', beq_iff_eq, bne_iff_ne, beq_eq_false_iff_ne, bne_eq_false_iff_eq, gt_iff_lt, ge_iff_le, Int.not_lt, Int.not_le] at h4
          exact False.elim (h ⟨h0, by simp only [sub] at *; omega, by simp only [sub] at *; omega, by omega⟩)

theorem w_HopG {l : List UInt8} (hl : l.length ≤ 200000000000000) (h : hopOK l) : Spec0 Try.prog 8 [.im 1 (l.map byteAV)] (.tup [.im 1 ((hopB l).map byteAV), .sc (.bool true)]) := by
  refine Spec.body Try.func8 rfl (Nat.le_of_ble_eq_true rfl) ?_
  obtain ⟨h0, hA, hB, hC⟩ := h
  simp only [sub] at hA hB
  have hq := hd_ok h0
  obtain ⟨q1, q2, q3⟩ := hq
  have hb8 := byte_le (l.getD 8 0)
  refine W.seq ?_
  refine W.region ?_
  refine WO.op rfl rfl rfl rfl (as_nil rfl) ?_
  refine WO.op rfl rfl rfl rfl (as_sc rfl) ?_
  refine WO.nil ?_
  refine W.seq ?_
  refine W.to [(0, _), (2, _), (3, _)] [] rfl ⟨(by exact sh_im rfl), (by exact sh_nil rfl), (by exact sh_sc rfl), trivial⟩ ?_
  refine W.region ?_
  refine WO.op rfl rfl rfl rfl (mv_im rfl) ?_
  refine WO.op rfl rfl rfl rfl (step_pure Try.call20 rfl (by (repeat (first | exact Nl.nil | refine Nl.keep (by exact noOwn_im) ?_))) (w_headG hl h0) rfl) ?_
  refine WO.op rfl rfl rfl rfl (mv_tup rfl) ?_
  refine WO.op rfl rfl rfl rfl (step_extract rfl rfl) ?_
  refine WO.op rfl rfl rfl rfl (step_extract rfl rfl) ?_
  refine WO.op rfl rfl rfl rfl (as_sc rfl) ?_
  refine WO.op rfl rfl rfl rfl (as_sc rfl) ?_
  refine WO.nil ?_
  refine W.seq ?_
  refine W.seq ?_
  refine W.to [(0, _), (2, _), (3, _), (4, _), (5, _)] [] rfl ⟨(by exact sh_im rfl), (by exact sh_nil rfl), (by exact sh_sc rfl), (by exact sh_sc rfl), (by exact sh_sc rfl), trivial⟩ ?_
  refine W.region ?_
  refine WO.op rfl rfl rfl rfl (mv_sc rfl) ?_
  refine WO.op rfl rfl rfl rfl (step_int2 rfl rfl rfl) ?_
  refine WO.op rfl rfl rfl rfl (mv_sc rfl) ?_
  refine WO.spl 15 rfl (fun h1 => ?_) (fun h1 => ?_)
  · try simp only [decide_eq_true_eq, decide_eq_false_iff_not, Bool.not_eq_true', Bool.not_eq_false', beq_iff_eq, bne_iff_ne, beq_eq_false_iff_ne, bne_eq_false_iff_eq, gt_iff_lt, ge_iff_le, Int.not_lt, Int.not_le] at h1
    exact False.elim (by omega)
  · try simp only [decide_eq_true_eq, decide_eq_false_iff_not, Bool.not_eq_true', Bool.not_eq_false', beq_iff_eq, bne_iff_ne, beq_eq_false_iff_ne, bne_eq_false_iff_eq, gt_iff_lt, ge_iff_le, Int.not_lt, Int.not_le] at h1
    refine WO.op rfl rfl rfl rfl (mv_im rfl) ?_
    refine WO.op rfl rfl rfl rfl (step_subB (m := 2) Try.runUnderlying22 Try.sizeOf5 rfl (Bd.some (v := 2) rfl (by (exact rfl))) (Bd.some (v := 4) rfl (by (exact rfl))) (by omega) (by omega) (by exact Nat.sub_zero _) rfl) ?_
    refine WO.op rfl rfl rfl rfl (step_pure Try.call21 rfl (by (repeat (first | exact Nl.nil | refine Nl.keep (by exact noOwn_im) ?_))) (w_get (by (simp only [List.length_take, List.length_drop] ; omega))) rfl) ?_
    refine WO.op rfl rfl rfl rfl (step_convR Try.runUnderlying29 Try.runUnderlying3 rfl (by exact convN (by (simp only [cap]; omega)))) ?_
    refine WO.op rfl rfl rfl rfl (mv_sc rfl) ?_
    refine WO.op rfl rfl rfl rfl (step_int2 rfl rfl rfl) ?_
    refine WO.op rfl rfl rfl rfl (pk_f rfl rfl rfl) ?_
    refine WO.op rfl rfl rfl rfl (mv_sc rfl) ?_
    refine WO.spl 23 rfl (fun h2 => ?_) (fun h2 => ?_)
    · try simp only [decide_eq_true_eq, decide_eq_false_iff_not, Bool.not_eq_true', Bool.not_eq_false', beq_iff_eq, bne_iff_ne, beq_eq_false_iff_ne, bne_eq_false_iff_eq, gt_iff_lt, ge_iff_le, Int.not_lt, Int.not_le] at h2
      exact False.elim (by omega)
    · try simp only [decide_eq_true_eq, decide_eq_false_iff_not, Bool.not_eq_true', Bool.not_eq_false', beq_iff_eq, bne_iff_ne, beq_eq_false_iff_ne, bne_eq_false_iff_eq, gt_iff_lt, ge_iff_le, Int.not_lt, Int.not_le] at h2
      refine WO.op rfl rfl rfl rfl (mv_im rfl) ?_
      refine WO.op rfl rfl rfl rfl (mv_sc rfl) ?_
      refine WO.op rfl rfl rfl rfl (step_subB Try.runUnderlying22 Try.sizeOf5 rfl Bd.none (Bd.some rfl (by (exact rfl))) (by omega) (by omega) (by exact Nat.sub_zero _) rfl) ?_
      refine WO.op rfl rfl rfl rfl (step_pure Try.call11 rfl (by (repeat (first | exact Nl.nil | refine Nl.keep (by exact noOwn_im) ?_))) (w_Sum (by (simp only [List.length_take, List.length_drop]; omega))) rfl) ?_
      refine WO.op rfl rfl rfl rfl (step_int2 rfl rfl rfl) ?_
      refine WO.op rfl rfl rfl rfl (pk_f rfl rfl rfl) ?_
      refine WO.op rfl rfl rfl rfl (mv_sc rfl) ?_
      refine WO.spl 30 rfl (fun h3 => ?_) (fun h3 => ?_)
      · try simp only [decide_eq_true_eq, decide_eq_false_iff_not, Bool.not_eq_true', Bool.not_eq_false', beq_iff_eq, bne_iff_ne, beq_eq_false_iff_ne, bne_eq_false_iff_eq, gt_iff_lt, ge_iff_le, Int.not_lt, Int.not_le] at h3
        exact False.elim (by omega)
      · try simp only [decide_eq_true_eq, decide_eq_false_iff_not, Bool.not_eq_true', Bool.not_eq_false', beq_iff_eq, bne_iff_ne, beq_eq_false_iff_ne, bne_eq_false_iff_eq, gt_iff_lt, ge_iff_le, Int.not_lt, Int.not_le] at h3
        refine WO.op rfl rfl rfl rfl (mv_im rfl) ?_
        refine WO.op rfl rfl rfl rfl (step_idxB (j := 8) Try.runUnderlying22 Try.sizeOf5 rfl rfl (by (exact rfl)) (by omega)) ?_
        refine WO.op rfl rfl rfl rfl (step_loadB Try.isAgg5 rfl (by omega)) ?_
        refine WO.op rfl rfl rfl rfl (step_int2 rfl rfl rfl) ?_
        refine WO.op rfl rfl rfl rfl (pk_f rfl rfl rfl) ?_
        refine WO.nil ?_
        refine W.cond rfl (fun h4 => ?_) (fun h4 => ?_)
        · try simp only [decide_eq_true_eq, decide_eq_false_iff_not, Bool.not_eq_true', Bool.not_eq_false', beq_iff_eq, bne_iff_ne, beq_eq_false_iff_ne, bne_eq_false_iff_eq, gt_iff_lt, ge_iff_le, Int.not_lt, Int.not_le] at h4
          exact False.elim (by omega)
        · try simp only [decide_eq_true_eq, decide_eq_false_iff_not, Bool.not_eq_true', Bool.not_eq_false', beq_iff_eq, bne_iff_ne, beq_eq_false_iff_ne, bne_eq_false_iff_eq, gt_iff_lt, ge_iff_le, Int.not_lt, Int.not_le] at h4
          refine W.skip ?_
          refine W.seq ?_
          refine W.to [(0, _), (2, _), (3, _), (4, _), (5, _), (35, _)] [] rfl ⟨(by exact sh_im rfl), (by exact sh_nil rfl), (by exact sh_sc rfl), (by exact sh_sc rfl), (by exact sh_sc rfl), (by exact sh_sc rfl), trivial⟩ ?_
          refine W.region ?_
          refine WO.opA rfl rfl rfl rfl (al_buildSlice Try.runUnderlying22 (z := (Value.int IntKind.u8 0)) (bs := 1) (esz := 1) (EI.mk (by kernel_rfl)) rfl (by decide) rfl rfl) rfl rfl ?_
          refine WO.put 36 (.sl 0 0 _) rfl ?_
          refine WO.op rfl rfl rfl rfl (mv_im rfl) ?_
          refine WO.op rfl rfl rfl rfl (step_appE Try.runUnderlying22 (EI.mk (by kernel_rfl)) Try.runUnderlying22 (.inl ⟨_, rfl⟩) rfl rfl (Src.imB rfl) (by omega)) ?_
          refine WO.put 38 (.sl 1 0 _) rfl ?_
          refine WO.op rfl rfl rfl rfl (as_sl rfl) ?_
          refine WO.nil ?_
          refine W.seq ?_
          refine W.to [(0, _), (2, _), (3, _), (4, _), (5, _), (6, _), (35, _)] [_, _] rfl ⟨(by exact sh_im rfl), (by exact sh_nil rfl), (by exact sh_sc rfl), (by exact sh_sc rfl), (by exact sh_sc rfl), (by exact sh_sl rfl), (by exact sh_sc rfl), trivial⟩ ?_
          refine W.region ?_
          refine WO.op rfl rfl rfl rfl (mv_sl rfl) ?_
          refine WO.op rfl rfl rfl rfl (step_idxO (j := 8) Try.runUnderlying22 Try.sizeOf5 rfl rfl rfl (by (exact rfl)) (by omega) (by exact Nat.zero_add _)) ?_
          refine WO.op rfl rfl rfl rfl (step_loadO Try.isAgg5 rfl rfl (by omega)) ?_
          refine WO.op rfl rfl rfl rfl (step_subN (q := 1) rfl rfl (by omega) (by (simp only [cap]; omega))) ?_
          refine WO.op rfl rfl rfl rfl (step_idxO (j := 8) Try.runUnderlying22 Try.sizeOf5 rfl rfl rfl (by (exact rfl)) (by omega) (by exact Nat.zero_add _)) ?_
          refine WO.op0 rfl rfl rfl (step_storeB (b := _) Try.sizeOf5 rfl rfl rfl (by (exact u8_nat (by omega))) (by omega)) ?_
          refine WO.nil ?_
          refine W.seq ?_
          refine W.to [(0, _), (2, _), (3, _), (4, _), (5, _), (6, _), (35, _)] [_, _] rfl ⟨(by exact sh_im rfl), (by exact sh_nil rfl), (by exact sh_sc rfl), (by exact sh_sc rfl), (by exact sh_sc rfl), (by exact sh_sl rfl), (by exact sh_sc rfl), trivial⟩ ?_
          refine W.gatC [_] [] _ rfl rfl ?_
          intro L6 hL6
          have hl6 : L6.length = l.length := by rw [hL6]; simp only [List.length_set]
          refine W.draw (Checked.mixed Try.checked) ?_
          refine DC.op rfl rfl rfl (fun _ => mv_im rfl) ?_
          refine DC.op rfl rfl rfl (fun _ => step_subB (m := 2) Try.runUnderlying22 Try.sizeOf5 rfl (Bd.some (v := 10) rfl (by (exact rfl))) (Bd.some (v := 12) rfl (by (exact rfl))) (by omega) (by omega) (by exact Nat.sub_zero _) rfl) ?_
          refine DC.op rfl rfl rfl (fun _ => step_pure Try.call21 rfl (by (repeat (first | exact Nl.nil | refine Nl.keep (by exact noOwn_im) ?_))) (w_get (by (simp only [List.length_take, List.length_drop] ; omega))) rfl) ?_
          refine DC.op rfl rfl rfl (fun _ => step_convR Try.runUnderlying29 Try.runUnderlying26 rfl (by exact modN16 _)) ?_
          refine DC.op rfl rfl rfl (fun _ => mv_im rfl) ?_
          refine DC.op rfl rfl rfl (fun _ => step_subB (m := 2) Try.runUnderlying22 Try.sizeOf5 rfl (Bd.some (v := 8) rfl (by (exact rfl))) (Bd.some (v := 10) rfl (by (exact rfl))) (by omega) (by omega) (by exact Nat.sub_zero _) rfl) ?_
          refine DC.op rfl rfl rfl (fun _ => step_pure Try.call21 rfl (by (repeat (first | exact Nl.nil | refine Nl.keep (by exact noOwn_im) ?_))) (w_get (by (simp only [List.length_take, List.length_drop] ; omega))) rfl) ?_
          refine DC.op rfl rfl rfl (fun _ => step_convR Try.runUnderlying29 Try.runUnderlying26 rfl (by exact modN16 _)) ?_
          refine DC.op rfl rfl rfl (fun _ => mv_sl rfl) ?_
          refine DC.op1 rfl rfl rfl rfl (fun _ ho => step_subO (m := 2) (a := 8) Try.runUnderlying22 Try.sizeOf5 rfl ho (Bd.some (v := 8) rfl (by (exact rfl))) (Bd.some (v := 10) rfl (by (exact rfl))) (by omega) (by omega) (Nat.zero_add _) (by exact Nat.sub_zero _)) ?_
          refine DC.op1 (j := 1) rfl rfl rfl rfl (fun _ ho => step_lent Try.call21 rfl (by (repeat (first | exact Bw.nil | refine Bw.slB ho (by (exact take_map)) (by (simp only [List.length_map, List.length_append, List.length_take, List.length_drop, List.length_set, List.length_cons, List.length_nil, List.length_replicate] <;> omega)) ?_))) (w_get (by (simp only [List.length_take, List.length_drop] ; omega))) rfl) ?_
          refine DC.op rfl rfl rfl (fun _ => step_convR Try.runUnderlying29 Try.runUnderlying26 rfl (by exact modN16 _)) ?_
          refine DC.op rfl rfl rfl (fun _ => step_pure Try.call22 rfl (by (repeat (first | exact Nl.nil | refine Nl.keep (by rfl) ?_))) (w_Update (by omega) (by omega) (by omega)) rfl) ?_
          refine DC.op rfl rfl rfl (fun _ => as_sc rfl) ?_
          refine DC.fin [(1, 0), (2, 0), (3, 0), (5, 0), (6, 0), (7, 0), (9, 0), (10, 0), (11, 0), (12, 0)] (by kernel_rfl) (by kernel_rfl) ?_ ?_
          · repeat (first | exact True.intro | refine And.intro ?_ ?_ | kernel_rfl)
          · refine W.seq ?_
            refine W.to [(0, _), (2, _), (3, _), (4, _), (5, _), (6, _), (7, _), (35, _)] [_, _] rfl ⟨(by exact sh_im rfl), (by exact sh_nil rfl), (by exact sh_sc rfl), (by exact sh_sc rfl), (by exact sh_sc rfl), (by exact sh_sl rfl), (by exact sh_sc rfl), (by exact sh_sc rfl), trivial⟩ ?_
            refine W.region ?_
            refine WO.op rfl rfl rfl rfl (mv_sl rfl) ?_
            refine WO.op rfl rfl rfl rfl (step_subO (m := 2) (a := 10) Try.runUnderlying22 Try.sizeOf5 rfl rfl (Bd.some (v := 10) rfl (by (exact rfl))) (Bd.some (v := 12) rfl (by (exact rfl))) (by omega) (by omega) (Nat.zero_add _) (by exact Nat.sub_zero _)) ?_
            refine WO.op rfl rfl rfl rfl (mv_sc rfl) ?_
            refine WO.op rfl rfl rfl rfl (step_convR Try.runUnderlying26 Try.runUnderlying29 rfl (by exact convN (by (simp only [cap]; omega)))) ?_
            refine WO.op rfl rfl rfl rfl (step_over Try.call23 rfl rfl rfl noOwn_bytes noOwn_bytes rfl (w_put (by omega) (by omega) (by omega))) ?_
            refine WO.nil ?_
            refine W.seq ?_
            refine W.to [(0, _), (2, _), (3, _), (4, _), (5, _), (6, _), (7, _), (35, _)] [_, _] rfl ⟨(by exact sh_im rfl), (by exact sh_nil rfl), (by exact sh_sc rfl), (by exact sh_sc rfl), (by exact sh_sc rfl), (by exact sh_sl rfl), (by exact sh_sc rfl), (by exact sh_sc rfl), trivial⟩ ?_
            refine W.gatC [_] [] _ rfl rfl ?_
            intro L8 hL8
            have hl8 : L8.length = l.length := by rw [hL8]; simp only [putN_len, hl6]
            refine W.region ?_
            refine WO.op rfl rfl rfl rfl (mv_sl rfl) ?_
            refine WO.op rfl rfl rfl rfl (as_sl rfl) ?_
            refine WO.op rfl rfl rfl rfl (as_sc rfl) ?_
            refine WO.nil ?_
            refine W.ret ?_
            refine ⟨.inl rfl, ?_⟩
            have e : hopB l = L8 := by rw [hL8, hL6]; rfl
            rw [e]
            exact ret0 (Res.tmp rfl (Res.tmp rfl Res.nil)) (.tup (.cons (Fz.bytes rfl (Nat.zero_le _) (take_whole (by omega)) (by rw [List.length_map]; omega)) (.cons (.keep rfl) .nil)))

end Go.Proofs.Ytejoccabclibeaa
