/-
  Contracts of functions of chapter 03: each theorem says what a call of one function answers, for all arguments that its hypotheses let in.
-/
import Derived.Test.YtejoccabclibeaaW3e
import Derived.Test.YtejoccabclibeaaW3c
import Derived.Test.YtejoccabclibeaaSlV
set_option linter.unusedVariables false
set_option linter.unusedSimpArgs false
set_option maxRecDepth 100000
set_option maxHeartbeats 1000000
namespace Go.Proofs.Ytejoccabclibeaa
open Go Go.SL Go.Proofs

theorem mask_zero {f : Int} {m : Nat} (hm : m < 2 ^ 62) : maskB f m = true ↔ BitVec.ofInt 64 f &&& BitVec.ofInt 64 m = 0#64 := by
  have h2 : (BitVec.ofInt 64 (m : Int)).toNat = m := by
    rw [BitVec.toNat_ofInt]
    have : ((m : Int) % ((2 ^ 64 : Nat) : Int)) = ((m % 2 ^ 64 : Nat) : Int) := rfl
    rw [this, Int.toNat_natCast, Nat.mod_eq_of_lt (by omega)]
  have h1 : (BitVec.ofInt 64 f &&& BitVec.ofInt 64 m).toNat ≤ m := by
    rw [BitVec.toNat_and, h2]; exact Nat.and_le_right
  unfold maskB
  have h3 : IntKind.i64.bits = 64 := rfl
  rw [h3]
  generalize hv : BitVec.ofInt 64 f &&& BitVec.ofInt 64 m = v at h1 ⊢
  rw [IntWalk.i64_in _ (by omega)]
  constructor
  · intro h
    have h4 : ((v.toNat : Nat) : Int) = 0 := by simpa using h
    apply BitVec.eq_of_toNat_eq
    show v.toNat = 0
    omega
  · intro h; rw [h]; rfl
theorem mask_le {f : Int} (h : maskB f 16383 = true) : maskB f 8191 = true := by
  have h1 := (mask_zero (f := f) (m := 16383) (by decide)).1 h
  refine (mask_zero (f := f) (m := 8191) (by decide)).2 ?_
  have e : BitVec.ofInt 64 ((8191 : Nat) : Int) = BitVec.ofInt 64 ((16383 : Nat) : Int) &&& BitVec.ofInt 64 ((8191 : Nat) : Int) := by decide
  rw [e, ← BitVec.and_assoc, h1]
  decide

theorem w_IpSizesG {a0 a1 a2 a3 a4 a5 a6 d : Nat} {a7 : ByteArray} (h0 : a0 ≤ 255) (h3 : a3 ≤ 255) (h4 : a4 ≤ 255) (h1 : a1 ≤ 65535) (h2 : a2 ≤ 65535) (h5 : a5 < 4294967296) (h6 : a6 < 4294967296) (hs : a7.size ≤ 40) (h8 : a7.size % 4 = 0) (hd : d + 20 + a7.size ≤ 65535) : Spec0 Try.prog 4 [.agg [.sc (.int .i64 ((a0 : Nat) : Int)), .sc (.int .i64 ((a1 : Nat) : Int)), .sc (.int .i64 ((a2 : Nat) : Int)), .sc (.int .i64 ((a3 : Nat) : Int)), .sc (.int .i64 ((a4 : Nat) : Int)), .sc (.int .u32 ((a5 : Nat) : Int)), .sc (.int .u32 ((a6 : Nat) : Int)), .sc (.string a7)], .sc (.int .i64 ((d : Nat) : Int))] (.sc (.bool true)) := by
  refine Spec.body Try.func4 rfl (Nat.le_of_ble_eq_true rfl) ?_
  refine W.seq ?_
  refine W.region ?_
  refine WO.opA rfl rfl rfl rfl (al_boxA rfl rfl) rfl rfl ?_
  refine WO.put 2 (.ptr 0 0) rfl ?_
  refine WO.op rfl rfl rfl rfl (as_sc rfl) ?_
  refine WO.nil ?_
  refine W.seq ?_
  refine W.to [(0, _), (1, _), (2, _), (4, _)] [_] rfl ⟨(by exact sh_agg rfl), (by exact sh_sc rfl), (by exact sh_ptr rfl), (by exact sh_sc rfl), trivial⟩ ?_
  refine W.region ?_
  refine WO.op rfl rfl rfl rfl (step_loadA Try.isAgg31 Try.sizeOf31 rfl rfl (by simp)) ?_
  refine WO.op rfl rfl rfl rfl (mv_sc rfl) ?_
  refine WO.op rfl rfl rfl rfl (step_pure Try.call12 rfl (by (repeat (first | exact Nl.nil | refine Nl.keep (by rfl) ?_))) (w_EncG h0 h3 h4 h1 h2 h5 h6 hs h8 hd) (by repeat (first | with_reducible exact noOwn_im | with_reducible refine noOwn_tup ?_ | with_reducible exact noOwnL_nil | with_reducible refine noOwnL_cons ?_ ?_ | rfl))) ?_
  refine WO.op rfl rfl rfl rfl (mv_tup rfl) ?_
  refine WO.op rfl rfl rfl rfl (step_extract rfl rfl) ?_
  refine WO.op rfl rfl rfl rfl (step_extract rfl rfl) ?_
  refine WO.op rfl rfl rfl rfl (as_im rfl) ?_
  refine WO.op rfl rfl rfl rfl (as_sc rfl) ?_
  refine WO.nil ?_
  refine W.seq ?_
  refine W.to [(0, _), (1, _), (2, _), (4, _), (5, _), (6, _)] [_] rfl ⟨(by exact sh_agg rfl), (by exact sh_sc rfl), (by exact sh_ptr rfl), (by exact sh_sc rfl), (by exact sh_im rfl), (by exact sh_sc rfl), trivial⟩ ?_
  refine W.region ?_
  refine WO.op rfl rfl rfl rfl (step_loadA Try.isAgg31 Try.sizeOf31 rfl rfl (by simp)) ?_
  refine WO.op rfl rfl rfl rfl (mv_sc rfl) ?_
  refine WO.op rfl rfl rfl rfl (step_pure Try.call13 rfl (by (repeat (first | exact Nl.nil | refine Nl.keep (by rfl) ?_))) (w_refEncG h0 h3 h4 h1 h2 h5 h6 hs h8 hd) (by repeat (first | with_reducible exact noOwn_im | with_reducible refine noOwn_tup ?_ | with_reducible exact noOwnL_nil | with_reducible refine noOwnL_cons ?_ ?_ | rfl))) ?_
  refine WO.op rfl rfl rfl rfl (mv_tup rfl) ?_
  refine WO.op rfl rfl rfl rfl (step_extract rfl rfl) ?_
  refine WO.op rfl rfl rfl rfl (step_extract rfl rfl) ?_
  refine WO.op rfl rfl rfl rfl (as_im rfl) ?_
  refine WO.op rfl rfl rfl rfl (as_sc rfl) ?_
  refine WO.nil ?_
  refine W.seq ?_
  refine W.to [(0, _), (1, _), (2, _), (4, _), (5, _), (6, _), (7, _), (8, _)] [_] rfl ⟨(by exact sh_agg rfl), (by exact sh_sc rfl), (by exact sh_ptr rfl), (by exact sh_sc rfl), (by exact sh_im rfl), (by exact sh_sc rfl), (by exact sh_im rfl), (by exact sh_sc rfl), trivial⟩ ?_
  refine W.draw (Checked.mixed Try.checked) ?_
  refine DC.op rfl rfl rfl (fun _ => step_pure Try.call10 rfl (by (repeat (exact Nl.nil))) (w_lives) (by repeat (rfl))) ?_
  refine DC.op rfl rfl rfl (fun _ => mv_sc rfl) ?_
  refine DC.set 22 (.sc (.bool true)) (rfl) ?_
  refine DC.op rfl rfl rfl (fun _ => mv_im rfl) ?_
  refine DC.op rfl rfl rfl (fun _ => step_strI Try.underlying22 Try.underlying5 Try.underlying9 rfl) ?_
  refine DC.op rfl rfl rfl (fun _ => mv_im rfl) ?_
  refine DC.op rfl rfl rfl (fun _ => step_strI Try.underlying22 Try.underlying5 Try.underlying9 rfl) ?_
  refine DC.op rfl rfl rfl (fun _ => step_str2 rfl rfl rfl) ?_
  refine DC.set 27 (.sc (.bool true)) (congrArg (fun b : Bool => AV.sc (.bool b)) (by exact beq_self_eq_true _)) ?_
  refine DC.op rfl rfl rfl (fun _ => pk_t rfl rfl rfl) ?_
  refine DC.op rfl rfl rfl (fun _ => mv_sc rfl) ?_
  refine DC.op rfl rfl rfl (fun _ => mv_sc rfl) ?_
  refine DC.op rfl rfl rfl (fun _ => mv_sc rfl) ?_
  refine DC.op rfl rfl rfl (fun _ => step_int2 rfl rfl rfl) ?_
  refine DC.set 32 (.sc (.bool true)) (congrArg (fun b : Bool => AV.sc (.bool b)) (by rfl)) ?_
  refine DC.op rfl rfl rfl (fun _ => pk_t rfl rfl rfl) ?_
  refine DC.op rfl rfl rfl (fun _ => mv_sc rfl) ?_
  refine DC.op1 rfl rfl rfl rfl (fun _ ho => step_loadA Try.isAgg31 Try.sizeOf31 rfl ho (by simp)) ?_
  refine DC.op rfl rfl rfl (fun _ => step_pure Try.call14 rfl (by (repeat (first | exact Nl.nil | refine Nl.keep (by rfl) ?_))) (w_First) (by repeat (rfl))) ?_
  refine DC.op1 rfl rfl rfl rfl (fun _ ho => step_loadA Try.isAgg31 Try.sizeOf31 rfl ho (by simp)) ?_
  refine DC.op rfl rfl rfl (fun _ => step_pure Try.call15 rfl (by (repeat (first | exact Nl.nil | refine Nl.keep (by rfl) ?_))) (w_refFirst) (by repeat (rfl))) ?_
  refine DC.op rfl rfl rfl (fun _ => step_eqBool Try.runUnderlying4 rfl rfl) ?_
  refine DC.set 39 (.sc (.bool true)) (congrArg (fun b : Bool => AV.sc (.bool b)) (by exact decide_eq_true rfl)) ?_
  refine DC.op rfl rfl rfl (fun _ => pk_t rfl rfl rfl) ?_
  refine DC.op rfl rfl rfl (fun _ => mv_sc rfl) ?_
  refine DC.op1 rfl rfl rfl rfl (fun _ ho => step_loadA Try.isAgg31 Try.sizeOf31 rfl ho (by simp)) ?_
  refine DC.op rfl rfl rfl (fun _ => step_pure Try.call16 rfl (by (repeat (first | exact Nl.nil | refine Nl.keep (by rfl) ?_))) (w_Whole) (by repeat (rfl))) ?_
  refine DC.op1 rfl rfl rfl rfl (fun _ ho => step_loadA Try.isAgg31 Try.sizeOf31 rfl ho (by simp)) ?_
  refine DC.op rfl rfl rfl (fun _ => step_pure Try.call17 rfl (by (repeat (first | exact Nl.nil | refine Nl.keep (by rfl) ?_))) (w_refWhole) (by repeat (rfl))) ?_
  refine DC.op rfl rfl rfl (fun _ => step_eqBool Try.runUnderlying4 rfl rfl) ?_
  refine DC.set 46 (.sc (.bool true)) (congrArg (fun b : Bool => AV.sc (.bool b)) (by exact decide_eq_true rfl)) ?_
  refine DC.op rfl rfl rfl (fun _ => pk_t rfl rfl rfl) ?_
  refine DC.op rfl rfl rfl (fun _ => mv_sc rfl) ?_
  refine DC.op1 rfl rfl rfl rfl (fun _ ho => step_loadA Try.isAgg31 Try.sizeOf31 rfl ho (by simp)) ?_
  refine DC.op rfl rfl rfl (fun _ => step_pure Try.call16 rfl (by (repeat (first | exact Nl.nil | refine Nl.keep (by rfl) ?_))) (w_Whole) (by repeat (rfl))) ?_
  refine DC.op rfl rfl rfl (fun _ => step_not rfl) ?_
  refine DC.op rfl rfl rfl (fun _ => mv_sc rfl) ?_
  refine DC.split 52 rfl (fun h1 => ?_) (fun h1 => ?_)
  · try simp only [decide_eq_true_eq, decide_eq_false_iff_not, Bool.not_eq_true', Bool.not_eq_false', beq_iff_eq, bne_iff_ne, beq_eq_false_iff_ne, bne_eq_false_iff_eq, gt_iff_lt, ge_iff_le, Int.not_lt, Int.not_le] at h1
    refine DC.skp rfl rfl rfl ?_
    refine DC.skp rfl rfl rfl ?_
    refine DC.op rfl rfl rfl (fun _ => pk_t rfl rfl rfl) ?_
    refine DC.op rfl rfl rfl (fun _ => pk_t rfl rfl rfl) ?_
    refine DC.op rfl rfl rfl (fun _ => as_sc rfl) ?_
    refine DC.fin [(0, 0), (3, 0), (5, 0), (14, 0), (15, 0), (16, 0), (17, 0), (21, 0), (22, 0), (23, 0), (24, 0), (28, 0), (29, 0), (32, 0), (33, 0)] (by kernel_rfl) (by kernel_rfl) ?_ ?_
    · repeat (first | exact True.intro | refine And.intro ?_ ?_ | kernel_rfl)
    · refine W.ret ?_
      refine ⟨.inl rfl, ?_⟩
      exact ret0 (Res.tmp rfl Res.nil) (.keep rfl)
  · try simp only [decide_eq_true_eq, decide_eq_false_iff_not, Bool.not_eq_true', Bool.not_eq_false', beq_iff_eq, bne_iff_ne, beq_eq_false_iff_ne, bne_eq_false_iff_eq, gt_iff_lt, ge_iff_le, Int.not_lt, Int.not_le] at h1
    refine DC.op1 rfl rfl rfl rfl (fun _ ho => step_loadA Try.isAgg31 Try.sizeOf31 rfl ho (by simp)) ?_
    refine DC.op rfl rfl rfl (fun _ => step_pure Try.call14 rfl (by (repeat (first | exact Nl.nil | refine Nl.keep (by rfl) ?_))) (w_First) (by repeat (rfl))) ?_
    refine DC.op rfl rfl rfl (fun _ => pk_f rfl rfl rfl) ?_
    refine DC.set 55 (.sc (.bool true)) (congrArg (fun b : Bool => AV.sc (.bool b)) (mask_le (by simpa using h1))) ?_
    refine DC.op rfl rfl rfl (fun _ => pk_t rfl rfl rfl) ?_
    refine DC.op rfl rfl rfl (fun _ => as_sc rfl) ?_
    refine DC.fin [(0, 0), (3, 0), (5, 0), (14, 0), (15, 0), (16, 0), (17, 0), (21, 0), (22, 0), (23, 0), (24, 0), (28, 0), (29, 0), (32, 0), (33, 0)] (by kernel_rfl) (by kernel_rfl) ?_ ?_
    · repeat (first | exact True.intro | refine And.intro ?_ ?_ | kernel_rfl)
    · refine W.ret ?_
      refine ⟨.inl rfl, ?_⟩
      exact ret0 (Res.tmp rfl Res.nil) (.keep rfl)

theorem w_IpSizesX {a0 a1 a2 a3 a4 a5 a6 d : Int} {a7 : ByteArray} (hz : a7.size ≤ 200000000000000) (hd : -9223372036854775808 ≤ d ∧ d ≤ 9223372036854775807) (h : ¬ encOK a0 a1 a2 a3 a4 a7 d) : Spec0 Try.prog 4 [.agg [.sc (.int .i64 a0), .sc (.int .i64 a1), .sc (.int .i64 a2), .sc (.int .i64 a3), .sc (.int .i64 a4), .sc (.int .u32 a5), .sc (.int .u32 a6), .sc (.string a7)], .sc (.int .i64 d)] (.sc (.bool true)) := by
  refine Spec.body Try.func4 rfl (Nat.le_of_ble_eq_true rfl) ?_
  refine W.seq ?_
  refine W.region ?_
  refine WO.opA rfl rfl rfl rfl (al_boxA rfl rfl) rfl rfl ?_
  refine WO.put 2 (.ptr 0 0) rfl ?_
  refine WO.op rfl rfl rfl rfl (as_sc rfl) ?_
  refine WO.nil ?_
  refine W.seq ?_
  refine W.to [(0, _), (1, _), (2, _), (4, _)] [_] rfl ⟨(by exact sh_agg rfl), (by exact sh_sc rfl), (by exact sh_ptr rfl), (by exact sh_sc rfl), trivial⟩ ?_
  refine W.region ?_
  refine WO.op rfl rfl rfl rfl (step_loadA Try.isAgg31 Try.sizeOf31 rfl rfl (by simp)) ?_
  refine WO.op rfl rfl rfl rfl (mv_sc rfl) ?_
  refine WO.op rfl rfl rfl rfl (step_pure Try.call12 rfl (by (repeat (first | exact Nl.nil | refine Nl.keep (by rfl) ?_))) (w_EncX hz hd h) (by repeat (first | with_reducible exact noOwn_im | with_reducible refine noOwn_tup ?_ | with_reducible exact noOwnL_nil | with_reducible refine noOwnL_cons ?_ ?_ | rfl))) ?_
  refine WO.op rfl rfl rfl rfl (mv_tup rfl) ?_
  refine WO.op rfl rfl rfl rfl (step_extract rfl rfl) ?_
  refine WO.op rfl rfl rfl rfl (step_extract rfl rfl) ?_
  refine WO.op rfl rfl rfl rfl (as_im rfl) ?_
  refine WO.op rfl rfl rfl rfl (as_sc rfl) ?_
  refine WO.nil ?_
  refine W.seq ?_
  refine W.to [(0, _), (1, _), (2, _), (4, _), (5, _), (6, _)] [_] rfl ⟨(by exact sh_agg rfl), (by exact sh_sc rfl), (by exact sh_ptr rfl), (by exact sh_sc rfl), (by exact sh_im rfl), (by exact sh_sc rfl), trivial⟩ ?_
  refine W.region ?_
  refine WO.op rfl rfl rfl rfl (step_loadA Try.isAgg31 Try.sizeOf31 rfl rfl (by simp)) ?_
  refine WO.op rfl rfl rfl rfl (mv_sc rfl) ?_
  refine WO.op rfl rfl rfl rfl (step_pure Try.call13 rfl (by (repeat (first | exact Nl.nil | refine Nl.keep (by rfl) ?_))) (w_refEncX hz hd h) (by repeat (first | with_reducible exact noOwn_im | with_reducible refine noOwn_tup ?_ | with_reducible exact noOwnL_nil | with_reducible refine noOwnL_cons ?_ ?_ | rfl))) ?_
  refine WO.op rfl rfl rfl rfl (mv_tup rfl) ?_
  refine WO.op rfl rfl rfl rfl (step_extract rfl rfl) ?_
  refine WO.op rfl rfl rfl rfl (step_extract rfl rfl) ?_
  refine WO.op rfl rfl rfl rfl (as_im rfl) ?_
  refine WO.op rfl rfl rfl rfl (as_sc rfl) ?_
  refine WO.nil ?_
  refine W.seq ?_
  refine W.to [(0, _), (1, _), (2, _), (4, _), (5, _), (6, _), (7, _), (8, _)] [_] rfl ⟨(by exact sh_agg rfl), (by exact sh_sc rfl), (by exact sh_ptr rfl), (by exact sh_sc rfl), (by exact sh_im rfl), (by exact sh_sc rfl), (by exact sh_im rfl), (by exact sh_sc rfl), trivial⟩ ?_
  refine W.draw (Checked.mixed Try.checked) ?_
  refine DC.op rfl rfl rfl (fun _ => step_pure Try.call10 rfl (by (repeat (exact Nl.nil))) (w_lives) (by repeat (rfl))) ?_
  refine DC.op rfl rfl rfl (fun _ => mv_sc rfl) ?_
  refine DC.set 22 (.sc (.bool true)) (rfl) ?_
  refine DC.op rfl rfl rfl (fun _ => mv_im rfl) ?_
  refine DC.op rfl rfl rfl (fun _ => step_strI Try.underlying22 Try.underlying5 Try.underlying9 rfl) ?_
  refine DC.op rfl rfl rfl (fun _ => mv_im rfl) ?_
  refine DC.op rfl rfl rfl (fun _ => step_strI Try.underlying22 Try.underlying5 Try.underlying9 rfl) ?_
  refine DC.op rfl rfl rfl (fun _ => step_str2 rfl rfl rfl) ?_
  refine DC.set 27 (.sc (.bool true)) (congrArg (fun b : Bool => AV.sc (.bool b)) (by exact beq_self_eq_true _)) ?_
  refine DC.op rfl rfl rfl (fun _ => pk_t rfl rfl rfl) ?_
  refine DC.op rfl rfl rfl (fun _ => mv_sc rfl) ?_
  refine DC.op rfl rfl rfl (fun _ => mv_sc rfl) ?_
  refine DC.op rfl rfl rfl (fun _ => mv_sc rfl) ?_
  refine DC.op rfl rfl rfl (fun _ => step_int2 rfl rfl rfl) ?_
  refine DC.set 32 (.sc (.bool true)) (congrArg (fun b : Bool => AV.sc (.bool b)) (by rfl)) ?_
  refine DC.op rfl rfl rfl (fun _ => pk_t rfl rfl rfl) ?_
  refine DC.op rfl rfl rfl (fun _ => mv_sc rfl) ?_
  refine DC.op1 rfl rfl rfl rfl (fun _ ho => step_loadA Try.isAgg31 Try.sizeOf31 rfl ho (by simp)) ?_
  refine DC.op rfl rfl rfl (fun _ => step_pure Try.call14 rfl (by (repeat (first | exact Nl.nil | refine Nl.keep (by rfl) ?_))) (w_First) (by repeat (rfl))) ?_
  refine DC.op1 rfl rfl rfl rfl (fun _ ho => step_loadA Try.isAgg31 Try.sizeOf31 rfl ho (by simp)) ?_
  refine DC.op rfl rfl rfl (fun _ => step_pure Try.call15 rfl (by (repeat (first | exact Nl.nil | refine Nl.keep (by rfl) ?_))) (w_refFirst) (by repeat (rfl))) ?_
  refine DC.op rfl rfl rfl (fun _ => step_eqBool Try.runUnderlying4 rfl rfl) ?_
  refine DC.set 39 (.sc (.bool true)) (congrArg (fun b : Bool => AV.sc (.bool b)) (by exact decide_eq_true rfl)) ?_
  refine DC.op rfl rfl rfl (fun _ => pk_t rfl rfl rfl) ?_
  refine DC.op rfl rfl rfl (fun _ => mv_sc rfl) ?_
  refine DC.op1 rfl rfl rfl rfl (fun _ ho => step_loadA Try.isAgg31 Try.sizeOf31 rfl ho (by simp)) ?_
  refine DC.op rfl rfl rfl (fun _ => step_pure Try.call16 rfl (by (repeat (first | exact Nl.nil | refine Nl.keep (by rfl) ?_))) (w_Whole) (by repeat (rfl))) ?_
  refine DC.op1 rfl rfl rfl rfl (fun _ ho => step_loadA Try.isAgg31 Try.sizeOf31 rfl ho (by simp)) ?_
  refine DC.op rfl rfl rfl (fun _ => step_pure Try.call17 rfl (by (repeat (first | exact Nl.nil | refine Nl.keep (by rfl) ?_))) (w_refWhole) (by repeat (rfl))) ?_
  refine DC.op rfl rfl rfl (fun _ => step_eqBool Try.runUnderlying4 rfl rfl) ?_
  refine DC.set 46 (.sc (.bool true)) (congrArg (fun b : Bool => AV.sc (.bool b)) (by exact decide_eq_true rfl)) ?_
  refine DC.op rfl rfl rfl (fun _ => pk_t rfl rfl rfl) ?_
  refine DC.op rfl rfl rfl (fun _ => mv_sc rfl) ?_
  refine DC.op1 rfl rfl rfl rfl (fun _ ho => step_loadA Try.isAgg31 Try.sizeOf31 rfl ho (by simp)) ?_
  refine DC.op rfl rfl rfl (fun _ => step_pure Try.call16 rfl (by (repeat (first | exact Nl.nil | refine Nl.keep (by rfl) ?_))) (w_Whole) (by repeat (rfl))) ?_
  refine DC.op rfl rfl rfl (fun _ => step_not rfl) ?_
  refine DC.op rfl rfl rfl (fun _ => mv_sc rfl) ?_
  refine DC.split 52 rfl (fun h1 => ?_) (fun h1 => ?_)
  · try simp only [decide_eq_true_eq, decide_eq_false_iff_not, Bool.not_eq_true', Bool.not_eq_false', beq_iff_eq, bne_iff_ne, beq_eq_false_iff_ne, bne_eq_false_iff_eq, gt_iff_lt, ge_iff_le, Int.not_lt, Int.not_le] at h1
    refine DC.skp rfl rfl rfl ?_
    refine DC.skp rfl rfl rfl ?_
    refine DC.op rfl rfl rfl (fun _ => pk_t rfl rfl rfl) ?_
    refine DC.op rfl rfl rfl (fun _ => pk_t rfl rfl rfl) ?_
    refine DC.op rfl rfl rfl (fun _ => as_sc rfl) ?_
    refine DC.fin [(0, 0), (3, 0), (5, 0), (14, 0), (15, 0), (16, 0), (17, 0), (21, 0), (22, 0), (23, 0), (24, 0), (28, 0), (29, 0), (32, 0), (33, 0)] (by kernel_rfl) (by kernel_rfl) ?_ ?_
    · repeat (first | exact True.intro | refine And.intro ?_ ?_ | kernel_rfl)
    · refine W.ret ?_
      refine ⟨.inl rfl, ?_⟩
      exact ret0 (Res.tmp rfl Res.nil) (.keep rfl)
  · try simp only [decide_eq_true_eq, decide_eq_false_iff_not, Bool.not_eq_true', Bool.not_eq_false', beq_iff_eq, bne_iff_ne, beq_eq_false_iff_ne, bne_eq_false_iff_eq, gt_iff_lt, ge_iff_le, Int.not_lt, Int.not_le] at h1
    refine DC.op1 rfl rfl rfl rfl (fun _ ho => step_loadA Try.isAgg31 Try.sizeOf31 rfl ho (by simp)) ?_
    refine DC.op rfl rfl rfl (fun _ => step_pure Try.call14 rfl (by (repeat (first | exact Nl.nil | refine Nl.keep (by rfl) ?_))) (w_First) (by repeat (rfl))) ?_
    refine DC.op rfl rfl rfl (fun _ => pk_f rfl rfl rfl) ?_
    refine DC.set 55 (.sc (.bool true)) (congrArg (fun b : Bool => AV.sc (.bool b)) (mask_le (by simpa using h1))) ?_
    refine DC.op rfl rfl rfl (fun _ => pk_t rfl rfl rfl) ?_
    refine DC.op rfl rfl rfl (fun _ => as_sc rfl) ?_
    refine DC.fin [(0, 0), (3, 0), (5, 0), (14, 0), (15, 0), (16, 0), (17, 0), (21, 0), (22, 0), (23, 0), (24, 0), (28, 0), (29, 0), (32, 0), (33, 0)] (by kernel_rfl) (by kernel_rfl) ?_ ?_
    · repeat (first | exact True.intro | refine And.intro ?_ ?_ | kernel_rfl)
    · refine W.ret ?_
      refine ⟨.inl rfl, ?_⟩
      exact ret0 (Res.tmp rfl Res.nil) (.keep rfl)


theorem w_IpSizes {a0 a1 a2 a3 a4 a5 a6 d : Int} {a7 : ByteArray} (hz : a7.size ≤ 200000000000000) (hd : -9223372036854775808 ≤ d ∧ d ≤ 9223372036854775807) (g5 : 0 ≤ a5 ∧ a5 < 4294967296) (g6 : 0 ≤ a6 ∧ a6 < 4294967296) :
    Spec0 Try.prog 4 [.agg [.sc (.int .i64 a0), .sc (.int .i64 a1), .sc (.int .i64 a2), .sc (.int .i64 a3), .sc (.int .i64 a4), .sc (.int .u32 a5), .sc (.int .u32 a6), .sc (.string a7)], .sc (.int .i64 d)] (.sc (.bool true)) := by
  by_cases h : encOK a0 a1 a2 a3 a4 a7 d
  · obtain ⟨h0, h3, h4, h1, h2, h5, h6, h7⟩ := h
    obtain ⟨b0, rfl⟩ := Int.eq_ofNat_of_zero_le h0.1
    obtain ⟨b1, rfl⟩ := Int.eq_ofNat_of_zero_le h1.1
    obtain ⟨b2, rfl⟩ := Int.eq_ofNat_of_zero_le h2.1
    obtain ⟨b3, rfl⟩ := Int.eq_ofNat_of_zero_le h3.1
    obtain ⟨b4, rfl⟩ := Int.eq_ofNat_of_zero_le h4.1
    obtain ⟨b5, rfl⟩ := Int.eq_ofNat_of_zero_le g5.1
    obtain ⟨b6, rfl⟩ := Int.eq_ofNat_of_zero_le g6.1
    obtain ⟨e, rfl⟩ := Int.eq_ofNat_of_zero_le h7.1
    exact w_IpSizesG (by omega) (by omega) (by omega) (by omega) (by omega) (by omega) (by omega) h5 h6 (by omega)
  · exact w_IpSizesX hz hd h

end Go.Proofs.Ytejoccabclibeaa
