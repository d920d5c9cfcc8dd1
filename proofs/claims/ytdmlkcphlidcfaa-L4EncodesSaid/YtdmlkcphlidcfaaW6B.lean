/-
  Contracts of functions of chapter 04: each theorem says what a call of one function answers, for all arguments that its hypotheses let in.
-/
import Derived.Test.YtdmlkcphlidcfaaW6a
import Derived.Test.YtdmlkcphlidcfaaW4h
import Derived.Test.YtdmlkcphlidcfaaSlZ
import Derived.Test.YtdmlkcphlidcfaaSlAb
import Derived.Test.YtdmlkcphlidcfaaW4i
import Derived.Test.YtdmlkcphlidcfaaW4e
import Derived.Test.YtdmlkcphlidcfaaW4t
set_option linter.unusedVariables false
set_option linter.unusedSimpArgs false
set_option maxRecDepth 100000
set_option maxHeartbeats 1000000
namespace Go.Proofs.Ytdmlkcphlidcfaa
open Go Go.SL Go.Proofs
theorem w_BytesO {x n : Nat} (hx : x < 18446744073709551616) (hn : n ≤ 65536) : Go.SL.Spec Try.prog 30 [.sc (.int .u64 ((x : Nat) : Int)), .sc (.int .i64 ((n : Nat) : Int))] [] (fun r hp' => r = .sl 0 0 n ∧ hp' = [.row 1 ((bysN n x n).map byteAV)]) := by
  refine Spec.body Try.func30 rfl (Nat.le_of_ble_eq_true rfl) ?_
  refine W.seq ?_
  refine W.region ?_
  refine WO.op rfl rfl rfl rfl (as_nil rfl) ?_
  refine WO.nil ?_
  refine W.seq ?_
  refine W.to [(0, _), (1, _), (4, _)] [] rfl ⟨(by exact sh_sc rfl), (by exact sh_sc rfl), (by exact sh_nil rfl), trivial⟩ ?_
  refine W.region ?_
  refine WO.op rfl rfl rfl rfl (mv_sc rfl) ?_
  refine WO.op rfl rfl rfl rfl (step_makeB Try.runUnderlying23 (EI.mk (by kernel_rfl)) rfl rfl (by (exact rfl)) (by (exact rfl)) (by omega)) ?_
  refine WO.put 8 (.sl 0 0 _) rfl ?_
  refine WO.op rfl rfl rfl rfl (as_sl rfl) ?_
  refine WO.nil ?_
  refine W.seq ?_
  refine W.seq ?_
  refine W.to [(0, _), (1, _), (4, _), (5, _)] [_] rfl ⟨(by exact sh_sc rfl), (by exact sh_sc rfl), (by exact sh_nil rfl), (by exact sh_sl rfl), trivial⟩ ?_
  refine W.region ?_
  refine WO.op rfl rfl rfl rfl (mv_sc rfl) ?_
  refine WO.op rfl rfl rfl rfl (step_int2 rfl rfl (int2_sub (by exact IntWalk.i64_in _ (by omega)))) ?_
  refine WO.op rfl rfl rfl rfl (as_sc rfl) ?_
  refine WO.nil ?_
  refine W.block ?_
  refine W.loop (α := Nat) (fun k => ⟨tbl [(0, .sc (.int .u64 ((x / 2 ^ (8 * k) : Nat) : Int))), (5, .sl 0 0 n), (6, .sc (.int .i64 ((n : Int) - 1 - (k : Int))))], [.row 1 ((bysN n x k).map byteAV)]⟩) (fun k => k ≤ n) (fun k => n - k) (0) (Nat.zero_le _) (Le.eqs rfl ⟨congrArg (fun z : Nat => AV.sc (.int .u64 (z : Int))) (by simp), rfl, congrArg (fun z : Int => AV.sc (.int .i64 z)) (by omega), trivial⟩) ?_
  intro k hk
  have hb := bysN_len n x k
  have hx' : x / 2 ^ (8 * k) < 18446744073709551616 := Nat.lt_of_le_of_lt (Nat.div_le_self _ _) hx
  refine W.seq ?_
  refine W.seq ?_
  refine W.to [(0, _), (5, _), (6, _)] [_] rfl ⟨(by exact sh_sc rfl), (by exact sh_sl rfl), (by exact sh_sc rfl), trivial⟩ ?_
  refine W.region ?_
  refine WO.op rfl rfl rfl rfl (mv_sc rfl) ?_
  refine WO.op rfl rfl rfl rfl (step_int2 rfl rfl rfl) ?_
  refine WO.nil ?_
  refine W.cond rfl (fun h1 => ?_) (fun h1 => ?_)
  · try simp only [decide_eq_true_eq, decide_eq_false_iff_not, Bool.not_eq_true', Bool.not_eq_false', beq_iff_eq, bne_iff_ne, beq_eq_false_iff_ne, bne_eq_false_iff_eq, gt_iff_lt, ge_iff_le, Int.not_lt, Int.not_le] at h1
    refine W.skip ?_
    refine W.seq ?_
    refine W.block ?_
    refine W.seq ?_
    refine W.to [(0, _), (5, _), (6, _), (12, _)] [_] rfl ⟨(by exact sh_sc rfl), (by exact sh_sl rfl), (by exact sh_sc rfl), (by exact sh_sc rfl), trivial⟩ ?_
    refine W.region ?_
    refine WO.op rfl rfl rfl rfl (mv_sl rfl) ?_
    refine WO.op rfl rfl rfl rfl (mv_sc rfl) ?_
    refine WO.op rfl rfl rfl rfl (mv_sc rfl) ?_
    refine WO.op rfl rfl rfl rfl (step_remN (q := 256) rfl rfl (by omega)) ?_
    refine WO.op rfl rfl rfl rfl (step_convR Try.runUnderlying55 Try.runUnderlying5 rfl (by exact convN (by (simp only [cap]; omega)))) ?_
    refine WO.op rfl rfl rfl rfl (step_idxO (j := n - 1 - k) (m := n - 1 - k) Try.runUnderlying23 Try.sizeOf5 rfl rfl rfl (by omega) (by omega) (Nat.zero_add _)) ?_
    refine WO.op0 rfl rfl rfl (step_storeB (b := _) Try.sizeOf5 rfl rfl rfl (by (exact u8_mod _)) (by omega)) ?_
    refine WO.nil ?_
    refine W.to [(0, _), (5, _), (6, _), (12, _)] [_] rfl ⟨(by exact sh_sc rfl), (by exact sh_sl rfl), (by exact sh_sc rfl), (by exact sh_sc rfl), trivial⟩ ?_
    refine W.region ?_
    refine WO.op rfl rfl rfl rfl (mv_sc rfl) ?_
    refine WO.op rfl rfl rfl rfl (step_quoN (q := 256) rfl rfl (by omega) (by (simp only [cap]; omega))) ?_
    refine WO.op rfl rfl rfl rfl (as_sc rfl) ?_
    refine WO.nil ?_
    refine W.to [(0, _), (5, _), (6, _), (12, _)] [_] rfl ⟨(by exact sh_sc rfl), (by exact sh_sl rfl), (by exact sh_sc rfl), (by exact sh_sc rfl), trivial⟩ ?_
    refine W.region ?_
    refine WO.op rfl rfl rfl rfl (mv_sc rfl) ?_
    refine WO.op rfl rfl rfl rfl (step_int2 rfl rfl (int2_sub (by exact IntWalk.i64_in _ (by omega)))) ?_
    refine WO.op rfl rfl rfl rfl (as_sc rfl) ?_
    refine WO.nil ?_
    exact ⟨k + 1, (by omega), (by omega), Le.eqs rfl ⟨congrArg (fun z : Nat => AV.sc (.int .u64 (z : Int))) byteOf_div, rfl, congrArg (fun z : Int => AV.sc (.int .i64 z)) (by omega), trivial⟩⟩
  · try simp only [decide_eq_true_eq, decide_eq_false_iff_not, Bool.not_eq_true', Bool.not_eq_false', beq_iff_eq, bne_iff_ne, beq_eq_false_iff_ne, bne_eq_false_iff_eq, gt_iff_lt, ge_iff_le, Int.not_lt, Int.not_le] at h1
    have : k = n := by omega
    subst this
    refine W.exit ?_
    refine W.seq ?_
    refine W.to [(0, _), (5, _), (6, _), (12, _)] [_] rfl ⟨(by exact sh_sc rfl), (by exact sh_sl rfl), (by exact sh_sc rfl), (by exact sh_sc rfl), trivial⟩ ?_
    refine W.region ?_
    refine WO.op rfl rfl rfl rfl (mv_sl rfl) ?_
    refine WO.op rfl rfl rfl rfl (as_sl rfl) ?_
    refine WO.nil ?_
    refine W.ret ?_
    refine ⟨.inl rfl, ?_⟩
    exact ⟨_, _, _, Res.tmp rfl Res.nil, Cv.one (o := 0) rfl noOwn_bytes .sl, rfl, rfl⟩

theorem w_twoO {x : Nat} (hx : x < 9223372036854775808) : Go.SL.Spec Try.prog 32 [.sc (.int .i64 ((x : Nat) : Int))] [] (fun r hp' => r = .sl 0 0 2 ∧ hp' = [.row 1 ((bysN 2 x 2).map byteAV)]) := by
  refine Spec.body Try.func32 rfl (Nat.le_of_ble_eq_true rfl) ?_
  refine W.seq ?_
  refine W.region ?_
  refine WO.op rfl rfl rfl rfl (as_nil rfl) ?_
  refine WO.nil ?_
  refine W.seq ?_
  refine W.to [(0, _), (2, _)] [] rfl ⟨(by exact sh_sc rfl), (by exact sh_nil rfl), trivial⟩ ?_
  refine W.region ?_
  refine WO.op rfl rfl rfl rfl (mv_sc rfl) ?_
  refine WO.op rfl rfl rfl rfl (step_convR Try.runUnderlying3 Try.runUnderlying55 rfl (by exact convN (by (simp only [cap]; omega)))) ?_
  refine WO.op rfl rfl rfl rfl (step_own Try.call30 rfl (by repeat (first | exact Nl.nil | refine Nl.keep rfl ?_)) (w_BytesO (n := 2) (by omega) (by omega)) noOwn_bytes rfl) ?_
  skip
  refine WO.op rfl rfl rfl rfl (as_sl rfl) ?_
  refine WO.nil ?_
  refine W.ret ?_
  refine ⟨.inl rfl, ?_⟩
  exact ⟨_, _, _, Res.tmp rfl Res.nil, Cv.one (o := 0) rfl noOwn_bytes .sl, rfl, rfl⟩


theorem w_rC0 {da : ByteArray} (hda : da.size ≤ 65515) : Spec0 Try.prog 14 [.agg [.sc (.int .i64 0), .sc (.int .i64 0), .sc (.int .i64 0), .sc (.int .u32 0), .sc (.int .i64 0), .sc (.int .i64 0), .sc (.bool false), .sc (.int .u32 0), .sc (.int .u32 0), .sc (.int .i64 0), .sc (.int .i64 0), .sc (.int .i64 0), .sc (.string ⟨#[]⟩), .sc (.string da)]] (.sc (.int .i64 0)) := w_rChkG0 (by omega) (by omega)

theorem w_rC1 {ty co re : Nat} {da : ByteArray} (hty : ty ≤ 255) (hco : co ≤ 255) (hre : re < 4294967296) (hda : da.size ≤ 65507) : Spec0 Try.prog 14 [.agg [.sc (.int .i64 1), .sc (.int .i64 ((ty : Nat) : Int)), .sc (.int .i64 ((co : Nat) : Int)), .sc (.int .u32 ((re : Nat) : Int)), .sc (.int .i64 0), .sc (.int .i64 0), .sc (.bool false), .sc (.int .u32 0), .sc (.int .u32 0), .sc (.int .i64 0), .sc (.int .i64 0), .sc (.int .i64 0), .sc (.string ⟨#[]⟩), .sc (.string da)]] (.sc (.int .i64 0)) := w_rChkG1 (by (constructor <;> omega)) (by (constructor <;> omega)) (by (constructor <;> omega)) (by omega) ⟨by omega, by omega, by omega⟩

theorem w_rC3 {sp dp se ac fl wi ur : Nat} {op da : ByteArray} (hsp : sp ≤ 65535) (hdp : dp ≤ 65535) (hse : se < 4294967296) (hac : ac < 4294967296) (hfl : fl ≤ 4095) (hwi : wi ≤ 65535) (hur : ur ≤ 65535) (hop : op.size ≤ 40) (hop4 : op.size % 4 = 0) (hda : da.size + 20 + op.size ≤ 65515) : Spec0 Try.prog 14 [.agg [.sc (.int .i64 3), .sc (.int .i64 0), .sc (.int .i64 0), .sc (.int .u32 0), .sc (.int .i64 ((sp : Nat) : Int)), .sc (.int .i64 ((dp : Nat) : Int)), .sc (.bool false), .sc (.int .u32 ((se : Nat) : Int)), .sc (.int .u32 ((ac : Nat) : Int)), .sc (.int .i64 ((fl : Nat) : Int)), .sc (.int .i64 ((wi : Nat) : Int)), .sc (.int .i64 ((ur : Nat) : Int)), .sc (.string op), .sc (.string da)]] (.sc (.int .i64 0)) := w_rChkG3 (by (constructor <;> omega)) (by (constructor <;> omega)) (by (constructor <;> omega)) (by (constructor <;> omega)) (by (constructor <;> omega)) (by (constructor <;> omega)) (by (constructor <;> omega)) (by omega) (by omega) ⟨by omega, by omega, by omega, by omega, by omega, by omega, by omega, by omega⟩

theorem w_refEnc0 {src dst : Nat} (hsrc : src < 4294967296) (hdst : dst < 4294967296) {da : ByteArray} (hda : da.size ≤ 65515) : Spec0 Try.prog 12 [.sc (.int .u32 ((src : Nat) : Int)), .sc (.int .u32 ((dst : Nat) : Int)), .agg [.sc (.int .i64 0), .sc (.int .i64 0), .sc (.int .i64 0), .sc (.int .u32 0), .sc (.int .i64 0), .sc (.int .i64 0), .sc (.bool false), .sc (.int .u32 0), .sc (.int .u32 0), .sc (.int .i64 0), .sc (.int .i64 0), .sc (.int .i64 0), .sc (.string ⟨#[]⟩), .sc (.string da)]] (.tup [.im 1 ((da.data.toList).map byteAV), .sc (.int .i64 0)]) := by
  refine Spec.body Try.func12 rfl (Nat.le_of_ble_eq_true rfl) ?_
  have hoz : da.data.toList.length = da.size := by rw [Array.length_toList]; rfl
  refine W.seq ?_
  refine W.region ?_
  refine WO.opA rfl rfl rfl rfl (al_boxA rfl rfl) rfl rfl ?_
  refine WO.put 5 (.ptr 0 0) rfl ?_
  refine WO.op rfl rfl rfl rfl (as_nil rfl) ?_
  refine WO.op rfl rfl rfl rfl (as_sc rfl) ?_
  refine WO.nil ?_
  refine W.seq ?_
  refine W.seq ?_
  refine W.to [(0, _), (1, _), (2, _), (5, _), (6, _), (7, _)] [_] rfl ⟨(by exact sh_sc rfl), (by exact sh_sc rfl), (by exact sh_agg rfl), (by exact sh_ptr rfl), (by exact sh_nil rfl), (by exact sh_sc rfl), trivial⟩ ?_
  refine W.region ?_
  refine WO.op rfl rfl rfl rfl (step_loadA Try.isAgg25 Try.sizeOf25 rfl rfl (by exact Nat.le_refl _)) ?_
  refine WO.put 15 (.agg [.sc (.int .i64 0), .sc (.int .i64 0), .sc (.int .i64 0), .sc (.int .u32 0), .sc (.int .i64 0), .sc (.int .i64 0), .sc (.bool false), .sc (.int .u32 0), .sc (.int .u32 0), .sc (.int .i64 0), .sc (.int .i64 0), .sc (.int .i64 0), .sc (.string ⟨#[]⟩), .sc (.string da)]) (by kernel_rfl) ?_
  refine WO.op rfl rfl rfl rfl (step_pure Try.call14 rfl (by (repeat (first | exact Nl.nil | refine Nl.keep (by rfl) ?_))) (w_rC0 hda) (by repeat (rfl))) ?_
  refine WO.op rfl rfl rfl rfl (as_sc rfl) ?_
  refine WO.nil ?_
  refine W.seq ?_
  refine W.to [(0, _), (1, _), (2, _), (5, _), (6, _), (7, _), (8, _)] [_] rfl ⟨(by exact sh_sc rfl), (by exact sh_sc rfl), (by exact sh_agg rfl), (by exact sh_ptr rfl), (by exact sh_nil rfl), (by exact sh_sc rfl), (by exact sh_sc rfl), trivial⟩ ?_
  refine W.region ?_
  refine WO.op rfl rfl rfl rfl (mv_sc rfl) ?_
  refine WO.op rfl rfl rfl rfl (step_int2 rfl rfl rfl) ?_
  refine WO.put 18 (.sc (.bool false)) (by kernel_rfl) ?_
  refine WO.nil ?_
  refine W.condF rfl ?_
  refine W.skip ?_
  refine W.seq ?_
  refine W.seq ?_
  refine W.to [(0, _), (1, _), (2, _), (5, _), (6, _), (7, _), (8, _), (18, _)] [_] rfl ⟨(by exact sh_sc rfl), (by exact sh_sc rfl), (by exact sh_agg rfl), (by exact sh_ptr rfl), (by exact sh_nil rfl), (by exact sh_sc rfl), (by exact sh_sc rfl), (by exact sh_sc rfl), trivial⟩ ?_
  refine W.region ?_
  refine WO.op rfl rfl rfl rfl (step_fieldR (k := 0) (FieldOff.mk (by kernel_rfl)) rfl rfl (by exact Nat.zero_add _)) ?_
  refine WO.op rfl rfl rfl rfl (step_load Try.isAgg3 rfl rfl rfl) ?_
  refine WO.nil ?_
  refine W.block ?_
  refine W.seq ?_
  refine W.to [(0, _), (1, _), (2, _), (5, _), (6, _), (7, _), (8, _), (18, _), (21, _)] [_] rfl ⟨(by exact sh_sc rfl), (by exact sh_sc rfl), (by exact sh_agg rfl), (by exact sh_ptr rfl), (by exact sh_nil rfl), (by exact sh_sc rfl), (by exact sh_sc rfl), (by exact sh_sc rfl), (by exact sh_sc rfl), trivial⟩ ?_
  refine W.region ?_
  refine WO.op rfl rfl rfl rfl (step_int2 rfl rfl rfl) ?_
  refine WO.put 23 (.sc (.bool false)) (by kernel_rfl) ?_
  refine WO.op rfl rfl rfl rfl (as_sc rfl) ?_
  refine WO.nil ?_
  refine W.condF rfl ?_
  refine W.seq ?_
  refine W.to [(0, _), (1, _), (2, _), (5, _), (6, _), (7, _), (8, _), (18, _), (21, _), (22, _)] [_] rfl ⟨(by exact sh_sc rfl), (by exact sh_sc rfl), (by exact sh_agg rfl), (by exact sh_ptr rfl), (by exact sh_nil rfl), (by exact sh_sc rfl), (by exact sh_sc rfl), (by exact sh_sc rfl), (by exact sh_sc rfl), (by exact sh_sc rfl), trivial⟩ ?_
  refine W.region ?_
  refine WO.op rfl rfl rfl rfl (step_int2 rfl rfl rfl) ?_
  refine WO.put 54 (.sc (.bool false)) (by kernel_rfl) ?_
  refine WO.op rfl rfl rfl rfl (as_sc rfl) ?_
  refine WO.nil ?_
  refine W.condF rfl ?_
  refine W.seq ?_
  refine W.to [(0, _), (1, _), (2, _), (5, _), (6, _), (7, _), (8, _), (18, _), (21, _), (22, _), (53, _)] [_] rfl ⟨(by exact sh_sc rfl), (by exact sh_sc rfl), (by exact sh_agg rfl), (by exact sh_ptr rfl), (by exact sh_nil rfl), (by exact sh_sc rfl), (by exact sh_sc rfl), (by exact sh_sc rfl), (by exact sh_sc rfl), (by exact sh_sc rfl), (by exact sh_sc rfl), trivial⟩ ?_
  refine W.region ?_
  refine WO.op rfl rfl rfl rfl (step_int2 rfl rfl rfl) ?_
  refine WO.put 100 (.sc (.bool false)) (by kernel_rfl) ?_
  refine WO.op rfl rfl rfl rfl (as_sc rfl) ?_
  refine WO.nil ?_
  refine W.condF rfl ?_
  refine W.skip ?_
  refine W.seq ?_
  refine W.to [(0, _), (1, _), (2, _), (5, _), (6, _), (7, _), (8, _), (18, _), (21, _), (22, _), (53, _), (99, _)] [_] rfl ⟨(by exact sh_sc rfl), (by exact sh_sc rfl), (by exact sh_agg rfl), (by exact sh_ptr rfl), (by exact sh_nil rfl), (by exact sh_sc rfl), (by exact sh_sc rfl), (by exact sh_sc rfl), (by exact sh_sc rfl), (by exact sh_sc rfl), (by exact sh_sc rfl), (by exact sh_sc rfl), trivial⟩ ?_
  refine W.region ?_
  refine WO.op rfl rfl rfl rfl (step_fieldR (k := 13) (FieldOff.mk (by kernel_rfl)) rfl rfl (by exact Nat.zero_add _)) ?_
  refine WO.op rfl rfl rfl rfl (step_load Try.isAgg9 rfl rfl rfl) ?_
  refine WO.opA rfl rfl rfl rfl (al_strB Try.underlying9 Try.underlying23 Try.underlying5 rfl) rfl rfl ?_
  refine WO.put 171 (.sl 1 0 _) rfl ?_
  refine WO.op rfl rfl rfl rfl (as_sl rfl) ?_
  refine WO.op rfl rfl rfl rfl (as_sc rfl) ?_
  refine WO.nil ?_
  refine W.ret ?_
  refine ⟨.inl rfl, ?_⟩
  exact ret0 (Res.tmp rfl (Res.tmp rfl Res.nil)) (.tup (.cons (Fz.bytes rfl (Nat.zero_le _) (take_whole (by omega)) (by rw [List.length_map]; omega)) (.cons (.keep rfl) .nil)))

end Go.Proofs.Ytdmlkcphlidcfaa

set_option linter.unusedVariables false
set_option linter.unusedSimpArgs false
set_option maxRecDepth 100000
set_option maxHeartbeats 1000000
namespace Go.Proofs.Ytdmlkcphlidcfaa
open Go Go.SL Go.Proofs

theorem by4' (x : Nat) : bysN 4 x 4 = [byteOf (x / 65536) 8, byteOf (x / 65536) 0, byteOf (x % 65536) 8, byteOf (x % 65536) 0] := by
  have e : bysN 4 x 4 = [byteOf x 24, byteOf x 16, byteOf x 8, byteOf x 0] := rfl
  rw [e]
  have h1 : byteOf x 24 = byteOf (x / 65536) 8 := by unfold byteOf; rw [Nat.div_div_eq_div_mul]
  have h2 : byteOf x 16 = byteOf (x / 65536) 0 := by unfold byteOf; rw [Nat.div_div_eq_div_mul]
  have h3 : byteOf x 8 = byteOf (x % 65536) 8 := by
    apply UInt8.toNat_inj.1; unfold byteOf; rw [UInt8.toNat_ofNat', UInt8.toNat_ofNat']; omega
  have h4 : byteOf x 0 = byteOf (x % 65536) 0 := by
    apply UInt8.toNat_inj.1; unfold byteOf; rw [UInt8.toNat_ofNat', UInt8.toNat_ofNat']; omega
  rw [h1, h2, h3, h4]

theorem w_refEnc1 {src dst : Nat} (hsrc : src < 4294967296) (hdst : dst < 4294967296) {ty co re : Nat} {da : ByteArray} (hty : ty ≤ 255) (hco : co ≤ 255) (hre : re < 4294967296) (hda : da.size ≤ 65507) : Spec0 Try.prog 12 [.sc (.int .u32 ((src : Nat) : Int)), .sc (.int .u32 ((dst : Nat) : Int)), .agg [.sc (.int .i64 1), .sc (.int .i64 ((ty : Nat) : Int)), .sc (.int .i64 ((co : Nat) : Int)), .sc (.int .u32 ((re : Nat) : Int)), .sc (.int .i64 0), .sc (.int .i64 0), .sc (.bool false), .sc (.int .u32 0), .sc (.int .u32 0), .sc (.int .i64 0), .sc (.int .i64 0), .sc (.int .i64 0), .sc (.string ⟨#[]⟩), .sc (.string da)]] (.tup [.im 1 ((encI ty co re da.data.toList).map byteAV), .sc (.int .i64 0)]) := by
  refine Spec.body Try.func12 rfl (Nat.le_of_ble_eq_true rfl) ?_
  have hoz : da.data.toList.length = da.size := by rw [Array.length_toList]; rfl
  refine W.seq ?_
  refine W.region ?_
  refine WO.opA rfl rfl rfl rfl (al_boxA rfl rfl) rfl rfl ?_
  refine WO.put 5 (.ptr 0 0) rfl ?_
  refine WO.op rfl rfl rfl rfl (as_nil rfl) ?_
  refine WO.op rfl rfl rfl rfl (as_sc rfl) ?_
  refine WO.nil ?_
  refine W.seq ?_
  refine W.seq ?_
  refine W.to [(0, _), (1, _), (2, _), (5, _), (6, _), (7, _)] [_] rfl ⟨(by exact sh_sc rfl), (by exact sh_sc rfl), (by exact sh_agg rfl), (by exact sh_ptr rfl), (by exact sh_nil rfl), (by exact sh_sc rfl), trivial⟩ ?_
  refine W.region ?_
  refine WO.op rfl rfl rfl rfl (step_loadA Try.isAgg25 Try.sizeOf25 rfl rfl (by exact Nat.le_refl _)) ?_
  refine WO.put 15 (.agg [.sc (.int .i64 1), .sc (.int .i64 ((ty : Nat) : Int)), .sc (.int .i64 ((co : Nat) : Int)), .sc (.int .u32 ((re : Nat) : Int)), .sc (.int .i64 0), .sc (.int .i64 0), .sc (.bool false), .sc (.int .u32 0), .sc (.int .u32 0), .sc (.int .i64 0), .sc (.int .i64 0), .sc (.int .i64 0), .sc (.string ⟨#[]⟩), .sc (.string da)]) (by kernel_rfl) ?_
  refine WO.op rfl rfl rfl rfl (step_pure Try.call14 rfl (by (repeat (first | exact Nl.nil | refine Nl.keep (by rfl) ?_))) (w_rC1 hty hco hre hda) (by repeat (rfl))) ?_
  refine WO.op rfl rfl rfl rfl (as_sc rfl) ?_
  refine WO.nil ?_
  refine W.seq ?_
  refine W.to [(0, _), (1, _), (2, _), (5, _), (6, _), (7, _), (8, _)] [_] rfl ⟨(by exact sh_sc rfl), (by exact sh_sc rfl), (by exact sh_agg rfl), (by exact sh_ptr rfl), (by exact sh_nil rfl), (by exact sh_sc rfl), (by exact sh_sc rfl), trivial⟩ ?_
  refine W.region ?_
  refine WO.op rfl rfl rfl rfl (mv_sc rfl) ?_
  refine WO.op rfl rfl rfl rfl (step_int2 rfl rfl rfl) ?_
  refine WO.put 18 (.sc (.bool false)) (by kernel_rfl) ?_
  refine WO.nil ?_
  refine W.condF rfl ?_
  refine W.skip ?_
  refine W.seq ?_
  refine W.seq ?_
  refine W.to [(0, _), (1, _), (2, _), (5, _), (6, _), (7, _), (8, _), (18, _)] [_] rfl ⟨(by exact sh_sc rfl), (by exact sh_sc rfl), (by exact sh_agg rfl), (by exact sh_ptr rfl), (by exact sh_nil rfl), (by exact sh_sc rfl), (by exact sh_sc rfl), (by exact sh_sc rfl), trivial⟩ ?_
  refine W.region ?_
  refine WO.op rfl rfl rfl rfl (step_fieldR (k := 0) (FieldOff.mk (by kernel_rfl)) rfl rfl (by exact Nat.zero_add _)) ?_
  refine WO.op rfl rfl rfl rfl (step_load Try.isAgg3 rfl rfl rfl) ?_
  refine WO.nil ?_
  refine W.block ?_
  refine W.seq ?_
  refine W.to [(0, _), (1, _), (2, _), (5, _), (6, _), (7, _), (8, _), (18, _), (21, _)] [_] rfl ⟨(by exact sh_sc rfl), (by exact sh_sc rfl), (by exact sh_agg rfl), (by exact sh_ptr rfl), (by exact sh_nil rfl), (by exact sh_sc rfl), (by exact sh_sc rfl), (by exact sh_sc rfl), (by exact sh_sc rfl), trivial⟩ ?_
  refine W.region ?_
  refine WO.op rfl rfl rfl rfl (step_int2 rfl rfl rfl) ?_
  refine WO.put 23 (.sc (.bool true)) (by kernel_rfl) ?_
  refine WO.op rfl rfl rfl rfl (as_sc rfl) ?_
  refine WO.nil ?_
  refine W.condT rfl ?_
  refine W.seq ?_
  refine W.to [(0, _), (1, _), (2, _), (5, _), (6, _), (7, _), (8, _), (18, _), (21, _), (22, _)] [_] rfl ⟨(by exact sh_sc rfl), (by exact sh_sc rfl), (by exact sh_agg rfl), (by exact sh_ptr rfl), (by exact sh_nil rfl), (by exact sh_sc rfl), (by exact sh_sc rfl), (by exact sh_sc rfl), (by exact sh_sc rfl), (by exact sh_sc rfl), trivial⟩ ?_
  refine W.draw (Checked.mixed Try.checked) ?_
  refine DC.op1 rfl rfl rfl rfl (fun _ ho => step_fieldR (k := 1) (FieldOff.mk (by kernel_rfl)) rfl ho (by exact Nat.zero_add _)) ?_
  refine DC.op1 rfl rfl rfl rfl (fun _ ho => step_load Try.isAgg3 rfl ho rfl) ?_
  refine DC.op rfl rfl rfl (fun _ => step_convR Try.runUnderlying3 Try.runUnderlying5 rfl (by exact convN (by (simp only [cap]; omega)))) ?_
  refine DC.op1 rfl rfl rfl rfl (fun _ ho => step_fieldR (k := 2) (FieldOff.mk (by kernel_rfl)) rfl ho (by exact Nat.zero_add _)) ?_
  refine DC.op1 rfl rfl rfl rfl (fun _ ho => step_load Try.isAgg3 rfl ho rfl) ?_
  refine DC.op rfl rfl rfl (fun _ => step_convR Try.runUnderlying3 Try.runUnderlying5 rfl (by exact convN (by (simp only [cap]; omega)))) ?_
  refine DC.opA (m := 0) rfl rfl rfl (al_buildSlice Try.runUnderlying23 (z := (Value.int IntKind.u8 0)) (bs := 1) (esz := 1) (EI.mk (by kernel_rfl)) rfl (by decide) rfl rfl) rfl rfl ?_
  refine DC.set 30 (.sl 1 0 _) rfl ?_
  refine DC.heap [AObj.row 1 [.sc (.int .i64 1), .sc (.int .i64 ((ty : Nat) : Int)), .sc (.int .i64 ((co : Nat) : Int)), .sc (.int .u32 ((re : Nat) : Int)), .sc (.int .i64 0), .sc (.int .i64 0), .sc (.bool false), .sc (.int .u32 0), .sc (.int .u32 0), .sc (.int .i64 0), .sc (.int .i64 0), .sc (.int .i64 0), .sc (.string ⟨#[]⟩), .sc (.string da)], AObj.row 1 (([UInt8.ofNat ty, UInt8.ofNat co, 0, 0] : List UInt8).map byteAV)] (congrArg (fun z : List AV => [AObj.row 1 [.sc (.int .i64 1), .sc (.int .i64 ((ty : Nat) : Int)), .sc (.int .i64 ((co : Nat) : Int)), .sc (.int .u32 ((re : Nat) : Int)), .sc (.int .i64 0), .sc (.int .i64 0), .sc (.bool false), .sc (.int .u32 0), .sc (.int .u32 0), .sc (.int .i64 0), .sc (.int .i64 0), .sc (.int .i64 0), .sc (.string ⟨#[]⟩), .sc (.string da)], AObj.row 1 z]) (cong2 (fun x y : Int => [AV.sc (.int .u8 x), AV.sc (.int .u8 y), AV.sc (.int .u8 0), AV.sc (.int .u8 0)]) (by exact u8_nat (by omega)) (by exact u8_nat (by omega)))) ?_
  refine DC.op1 rfl rfl rfl rfl (fun _ ho => step_fieldR (k := 3) (FieldOff.mk (by kernel_rfl)) rfl ho (by exact Nat.zero_add _)) ?_
  refine DC.op1 rfl rfl rfl rfl (fun _ ho => step_load Try.isAgg22 rfl ho rfl) ?_
  refine DC.op rfl rfl rfl (fun _ => step_convR Try.runUnderlying22 Try.runUnderlying55 rfl (by exact convN (by (simp only [cap]; omega)))) ?_
  refine DC.op rfl rfl rfl (fun _ => step_pure Try.call30 rfl (by (repeat (first | exact Nl.nil | refine Nl.keep (by rfl) ?_))) (w_Bytes (n := 4) (by omega) (by omega)) (by repeat (with_reducible exact noOwn_im))) ?_
  refine DC.opE rfl rfl rfl (step_appB Try.runUnderlying23 (EI.mk (by kernel_rfl)) Try.runUnderlying23 (.inl ⟨_, rfl⟩) rfl rfl (by (simp only [List.length_map, List.length_append, List.length_take, List.length_drop, List.length_set, List.length_cons, List.length_nil, List.length_replicate, bysN_len, hoz] <;> omega)) (Src.imB rfl) (by (simp only [List.length_map, List.length_append, List.length_take, List.length_drop, List.length_set, List.length_cons, List.length_nil, List.length_replicate, bysN_len, hoz] <;> omega)) rfl) (by simp) (by repeat (first | exact True.intro | refine And.intro (by first | exact idsLt_im | rfl) ?_)) (by repeat (first | exact True.intro | refine And.intro (by first | exact rowLt_bytes | rfl) ?_)) ?_
  refine DC.set 35 (.sl 2 0 _) rfl ?_
  refine DC.op rfl rfl rfl (fun _ => as_sl rfl) ?_
  refine DC.set 9 (.sl 2 0 8) (congrArg (AV.sl 2 0) (by rfl)) ?_
  refine DC.fin [(0, 0), (1, 0), (2, 0), (3, 0), (4, 0), (5, 0), (6, 0), (7, 0), (8, 0), (9, 0), (10, 0)] (by kernel_rfl) (by kernel_rfl) ?_ ?_
  · repeat (first | exact True.intro | refine And.intro ?_ ?_ | kernel_rfl)
  · refine W.seq ?_
    refine W.to [(0, _), (1, _), (2, _), (5, _), (6, _), (7, _), (8, _), (9, _), (18, _), (21, _), (22, _)] [_, _, _] rfl ⟨(by exact sh_sc rfl), (by exact sh_sc rfl), (by exact sh_agg rfl), (by exact sh_ptr rfl), (by exact sh_nil rfl), (by exact sh_sc rfl), (by exact sh_sc rfl), (by exact sh_sl rfl), (by exact sh_sc rfl), (by exact sh_sc rfl), (by exact sh_sc rfl), trivial⟩ ?_
    refine W.gatC [_, _] [] _ rfl rfl ?_
    intro L7 hL7
    have hl7 : L7.length = 8 := by rw [hL7]; simp only [List.length_append, List.length_cons, List.length_nil, bysN_len, hoz] <;> omega
    refine W.region ?_
    refine WO.op rfl rfl rfl rfl (mv_sl rfl) ?_
    refine WO.op rfl rfl rfl rfl (step_fieldR (k := 13) (FieldOff.mk (by kernel_rfl)) rfl rfl (by exact Nat.zero_add _)) ?_
    refine WO.op rfl rfl rfl rfl (step_load Try.isAgg9 rfl rfl rfl) ?_
    refine WO.op rfl rfl rfl rfl (step_appB Try.runUnderlying23 (EI.mk (by kernel_rfl)) Try.runUnderlying9 (.inr rfl) rfl rfl (by omega) (Src.str rfl) (by omega) rfl) ?_
    refine WO.put 39 (.sl 3 0 _) rfl ?_
    refine WO.op rfl rfl rfl rfl (as_sl rfl) ?_
    refine WO.put 9 (.sl 3 0 (8 + da.size)) (congrArg (AV.sl 3 0) (by rfl)) ?_
    refine WO.nil ?_
    refine W.seq ?_
    refine W.to [(0, _), (1, _), (2, _), (5, _), (6, _), (7, _), (8, _), (9, _), (18, _), (21, _), (22, _)] [_, _, _, _] rfl ⟨(by exact sh_sc rfl), (by exact sh_sc rfl), (by exact sh_agg rfl), (by exact sh_ptr rfl), (by exact sh_nil rfl), (by exact sh_sc rfl), (by exact sh_sc rfl), (by exact sh_sl rfl), (by exact sh_sc rfl), (by exact sh_sc rfl), (by exact sh_sc rfl), trivial⟩ ?_
    refine W.gatC [_, _, _] [] _ rfl rfl ?_
    intro L8 hL8
    have hl8 : L8.length = 8 + da.size := by rw [hL8]; simp only [List.length_append, List.length_cons, List.length_nil, bysN_len, hoz, hl7] <;> omega
    refine W.region ?_
    refine WO.op rfl rfl rfl rfl (mv_sl rfl) ?_
    refine WO.op rfl rfl rfl rfl (step_lent Try.call31 rfl (by (repeat (first | exact Bw.nil | refine Bw.slB rfl (by (exact take_whole (by omega))) (by (simp only [List.length_map, List.length_append, List.length_take, List.length_drop, List.length_set, List.length_cons, List.length_nil, List.length_replicate, bysN_len, hoz] <;> omega)) ?_))) (w_refCheck (by omega)) (by repeat (rfl))) ?_
    refine WO.op rfl rfl rfl rfl (as_sc rfl) ?_
    refine WO.nil ?_
    refine W.seq ?_
    refine W.to [(0, _), (1, _), (2, _), (5, _), (6, _), (7, _), (8, _), (9, _), (10, _), (18, _), (21, _), (22, _)] [_, _, _, _] rfl ⟨(by exact sh_sc rfl), (by exact sh_sc rfl), (by exact sh_agg rfl), (by exact sh_ptr rfl), (by exact sh_nil rfl), (by exact sh_sc rfl), (by exact sh_sc rfl), (by exact sh_sl rfl), (by exact sh_sc rfl), (by exact sh_sc rfl), (by exact sh_sc rfl), (by exact sh_sc rfl), trivial⟩ ?_
    refine W.region ?_
    refine WO.op rfl rfl rfl rfl (mv_sl rfl) ?_
    refine WO.op rfl rfl rfl rfl (mv_sl rfl) ?_
    refine WO.op rfl rfl rfl rfl (mv_sc rfl) ?_
    refine WO.op rfl rfl rfl rfl (step_quoN (q := 256) rfl rfl (by omega) (by (simp only [cap]; omega))) ?_
    refine WO.op rfl rfl rfl rfl (step_convR Try.runUnderlying37 Try.runUnderlying5 rfl (by exact convN (by (simp only [cap]; omega)))) ?_
    refine WO.op rfl rfl rfl rfl (mv_sc rfl) ?_
    refine WO.op rfl rfl rfl rfl (step_remN (q := 256) rfl rfl (by omega)) ?_
    refine WO.op rfl rfl rfl rfl (step_convR Try.runUnderlying37 Try.runUnderlying5 rfl (by exact convN (by (simp only [cap]; omega)))) ?_
    refine WO.op rfl rfl rfl rfl (step_idxO (j := 2) Try.runUnderlying23 Try.sizeOf5 rfl rfl rfl (by (exact rfl)) (by omega) (by exact Nat.zero_add _)) ?_
    refine WO.op0 rfl rfl rfl (step_storeB (b := _) Try.sizeOf5 rfl rfl rfl (by (exact u8_nat (by omega))) (by omega)) ?_
    refine WO.op rfl rfl rfl rfl (step_idxO (j := 3) Try.runUnderlying23 Try.sizeOf5 rfl rfl rfl (by (exact rfl)) (by omega) (by exact Nat.zero_add _)) ?_
    refine WO.op0 rfl rfl rfl (step_storeB (b := _) Try.sizeOf5 rfl rfl rfl (by (exact u8_mod _)) (by (simp only [List.length_map, List.length_append, List.length_take, List.length_drop, List.length_set, List.length_cons, List.length_nil, List.length_replicate, bysN_len, hoz] <;> omega))) ?_
    refine WO.nil ?_
    refine W.seq ?_
    refine W.to [(0, _), (1, _), (2, _), (5, _), (6, _), (7, _), (8, _), (9, _), (10, _), (18, _), (21, _), (22, _)] [_, _, _, _] rfl ⟨(by exact sh_sc rfl), (by exact sh_sc rfl), (by exact sh_agg rfl), (by exact sh_ptr rfl), (by exact sh_nil rfl), (by exact sh_sc rfl), (by exact sh_sc rfl), (by exact sh_sl rfl), (by exact sh_sc rfl), (by exact sh_sc rfl), (by exact sh_sc rfl), (by exact sh_sc rfl), trivial⟩ ?_
    refine W.gatC [_, _, _] [] _ rfl rfl ?_
    intro L10 hL10
    have hl10 : L10.length = 8 + da.size := by rw [hL10]; simp only [List.length_append, List.length_cons, List.length_nil, bysN_len, hoz, List.length_set, hl8] <;> omega
    refine W.region ?_
    refine WO.op rfl rfl rfl rfl (mv_sl rfl) ?_
    refine WO.op rfl rfl rfl rfl (as_sl rfl) ?_
    refine WO.op rfl rfl rfl rfl (as_sc rfl) ?_
    refine WO.nil ?_
    refine W.ret ?_
    refine ⟨.inl rfl, ?_⟩
    have e : icmp0 ty co re da.data.toList = L8 := by rw [hL8, hL7, by4']; rfl
    have e2 : encI ty co re da.data.toList = L10 := by
      rw [hL10]; unfold encI put2; rw [e, ← byte_lo]; rfl
    rw [e2]
    exact ret0 (Res.tmp rfl (Res.tmp rfl Res.nil)) (.tup (.cons (Fz.bytes rfl (Nat.zero_le _) (take_whole (by omega)) (by rw [List.length_map]; omega)) (.cons (.keep rfl) .nil)))

end Go.Proofs.Ytdmlkcphlidcfaa

set_option linter.unusedVariables false
set_option linter.unusedSimpArgs false
set_option maxRecDepth 100000
set_option maxHeartbeats 1000000
namespace Go.Proofs.Ytdmlkcphlidcfaa
open Go Go.SL Go.Proofs
theorem w_rC2 {sp dp : Nat} {ns : Bool} {da : ByteArray} (hsp : sp ≤ 65535) (hdp : dp ≤ 65535) (hda : da.size ≤ 65507) : Spec0 Try.prog 14 [.agg [.sc (.int .i64 2), .sc (.int .i64 0), .sc (.int .i64 0), .sc (.int .u32 0), .sc (.int .i64 ((sp : Nat) : Int)), .sc (.int .i64 ((dp : Nat) : Int)), .sc (.bool ns), .sc (.int .u32 0), .sc (.int .u32 0), .sc (.int .i64 0), .sc (.int .i64 0), .sc (.int .i64 0), .sc (.string ⟨#[]⟩), .sc (.string da)]] (.sc (.int .i64 0)) := w_rChkG2 (by constructor <;> omega) (by constructor <;> omega) (by omega) ⟨by omega, by omega, by omega⟩

theorem w_refEncU1 {src dst sp dp : Nat} {da : ByteArray} (hsrc : src < 4294967296) (hdst : dst < 4294967296) (hsp : sp ≤ 65535) (hdp : dp ≤ 65535) (hda : da.size ≤ 65507) : Spec0 Try.prog 12 [.sc (.int .u32 ((src : Nat) : Int)), .sc (.int .u32 ((dst : Nat) : Int)), .agg [.sc (.int .i64 2), .sc (.int .i64 0), .sc (.int .i64 0), .sc (.int .u32 0), .sc (.int .i64 ((sp : Nat) : Int)), .sc (.int .i64 ((dp : Nat) : Int)), .sc (.bool true), .sc (.int .u32 0), .sc (.int .u32 0), .sc (.int .i64 0), .sc (.int .i64 0), .sc (.int .i64 0), .sc (.string ⟨#[]⟩), .sc (.string da)]] (.tup [.im 1 ((udp0 sp dp da.data.toList).map byteAV), .sc (.int .i64 0)]) := by
  refine Spec.body Try.func12 rfl (Nat.le_of_ble_eq_true rfl) ?_
  have hoz : da.data.toList.length = da.size := by rw [Array.length_toList]; rfl
  refine W.seq ?_
  refine W.region ?_
  refine WO.opA rfl rfl rfl rfl (al_boxA rfl rfl) rfl rfl ?_
  refine WO.put 5 (.ptr 0 0) rfl ?_
  refine WO.op rfl rfl rfl rfl (as_nil rfl) ?_
  refine WO.op rfl rfl rfl rfl (as_sc rfl) ?_
  refine WO.nil ?_
  refine W.seq ?_
  refine W.seq ?_
  refine W.to [(0, _), (1, _), (2, _), (5, _), (6, _), (7, _)] [_] rfl ⟨(by exact sh_sc rfl), (by exact sh_sc rfl), (by exact sh_agg rfl), (by exact sh_ptr rfl), (by exact sh_nil rfl), (by exact sh_sc rfl), trivial⟩ ?_
  refine W.region ?_
  refine WO.op rfl rfl rfl rfl (step_loadA Try.isAgg25 Try.sizeOf25 rfl rfl (by exact Nat.le_refl _)) ?_
  refine WO.put 15 (.agg [.sc (.int .i64 2), .sc (.int .i64 0), .sc (.int .i64 0), .sc (.int .u32 0), .sc (.int .i64 ((sp : Nat) : Int)), .sc (.int .i64 ((dp : Nat) : Int)), .sc (.bool true), .sc (.int .u32 0), .sc (.int .u32 0), .sc (.int .i64 0), .sc (.int .i64 0), .sc (.int .i64 0), .sc (.string ⟨#[]⟩), .sc (.string da)]) (by kernel_rfl) ?_
  refine WO.op rfl rfl rfl rfl (step_pure Try.call14 rfl (by (repeat (first | exact Nl.nil | refine Nl.keep (by rfl) ?_))) (w_rC2 hsp hdp hda) (by repeat (rfl))) ?_
  refine WO.op rfl rfl rfl rfl (as_sc rfl) ?_
  refine WO.nil ?_
  refine W.seq ?_
  refine W.to [(0, _), (1, _), (2, _), (5, _), (6, _), (7, _), (8, _)] [_] rfl ⟨(by exact sh_sc rfl), (by exact sh_sc rfl), (by exact sh_agg rfl), (by exact sh_ptr rfl), (by exact sh_nil rfl), (by exact sh_sc rfl), (by exact sh_sc rfl), trivial⟩ ?_
  refine W.region ?_
  refine WO.op rfl rfl rfl rfl (mv_sc rfl) ?_
  refine WO.op rfl rfl rfl rfl (step_int2 rfl rfl rfl) ?_
  refine WO.put 18 (.sc (.bool false)) (by kernel_rfl) ?_
  refine WO.nil ?_
  refine W.condF rfl ?_
  refine W.skip ?_
  refine W.seq ?_
  refine W.seq ?_
  refine W.to [(0, _), (1, _), (2, _), (5, _), (6, _), (7, _), (8, _), (18, _)] [_] rfl ⟨(by exact sh_sc rfl), (by exact sh_sc rfl), (by exact sh_agg rfl), (by exact sh_ptr rfl), (by exact sh_nil rfl), (by exact sh_sc rfl), (by exact sh_sc rfl), (by exact sh_sc rfl), trivial⟩ ?_
  refine W.region ?_
  refine WO.op rfl rfl rfl rfl (step_fieldR (k := 0) (FieldOff.mk (by kernel_rfl)) rfl rfl (by exact Nat.zero_add _)) ?_
  refine WO.op rfl rfl rfl rfl (step_load Try.isAgg3 rfl rfl rfl) ?_
  refine WO.nil ?_
  refine W.block ?_
  refine W.seq ?_
  refine W.to [(0, _), (1, _), (2, _), (5, _), (6, _), (7, _), (8, _), (18, _), (21, _)] [_] rfl ⟨(by exact sh_sc rfl), (by exact sh_sc rfl), (by exact sh_agg rfl), (by exact sh_ptr rfl), (by exact sh_nil rfl), (by exact sh_sc rfl), (by exact sh_sc rfl), (by exact sh_sc rfl), (by exact sh_sc rfl), trivial⟩ ?_
  refine W.region ?_
  refine WO.op rfl rfl rfl rfl (step_int2 rfl rfl rfl) ?_
  refine WO.put 23 (.sc (.bool false)) (by kernel_rfl) ?_
  refine WO.op rfl rfl rfl rfl (as_sc rfl) ?_
  refine WO.nil ?_
  refine W.condF rfl ?_
  refine W.seq ?_
  refine W.to [(0, _), (1, _), (2, _), (5, _), (6, _), (7, _), (8, _), (18, _), (21, _), (22, _)] [_] rfl ⟨(by exact sh_sc rfl), (by exact sh_sc rfl), (by exact sh_agg rfl), (by exact sh_ptr rfl), (by exact sh_nil rfl), (by exact sh_sc rfl), (by exact sh_sc rfl), (by exact sh_sc rfl), (by exact sh_sc rfl), (by exact sh_sc rfl), trivial⟩ ?_
  refine W.region ?_
  refine WO.op rfl rfl rfl rfl (step_int2 rfl rfl rfl) ?_
  refine WO.put 54 (.sc (.bool true)) (by kernel_rfl) ?_
  refine WO.op rfl rfl rfl rfl (as_sc rfl) ?_
  refine WO.nil ?_
  refine W.condT rfl ?_
  refine W.seq ?_
  refine W.to [(0, _), (1, _), (2, _), (5, _), (6, _), (7, _), (8, _), (18, _), (21, _), (22, _), (53, _)] [_] rfl ⟨(by exact sh_sc rfl), (by exact sh_sc rfl), (by exact sh_agg rfl), (by exact sh_ptr rfl), (by exact sh_nil rfl), (by exact sh_sc rfl), (by exact sh_sc rfl), (by exact sh_sc rfl), (by exact sh_sc rfl), (by exact sh_sc rfl), (by exact sh_sc rfl), trivial⟩ ?_
  refine W.draw (Checked.mixed Try.checked) ?_
  refine DC.op1 rfl rfl rfl rfl (fun _ ho => step_fieldR (k := 4) (FieldOff.mk (by kernel_rfl)) rfl ho (by exact Nat.zero_add _)) ?_
  refine DC.op1 rfl rfl rfl rfl (fun _ ho => step_load Try.isAgg3 rfl ho rfl) ?_
  refine DC.opE rfl rfl rfl (step_own Try.call32 rfl (by repeat (first | exact Nl.nil | refine Nl.keep rfl ?_)) (w_twoO (by omega)) noOwn_bytes rfl) (by simp) (by repeat (first | exact True.intro | refine And.intro (by rfl) ?_)) (by repeat (first | exact True.intro | refine And.intro (by rfl) ?_)) ?_
  refine DC.set 57 (.sl 1 0 2) rfl ?_
  refine DC.op1 rfl rfl rfl rfl (fun _ ho => step_fieldR (k := 5) (FieldOff.mk (by kernel_rfl)) rfl ho (by exact Nat.zero_add _)) ?_
  refine DC.op1 rfl rfl rfl rfl (fun _ ho => step_load Try.isAgg3 rfl ho rfl) ?_
  refine DC.opE rfl rfl rfl (step_own Try.call32 rfl (by repeat (first | exact Nl.nil | refine Nl.keep rfl ?_)) (w_twoO (by omega)) noOwn_bytes rfl) (by simp) (by repeat (first | exact True.intro | refine And.intro (by rfl) ?_)) (by repeat (first | exact True.intro | refine And.intro (by first | exact rowLt_bytes | rfl) ?_)) ?_
  refine DC.set 60 (.sl 2 0 2) rfl ?_
  refine DC.opE rfl rfl rfl (step_appB Try.runUnderlying23 (EI.mk (by kernel_rfl)) Try.runUnderlying23 (.inl ⟨_, rfl⟩) rfl rfl (by (simp only [List.length_map, List.length_append, List.length_take, List.length_drop, List.length_set, List.length_cons, List.length_nil, List.length_replicate, bysN_len, hoz] <;> omega)) (Src.ownB rfl rfl (by (exact take_map)) (by (simp only [List.length_map, List.length_append, List.length_take, List.length_drop, List.length_set, List.length_cons, List.length_nil, List.length_replicate, bysN_len, hoz] <;> omega))) (by omega) rfl) (by simp) (by repeat (first | exact True.intro | refine And.intro (by rfl) ?_)) (by repeat (first | exact True.intro | refine And.intro (by first | exact rowLt_bytes | rfl) ?_)) ?_
  refine DC.set 61 (.sl 3 0 _) rfl ?_
  refine DC.set 61 (.sl 3 0 4) (congrArg (AV.sl 3 0) (by rfl)) ?_
  refine DC.op1 rfl rfl rfl rfl (fun _ ho => step_fieldR (k := 13) (FieldOff.mk (by kernel_rfl)) rfl ho (by exact Nat.zero_add _)) ?_
  refine DC.op1 rfl rfl rfl rfl (fun _ ho => step_load Try.isAgg9 rfl ho rfl) ?_
  refine DC.op rfl rfl rfl (fun _ => step_lenS Try.runUnderlying9 rfl) ?_
  refine DC.op rfl rfl rfl (fun _ => step_addN (p := 8) rfl rfl (by (simp only [cap]; omega))) ?_
  refine DC.opE rfl rfl rfl (step_own Try.call32 rfl (by repeat (first | exact Nl.nil | refine Nl.keep rfl ?_)) (w_twoO (by omega)) noOwn_bytes rfl) (by simp) (by repeat (first | exact True.intro | refine And.intro (by rfl) ?_)) (by repeat (first | exact True.intro | refine And.intro (by first | exact rowLt_bytes | rfl) ?_)) ?_
  refine DC.set 66 (.sl 4 0 2) rfl ?_
  refine DC.opE rfl rfl rfl (step_appB Try.runUnderlying23 (EI.mk (by kernel_rfl)) Try.runUnderlying23 (.inl ⟨_, rfl⟩) rfl rfl (by (simp only [List.length_map, List.length_append, List.length_take, List.length_drop, List.length_set, List.length_cons, List.length_nil, List.length_replicate, bysN_len, hoz] <;> omega)) (Src.ownB rfl rfl (by (exact take_map)) (by (simp only [List.length_map, List.length_append, List.length_take, List.length_drop, List.length_set, List.length_cons, List.length_nil, List.length_replicate, bysN_len, hoz] <;> omega))) (by omega) rfl) (by simp) (by repeat (first | exact True.intro | refine And.intro (by rfl) ?_)) (by repeat (first | exact True.intro | refine And.intro (by first | exact rowLt_bytes | rfl) ?_)) ?_
  refine DC.set 67 (.sl 5 0 _) rfl ?_
  refine DC.set 67 (.sl 5 0 6) (congrArg (AV.sl 5 0) (by rfl)) ?_
  refine DC.opA (m := 0) rfl rfl rfl (al_buildSlice Try.runUnderlying23 (z := (Value.int IntKind.u8 0)) (bs := 1) (esz := 1) (EI.mk (by kernel_rfl)) rfl (by decide) rfl rfl) rfl rfl ?_
  refine DC.set 68 (.sl 6 0 _) rfl ?_
  refine DC.opE rfl rfl rfl (step_appB (b := [0, 0]) Try.runUnderlying23 (EI.mk (by kernel_rfl)) Try.runUnderlying23 (.inl ⟨_, rfl⟩) rfl rfl (by simp [bysN_len]) (Src.ownB rfl rfl rfl (Nat.le_of_ble_eq_true rfl)) (by omega) rfl) (by simp) (by repeat (first | exact True.intro | refine And.intro (by rfl) ?_)) (by repeat (first | exact True.intro | refine And.intro (by first | exact rowLt_bytes | rfl) ?_)) ?_
  refine DC.set 69 (.sl 7 0 _) rfl ?_
  refine DC.op rfl rfl rfl (fun _ => as_sl rfl) ?_
  refine DC.set 11 (.sl 7 0 8) (congrArg (AV.sl 7 0) (by rfl)) ?_
  refine DC.fin [(0, 0), (1, 0), (3, 0), (3, 1), (4, 0), (4, 1), (7, 0), (7, 1), (7, 2), (7, 3), (8, 0), (8, 1), (8, 2), (8, 3), (9, 0), (9, 1), (9, 2), (9, 3), (13, 0), (13, 1), (13, 2), (13, 3), (13, 4), (13, 5)] (by kernel_rfl) (by kernel_rfl) ?_ ?_
  · repeat (first | exact True.intro | refine And.intro ?_ ?_ | kernel_rfl)
  · refine W.seq ?_
    refine W.to [(0, _), (1, _), (2, _), (5, _), (6, _), (7, _), (8, _), (11, _), (18, _), (21, _), (22, _), (53, _)] [_, _, _, _, _, _, _, _] rfl ⟨(by exact sh_sc rfl), (by exact sh_sc rfl), (by exact sh_agg rfl), (by exact sh_ptr rfl), (by exact sh_nil rfl), (by exact sh_sc rfl), (by exact sh_sc rfl), (by exact sh_sl rfl), (by exact sh_sc rfl), (by exact sh_sc rfl), (by exact sh_sc rfl), (by exact sh_sc rfl), trivial⟩ ?_
    refine W.gatC [_, _, _, _, _, _, _] [] _ rfl rfl ?_
    intro L13 hL13
    have hl13 : L13.length = 8 := by rw [hL13]; simp only [List.length_append, List.length_cons, List.length_nil, bysN_len, hoz, List.length_take, List.length_drop] <;> omega
    refine W.region ?_
    refine WO.op rfl rfl rfl rfl (mv_sl rfl) ?_
    refine WO.op rfl rfl rfl rfl (step_fieldR (k := 13) (FieldOff.mk (by kernel_rfl)) rfl rfl (by exact Nat.zero_add _)) ?_
    refine WO.op rfl rfl rfl rfl (step_load Try.isAgg9 rfl rfl rfl) ?_
    refine WO.op rfl rfl rfl rfl (step_appB Try.runUnderlying23 (EI.mk (by kernel_rfl)) Try.runUnderlying9 (.inr rfl) rfl rfl (by omega) (Src.str rfl) (by omega) rfl) ?_
    refine WO.put 73 (.sl 8 0 _) rfl ?_
    refine WO.op rfl rfl rfl rfl (as_sl rfl) ?_
    refine WO.put 11 (.sl 8 0 (8 + da.size)) (congrArg (AV.sl 8 0) (by rfl)) ?_
    refine WO.nil ?_
    refine W.seq ?_
    refine W.seq ?_
    refine W.to [(0, _), (1, _), (2, _), (5, _), (6, _), (7, _), (8, _), (11, _), (18, _), (21, _), (22, _), (53, _)] [_, _, _, _, _, _, _, _, _] rfl ⟨(by exact sh_sc rfl), (by exact sh_sc rfl), (by exact sh_agg rfl), (by exact sh_ptr rfl), (by exact sh_nil rfl), (by exact sh_sc rfl), (by exact sh_sc rfl), (by exact sh_sl rfl), (by exact sh_sc rfl), (by exact sh_sc rfl), (by exact sh_sc rfl), (by exact sh_sc rfl), trivial⟩ ?_
    refine W.gatC [_, _, _, _, _, _, _, _] [] _ rfl rfl ?_
    intro L14 hL14
    have hl14 : L14.length = 8 + da.size := by rw [hL14]; simp only [List.length_append, List.length_cons, List.length_nil, bysN_len, hoz, hl13] <;> omega
    refine W.region ?_
    refine WO.op rfl rfl rfl rfl (step_fieldR (k := 6) (FieldOff.mk (by kernel_rfl)) rfl rfl (by exact Nat.zero_add _)) ?_
    refine WO.op rfl rfl rfl rfl (step_load Try.isAgg4 rfl rfl rfl) ?_
    refine WO.put 75 (.sc (.bool true)) (by kernel_rfl) ?_
    refine WO.nil ?_
    refine W.condT rfl ?_
    refine W.seq ?_
    refine W.to [(0, _), (1, _), (2, _), (5, _), (6, _), (7, _), (8, _), (11, _), (18, _), (21, _), (22, _), (53, _), (75, _)] [_, _, _, _, _, _, _, _, _] rfl ⟨(by exact sh_sc rfl), (by exact sh_sc rfl), (by exact sh_agg rfl), (by exact sh_ptr rfl), (by exact sh_nil rfl), (by exact sh_sc rfl), (by exact sh_sc rfl), (by exact sh_sl rfl), (by exact sh_sc rfl), (by exact sh_sc rfl), (by exact sh_sc rfl), (by exact sh_sc rfl), (by exact sh_sc rfl), trivial⟩ ?_
    refine W.region ?_
    refine WO.op rfl rfl rfl rfl (mv_sl rfl) ?_
    refine WO.op rfl rfl rfl rfl (as_sl rfl) ?_
    refine WO.op rfl rfl rfl rfl (as_sc rfl) ?_
    refine WO.nil ?_
    refine W.ret ?_
    refine ⟨.inl rfl, ?_⟩
    have e14 : udp0 sp dp da.data.toList = L14 := by rw [hL14, hL13, ← hoz]; rfl
    rw [e14]
    exact ret0 (Res.tmp rfl (Res.tmp rfl Res.nil)) (.tup (.cons (Fz.bytes rfl (Nat.zero_le _) (take_whole (by omega)) (by rw [List.length_map]; omega)) (.cons (.keep rfl) .nil)))

end Go.Proofs.Ytdmlkcphlidcfaa

set_option linter.unusedVariables false
set_option linter.unusedSimpArgs false
set_option maxRecDepth 100000
set_option maxHeartbeats 1000000
namespace Go.Proofs.Ytdmlkcphlidcfaa
open Go Go.SL Go.Proofs
theorem w_refEncU2 {src dst sp dp : Nat} {da : ByteArray} (hsrc : src < 4294967296) (hdst : dst < 4294967296) (hsp : sp ≤ 65535) (hdp : dp ≤ 65535) (hda : da.size ≤ 65507) (hc : udpC src dst sp dp da.data.toList = 0) : Spec0 Try.prog 12 [.sc (.int .u32 ((src : Nat) : Int)), .sc (.int .u32 ((dst : Nat) : Int)), .agg [.sc (.int .i64 2), .sc (.int .i64 0), .sc (.int .i64 0), .sc (.int .u32 0), .sc (.int .i64 ((sp : Nat) : Int)), .sc (.int .i64 ((dp : Nat) : Int)), .sc (.bool false), .sc (.int .u32 0), .sc (.int .u32 0), .sc (.int .i64 0), .sc (.int .i64 0), .sc (.int .i64 0), .sc (.string ⟨#[]⟩), .sc (.string da)]] (.tup [.im 1 ((put2 (udp0 sp dp da.data.toList) 6 65535).map byteAV), .sc (.int .i64 0)]) := by
  refine Spec.body Try.func12 rfl (Nat.le_of_ble_eq_true rfl) ?_
  have hoz : da.data.toList.length = da.size := by rw [Array.length_toList]; rfl
  refine W.seq ?_
  refine W.region ?_
  refine WO.opA rfl rfl rfl rfl (al_boxA rfl rfl) rfl rfl ?_
  refine WO.put 5 (.ptr 0 0) rfl ?_
  refine WO.op rfl rfl rfl rfl (as_nil rfl) ?_
  refine WO.op rfl rfl rfl rfl (as_sc rfl) ?_
  refine WO.nil ?_
  refine W.seq ?_
  refine W.seq ?_
  refine W.to [(0, _), (1, _), (2, _), (5, _), (6, _), (7, _)] [_] rfl ⟨(by exact sh_sc rfl), (by exact sh_sc rfl), (by exact sh_agg rfl), (by exact sh_ptr rfl), (by exact sh_nil rfl), (by exact sh_sc rfl), trivial⟩ ?_
  refine W.region ?_
  refine WO.op rfl rfl rfl rfl (step_loadA Try.isAgg25 Try.sizeOf25 rfl rfl (by exact Nat.le_refl _)) ?_
  refine WO.put 15 (.agg [.sc (.int .i64 2), .sc (.int .i64 0), .sc (.int .i64 0), .sc (.int .u32 0), .sc (.int .i64 ((sp : Nat) : Int)), .sc (.int .i64 ((dp : Nat) : Int)), .sc (.bool false), .sc (.int .u32 0), .sc (.int .u32 0), .sc (.int .i64 0), .sc (.int .i64 0), .sc (.int .i64 0), .sc (.string ⟨#[]⟩), .sc (.string da)]) (by kernel_rfl) ?_
  refine WO.op rfl rfl rfl rfl (step_pure Try.call14 rfl (by (repeat (first | exact Nl.nil | refine Nl.keep (by rfl) ?_))) (w_rC2 hsp hdp hda) (by repeat (rfl))) ?_
  refine WO.op rfl rfl rfl rfl (as_sc rfl) ?_
  refine WO.nil ?_
  refine W.seq ?_
  refine W.to [(0, _), (1, _), (2, _), (5, _), (6, _), (7, _), (8, _)] [_] rfl ⟨(by exact sh_sc rfl), (by exact sh_sc rfl), (by exact sh_agg rfl), (by exact sh_ptr rfl), (by exact sh_nil rfl), (by exact sh_sc rfl), (by exact sh_sc rfl), trivial⟩ ?_
  refine W.region ?_
  refine WO.op rfl rfl rfl rfl (mv_sc rfl) ?_
  refine WO.op rfl rfl rfl rfl (step_int2 rfl rfl rfl) ?_
  refine WO.put 18 (.sc (.bool false)) (by kernel_rfl) ?_
  refine WO.nil ?_
  refine W.condF rfl ?_
  refine W.skip ?_
  refine W.seq ?_
  refine W.seq ?_
  refine W.to [(0, _), (1, _), (2, _), (5, _), (6, _), (7, _), (8, _), (18, _)] [_] rfl ⟨(by exact sh_sc rfl), (by exact sh_sc rfl), (by exact sh_agg rfl), (by exact sh_ptr rfl), (by exact sh_nil rfl), (by exact sh_sc rfl), (by exact sh_sc rfl), (by exact sh_sc rfl), trivial⟩ ?_
  refine W.region ?_
  refine WO.op rfl rfl rfl rfl (step_fieldR (k := 0) (FieldOff.mk (by kernel_rfl)) rfl rfl (by exact Nat.zero_add _)) ?_
  refine WO.op rfl rfl rfl rfl (step_load Try.isAgg3 rfl rfl rfl) ?_
  refine WO.nil ?_
  refine W.block ?_
  refine W.seq ?_
  refine W.to [(0, _), (1, _), (2, _), (5, _), (6, _), (7, _), (8, _), (18, _), (21, _)] [_] rfl ⟨(by exact sh_sc rfl), (by exact sh_sc rfl), (by exact sh_agg rfl), (by exact sh_ptr rfl), (by exact sh_nil rfl), (by exact sh_sc rfl), (by exact sh_sc rfl), (by exact sh_sc rfl), (by exact sh_sc rfl), trivial⟩ ?_
  refine W.region ?_
  refine WO.op rfl rfl rfl rfl (step_int2 rfl rfl rfl) ?_
  refine WO.put 23 (.sc (.bool false)) (by kernel_rfl) ?_
  refine WO.op rfl rfl rfl rfl (as_sc rfl) ?_
  refine WO.nil ?_
  refine W.condF rfl ?_
  refine W.seq ?_
  refine W.to [(0, _), (1, _), (2, _), (5, _), (6, _), (7, _), (8, _), (18, _), (21, _), (22, _)] [_] rfl ⟨(by exact sh_sc rfl), (by exact sh_sc rfl), (by exact sh_agg rfl), (by exact sh_ptr rfl), (by exact sh_nil rfl), (by exact sh_sc rfl), (by exact sh_sc rfl), (by exact sh_sc rfl), (by exact sh_sc rfl), (by exact sh_sc rfl), trivial⟩ ?_
  refine W.region ?_
  refine WO.op rfl rfl rfl rfl (step_int2 rfl rfl rfl) ?_
  refine WO.put 54 (.sc (.bool true)) (by kernel_rfl) ?_
  refine WO.op rfl rfl rfl rfl (as_sc rfl) ?_
  refine WO.nil ?_
  refine W.condT rfl ?_
  refine W.seq ?_
  refine W.to [(0, _), (1, _), (2, _), (5, _), (6, _), (7, _), (8, _), (18, _), (21, _), (22, _), (53, _)] [_] rfl ⟨(by exact sh_sc rfl), (by exact sh_sc rfl), (by exact sh_agg rfl), (by exact sh_ptr rfl), (by exact sh_nil rfl), (by exact sh_sc rfl), (by exact sh_sc rfl), (by exact sh_sc rfl), (by exact sh_sc rfl), (by exact sh_sc rfl), (by exact sh_sc rfl), trivial⟩ ?_
  refine W.draw (Checked.mixed Try.checked) ?_
  refine DC.op1 rfl rfl rfl rfl (fun _ ho => step_fieldR (k := 4) (FieldOff.mk (by kernel_rfl)) rfl ho (by exact Nat.zero_add _)) ?_
  refine DC.op1 rfl rfl rfl rfl (fun _ ho => step_load Try.isAgg3 rfl ho rfl) ?_
  refine DC.opE rfl rfl rfl (step_own Try.call32 rfl (by repeat (first | exact Nl.nil | refine Nl.keep rfl ?_)) (w_twoO (by omega)) noOwn_bytes rfl) (by simp) (by repeat (first | exact True.intro | refine And.intro (by rfl) ?_)) (by repeat (first | exact True.intro | refine And.intro (by rfl) ?_)) ?_
  refine DC.set 57 (.sl 1 0 2) rfl ?_
  refine DC.op1 rfl rfl rfl rfl (fun _ ho => step_fieldR (k := 5) (FieldOff.mk (by kernel_rfl)) rfl ho (by exact Nat.zero_add _)) ?_
  refine DC.op1 rfl rfl rfl rfl (fun _ ho => step_load Try.isAgg3 rfl ho rfl) ?_
  refine DC.opE rfl rfl rfl (step_own Try.call32 rfl (by repeat (first | exact Nl.nil | refine Nl.keep rfl ?_)) (w_twoO (by omega)) noOwn_bytes rfl) (by simp) (by repeat (first | exact True.intro | refine And.intro (by rfl) ?_)) (by repeat (first | exact True.intro | refine And.intro (by first | exact rowLt_bytes | rfl) ?_)) ?_
  refine DC.set 60 (.sl 2 0 2) rfl ?_
  refine DC.opE rfl rfl rfl (step_appB Try.runUnderlying23 (EI.mk (by kernel_rfl)) Try.runUnderlying23 (.inl ⟨_, rfl⟩) rfl rfl (by (simp only [List.length_map, List.length_append, List.length_take, List.length_drop, List.length_set, List.length_cons, List.length_nil, List.length_replicate, bysN_len, hoz] <;> omega)) (Src.ownB rfl rfl (by (exact take_map)) (by (simp only [List.length_map, List.length_append, List.length_take, List.length_drop, List.length_set, List.length_cons, List.length_nil, List.length_replicate, bysN_len, hoz] <;> omega))) (by omega) rfl) (by simp) (by repeat (first | exact True.intro | refine And.intro (by rfl) ?_)) (by repeat (first | exact True.intro | refine And.intro (by first | exact rowLt_bytes | rfl) ?_)) ?_
  refine DC.set 61 (.sl 3 0 _) rfl ?_
  refine DC.set 61 (.sl 3 0 4) (congrArg (AV.sl 3 0) (by rfl)) ?_
  refine DC.op1 rfl rfl rfl rfl (fun _ ho => step_fieldR (k := 13) (FieldOff.mk (by kernel_rfl)) rfl ho (by exact Nat.zero_add _)) ?_
  refine DC.op1 rfl rfl rfl rfl (fun _ ho => step_load Try.isAgg9 rfl ho rfl) ?_
  refine DC.op rfl rfl rfl (fun _ => step_lenS Try.runUnderlying9 rfl) ?_
  refine DC.op rfl rfl rfl (fun _ => step_addN (p := 8) rfl rfl (by (simp only [cap]; omega))) ?_
  refine DC.opE rfl rfl rfl (step_own Try.call32 rfl (by repeat (first | exact Nl.nil | refine Nl.keep rfl ?_)) (w_twoO (by omega)) noOwn_bytes rfl) (by simp) (by repeat (first | exact True.intro | refine And.intro (by rfl) ?_)) (by repeat (first | exact True.intro | refine And.intro (by first | exact rowLt_bytes | rfl) ?_)) ?_
  refine DC.set 66 (.sl 4 0 2) rfl ?_
  refine DC.opE rfl rfl rfl (step_appB Try.runUnderlying23 (EI.mk (by kernel_rfl)) Try.runUnderlying23 (.inl ⟨_, rfl⟩) rfl rfl (by (simp only [List.length_map, List.length_append, List.length_take, List.length_drop, List.length_set, List.length_cons, List.length_nil, List.length_replicate, bysN_len, hoz] <;> omega)) (Src.ownB rfl rfl (by (exact take_map)) (by (simp only [List.length_map, List.length_append, List.length_take, List.length_drop, List.length_set, List.length_cons, List.length_nil, List.length_replicate, bysN_len, hoz] <;> omega))) (by omega) rfl) (by simp) (by repeat (first | exact True.intro | refine And.intro (by rfl) ?_)) (by repeat (first | exact True.intro | refine And.intro (by first | exact rowLt_bytes | rfl) ?_)) ?_
  refine DC.set 67 (.sl 5 0 _) rfl ?_
  refine DC.set 67 (.sl 5 0 6) (congrArg (AV.sl 5 0) (by rfl)) ?_
  refine DC.opA (m := 0) rfl rfl rfl (al_buildSlice Try.runUnderlying23 (z := (Value.int IntKind.u8 0)) (bs := 1) (esz := 1) (EI.mk (by kernel_rfl)) rfl (by decide) rfl rfl) rfl rfl ?_
  refine DC.set 68 (.sl 6 0 _) rfl ?_
  refine DC.opE rfl rfl rfl (step_appB (b := [0, 0]) Try.runUnderlying23 (EI.mk (by kernel_rfl)) Try.runUnderlying23 (.inl ⟨_, rfl⟩) rfl rfl (by simp [bysN_len]) (Src.ownB rfl rfl rfl (Nat.le_of_ble_eq_true rfl)) (by omega) rfl) (by simp) (by repeat (first | exact True.intro | refine And.intro (by rfl) ?_)) (by repeat (first | exact True.intro | refine And.intro (by first | exact rowLt_bytes | rfl) ?_)) ?_
  refine DC.set 69 (.sl 7 0 _) rfl ?_
  refine DC.op rfl rfl rfl (fun _ => as_sl rfl) ?_
  refine DC.set 11 (.sl 7 0 8) (congrArg (AV.sl 7 0) (by rfl)) ?_
  refine DC.fin [(0, 0), (1, 0), (3, 0), (3, 1), (4, 0), (4, 1), (7, 0), (7, 1), (7, 2), (7, 3), (8, 0), (8, 1), (8, 2), (8, 3), (9, 0), (9, 1), (9, 2), (9, 3), (13, 0), (13, 1), (13, 2), (13, 3), (13, 4), (13, 5)] (by kernel_rfl) (by kernel_rfl) ?_ ?_
  · repeat (first | exact True.intro | refine And.intro ?_ ?_ | kernel_rfl)
  · refine W.seq ?_
    refine W.to [(0, _), (1, _), (2, _), (5, _), (6, _), (7, _), (8, _), (11, _), (18, _), (21, _), (22, _), (53, _)] [_, _, _, _, _, _, _, _] rfl ⟨(by exact sh_sc rfl), (by exact sh_sc rfl), (by exact sh_agg rfl), (by exact sh_ptr rfl), (by exact sh_nil rfl), (by exact sh_sc rfl), (by exact sh_sc rfl), (by exact sh_sl rfl), (by exact sh_sc rfl), (by exact sh_sc rfl), (by exact sh_sc rfl), (by exact sh_sc rfl), trivial⟩ ?_
    refine W.gatC [_, _, _, _, _, _, _] [] _ rfl rfl ?_
    intro L13 hL13
    have hl13 : L13.length = 8 := by rw [hL13]; simp only [List.length_append, List.length_cons, List.length_nil, bysN_len, hoz, List.length_take, List.length_drop] <;> omega
    refine W.region ?_
    refine WO.op rfl rfl rfl rfl (mv_sl rfl) ?_
    refine WO.op rfl rfl rfl rfl (step_fieldR (k := 13) (FieldOff.mk (by kernel_rfl)) rfl rfl (by exact Nat.zero_add _)) ?_
    refine WO.op rfl rfl rfl rfl (step_load Try.isAgg9 rfl rfl rfl) ?_
    refine WO.op rfl rfl rfl rfl (step_appB Try.runUnderlying23 (EI.mk (by kernel_rfl)) Try.runUnderlying9 (.inr rfl) rfl rfl (by omega) (Src.str rfl) (by omega) rfl) ?_
    refine WO.put 73 (.sl 8 0 _) rfl ?_
    refine WO.op rfl rfl rfl rfl (as_sl rfl) ?_
    refine WO.put 11 (.sl 8 0 (8 + da.size)) (congrArg (AV.sl 8 0) (by rfl)) ?_
    refine WO.nil ?_
    refine W.seq ?_
    refine W.seq ?_
    refine W.to [(0, _), (1, _), (2, _), (5, _), (6, _), (7, _), (8, _), (11, _), (18, _), (21, _), (22, _), (53, _)] [_, _, _, _, _, _, _, _, _] rfl ⟨(by exact sh_sc rfl), (by exact sh_sc rfl), (by exact sh_agg rfl), (by exact sh_ptr rfl), (by exact sh_nil rfl), (by exact sh_sc rfl), (by exact sh_sc rfl), (by exact sh_sl rfl), (by exact sh_sc rfl), (by exact sh_sc rfl), (by exact sh_sc rfl), (by exact sh_sc rfl), trivial⟩ ?_
    refine W.gatC [_, _, _, _, _, _, _, _] [] _ rfl rfl ?_
    intro L14 hL14
    have hl14 : L14.length = 8 + da.size := by rw [hL14]; simp only [List.length_append, List.length_cons, List.length_nil, bysN_len, hoz, hl13] <;> omega
    refine W.region ?_
    refine WO.op rfl rfl rfl rfl (step_fieldR (k := 6) (FieldOff.mk (by kernel_rfl)) rfl rfl (by exact Nat.zero_add _)) ?_
    refine WO.op rfl rfl rfl rfl (step_load Try.isAgg4 rfl rfl rfl) ?_
    refine WO.put 75 (.sc (.bool false)) (by kernel_rfl) ?_
    refine WO.nil ?_
    refine W.condF rfl ?_
    refine W.skip ?_
    refine W.seq ?_
    refine W.to [(0, _), (1, _), (2, _), (5, _), (6, _), (7, _), (8, _), (11, _), (18, _), (21, _), (22, _), (53, _), (75, _)] [_, _, _, _, _, _, _, _, _] rfl ⟨(by exact sh_sc rfl), (by exact sh_sc rfl), (by exact sh_agg rfl), (by exact sh_ptr rfl), (by exact sh_nil rfl), (by exact sh_sc rfl), (by exact sh_sc rfl), (by exact sh_sl rfl), (by exact sh_sc rfl), (by exact sh_sc rfl), (by exact sh_sc rfl), (by exact sh_sc rfl), (by exact sh_sc rfl), trivial⟩ ?_
    have e14 : udp0 sp dp da.data.toList = L14 := by rw [hL14, hL13, ← hoz]; rfl
    have hf := fo_le (psu src dst 17 L14.length + ws L14 L14.length)
    have hC : udpC src dst sp dp da.data.toList = 65535 - fo (psu src dst 17 L14.length + ws L14 L14.length) := by unfold udpC; rw [e14]
    refine W.region ?_
    refine WO.op rfl rfl rfl rfl (mv_sc rfl) ?_
    refine WO.op rfl rfl rfl rfl (mv_sc rfl) ?_
    refine WO.op rfl rfl rfl rfl (mv_sl rfl) ?_
    refine WO.op rfl rfl rfl rfl (step_lenL Try.runUnderlying23 rfl rfl) ?_
    refine WO.op rfl rfl rfl rfl (step_pure Try.call25 rfl (by (repeat (first | exact Nl.nil | refine Nl.keep (by rfl) ?_))) (w_refPseudo hsrc hdst (by decide) (by omega)) (by repeat (rfl))) ?_
    refine WO.op rfl rfl rfl rfl (mv_sl rfl) ?_
    refine WO.op rfl rfl rfl rfl (step_lent Try.call22 rfl (by (repeat (first | exact Bw.nil | refine Bw.slB rfl (by (exact take_whole (by omega))) (by (simp only [List.length_map, List.length_append, List.length_take, List.length_drop, List.length_set, List.length_cons, List.length_nil, List.length_replicate, bysN_len, hoz] <;> omega)) ?_))) (w_refSum (by omega)) (by repeat (rfl))) ?_
    refine WO.op rfl rfl rfl rfl (step_pure Try.call24 rfl (by (repeat (first | exact Nl.nil | refine Nl.keep (by rfl) ?_))) (w_Add (fo_le _) (fo_le _)) (by repeat (rfl))) ?_
    refine WO.put 84 (.sc (.int .u16 ((fo (psu src dst 17 L14.length + ws L14 L14.length) : Nat) : Int))) (congrArg (fun z : Nat => AV.sc (.int .u16 (z : Int))) (by rw [fo_add, fo_add', hl14])) ?_
    refine WO.op rfl rfl rfl rfl (step_subN (p := 65535) rfl rfl (by omega) (by (simp only [cap]; omega))) ?_
    refine WO.op rfl rfl rfl rfl (as_sc rfl) ?_
    refine WO.nil ?_
    refine W.seq ?_
    refine W.seq ?_
    refine W.to [(0, _), (1, _), (2, _), (5, _), (6, _), (7, _), (8, _), (11, _), (12, _), (18, _), (21, _), (22, _), (53, _), (75, _)] [_, _, _, _, _, _, _, _, _] rfl ⟨(by exact sh_sc rfl), (by exact sh_sc rfl), (by exact sh_agg rfl), (by exact sh_ptr rfl), (by exact sh_nil rfl), (by exact sh_sc rfl), (by exact sh_sc rfl), (by exact sh_sl rfl), (by exact sh_sc rfl), (by exact sh_sc rfl), (by exact sh_sc rfl), (by exact sh_sc rfl), (by exact sh_sc rfl), (by exact sh_sc rfl), trivial⟩ ?_
    refine W.region ?_
    refine WO.op rfl rfl rfl rfl (mv_sc rfl) ?_
    refine WO.op rfl rfl rfl rfl (step_int2 rfl rfl rfl) ?_
    refine WO.put 87 (.sc (.bool true)) (congrArg (fun b : Bool => AV.sc (.bool b)) (by rw [← hC, hc]; rfl)) ?_
    refine WO.nil ?_
    refine W.condT rfl ?_
    refine W.to [(0, _), (1, _), (2, _), (5, _), (6, _), (7, _), (8, _), (11, _), (12, _), (18, _), (21, _), (22, _), (53, _), (75, _), (87, _)] [_, _, _, _, _, _, _, _, _] rfl ⟨(by exact sh_sc rfl), (by exact sh_sc rfl), (by exact sh_agg rfl), (by exact sh_ptr rfl), (by exact sh_nil rfl), (by exact sh_sc rfl), (by exact sh_sc rfl), (by exact sh_sl rfl), (by exact sh_sc rfl), (by exact sh_sc rfl), (by exact sh_sc rfl), (by exact sh_sc rfl), (by exact sh_sc rfl), (by exact sh_sc rfl), (by exact sh_sc rfl), trivial⟩ ?_
    refine W.region ?_
    refine WO.op rfl rfl rfl rfl (as_sc rfl) ?_
    refine WO.nil ?_
    refine W.seq ?_
    refine W.to [(0, _), (1, _), (2, _), (5, _), (6, _), (7, _), (8, _), (11, _), (12, _), (18, _), (21, _), (22, _), (53, _), (75, _), (87, _)] [_, _, _, _, _, _, _, _, _] rfl ⟨(by exact sh_sc rfl), (by exact sh_sc rfl), (by exact sh_agg rfl), (by exact sh_ptr rfl), (by exact sh_nil rfl), (by exact sh_sc rfl), (by exact sh_sc rfl), (by exact sh_sl rfl), (by exact sh_sc rfl), (by exact sh_sc rfl), (by exact sh_sc rfl), (by exact sh_sc rfl), (by exact sh_sc rfl), (by exact sh_sc rfl), (by exact sh_sc rfl), trivial⟩ ?_
    refine W.region ?_
    refine WO.op rfl rfl rfl rfl (mv_sl rfl) ?_
    refine WO.op rfl rfl rfl rfl (mv_sl rfl) ?_
    refine WO.op rfl rfl rfl rfl (mv_sc rfl) ?_
    refine WO.op rfl rfl rfl rfl (step_quoN (q := 256) rfl rfl (by omega) (by (simp only [cap]; omega))) ?_
    refine WO.op rfl rfl rfl rfl (step_convR Try.runUnderlying37 Try.runUnderlying5 rfl (by exact convN (by (simp only [cap]; omega)))) ?_
    refine WO.op rfl rfl rfl rfl (mv_sc rfl) ?_
    refine WO.op rfl rfl rfl rfl (step_remN (q := 256) rfl rfl (by omega)) ?_
    refine WO.op rfl rfl rfl rfl (step_convR Try.runUnderlying37 Try.runUnderlying5 rfl (by exact convN (by (simp only [cap]; omega)))) ?_
    refine WO.op rfl rfl rfl rfl (step_idxO (j := 6) Try.runUnderlying23 Try.sizeOf5 rfl rfl rfl (by (exact rfl)) (by omega) (by exact Nat.zero_add _)) ?_
    refine WO.op0 rfl rfl rfl (step_store1 Try.sizeOf5 rfl rfl rfl rfl (by (simp only [List.length_map, List.length_append, List.length_take, List.length_drop, List.length_set, List.length_cons, List.length_nil, List.length_replicate, bysN_len, hoz] <;> omega))) ?_
    refine WO.op rfl rfl rfl rfl (step_idxO (j := 7) Try.runUnderlying23 Try.sizeOf5 rfl rfl rfl (by (exact rfl)) (by omega) (by exact Nat.zero_add _)) ?_
    refine WO.op0 rfl rfl rfl (step_store1 Try.sizeOf5 rfl rfl rfl rfl (by (simp only [List.length_map, List.length_append, List.length_take, List.length_drop, List.length_set, List.length_cons, List.length_nil, List.length_replicate, bysN_len, hoz] <;> omega))) ?_
    refine WO.nil ?_
    refine W.seq ?_
    refine W.to [(0, _), (1, _), (2, _), (5, _), (6, _), (7, _), (8, _), (11, _), (12, _), (18, _), (21, _), (22, _), (53, _), (75, _), (87, _)] [_, _, _, _, _, _, _, _, _] rfl ⟨(by exact sh_sc rfl), (by exact sh_sc rfl), (by exact sh_agg rfl), (by exact sh_ptr rfl), (by exact sh_nil rfl), (by exact sh_sc rfl), (by exact sh_sc rfl), (by exact sh_sl rfl), (by exact sh_sc rfl), (by exact sh_sc rfl), (by exact sh_sc rfl), (by exact sh_sc rfl), (by exact sh_sc rfl), (by exact sh_sc rfl), (by exact sh_sc rfl), trivial⟩ ?_
    refine W.gatC [_, _, _, _, _, _, _, _] [] ((L14.set 6 (byteOf 65535 8)).set 7 (byteOf 65535 0)) rfl (by rw [List.map_set, List.map_set]; rfl) ?_
    intro L20 hL20
    have hl20 : L20.length = 8 + da.size := by rw [hL20, List.length_set, List.length_set]; exact hl14
    refine W.region ?_
    refine WO.op rfl rfl rfl rfl (mv_sl rfl) ?_
    refine WO.op rfl rfl rfl rfl (as_sl rfl) ?_
    refine WO.op rfl rfl rfl rfl (as_sc rfl) ?_
    refine WO.nil ?_
    refine W.ret ?_
    refine ⟨.inl rfl, ?_⟩
    have e2 : put2 (udp0 sp dp da.data.toList) 6 65535 = L20 := by
      rw [hL20]; unfold put2; rw [e14]
    rw [e2]
    exact ret0 (Res.tmp rfl (Res.tmp rfl Res.nil)) (.tup (.cons (Fz.bytes rfl (Nat.zero_le _) (take_whole (by omega)) (by rw [List.length_map]; omega)) (.cons (.keep rfl) .nil)))

theorem w_refEncU3 {src dst sp dp : Nat} {da : ByteArray} (hsrc : src < 4294967296) (hdst : dst < 4294967296) (hsp : sp ≤ 65535) (hdp : dp ≤ 65535) (hda : da.size ≤ 65507) (hc : udpC src dst sp dp da.data.toList ≠ 0) : Spec0 Try.prog 12 [.sc (.int .u32 ((src : Nat) : Int)), .sc (.int .u32 ((dst : Nat) : Int)), .agg [.sc (.int .i64 2), .sc (.int .i64 0), .sc (.int .i64 0), .sc (.int .u32 0), .sc (.int .i64 ((sp : Nat) : Int)), .sc (.int .i64 ((dp : Nat) : Int)), .sc (.bool false), .sc (.int .u32 0), .sc (.int .u32 0), .sc (.int .i64 0), .sc (.int .i64 0), .sc (.int .i64 0), .sc (.string ⟨#[]⟩), .sc (.string da)]] (.tup [.im 1 ((put2 (udp0 sp dp da.data.toList) 6 (udpC src dst sp dp da.data.toList)).map byteAV), .sc (.int .i64 0)]) := by
  refine Spec.body Try.func12 rfl (Nat.le_of_ble_eq_true rfl) ?_
  have hoz : da.data.toList.length = da.size := by rw [Array.length_toList]; rfl
  refine W.seq ?_
  refine W.region ?_
  refine WO.opA rfl rfl rfl rfl (al_boxA rfl rfl) rfl rfl ?_
  refine WO.put 5 (.ptr 0 0) rfl ?_
  refine WO.op rfl rfl rfl rfl (as_nil rfl) ?_
  refine WO.op rfl rfl rfl rfl (as_sc rfl) ?_
  refine WO.nil ?_
  refine W.seq ?_
  refine W.seq ?_
  refine W.to [(0, _), (1, _), (2, _), (5, _), (6, _), (7, _)] [_] rfl ⟨(by exact sh_sc rfl), (by exact sh_sc rfl), (by exact sh_agg rfl), (by exact sh_ptr rfl), (by exact sh_nil rfl), (by exact sh_sc rfl), trivial⟩ ?_
  refine W.region ?_
  refine WO.op rfl rfl rfl rfl (step_loadA Try.isAgg25 Try.sizeOf25 rfl rfl (by exact Nat.le_refl _)) ?_
  refine WO.put 15 (.agg [.sc (.int .i64 2), .sc (.int .i64 0), .sc (.int .i64 0), .sc (.int .u32 0), .sc (.int .i64 ((sp : Nat) : Int)), .sc (.int .i64 ((dp : Nat) : Int)), .sc (.bool false), .sc (.int .u32 0), .sc (.int .u32 0), .sc (.int .i64 0), .sc (.int .i64 0), .sc (.int .i64 0), .sc (.string ⟨#[]⟩), .sc (.string da)]) (by kernel_rfl) ?_
  refine WO.op rfl rfl rfl rfl (step_pure Try.call14 rfl (by (repeat (first | exact Nl.nil | refine Nl.keep (by rfl) ?_))) (w_rC2 hsp hdp hda) (by repeat (rfl))) ?_
  refine WO.op rfl rfl rfl rfl (as_sc rfl) ?_
  refine WO.nil ?_
  refine W.seq ?_
  refine W.to [(0, _), (1, _), (2, _), (5, _), (6, _), (7, _), (8, _)] [_] rfl ⟨(by exact sh_sc rfl), (by exact sh_sc rfl), (by exact sh_agg rfl), (by exact sh_ptr rfl), (by exact sh_nil rfl), (by exact sh_sc rfl), (by exact sh_sc rfl), trivial⟩ ?_
  refine W.region ?_
  refine WO.op rfl rfl rfl rfl (mv_sc rfl) ?_
  refine WO.op rfl rfl rfl rfl (step_int2 rfl rfl rfl) ?_
  refine WO.put 18 (.sc (.bool false)) (by kernel_rfl) ?_
  refine WO.nil ?_
  refine W.condF rfl ?_
  refine W.skip ?_
  refine W.seq ?_
  refine W.seq ?_
  refine W.to [(0, _), (1, _), (2, _), (5, _), (6, _), (7, _), (8, _), (18, _)] [_] rfl ⟨(by exact sh_sc rfl), (by exact sh_sc rfl), (by exact sh_agg rfl), (by exact sh_ptr rfl), (by exact sh_nil rfl), (by exact sh_sc rfl), (by exact sh_sc rfl), (by exact sh_sc rfl), trivial⟩ ?_
  refine W.region ?_
  refine WO.op rfl rfl rfl rfl (step_fieldR (k := 0) (FieldOff.mk (by kernel_rfl)) rfl rfl (by exact Nat.zero_add _)) ?_
  refine WO.op rfl rfl rfl rfl (step_load Try.isAgg3 rfl rfl rfl) ?_
  refine WO.nil ?_
  refine W.block ?_
  refine W.seq ?_
  refine W.to [(0, _), (1, _), (2, _), (5, _), (6, _), (7, _), (8, _), (18, _), (21, _)] [_] rfl ⟨(by exact sh_sc rfl), (by exact sh_sc rfl), (by exact sh_agg rfl), (by exact sh_ptr rfl), (by exact sh_nil rfl), (by exact sh_sc rfl), (by exact sh_sc rfl), (by exact sh_sc rfl), (by exact sh_sc rfl), trivial⟩ ?_
  refine W.region ?_
  refine WO.op rfl rfl rfl rfl (step_int2 rfl rfl rfl) ?_
  refine WO.put 23 (.sc (.bool false)) (by kernel_rfl) ?_
  refine WO.op rfl rfl rfl rfl (as_sc rfl) ?_
  refine WO.nil ?_
  refine W.condF rfl ?_
  refine W.seq ?_
  refine W.to [(0, _), (1, _), (2, _), (5, _), (6, _), (7, _), (8, _), (18, _), (21, _), (22, _)] [_] rfl ⟨(by exact sh_sc rfl), (by exact sh_sc rfl), (by exact sh_agg rfl), (by exact sh_ptr rfl), (by exact sh_nil rfl), (by exact sh_sc rfl), (by exact sh_sc rfl), (by exact sh_sc rfl), (by exact sh_sc rfl), (by exact sh_sc rfl), trivial⟩ ?_
  refine W.region ?_
  refine WO.op rfl rfl rfl rfl (step_int2 rfl rfl rfl) ?_
  refine WO.put 54 (.sc (.bool true)) (by kernel_rfl) ?_
  refine WO.op rfl rfl rfl rfl (as_sc rfl) ?_
  refine WO.nil ?_
  refine W.condT rfl ?_
  refine W.seq ?_
  refine W.to [(0, _), (1, _), (2, _), (5, _), (6, _), (7, _), (8, _), (18, _), (21, _), (22, _), (53, _)] [_] rfl ⟨(by exact sh_sc rfl), (by exact sh_sc rfl), (by exact sh_agg rfl), (by exact sh_ptr rfl), (by exact sh_nil rfl), (by exact sh_sc rfl), (by exact sh_sc rfl), (by exact sh_sc rfl), (by exact sh_sc rfl), (by exact sh_sc rfl), (by exact sh_sc rfl), trivial⟩ ?_
  refine W.draw (Checked.mixed Try.checked) ?_
  refine DC.op1 rfl rfl rfl rfl (fun _ ho => step_fieldR (k := 4) (FieldOff.mk (by kernel_rfl)) rfl ho (by exact Nat.zero_add _)) ?_
  refine DC.op1 rfl rfl rfl rfl (fun _ ho => step_load Try.isAgg3 rfl ho rfl) ?_
  refine DC.opE rfl rfl rfl (step_own Try.call32 rfl (by repeat (first | exact Nl.nil | refine Nl.keep rfl ?_)) (w_twoO (by omega)) noOwn_bytes rfl) (by simp) (by repeat (first | exact True.intro | refine And.intro (by rfl) ?_)) (by repeat (first | exact True.intro | refine And.intro (by rfl) ?_)) ?_
  refine DC.set 57 (.sl 1 0 2) rfl ?_
  refine DC.op1 rfl rfl rfl rfl (fun _ ho => step_fieldR (k := 5) (FieldOff.mk (by kernel_rfl)) rfl ho (by exact Nat.zero_add _)) ?_
  refine DC.op1 rfl rfl rfl rfl (fun _ ho => step_load Try.isAgg3 rfl ho rfl) ?_
  refine DC.opE rfl rfl rfl (step_own Try.call32 rfl (by repeat (first | exact Nl.nil | refine Nl.keep rfl ?_)) (w_twoO (by omega)) noOwn_bytes rfl) (by simp) (by repeat (first | exact True.intro | refine And.intro (by rfl) ?_)) (by repeat (first | exact True.intro | refine And.intro (by first | exact rowLt_bytes | rfl) ?_)) ?_
  refine DC.set 60 (.sl 2 0 2) rfl ?_
  refine DC.opE rfl rfl rfl (step_appB Try.runUnderlying23 (EI.mk (by kernel_rfl)) Try.runUnderlying23 (.inl ⟨_, rfl⟩) rfl rfl (by (simp only [List.length_map, List.length_append, List.length_take, List.length_drop, List.length_set, List.length_cons, List.length_nil, List.length_replicate, bysN_len, hoz] <;> omega)) (Src.ownB rfl rfl (by (exact take_map)) (by (simp only [List.length_map, List.length_append, List.length_take, List.length_drop, List.length_set, List.length_cons, List.length_nil, List.length_replicate, bysN_len, hoz] <;> omega))) (by omega) rfl) (by simp) (by repeat (first | exact True.intro | refine And.intro (by rfl) ?_)) (by repeat (first | exact True.intro | refine And.intro (by first | exact rowLt_bytes | rfl) ?_)) ?_
  refine DC.set 61 (.sl 3 0 _) rfl ?_
  refine DC.set 61 (.sl 3 0 4) (congrArg (AV.sl 3 0) (by rfl)) ?_
  refine DC.op1 rfl rfl rfl rfl (fun _ ho => step_fieldR (k := 13) (FieldOff.mk (by kernel_rfl)) rfl ho (by exact Nat.zero_add _)) ?_
  refine DC.op1 rfl rfl rfl rfl (fun _ ho => step_load Try.isAgg9 rfl ho rfl) ?_
  refine DC.op rfl rfl rfl (fun _ => step_lenS Try.runUnderlying9 rfl) ?_
  refine DC.op rfl rfl rfl (fun _ => step_addN (p := 8) rfl rfl (by (simp only [cap]; omega))) ?_
  refine DC.opE rfl rfl rfl (step_own Try.call32 rfl (by repeat (first | exact Nl.nil | refine Nl.keep rfl ?_)) (w_twoO (by omega)) noOwn_bytes rfl) (by simp) (by repeat (first | exact True.intro | refine And.intro (by rfl) ?_)) (by repeat (first | exact True.intro | refine And.intro (by first | exact rowLt_bytes | rfl) ?_)) ?_
  refine DC.set 66 (.sl 4 0 2) rfl ?_
  refine DC.opE rfl rfl rfl (step_appB Try.runUnderlying23 (EI.mk (by kernel_rfl)) Try.runUnderlying23 (.inl ⟨_, rfl⟩) rfl rfl (by (simp only [List.length_map, List.length_append, List.length_take, List.length_drop, List.length_set, List.length_cons, List.length_nil, List.length_replicate, bysN_len, hoz] <;> omega)) (Src.ownB rfl rfl (by (exact take_map)) (by (simp only [List.length_map, List.length_append, List.length_take, List.length_drop, List.length_set, List.length_cons, List.length_nil, List.length_replicate, bysN_len, hoz] <;> omega))) (by omega) rfl) (by simp) (by repeat (first | exact True.intro | refine And.intro (by rfl) ?_)) (by repeat (first | exact True.intro | refine And.intro (by first | exact rowLt_bytes | rfl) ?_)) ?_
  refine DC.set 67 (.sl 5 0 _) rfl ?_
  refine DC.set 67 (.sl 5 0 6) (congrArg (AV.sl 5 0) (by rfl)) ?_
  refine DC.opA (m := 0) rfl rfl rfl (al_buildSlice Try.runUnderlying23 (z := (Value.int IntKind.u8 0)) (bs := 1) (esz := 1) (EI.mk (by kernel_rfl)) rfl (by decide) rfl rfl) rfl rfl ?_
  refine DC.set 68 (.sl 6 0 _) rfl ?_
  refine DC.opE rfl rfl rfl (step_appB (b := [0, 0]) Try.runUnderlying23 (EI.mk (by kernel_rfl)) Try.runUnderlying23 (.inl ⟨_, rfl⟩) rfl rfl (by simp [bysN_len]) (Src.ownB rfl rfl rfl (Nat.le_of_ble_eq_true rfl)) (by omega) rfl) (by simp) (by repeat (first | exact True.intro | refine And.intro (by rfl) ?_)) (by repeat (first | exact True.intro | refine And.intro (by first | exact rowLt_bytes | rfl) ?_)) ?_
  refine DC.set 69 (.sl 7 0 _) rfl ?_
  refine DC.op rfl rfl rfl (fun _ => as_sl rfl) ?_
  refine DC.set 11 (.sl 7 0 8) (congrArg (AV.sl 7 0) (by rfl)) ?_
  refine DC.fin [(0, 0), (1, 0), (3, 0), (3, 1), (4, 0), (4, 1), (7, 0), (7, 1), (7, 2), (7, 3), (8, 0), (8, 1), (8, 2), (8, 3), (9, 0), (9, 1), (9, 2), (9, 3), (13, 0), (13, 1), (13, 2), (13, 3), (13, 4), (13, 5)] (by kernel_rfl) (by kernel_rfl) ?_ ?_
  · repeat (first | exact True.intro | refine And.intro ?_ ?_ | kernel_rfl)
  · refine W.seq ?_
    refine W.to [(0, _), (1, _), (2, _), (5, _), (6, _), (7, _), (8, _), (11, _), (18, _), (21, _), (22, _), (53, _)] [_, _, _, _, _, _, _, _] rfl ⟨(by exact sh_sc rfl), (by exact sh_sc rfl), (by exact sh_agg rfl), (by exact sh_ptr rfl), (by exact sh_nil rfl), (by exact sh_sc rfl), (by exact sh_sc rfl), (by exact sh_sl rfl), (by exact sh_sc rfl), (by exact sh_sc rfl), (by exact sh_sc rfl), (by exact sh_sc rfl), trivial⟩ ?_
    refine W.gatC [_, _, _, _, _, _, _] [] _ rfl rfl ?_
    intro L13 hL13
    have hl13 : L13.length = 8 := by rw [hL13]; simp only [List.length_append, List.length_cons, List.length_nil, bysN_len, hoz, List.length_take, List.length_drop] <;> omega
    refine W.region ?_
    refine WO.op rfl rfl rfl rfl (mv_sl rfl) ?_
    refine WO.op rfl rfl rfl rfl (step_fieldR (k := 13) (FieldOff.mk (by kernel_rfl)) rfl rfl (by exact Nat.zero_add _)) ?_
    refine WO.op rfl rfl rfl rfl (step_load Try.isAgg9 rfl rfl rfl) ?_
    refine WO.op rfl rfl rfl rfl (step_appB Try.runUnderlying23 (EI.mk (by kernel_rfl)) Try.runUnderlying9 (.inr rfl) rfl rfl (by omega) (Src.str rfl) (by omega) rfl) ?_
    refine WO.put 73 (.sl 8 0 _) rfl ?_
    refine WO.op rfl rfl rfl rfl (as_sl rfl) ?_
    refine WO.put 11 (.sl 8 0 (8 + da.size)) (congrArg (AV.sl 8 0) (by rfl)) ?_
    refine WO.nil ?_
    refine W.seq ?_
    refine W.seq ?_
    refine W.to [(0, _), (1, _), (2, _), (5, _), (6, _), (7, _), (8, _), (11, _), (18, _), (21, _), (22, _), (53, _)] [_, _, _, _, _, _, _, _, _] rfl ⟨(by exact sh_sc rfl), (by exact sh_sc rfl), (by exact sh_agg rfl), (by exact sh_ptr rfl), (by exact sh_nil rfl), (by exact sh_sc rfl), (by exact sh_sc rfl), (by exact sh_sl rfl), (by exact sh_sc rfl), (by exact sh_sc rfl), (by exact sh_sc rfl), (by exact sh_sc rfl), trivial⟩ ?_
    refine W.gatC [_, _, _, _, _, _, _, _] [] _ rfl rfl ?_
    intro L14 hL14
    have hl14 : L14.length = 8 + da.size := by rw [hL14]; simp only [List.length_append, List.length_cons, List.length_nil, bysN_len, hoz, hl13] <;> omega
    refine W.region ?_
    refine WO.op rfl rfl rfl rfl (step_fieldR (k := 6) (FieldOff.mk (by kernel_rfl)) rfl rfl (by exact Nat.zero_add _)) ?_
    refine WO.op rfl rfl rfl rfl (step_load Try.isAgg4 rfl rfl rfl) ?_
    refine WO.put 75 (.sc (.bool false)) (by kernel_rfl) ?_
    refine WO.nil ?_
    refine W.condF rfl ?_
    refine W.skip ?_
    refine W.seq ?_
    refine W.to [(0, _), (1, _), (2, _), (5, _), (6, _), (7, _), (8, _), (11, _), (18, _), (21, _), (22, _), (53, _), (75, _)] [_, _, _, _, _, _, _, _, _] rfl ⟨(by exact sh_sc rfl), (by exact sh_sc rfl), (by exact sh_agg rfl), (by exact sh_ptr rfl), (by exact sh_nil rfl), (by exact sh_sc rfl), (by exact sh_sc rfl), (by exact sh_sl rfl), (by exact sh_sc rfl), (by exact sh_sc rfl), (by exact sh_sc rfl), (by exact sh_sc rfl), (by exact sh_sc rfl), trivial⟩ ?_
    have e14 : udp0 sp dp da.data.toList = L14 := by rw [hL14, hL13, ← hoz]; rfl
    have hf := fo_le (psu src dst 17 L14.length + ws L14 L14.length)
    have hC : udpC src dst sp dp da.data.toList = 65535 - fo (psu src dst 17 L14.length + ws L14 L14.length) := by unfold udpC; rw [e14]
    refine W.region ?_
    refine WO.op rfl rfl rfl rfl (mv_sc rfl) ?_
    refine WO.op rfl rfl rfl rfl (mv_sc rfl) ?_
    refine WO.op rfl rfl rfl rfl (mv_sl rfl) ?_
    refine WO.op rfl rfl rfl rfl (step_lenL Try.runUnderlying23 rfl rfl) ?_
    refine WO.op rfl rfl rfl rfl (step_pure Try.call25 rfl (by (repeat (first | exact Nl.nil | refine Nl.keep (by rfl) ?_))) (w_refPseudo hsrc hdst (by decide) (by omega)) (by repeat (rfl))) ?_
    refine WO.op rfl rfl rfl rfl (mv_sl rfl) ?_
    refine WO.op rfl rfl rfl rfl (step_lent Try.call22 rfl (by (repeat (first | exact Bw.nil | refine Bw.slB rfl (by (exact take_whole (by omega))) (by (simp only [List.length_map, List.length_append, List.length_take, List.length_drop, List.length_set, List.length_cons, List.length_nil, List.length_replicate, bysN_len, hoz] <;> omega)) ?_))) (w_refSum (by omega)) (by repeat (rfl))) ?_
    refine WO.op rfl rfl rfl rfl (step_pure Try.call24 rfl (by (repeat (first | exact Nl.nil | refine Nl.keep (by rfl) ?_))) (w_Add (fo_le _) (fo_le _)) (by repeat (rfl))) ?_
    refine WO.put 84 (.sc (.int .u16 ((fo (psu src dst 17 L14.length + ws L14 L14.length) : Nat) : Int))) (congrArg (fun z : Nat => AV.sc (.int .u16 (z : Int))) (by rw [fo_add, fo_add', hl14])) ?_
    refine WO.op rfl rfl rfl rfl (step_subN (p := 65535) rfl rfl (by omega) (by (simp only [cap]; omega))) ?_
    refine WO.op rfl rfl rfl rfl (as_sc rfl) ?_
    refine WO.nil ?_
    refine W.seq ?_
    refine W.seq ?_
    refine W.to [(0, _), (1, _), (2, _), (5, _), (6, _), (7, _), (8, _), (11, _), (12, _), (18, _), (21, _), (22, _), (53, _), (75, _)] [_, _, _, _, _, _, _, _, _] rfl ⟨(by exact sh_sc rfl), (by exact sh_sc rfl), (by exact sh_agg rfl), (by exact sh_ptr rfl), (by exact sh_nil rfl), (by exact sh_sc rfl), (by exact sh_sc rfl), (by exact sh_sl rfl), (by exact sh_sc rfl), (by exact sh_sc rfl), (by exact sh_sc rfl), (by exact sh_sc rfl), (by exact sh_sc rfl), (by exact sh_sc rfl), trivial⟩ ?_
    refine W.region ?_
    refine WO.op rfl rfl rfl rfl (mv_sc rfl) ?_
    refine WO.op rfl rfl rfl rfl (step_int2 rfl rfl rfl) ?_
    refine WO.put 87 (.sc (.bool false)) (congrArg (fun b : Bool => AV.sc (.bool b)) (by rw [← hC]; simpa using hc)) ?_
    refine WO.nil ?_
    refine W.condF rfl ?_
    refine W.skip ?_
    refine W.seq ?_
    refine W.to [(0, _), (1, _), (2, _), (5, _), (6, _), (7, _), (8, _), (11, _), (12, _), (18, _), (21, _), (22, _), (53, _), (75, _), (87, _)] [_, _, _, _, _, _, _, _, _] rfl ⟨(by exact sh_sc rfl), (by exact sh_sc rfl), (by exact sh_agg rfl), (by exact sh_ptr rfl), (by exact sh_nil rfl), (by exact sh_sc rfl), (by exact sh_sc rfl), (by exact sh_sl rfl), (by exact sh_sc rfl), (by exact sh_sc rfl), (by exact sh_sc rfl), (by exact sh_sc rfl), (by exact sh_sc rfl), (by exact sh_sc rfl), (by exact sh_sc rfl), trivial⟩ ?_
    refine W.region ?_
    refine WO.op rfl rfl rfl rfl (mv_sl rfl) ?_
    refine WO.op rfl rfl rfl rfl (mv_sl rfl) ?_
    refine WO.op rfl rfl rfl rfl (mv_sc rfl) ?_
    refine WO.op rfl rfl rfl rfl (step_quoN (q := 256) rfl rfl (by omega) (by (simp only [cap]; omega))) ?_
    refine WO.op rfl rfl rfl rfl (step_convR Try.runUnderlying37 Try.runUnderlying5 rfl (by exact convN (by (simp only [cap]; omega)))) ?_
    refine WO.op rfl rfl rfl rfl (mv_sc rfl) ?_
    refine WO.op rfl rfl rfl rfl (step_remN (q := 256) rfl rfl (by omega)) ?_
    refine WO.op rfl rfl rfl rfl (step_convR Try.runUnderlying37 Try.runUnderlying5 rfl (by exact convN (by (simp only [cap]; omega)))) ?_
    refine WO.op rfl rfl rfl rfl (step_idxO (j := 6) Try.runUnderlying23 Try.sizeOf5 rfl rfl rfl (by (exact rfl)) (by omega) (by exact Nat.zero_add _)) ?_
    refine WO.op0 rfl rfl rfl (step_storeB (b := _) Try.sizeOf5 rfl rfl rfl (by (exact u8_nat (by omega))) (by omega)) ?_
    refine WO.op rfl rfl rfl rfl (step_idxO (j := 7) Try.runUnderlying23 Try.sizeOf5 rfl rfl rfl (by (exact rfl)) (by omega) (by exact Nat.zero_add _)) ?_
    refine WO.op0 rfl rfl rfl (step_storeB (b := _) Try.sizeOf5 rfl rfl rfl (by (exact u8_mod _)) (by (simp only [List.length_map, List.length_append, List.length_take, List.length_drop, List.length_set, List.length_cons, List.length_nil, List.length_replicate, bysN_len, hoz] <;> omega))) ?_
    refine WO.nil ?_
    refine W.seq ?_
    refine W.to [(0, _), (1, _), (2, _), (5, _), (6, _), (7, _), (8, _), (11, _), (12, _), (18, _), (21, _), (22, _), (53, _), (75, _), (87, _)] [_, _, _, _, _, _, _, _, _] rfl ⟨(by exact sh_sc rfl), (by exact sh_sc rfl), (by exact sh_agg rfl), (by exact sh_ptr rfl), (by exact sh_nil rfl), (by exact sh_sc rfl), (by exact sh_sc rfl), (by exact sh_sl rfl), (by exact sh_sc rfl), (by exact sh_sc rfl), (by exact sh_sc rfl), (by exact sh_sc rfl), (by exact sh_sc rfl), (by exact sh_sc rfl), (by exact sh_sc rfl), trivial⟩ ?_
    refine W.gatC [_, _, _, _, _, _, _, _] [] _ rfl rfl ?_
    intro L20 hL20
    have hl20 : L20.length = 8 + da.size := by rw [hL20]; simp only [List.length_append, List.length_cons, List.length_nil, bysN_len, hoz, List.length_set, hl14] <;> omega
    refine W.region ?_
    refine WO.op rfl rfl rfl rfl (mv_sl rfl) ?_
    refine WO.op rfl rfl rfl rfl (as_sl rfl) ?_
    refine WO.op rfl rfl rfl rfl (as_sc rfl) ?_
    refine WO.nil ?_
    refine W.ret ?_
    refine ⟨.inl rfl, ?_⟩
    have e2 : put2 (udp0 sp dp da.data.toList) 6 (udpC src dst sp dp da.data.toList) = L20 := by
      rw [hL20, hC]; unfold put2; rw [e14, ← byte_lo]; rfl
    rw [e2]
    exact ret0 (Res.tmp rfl (Res.tmp rfl Res.nil)) (.tup (.cons (Fz.bytes rfl (Nat.zero_le _) (take_whole (by omega)) (by rw [List.length_map]; omega)) (.cons (.keep rfl) .nil)))

end Go.Proofs.Ytdmlkcphlidcfaa

set_option linter.unusedVariables false
set_option linter.unusedSimpArgs false
set_option maxRecDepth 100000
set_option maxHeartbeats 1000000
namespace Go.Proofs.Ytdmlkcphlidcfaa
open Go Go.SL Go.Proofs
theorem w_refEnc3 {src dst : Nat} (hsrc : src < 4294967296) (hdst : dst < 4294967296) {sp dp se ac fl wi ur : Nat} {op da : ByteArray} (hsp : sp ≤ 65535) (hdp : dp ≤ 65535) (hse : se < 4294967296) (hac : ac < 4294967296) (hfl : fl ≤ 4095) (hwi : wi ≤ 65535) (hur : ur ≤ 65535) (hop : op.size ≤ 40) (hop4 : op.size % 4 = 0) (hda : da.size + 20 + op.size ≤ 65515) : Spec0 Try.prog 12 [.sc (.int .u32 ((src : Nat) : Int)), .sc (.int .u32 ((dst : Nat) : Int)), .agg [.sc (.int .i64 3), .sc (.int .i64 0), .sc (.int .i64 0), .sc (.int .u32 0), .sc (.int .i64 ((sp : Nat) : Int)), .sc (.int .i64 ((dp : Nat) : Int)), .sc (.bool false), .sc (.int .u32 ((se : Nat) : Int)), .sc (.int .u32 ((ac : Nat) : Int)), .sc (.int .i64 ((fl : Nat) : Int)), .sc (.int .i64 ((wi : Nat) : Int)), .sc (.int .i64 ((ur : Nat) : Int)), .sc (.string op), .sc (.string da)]] (.tup [.im 1 ((encT src dst sp dp se ac fl wi ur op.data.toList da.data.toList).map byteAV), .sc (.int .i64 0)]) := by
  refine Spec.body Try.func12 rfl (Nat.le_of_ble_eq_true rfl) ?_
  have hoz : da.data.toList.length = da.size := by rw [Array.length_toList]; rfl
  have hpz : op.data.toList.length = op.size := by rw [Array.length_toList]; rfl
  refine W.seq ?_
  refine W.region ?_
  refine WO.opA rfl rfl rfl rfl (al_boxA rfl rfl) rfl rfl ?_
  refine WO.put 5 (.ptr 0 0) rfl ?_
  refine WO.op rfl rfl rfl rfl (as_nil rfl) ?_
  refine WO.op rfl rfl rfl rfl (as_sc rfl) ?_
  refine WO.nil ?_
  refine W.seq ?_
  refine W.seq ?_
  refine W.to [(0, _), (1, _), (2, _), (5, _), (6, _), (7, _)] [_] rfl ⟨(by exact sh_sc rfl), (by exact sh_sc rfl), (by exact sh_agg rfl), (by exact sh_ptr rfl), (by exact sh_nil rfl), (by exact sh_sc rfl), trivial⟩ ?_
  refine W.region ?_
  refine WO.op rfl rfl rfl rfl (step_loadA Try.isAgg25 Try.sizeOf25 rfl rfl (by exact Nat.le_refl _)) ?_
  refine WO.put 15 (.agg [.sc (.int .i64 3), .sc (.int .i64 0), .sc (.int .i64 0), .sc (.int .u32 0), .sc (.int .i64 ((sp : Nat) : Int)), .sc (.int .i64 ((dp : Nat) : Int)), .sc (.bool false), .sc (.int .u32 ((se : Nat) : Int)), .sc (.int .u32 ((ac : Nat) : Int)), .sc (.int .i64 ((fl : Nat) : Int)), .sc (.int .i64 ((wi : Nat) : Int)), .sc (.int .i64 ((ur : Nat) : Int)), .sc (.string op), .sc (.string da)]) (by kernel_rfl) ?_
  refine WO.op rfl rfl rfl rfl (step_pure Try.call14 rfl (by (repeat (first | exact Nl.nil | refine Nl.keep (by rfl) ?_))) (w_rC3 hsp hdp hse hac hfl hwi hur hop hop4 hda) (by repeat (rfl))) ?_
  refine WO.op rfl rfl rfl rfl (as_sc rfl) ?_
  refine WO.nil ?_
  refine W.seq ?_
  refine W.to [(0, _), (1, _), (2, _), (5, _), (6, _), (7, _), (8, _)] [_] rfl ⟨(by exact sh_sc rfl), (by exact sh_sc rfl), (by exact sh_agg rfl), (by exact sh_ptr rfl), (by exact sh_nil rfl), (by exact sh_sc rfl), (by exact sh_sc rfl), trivial⟩ ?_
  refine W.region ?_
  refine WO.op rfl rfl rfl rfl (mv_sc rfl) ?_
  refine WO.op rfl rfl rfl rfl (step_int2 rfl rfl rfl) ?_
  refine WO.put 18 (.sc (.bool false)) (by kernel_rfl) ?_
  refine WO.nil ?_
  refine W.condF rfl ?_
  refine W.skip ?_
  refine W.seq ?_
  refine W.seq ?_
  refine W.to [(0, _), (1, _), (2, _), (5, _), (6, _), (7, _), (8, _), (18, _)] [_] rfl ⟨(by exact sh_sc rfl), (by exact sh_sc rfl), (by exact sh_agg rfl), (by exact sh_ptr rfl), (by exact sh_nil rfl), (by exact sh_sc rfl), (by exact sh_sc rfl), (by exact sh_sc rfl), trivial⟩ ?_
  refine W.region ?_
  refine WO.op rfl rfl rfl rfl (step_fieldR (k := 0) (FieldOff.mk (by kernel_rfl)) rfl rfl (by exact Nat.zero_add _)) ?_
  refine WO.op rfl rfl rfl rfl (step_load Try.isAgg3 rfl rfl rfl) ?_
  refine WO.nil ?_
  refine W.block ?_
  refine W.seq ?_
  refine W.to [(0, _), (1, _), (2, _), (5, _), (6, _), (7, _), (8, _), (18, _), (21, _)] [_] rfl ⟨(by exact sh_sc rfl), (by exact sh_sc rfl), (by exact sh_agg rfl), (by exact sh_ptr rfl), (by exact sh_nil rfl), (by exact sh_sc rfl), (by exact sh_sc rfl), (by exact sh_sc rfl), (by exact sh_sc rfl), trivial⟩ ?_
  refine W.region ?_
  refine WO.op rfl rfl rfl rfl (step_int2 rfl rfl rfl) ?_
  refine WO.put 23 (.sc (.bool false)) (by kernel_rfl) ?_
  refine WO.op rfl rfl rfl rfl (as_sc rfl) ?_
  refine WO.nil ?_
  refine W.condF rfl ?_
  refine W.seq ?_
  refine W.to [(0, _), (1, _), (2, _), (5, _), (6, _), (7, _), (8, _), (18, _), (21, _), (22, _)] [_] rfl ⟨(by exact sh_sc rfl), (by exact sh_sc rfl), (by exact sh_agg rfl), (by exact sh_ptr rfl), (by exact sh_nil rfl), (by exact sh_sc rfl), (by exact sh_sc rfl), (by exact sh_sc rfl), (by exact sh_sc rfl), (by exact sh_sc rfl), trivial⟩ ?_
  refine W.region ?_
  refine WO.op rfl rfl rfl rfl (step_int2 rfl rfl rfl) ?_
  refine WO.put 54 (.sc (.bool false)) (by kernel_rfl) ?_
  refine WO.op rfl rfl rfl rfl (as_sc rfl) ?_
  refine WO.nil ?_
  refine W.condF rfl ?_
  refine W.seq ?_
  refine W.to [(0, _), (1, _), (2, _), (5, _), (6, _), (7, _), (8, _), (18, _), (21, _), (22, _), (53, _)] [_] rfl ⟨(by exact sh_sc rfl), (by exact sh_sc rfl), (by exact sh_agg rfl), (by exact sh_ptr rfl), (by exact sh_nil rfl), (by exact sh_sc rfl), (by exact sh_sc rfl), (by exact sh_sc rfl), (by exact sh_sc rfl), (by exact sh_sc rfl), (by exact sh_sc rfl), trivial⟩ ?_
  refine W.region ?_
  refine WO.op rfl rfl rfl rfl (step_int2 rfl rfl rfl) ?_
  refine WO.put 100 (.sc (.bool true)) (by kernel_rfl) ?_
  refine WO.op rfl rfl rfl rfl (as_sc rfl) ?_
  refine WO.nil ?_
  refine W.condT rfl ?_
  refine W.seq ?_
  refine W.to [(0, _), (1, _), (2, _), (5, _), (6, _), (7, _), (8, _), (18, _), (21, _), (22, _), (53, _), (99, _)] [_] rfl ⟨(by exact sh_sc rfl), (by exact sh_sc rfl), (by exact sh_agg rfl), (by exact sh_ptr rfl), (by exact sh_nil rfl), (by exact sh_sc rfl), (by exact sh_sc rfl), (by exact sh_sc rfl), (by exact sh_sc rfl), (by exact sh_sc rfl), (by exact sh_sc rfl), (by exact sh_sc rfl), trivial⟩ ?_
  refine W.draw (Checked.mixed Try.checked) ?_
  refine DC.op1 rfl rfl rfl rfl (fun _ ho => step_fieldR (k := 4) (FieldOff.mk (by kernel_rfl)) rfl ho (by exact Nat.zero_add _)) ?_
  refine DC.op1 rfl rfl rfl rfl (fun _ ho => step_load Try.isAgg3 rfl ho rfl) ?_
  refine DC.opE rfl rfl rfl (step_own Try.call32 rfl (by repeat (first | exact Nl.nil | refine Nl.keep rfl ?_)) (w_twoO (by omega)) noOwn_bytes rfl) (by simp) (by repeat (first | exact True.intro | refine And.intro (by rfl) ?_)) (by repeat (first | exact True.intro | refine And.intro (by rfl) ?_)) ?_
  refine DC.set 103 (.sl 1 0 2) rfl ?_
  refine DC.op1 rfl rfl rfl rfl (fun _ ho => step_fieldR (k := 5) (FieldOff.mk (by kernel_rfl)) rfl ho (by exact Nat.zero_add _)) ?_
  refine DC.op1 rfl rfl rfl rfl (fun _ ho => step_load Try.isAgg3 rfl ho rfl) ?_
  refine DC.opE rfl rfl rfl (step_own Try.call32 rfl (by repeat (first | exact Nl.nil | refine Nl.keep rfl ?_)) (w_twoO (by omega)) noOwn_bytes rfl) (by simp) (by repeat (first | exact True.intro | refine And.intro (by rfl) ?_)) (by repeat (first | exact True.intro | refine And.intro (by first | exact rowLt_bytes | rfl) ?_)) ?_
  refine DC.set 106 (.sl 2 0 2) rfl ?_
  refine DC.opE rfl rfl rfl (step_appB Try.runUnderlying23 (EI.mk (by kernel_rfl)) Try.runUnderlying23 (.inl ⟨_, rfl⟩) rfl rfl (by (simp only [List.length_map, List.length_append, List.length_take, List.length_drop, List.length_set, List.length_cons, List.length_nil, List.length_replicate, bysN_len, hoz, hpz] <;> omega)) (Src.ownB rfl rfl (by (exact take_map)) (by (simp only [List.length_map, List.length_append, List.length_take, List.length_drop, List.length_set, List.length_cons, List.length_nil, List.length_replicate, bysN_len, hoz, hpz] <;> omega))) (by omega) rfl) (by simp) (by repeat (first | exact True.intro | refine And.intro (by rfl) ?_)) (by repeat (first | exact True.intro | refine And.intro (by first | exact rowLt_bytes | rfl) ?_)) ?_
  refine DC.set 107 (.sl 3 0 _) rfl ?_
  refine DC.op rfl rfl rfl (fun _ => as_sl rfl) ?_
  refine DC.set 13 (.sl 3 0 (4)) (congrArg (AV.sl 3 0) (by rfl)) ?_
  refine DC.fin [(0, 0), (1, 0), (3, 0), (3, 1), (4, 0), (4, 1)] (by kernel_rfl) (by kernel_rfl) ?_ ?_
  · repeat (first | exact True.intro | refine And.intro ?_ ?_ | kernel_rfl)
  · refine W.seq ?_
    refine W.to [(0, _), (1, _), (2, _), (5, _), (6, _), (7, _), (8, _), (13, _), (18, _), (21, _), (22, _), (53, _), (99, _)] [_, _, _, _] rfl ⟨(by exact sh_sc rfl), (by exact sh_sc rfl), (by exact sh_agg rfl), (by exact sh_ptr rfl), (by exact sh_nil rfl), (by exact sh_sc rfl), (by exact sh_sc rfl), (by exact sh_sl rfl), (by exact sh_sc rfl), (by exact sh_sc rfl), (by exact sh_sc rfl), (by exact sh_sc rfl), (by exact sh_sc rfl), trivial⟩ ?_
    refine W.gatC [_, _, _] [] _ rfl rfl ?_
    intro L23 hL23
    have hl23 : L23.length = 4 := by rw [hL23]; simp only [List.length_append, List.length_cons, List.length_nil, bysN_len, hoz, List.length_take, List.length_drop] <;> omega
    refine W.draw (Checked.mixed Try.checked) ?_
    refine DC.op rfl rfl rfl (fun _ => mv_sl rfl) ?_
    refine DC.op1 rfl rfl rfl rfl (fun _ ho => step_fieldR (k := 7) (FieldOff.mk (by kernel_rfl)) rfl ho (by exact Nat.zero_add _)) ?_
    refine DC.op1 rfl rfl rfl rfl (fun _ ho => step_load Try.isAgg22 rfl ho rfl) ?_
    refine DC.op rfl rfl rfl (fun _ => step_convR Try.runUnderlying22 Try.runUnderlying55 rfl (by exact convN (by (simp only [cap]; omega)))) ?_
    refine DC.op rfl rfl rfl (fun _ => step_pure Try.call30 rfl (by (repeat (first | exact Nl.nil | refine Nl.keep (by rfl) ?_))) (w_Bytes (n := 4) (by omega) (by omega)) (by repeat (with_reducible exact noOwn_im))) ?_
    refine DC.opE rfl rfl rfl (step_appB Try.runUnderlying23 (EI.mk (by kernel_rfl)) Try.runUnderlying23 (.inl ⟨_, rfl⟩) rfl rfl (by omega) (Src.imB rfl) (by (simp only [List.length_map, List.length_append, List.length_take, List.length_drop, List.length_set, List.length_cons, List.length_nil, List.length_replicate, bysN_len, hoz, hpz] <;> omega)) rfl) (by simp) (by repeat (first | exact True.intro | refine And.intro (by first | exact idsLt_im | rfl) ?_)) (by repeat (first | exact True.intro | refine And.intro (by first | exact rowLt_bytes | rfl) ?_)) ?_
    refine DC.set 113 (.sl 4 0 _) rfl ?_
    refine DC.op1 rfl rfl rfl rfl (fun _ ho => step_fieldR (k := 8) (FieldOff.mk (by kernel_rfl)) rfl ho (by exact Nat.zero_add _)) ?_
    refine DC.op1 rfl rfl rfl rfl (fun _ ho => step_load Try.isAgg22 rfl ho rfl) ?_
    refine DC.op rfl rfl rfl (fun _ => step_convR Try.runUnderlying22 Try.runUnderlying55 rfl (by exact convN (by (simp only [cap]; omega)))) ?_
    refine DC.op rfl rfl rfl (fun _ => step_pure Try.call30 rfl (by (repeat (first | exact Nl.nil | refine Nl.keep (by rfl) ?_))) (w_Bytes (n := 4) (by omega) (by omega)) (by repeat (with_reducible exact noOwn_im))) ?_
    refine DC.opE rfl rfl rfl (step_appB Try.runUnderlying23 (EI.mk (by kernel_rfl)) Try.runUnderlying23 (.inl ⟨_, rfl⟩) rfl rfl (by (simp only [List.length_map, List.length_append, List.length_take, List.length_drop, List.length_set, List.length_cons, List.length_nil, List.length_replicate, bysN_len, hoz, hpz] <;> omega)) (Src.imB rfl) (by (simp only [List.length_map, List.length_append, List.length_take, List.length_drop, List.length_set, List.length_cons, List.length_nil, List.length_replicate, bysN_len, hoz, hpz] <;> omega)) rfl) (by simp) (by repeat (first | exact True.intro | refine And.intro (by first | exact idsLt_im | rfl) ?_)) (by repeat (first | exact True.intro | refine And.intro (by first | exact rowLt_bytes | rfl) ?_)) ?_
    refine DC.set 118 (.sl 5 0 _) rfl ?_
    refine DC.op rfl rfl rfl (fun _ => as_sl rfl) ?_
    refine DC.set 13 (.sl 5 0 (12)) (congrArg (AV.sl 5 0) (by rfl)) ?_
    refine DC.fin [(1, 0), (2, 0), (3, 0), (4, 0), (6, 0), (6, 1), (7, 0), (7, 1), (8, 0), (8, 1), (9, 1)] (by kernel_rfl) (by kernel_rfl) ?_ ?_
    · repeat (first | exact True.intro | refine And.intro ?_ ?_ | kernel_rfl)
    · refine W.seq ?_
      refine W.to [(0, _), (1, _), (2, _), (5, _), (6, _), (7, _), (8, _), (13, _), (18, _), (21, _), (22, _), (53, _), (99, _)] [_, _, _, _, _, _] rfl ⟨(by exact sh_sc rfl), (by exact sh_sc rfl), (by exact sh_agg rfl), (by exact sh_ptr rfl), (by exact sh_nil rfl), (by exact sh_sc rfl), (by exact sh_sc rfl), (by exact sh_sl rfl), (by exact sh_sc rfl), (by exact sh_sc rfl), (by exact sh_sc rfl), (by exact sh_sc rfl), (by exact sh_sc rfl), trivial⟩ ?_
      refine W.gatC [_, _, _, _, _] [] _ rfl rfl ?_
      intro L24 hL24
      have hl24 : L24.length = 12 := by rw [hL24]; simp only [List.length_append, List.length_cons, List.length_nil, bysN_len, hoz, List.length_take, List.length_drop, hl23] <;> omega
      refine W.region ?_
      refine WO.op rfl rfl rfl rfl (mv_sl rfl) ?_
      refine WO.op rfl rfl rfl rfl (step_fieldR (k := 12) (FieldOff.mk (by kernel_rfl)) rfl rfl (by exact Nat.zero_add _)) ?_
      refine WO.op rfl rfl rfl rfl (step_load Try.isAgg9 rfl rfl rfl) ?_
      refine WO.op rfl rfl rfl rfl (step_lenS Try.runUnderlying9 rfl) ?_
      refine WO.op rfl rfl rfl rfl (step_quoN (q := 4) rfl rfl (by omega) (by (simp only [cap]; omega))) ?_
      refine WO.op rfl rfl rfl rfl (step_addN (p := 5) rfl rfl (by (simp only [cap]; omega))) ?_
      refine WO.op rfl rfl rfl rfl (step_mulN (q := 4096) rfl rfl (by (simp only [cap]; omega))) ?_
      refine WO.op rfl rfl rfl rfl (step_fieldR (k := 9) (FieldOff.mk (by kernel_rfl)) rfl rfl (by exact Nat.zero_add _)) ?_
      refine WO.op rfl rfl rfl rfl (step_load Try.isAgg3 rfl rfl rfl) ?_
      refine WO.op rfl rfl rfl rfl (step_addN rfl rfl (by (simp only [cap]; omega))) ?_
      refine WO.op rfl rfl rfl rfl (step_own Try.call32 rfl (by repeat (first | exact Nl.nil | refine Nl.keep rfl ?_)) (w_twoO (by omega)) noOwn_bytes rfl) ?_
      refine WO.put 129 (.sl 6 0 2) rfl ?_
      refine WO.op rfl rfl rfl rfl (step_appB Try.runUnderlying23 (EI.mk (by kernel_rfl)) Try.runUnderlying23 (.inl ⟨_, rfl⟩) rfl rfl (by omega) (Src.ownB rfl rfl (by (exact take_map)) (by (simp only [List.length_map, List.length_append, List.length_take, List.length_drop, List.length_set, List.length_cons, List.length_nil, List.length_replicate, bysN_len, hoz, hpz] <;> omega))) (by omega) rfl) ?_
      refine WO.put 130 (.sl 7 0 _) rfl ?_
      refine WO.op rfl rfl rfl rfl (as_sl rfl) ?_
      refine WO.put 13 (.sl 7 0 (14)) (congrArg (AV.sl 7 0) (by rfl)) ?_
      refine WO.nil ?_
      refine W.seq ?_
      refine W.to [(0, _), (1, _), (2, _), (5, _), (6, _), (7, _), (8, _), (13, _), (18, _), (21, _), (22, _), (53, _), (99, _)] [_, _, _, _, _, _, _, _] rfl ⟨(by exact sh_sc rfl), (by exact sh_sc rfl), (by exact sh_agg rfl), (by exact sh_ptr rfl), (by exact sh_nil rfl), (by exact sh_sc rfl), (by exact sh_sc rfl), (by exact sh_sl rfl), (by exact sh_sc rfl), (by exact sh_sc rfl), (by exact sh_sc rfl), (by exact sh_sc rfl), (by exact sh_sc rfl), trivial⟩ ?_
      refine W.gatC [_, _, _, _, _, _, _] [] _ rfl rfl ?_
      intro L25 hL25
      have hl25 : L25.length = 14 := by rw [hL25]; simp only [List.length_append, List.length_cons, List.length_nil, bysN_len, hoz, List.length_take, List.length_drop, hl24] <;> omega
      refine W.draw (Checked.mixed Try.checked) ?_
      refine DC.op rfl rfl rfl (fun _ => mv_sl rfl) ?_
      refine DC.op1 rfl rfl rfl rfl (fun _ ho => step_fieldR (k := 10) (FieldOff.mk (by kernel_rfl)) rfl ho (by exact Nat.zero_add _)) ?_
      refine DC.op1 rfl rfl rfl rfl (fun _ ho => step_load Try.isAgg3 rfl ho rfl) ?_
      refine DC.opE rfl rfl rfl (step_own Try.call32 rfl (by repeat (first | exact Nl.nil | refine Nl.keep rfl ?_)) (w_twoO (by omega)) noOwn_bytes rfl) (by simp) (by repeat (first | exact True.intro | refine And.intro (by rfl) ?_)) (by repeat (first | exact True.intro | refine And.intro (by first | exact rowLt_bytes | rfl) ?_)) ?_
      refine DC.set 134 (.sl 8 0 2) rfl ?_
      refine DC.opE rfl rfl rfl (step_appB Try.runUnderlying23 (EI.mk (by kernel_rfl)) Try.runUnderlying23 (.inl ⟨_, rfl⟩) rfl rfl (by omega) (Src.ownB rfl rfl (by (exact take_map)) (by (simp only [List.length_map, List.length_append, List.length_take, List.length_drop, List.length_set, List.length_cons, List.length_nil, List.length_replicate, bysN_len, hoz, hpz] <;> omega))) (by omega) rfl) (by simp) (by repeat (first | exact True.intro | refine And.intro (by rfl) ?_)) (by repeat (first | exact True.intro | refine And.intro (by first | exact rowLt_bytes | rfl) ?_)) ?_
      refine DC.set 135 (.sl 9 0 _) rfl ?_
      refine DC.opA (m := 0) rfl rfl rfl (al_buildSlice Try.runUnderlying23 (z := (Value.int IntKind.u8 0)) (bs := 1) (esz := 1) (EI.mk (by kernel_rfl)) rfl (by decide) rfl rfl) rfl rfl ?_
      refine DC.set 136 (.sl 10 0 _) rfl ?_
      refine DC.opE rfl rfl rfl (step_appB (b := [0, 0]) Try.runUnderlying23 (EI.mk (by kernel_rfl)) Try.runUnderlying23 (.inl ⟨_, rfl⟩) rfl rfl (by simp [bysN_len, hl25]) (Src.ownB rfl rfl rfl (Nat.le_of_ble_eq_true rfl)) (by omega) rfl) (by simp) (by repeat (first | exact True.intro | refine And.intro (by rfl) ?_)) (by repeat (first | exact True.intro | refine And.intro (by first | exact rowLt_bytes | rfl) ?_)) ?_
      refine DC.set 137 (.sl 11 0 _) rfl ?_
      refine DC.op1 rfl rfl rfl rfl (fun _ ho => step_fieldR (k := 11) (FieldOff.mk (by kernel_rfl)) rfl ho (by exact Nat.zero_add _)) ?_
      refine DC.op1 rfl rfl rfl rfl (fun _ ho => step_load Try.isAgg3 rfl ho rfl) ?_
      refine DC.opE rfl rfl rfl (step_own Try.call32 rfl (by repeat (first | exact Nl.nil | refine Nl.keep rfl ?_)) (w_twoO (by omega)) noOwn_bytes rfl) (by simp) (by repeat (first | exact True.intro | refine And.intro (by rfl) ?_)) (by repeat (first | exact True.intro | refine And.intro (by first | exact rowLt_bytes | rfl) ?_)) ?_
      refine DC.set 140 (.sl 12 0 2) rfl ?_
      refine DC.opE rfl rfl rfl (step_appB Try.runUnderlying23 (EI.mk (by kernel_rfl)) Try.runUnderlying23 (.inl ⟨_, rfl⟩) rfl rfl (by (simp only [List.length_map, List.length_append, List.length_take, List.length_drop, List.length_set, List.length_cons, List.length_nil, List.length_replicate, bysN_len, hoz, hpz] <;> omega)) (Src.ownB rfl rfl (by (exact take_map)) (by (simp only [List.length_map, List.length_append, List.length_take, List.length_drop, List.length_set, List.length_cons, List.length_nil, List.length_replicate, bysN_len, hoz, hpz] <;> omega))) (by omega) rfl) (by simp) (by repeat (first | exact True.intro | refine And.intro (by rfl) ?_)) (by repeat (first | exact True.intro | refine And.intro (by first | exact rowLt_bytes | rfl) ?_)) ?_
      refine DC.set 141 (.sl 13 0 _) rfl ?_
      refine DC.op rfl rfl rfl (fun _ => as_sl rfl) ?_
      refine DC.set 13 (.sl 13 0 (20)) (congrArg (AV.sl 13 0) (by rfl)) ?_
      refine DC.fin [(1, 0), (2, 0), (5, 0), (5, 1), (5, 2), (7, 0), (7, 1), (7, 2), (7, 3), (8, 0), (8, 1), (8, 2), (8, 3)] (by kernel_rfl) (by kernel_rfl) ?_ ?_
      · repeat (first | exact True.intro | refine And.intro ?_ ?_ | kernel_rfl)
      · refine W.seq ?_
        refine W.to [(0, _), (1, _), (2, _), (5, _), (6, _), (7, _), (8, _), (13, _), (18, _), (21, _), (22, _), (53, _), (99, _)] [_, _, _, _, _, _, _, _, _, _, _, _, _, _] rfl ⟨(by exact sh_sc rfl), (by exact sh_sc rfl), (by exact sh_agg rfl), (by exact sh_ptr rfl), (by exact sh_nil rfl), (by exact sh_sc rfl), (by exact sh_sc rfl), (by exact sh_sl rfl), (by exact sh_sc rfl), (by exact sh_sc rfl), (by exact sh_sc rfl), (by exact sh_sc rfl), (by exact sh_sc rfl), trivial⟩ ?_
        refine W.gatC [_, _, _, _, _, _, _, _, _, _, _, _, _] [] _ rfl rfl ?_
        intro L26 hL26
        have hl26 : L26.length = 20 := by rw [hL26]; simp only [List.length_append, List.length_cons, List.length_nil, bysN_len, hoz, List.length_take, List.length_drop, hl25] <;> omega
        refine W.draw (Checked.mixed Try.checked) ?_
        refine DC.op rfl rfl rfl (fun _ => mv_sl rfl) ?_
        refine DC.op1 rfl rfl rfl rfl (fun _ ho => step_fieldR (k := 12) (FieldOff.mk (by kernel_rfl)) rfl ho (by exact Nat.zero_add _)) ?_
        refine DC.op1 rfl rfl rfl rfl (fun _ ho => step_load Try.isAgg9 rfl ho rfl) ?_
        refine DC.opE rfl rfl rfl (step_appB Try.runUnderlying23 (EI.mk (by kernel_rfl)) Try.runUnderlying9 (.inr rfl) rfl rfl (by omega) (Src.str rfl) (by omega) rfl) (by simp) (by repeat (first | exact True.intro | refine And.intro (by rfl) ?_)) (by repeat (first | exact True.intro | refine And.intro (by first | exact rowLt_bytes | rfl) ?_)) ?_
        refine DC.set 145 (.sl 14 0 _) rfl ?_
        refine DC.op1 rfl rfl rfl rfl (fun _ ho => step_fieldR (k := 13) (FieldOff.mk (by kernel_rfl)) rfl ho (by exact Nat.zero_add _)) ?_
        refine DC.op1 rfl rfl rfl rfl (fun _ ho => step_load Try.isAgg9 rfl ho rfl) ?_
        refine DC.opE rfl rfl rfl (step_appB Try.runUnderlying23 (EI.mk (by kernel_rfl)) Try.runUnderlying9 (.inr rfl) rfl rfl (by (simp only [List.length_map, List.length_append, List.length_take, List.length_drop, List.length_set, List.length_cons, List.length_nil, List.length_replicate, bysN_len, hoz, hpz] <;> omega)) (Src.str rfl) (by omega) rfl) (by simp) (by repeat (first | exact True.intro | refine And.intro (by rfl) ?_)) (by repeat (first | exact True.intro | refine And.intro (by first | exact rowLt_bytes | rfl) ?_)) ?_
        refine DC.set 148 (.sl 15 0 _) rfl ?_
        refine DC.op rfl rfl rfl (fun _ => as_sl rfl) ?_
        refine DC.set 13 (.sl 15 0 (20 + op.size + da.size)) (congrArg (AV.sl 15 0) (by rfl)) ?_
        refine DC.fin [(1, 0), (2, 0), (4, 0), (4, 1), (5, 0), (5, 1)] (by kernel_rfl) (by kernel_rfl) ?_ ?_
        · repeat (first | exact True.intro | refine And.intro ?_ ?_ | kernel_rfl)
        · refine W.seq ?_
          refine W.to [(0, _), (1, _), (2, _), (5, _), (6, _), (7, _), (8, _), (13, _), (18, _), (21, _), (22, _), (53, _), (99, _)] [_, _, _, _, _, _, _, _, _, _, _, _, _, _, _, _] rfl ⟨(by exact sh_sc rfl), (by exact sh_sc rfl), (by exact sh_agg rfl), (by exact sh_ptr rfl), (by exact sh_nil rfl), (by exact sh_sc rfl), (by exact sh_sc rfl), (by exact sh_sl rfl), (by exact sh_sc rfl), (by exact sh_sc rfl), (by exact sh_sc rfl), (by exact sh_sc rfl), (by exact sh_sc rfl), trivial⟩ ?_
          refine W.gatC [_, _, _, _, _, _, _, _, _, _, _, _, _, _, _] [] _ rfl rfl ?_
          intro L27 hL27
          have hl27 : L27.length = 20 + op.size + da.size := by rw [hL27]; simp only [List.length_append, List.length_cons, List.length_nil, bysN_len, hoz, List.length_take, List.length_drop, hl26, hpz] <;> omega
          have hf := fo_le (psu src dst 6 L27.length + ws L27 L27.length)
          refine W.region ?_
          refine WO.op rfl rfl rfl rfl (mv_sc rfl) ?_
          refine WO.op rfl rfl rfl rfl (mv_sc rfl) ?_
          refine WO.op rfl rfl rfl rfl (mv_sl rfl) ?_
          refine WO.op rfl rfl rfl rfl (step_lenL Try.runUnderlying23 rfl rfl) ?_
          refine WO.op rfl rfl rfl rfl (step_pure Try.call25 rfl (by (repeat (first | exact Nl.nil | refine Nl.keep (by rfl) ?_))) (w_refPseudo hsrc hdst (by decide) (by omega)) (by repeat (rfl))) ?_
          refine WO.op rfl rfl rfl rfl (mv_sl rfl) ?_
          refine WO.op rfl rfl rfl rfl (step_lent Try.call22 rfl (by (repeat (first | exact Bw.nil | refine Bw.slB rfl (by (exact take_whole (by omega))) (by (simp only [List.length_map, List.length_append, List.length_take, List.length_drop, List.length_set, List.length_cons, List.length_nil, List.length_replicate, bysN_len, hoz, hpz] <;> omega)) ?_))) (w_refSum (by omega)) (by repeat (rfl))) ?_
          refine WO.op rfl rfl rfl rfl (step_pure Try.call24 rfl (by (repeat (first | exact Nl.nil | refine Nl.keep (by rfl) ?_))) (w_Add (fo_le _) (fo_le _)) (by repeat (rfl))) ?_
          refine WO.put 156 (.sc (.int .u16 ((fo (psu src dst 6 L27.length + ws L27 L27.length) : Nat) : Int))) (congrArg (fun z : Nat => AV.sc (.int .u16 (z : Int))) (by rw [fo_add, fo_add', hl27])) ?_
          refine WO.op rfl rfl rfl rfl (step_subN (p := 65535) rfl rfl (by omega) (by (simp only [cap]; omega))) ?_
          refine WO.op rfl rfl rfl rfl (as_sc rfl) ?_
          refine WO.nil ?_
          refine W.seq ?_
          refine W.to [(0, _), (1, _), (2, _), (5, _), (6, _), (7, _), (8, _), (13, _), (14, _), (18, _), (21, _), (22, _), (53, _), (99, _)] [_, _, _, _, _, _, _, _, _, _, _, _, _, _, _, _] rfl ⟨(by exact sh_sc rfl), (by exact sh_sc rfl), (by exact sh_agg rfl), (by exact sh_ptr rfl), (by exact sh_nil rfl), (by exact sh_sc rfl), (by exact sh_sc rfl), (by exact sh_sl rfl), (by exact sh_sc rfl), (by exact sh_sc rfl), (by exact sh_sc rfl), (by exact sh_sc rfl), (by exact sh_sc rfl), (by exact sh_sc rfl), trivial⟩ ?_
          refine W.region ?_
          refine WO.op rfl rfl rfl rfl (mv_sl rfl) ?_
          refine WO.op rfl rfl rfl rfl (mv_sl rfl) ?_
          refine WO.op rfl rfl rfl rfl (mv_sc rfl) ?_
          refine WO.op rfl rfl rfl rfl (step_quoN (q := 256) rfl rfl (by omega) (by (simp only [cap]; omega))) ?_
          refine WO.op rfl rfl rfl rfl (step_convR Try.runUnderlying37 Try.runUnderlying5 rfl (by exact convN (by (simp only [cap]; omega)))) ?_
          refine WO.op rfl rfl rfl rfl (mv_sc rfl) ?_
          refine WO.op rfl rfl rfl rfl (step_remN (q := 256) rfl rfl (by omega)) ?_
          refine WO.op rfl rfl rfl rfl (step_convR Try.runUnderlying37 Try.runUnderlying5 rfl (by exact convN (by (simp only [cap]; omega)))) ?_
          refine WO.op rfl rfl rfl rfl (step_idxO (j := 16) Try.runUnderlying23 Try.sizeOf5 rfl rfl rfl (by (exact rfl)) (by omega) (by exact Nat.zero_add _)) ?_
          refine WO.op0 rfl rfl rfl (step_storeB (b := _) Try.sizeOf5 rfl rfl rfl (by (exact u8_nat (by omega))) (by omega)) ?_
          refine WO.op rfl rfl rfl rfl (step_idxO (j := 17) Try.runUnderlying23 Try.sizeOf5 rfl rfl rfl (by (exact rfl)) (by omega) (by exact Nat.zero_add _)) ?_
          refine WO.op0 rfl rfl rfl (step_storeB (b := _) Try.sizeOf5 rfl rfl rfl (by (exact u8_mod _)) (by (simp only [List.length_map, List.length_append, List.length_take, List.length_drop, List.length_set, List.length_cons, List.length_nil, List.length_replicate, bysN_len, hoz, hpz] <;> omega))) ?_
          refine WO.nil ?_
          refine W.seq ?_
          refine W.to [(0, _), (1, _), (2, _), (5, _), (6, _), (7, _), (8, _), (13, _), (14, _), (18, _), (21, _), (22, _), (53, _), (99, _)] [_, _, _, _, _, _, _, _, _, _, _, _, _, _, _, _] rfl ⟨(by exact sh_sc rfl), (by exact sh_sc rfl), (by exact sh_agg rfl), (by exact sh_ptr rfl), (by exact sh_nil rfl), (by exact sh_sc rfl), (by exact sh_sc rfl), (by exact sh_sl rfl), (by exact sh_sc rfl), (by exact sh_sc rfl), (by exact sh_sc rfl), (by exact sh_sc rfl), (by exact sh_sc rfl), (by exact sh_sc rfl), trivial⟩ ?_
          refine W.gatC [_, _, _, _, _, _, _, _, _, _, _, _, _, _, _] [] _ rfl rfl ?_
          intro L29 hL29
          have hl29 : L29.length = 20 + op.size + da.size := by rw [hL29]; simp only [List.length_append, List.length_cons, List.length_nil, bysN_len, hoz, List.length_take, List.length_drop, List.length_set, hl27] <;> omega
          refine W.region ?_
          refine WO.op rfl rfl rfl rfl (mv_sl rfl) ?_
          refine WO.op rfl rfl rfl rfl (as_sl rfl) ?_
          refine WO.op rfl rfl rfl rfl (as_sc rfl) ?_
          refine WO.nil ?_
          refine W.ret ?_
          refine ⟨.inl rfl, ?_⟩
          have e27 : tcp0 sp dp se ac fl wi ur op.data.toList da.data.toList = L27 := by
            rw [hL27, hL26, hL25, hL24, hL23, by4', by4', tcp0_eq, hpz, show (20 + op.size) / 4 = 5 + op.size / 4 by omega]
            simp only [List.append_assoc]
            rfl
          have e2 : encT src dst sp dp se ac fl wi ur op.data.toList da.data.toList = L29 := by
            rw [hL29]; unfold encT put2; rw [e27]; dsimp only; rw [← byte_lo]; rfl
          rw [e2]
          exact ret0 (Res.tmp rfl (Res.tmp rfl Res.nil)) (.tup (.cons (Fz.bytes rfl (Nat.zero_le _) (take_whole (by omega)) (by rw [List.length_map]; omega)) (.cons (.keep rfl) .nil)))

end Go.Proofs.Ytdmlkcphlidcfaa
