/-
  Contracts of functions of chapter 04: each theorem says what a call of one function answers, for all arguments that its hypotheses let in.
-/
import Derived.Test.YtdmlkcphlidcfaaW4c
import Derived.Test.YtdmlkcphlidcfaaSlY
set_option linter.unusedVariables false
set_option linter.unusedSimpArgs false
set_option maxRecDepth 100000
set_option maxHeartbeats 1000000
namespace Go.Proofs.Ytdmlkcphlidcfaa
open Go Go.SL Go.Proofs

def isI (n : Int) : Prop := -9223372036854775808 ≤ n ∧ n ≤ 9223372036854775807
def isU (n : Int) : Prop := 0 ≤ n ∧ n ≤ 4294967295
def l4V (a0 : Int) (a1 : Int) (a2 : Int) (a3 : Int) (a4 : Int) (a5 : Int) (a6 : Bool) (a7 : Int) (a8 : Int) (a9 : Int) (a10 : Int) (a11 : Int) (a12 : ByteArray) (a13 : ByteArray) : List Value := [.int .i64 a0, .int .i64 a1, .int .i64 a2, .int .u32 a3, .int .i64 a4, .int .i64 a5, .bool a6, .int .u32 a7, .int .u32 a8, .int .i64 a9, .int .i64 a10, .int .i64 a11, .string a12, .string a13]
def l4L (a0 : Int) (a1 : Int) (a2 : Int) (a3 : Int) (a4 : Int) (a5 : Int) (a6 : Bool) (a7 : Int) (a8 : Int) (a9 : Int) (a10 : Int) (a11 : Int) (a12 : ByteArray) (a13 : ByteArray) : List (List Lit) := [[.int .i64 a0], [.int .i64 a1], [.int .i64 a2], [.int .u32 a3], [.int .i64 a4], [.int .i64 a5], [.bool a6], [.int .u32 a7], [.int .u32 a8], [.int .i64 a9], [.int .i64 a10], [.int .i64 a11], [.string a12.data.toList], [.string a13.data.toList]]
theorem kl_L4 {a0 : Int} {a1 : Int} {a2 : Int} {a3 : Int} {a4 : Int} {a5 : Int} {a6 : Bool} {a7 : Int} {a8 : Int} {a9 : Int} {a10 : Int} {a11 : Int} {a12 : ByteArray} {a13 : ByteArray} (g0 : isI a0) (g1 : isI a1) (g2 : isI a2) (g3 : isU a3) (g4 : isI a4) (g5 : isI a5) (g7 : isU a7) (g8 : isU a8) (g9 : isI a9) (g10 : isI a10) (g11 : isI a11) (g12 : a12.size ≤ 200000000000000) (g13 : a13.size ≤ 200000000000000) : Try.prog.keyLits 2 25 (l4V a0 a1 a2 a3 a4 a5 a6 a7 a8 a9 a10 a11 a12 a13) = some (l4L a0 a1 a2 a3 a4 a5 a6 a7 a8 a9 a10 a11 a12 a13).flatten :=
  kl_struct Try.underlying25 (by kernel_rfl) (by kernel_rfl) (KLF.cons (kl_int Try.underlying3 g0) (KLF.cons (kl_int Try.underlying3 g1) (KLF.cons (kl_int Try.underlying3 g2) (KLF.cons (kl_int Try.underlying22 g3) (KLF.cons (kl_int Try.underlying3 g4) (KLF.cons (kl_int Try.underlying3 g5) (KLF.cons (kl_bool Try.underlying4) (KLF.cons (kl_int Try.underlying22 g7) (KLF.cons (kl_int Try.underlying22 g8) (KLF.cons (kl_int Try.underlying3 g9) (KLF.cons (kl_int Try.underlying3 g10) (KLF.cons (kl_int Try.underlying3 g11) (KLF.cons (kl_string Try.underlying9 (by omega)) (KLF.cons (kl_string Try.underlying9 (by omega)) (KLF.nil)))))))))))))))
section
variable {env : Nat → AV} {hp : List AObj} {dst : Option Nat} {ty : TypeId} {pos : String} {after : Array Edge} {guard : Option (Nat × Bool)}
theorem eq_L4 {t' : TypeId} {x y : Operand} {a0 : Int} {a1 : Int} {a2 : Int} {a3 : Int} {a4 : Int} {a5 : Int} {a6 : Bool} {a7 : Int} {a8 : Int} {a9 : Int} {a10 : Int} {a11 : Int} {a12 : ByteArray} {a13 : ByteArray} (g0 : isI a0) (g1 : isI a1) (g2 : isI a2) (g3 : isU a3) (g4 : isI a4) (g5 : isI a5) (g7 : isU a7) (g8 : isU a8) (g9 : isI a9) (g10 : isI a10) (g11 : isI a11) (g12 : a12.size ≤ 200000000000000) (g13 : a13.size ≤ 200000000000000) (hx : opd env x = .agg ((l4V a0 a1 a2 a3 a4 a5 a6 a7 a8 a9 a10 a11 a12 a13).map AV.sc)) (hy : opd env y = .agg ((l4V a0 a1 a2 a3 a4 a5 a6 a7 a8 a9 a10 a11 a12 a13).map AV.sc)) :
    Step Try.prog ⟨dst, .binOp .eql 25 x y t', ty, pos, after, guard⟩ env hp (is (.sc (.bool true)) hp) :=
  step_eqAgg (m := 2) (D := 2) (D' := 2) (b := true) (by kernel_rfl) (by decide) (by kernel_rfl) hx hy (by kernel_rfl) (by kernel_rfl) (kl_L4 g0 g1 g2 g3 g4 g5 g7 g8 g9 g10 g11 g12 g13) (kl_L4 g0 g1 g2 g3 g4 g5 g7 g8 g9 g10 g11 g12 g13) (by simp)
theorem ne_L4 {t' : TypeId} {x y : Operand} {a0 : Int} {a1 : Int} {a2 : Int} {a3 : Int} {a4 : Int} {a5 : Int} {a6 : Bool} {a7 : Int} {a8 : Int} {a9 : Int} {a10 : Int} {a11 : Int} {a12 : ByteArray} {a13 : ByteArray} (g0 : isI a0) (g1 : isI a1) (g2 : isI a2) (g3 : isU a3) (g4 : isI a4) (g5 : isI a5) (g7 : isU a7) (g8 : isU a8) (g9 : isI a9) (g10 : isI a10) (g11 : isI a11) (g12 : a12.size ≤ 200000000000000) (g13 : a13.size ≤ 200000000000000) (hx : opd env x = .agg ((l4V a0 a1 a2 a3 a4 a5 a6 a7 a8 a9 a10 a11 a12 a13).map AV.sc)) (hy : opd env y = .agg ((l4V a0 a1 a2 a3 a4 a5 a6 a7 a8 a9 a10 a11 a12 a13).map AV.sc)) :
    Step Try.prog ⟨dst, .binOp .neq 25 x y t', ty, pos, after, guard⟩ env hp (is (.sc (.bool false)) hp) :=
  step_neAgg (m := 2) (D := 2) (D' := 2) (b := true) (by kernel_rfl) (by decide) (by kernel_rfl) hx hy (by kernel_rfl) (by kernel_rfl) (kl_L4 g0 g1 g2 g3 g4 g5 g7 g8 g9 g10 g11 g12 g13) (kl_L4 g0 g1 g2 g3 g4 g5 g7 g8 g9 g10 g11 g12 g13) (by simp)
end

theorem w_Chk2 {sp dp : Nat} {ns : Bool} {da : ByteArray} (hsp : sp ≤ 65535) (hdp : dp ≤ 65535) (hda : da.size ≤ 65507) : Spec0 Try.prog 13 [.agg [.sc (.int .i64 2), .sc (.int .i64 0), .sc (.int .i64 0), .sc (.int .u32 0), .sc (.int .i64 ((sp : Nat) : Int)), .sc (.int .i64 ((dp : Nat) : Int)), .sc (.bool ns), .sc (.int .u32 0), .sc (.int .u32 0), .sc (.int .i64 0), .sc (.int .i64 0), .sc (.int .i64 0), .sc (.string ⟨#[]⟩), .sc (.string da)]] (.sc (.int .i64 0)) := by
  refine Spec.body Try.func13 rfl (Nat.le_of_ble_eq_true rfl) ?_
  refine W.seq ?_
  refine W.region ?_
  refine WO.opA rfl rfl rfl rfl (al_boxA rfl rfl) rfl rfl ?_
  refine WO.put 1 (.ptr 0 0) rfl ?_
  refine WO.op rfl rfl rfl rfl (as_sc rfl) ?_
  refine WO.nil ?_
  refine W.seq ?_
  refine W.to [(0, _), (1, _), (2, _)] [_] rfl ⟨(by exact sh_agg rfl), (by exact sh_ptr rfl), (by exact sh_sc rfl), trivial⟩ ?_
  refine W.region ?_
  refine WO.op rfl rfl rfl rfl (step_loadA Try.isAgg25 Try.sizeOf25 rfl rfl (by exact Nat.le_refl _)) ?_
  refine WO.op rfl rfl rfl rfl (step_pure Try.call26 rfl (by (repeat (first | exact Nl.nil | refine Nl.keep (by rfl) ?_))) (w_own2) (by repeat (first | with_reducible refine noOwn_tup ?_ | with_reducible refine noOwn_agg ?_ | with_reducible exact noOwnL_nil | with_reducible refine noOwnL_cons ?_ ?_ | rfl))) ?_
  refine WO.op rfl rfl rfl rfl (mv_tup rfl) ?_
  refine WO.op rfl rfl rfl rfl (step_extract rfl rfl) ?_
  refine WO.put 9 (.agg [.sc (.int .i64 2), .sc (.int .i64 0), .sc (.int .i64 0), .sc (.int .u32 0), .sc (.int .i64 ((sp : Nat) : Int)), .sc (.int .i64 ((dp : Nat) : Int)), .sc (.bool ns), .sc (.int .u32 0), .sc (.int .u32 0), .sc (.int .i64 0), .sc (.int .i64 0), .sc (.int .i64 0), .sc (.string ⟨#[]⟩), .sc (.string da)]) (by kernel_rfl) ?_
  refine WO.op rfl rfl rfl rfl (step_extract rfl rfl) ?_
  refine WO.op rfl rfl rfl rfl (step_extract rfl rfl) ?_
  refine WO.opA rfl rfl rfl rfl (al_alloc Try.zeroValue25) rfl rfl ?_
  refine WO.put 3 (.ptr 1 0) rfl ?_
  refine WO.op0 rfl rfl rfl (step_storeA Try.sizeOf25 rfl rfl rfl (by repeat (exact all_cell rfl rfl)) rfl rfl) ?_
  refine WO.op rfl rfl rfl rfl (as_sc rfl) ?_
  refine WO.op rfl rfl rfl rfl (as_sc rfl) ?_
  refine WO.nil ?_
  refine W.seq ?_
  refine W.seq ?_
  refine W.to [(0, _), (1, _), (2, _), (3, _), (4, _), (5, _)] [_, _] rfl ⟨(by exact sh_agg rfl), (by exact sh_ptr rfl), (by exact sh_sc rfl), (by exact sh_ptr rfl), (by exact sh_sc rfl), (by exact sh_sc rfl), trivial⟩ ?_
  refine W.region ?_
  refine WO.op rfl rfl rfl rfl (mv_sc rfl) ?_
  refine WO.op rfl rfl rfl rfl (step_not rfl) ?_
  refine WO.put 13 (.sc (.bool false)) (by kernel_rfl) ?_
  refine WO.op rfl rfl rfl rfl (mv_sc rfl) ?_
  refine WO.op rfl rfl rfl rfl (step_loadA Try.isAgg25 Try.sizeOf25 rfl rfl (by exact Nat.le_refl _)) ?_
  refine WO.put 15 (.agg [.sc (.int .i64 2), .sc (.int .i64 0), .sc (.int .i64 0), .sc (.int .u32 0), .sc (.int .i64 ((sp : Nat) : Int)), .sc (.int .i64 ((dp : Nat) : Int)), .sc (.bool ns), .sc (.int .u32 0), .sc (.int .u32 0), .sc (.int .i64 0), .sc (.int .i64 0), .sc (.int .i64 0), .sc (.string ⟨#[]⟩), .sc (.string da)]) (by kernel_rfl) ?_
  refine WO.op rfl rfl rfl rfl (step_loadA Try.isAgg25 Try.sizeOf25 rfl rfl (by exact Nat.le_refl _)) ?_
  refine WO.put 16 (.agg [.sc (.int .i64 2), .sc (.int .i64 0), .sc (.int .i64 0), .sc (.int .u32 0), .sc (.int .i64 ((sp : Nat) : Int)), .sc (.int .i64 ((dp : Nat) : Int)), .sc (.bool ns), .sc (.int .u32 0), .sc (.int .u32 0), .sc (.int .i64 0), .sc (.int .i64 0), .sc (.int .i64 0), .sc (.string ⟨#[]⟩), .sc (.string da)]) (by kernel_rfl) ?_
  refine WO.op rfl rfl rfl rfl (ne_L4 (a0 := 2) (a1 := 0) (a2 := 0) (a3 := 0) (a4 := sp) (a5 := dp) (a6 := ns) (a7 := 0) (a8 := 0) (a9 := 0) (a10 := 0) (a11 := 0) (a12 := ⟨#[]⟩) (a13 := da) (by (constructor <;> omega)) (by (constructor <;> omega)) (by (constructor <;> omega)) (by (constructor <;> omega)) (by (constructor <;> omega)) (by (constructor <;> omega)) (by (constructor <;> omega)) (by (constructor <;> omega)) (by (constructor <;> omega)) (by (constructor <;> omega)) (by (constructor <;> omega)) (by decide) (by omega) rfl rfl) ?_
  refine WO.put 17 (.sc (.bool false)) (rfl) ?_
  refine WO.op rfl rfl rfl rfl (pk_f rfl rfl rfl) ?_
  refine WO.op rfl rfl rfl rfl (mv_sc rfl) ?_
  refine WO.op rfl rfl rfl rfl (step_fieldR (k := 1) (FieldOff.mk (by kernel_rfl)) rfl rfl (by exact Nat.zero_add _)) ?_
  refine WO.op rfl rfl rfl rfl (step_load Try.isAgg3 rfl rfl rfl) ?_
  refine WO.op rfl rfl rfl rfl (step_pure Try.call33 rfl (by (repeat (first | exact Nl.nil | refine Nl.keep (by rfl) ?_))) (w_within) (by repeat (rfl))) ?_
  refine WO.op rfl rfl rfl rfl (step_not rfl) ?_
  refine WO.op rfl rfl rfl rfl (pk_f rfl rfl rfl) ?_
  refine WO.op rfl rfl rfl rfl (mv_sc rfl) ?_
  refine WO.spl 25 rfl (fun h1 => ?_) (fun h1 => ?_)
  · try simp only [decide_eq_true_eq, decide_eq_false_iff_not, Bool.not_eq_true', Bool.not_eq_false', beq_iff_eq, bne_iff_ne, beq_eq_false_iff_ne, bne_eq_false_iff_eq, gt_iff_lt, ge_iff_le, Int.not_lt, Int.not_le] at h1
    exact False.elim (by omega)
  · try simp only [decide_eq_true_eq, decide_eq_false_iff_not, Bool.not_eq_true', Bool.not_eq_false', beq_iff_eq, bne_iff_ne, beq_eq_false_iff_ne, bne_eq_false_iff_eq, gt_iff_lt, ge_iff_le, Int.not_lt, Int.not_le] at h1
    refine WO.op rfl rfl rfl rfl (step_fieldR (k := 2) (FieldOff.mk (by kernel_rfl)) rfl rfl (by exact Nat.zero_add _)) ?_
    refine WO.op rfl rfl rfl rfl (step_load Try.isAgg3 rfl rfl rfl) ?_
    refine WO.op rfl rfl rfl rfl (step_pure Try.call33 rfl (by (repeat (first | exact Nl.nil | refine Nl.keep (by rfl) ?_))) (w_within) (by repeat (rfl))) ?_
    refine WO.op rfl rfl rfl rfl (step_not rfl) ?_
    refine WO.op rfl rfl rfl rfl (pk_f rfl rfl rfl) ?_
    refine WO.op rfl rfl rfl rfl (mv_sc rfl) ?_
    refine WO.spl 31 rfl (fun h2 => ?_) (fun h2 => ?_)
    · try simp only [decide_eq_true_eq, decide_eq_false_iff_not, Bool.not_eq_true', Bool.not_eq_false', beq_iff_eq, bne_iff_ne, beq_eq_false_iff_ne, bne_eq_false_iff_eq, gt_iff_lt, ge_iff_le, Int.not_lt, Int.not_le] at h2
      exact False.elim (by omega)
    · try simp only [decide_eq_true_eq, decide_eq_false_iff_not, Bool.not_eq_true', Bool.not_eq_false', beq_iff_eq, bne_iff_ne, beq_eq_false_iff_ne, bne_eq_false_iff_eq, gt_iff_lt, ge_iff_le, Int.not_lt, Int.not_le] at h2
      refine WO.op rfl rfl rfl rfl (step_fieldR (k := 4) (FieldOff.mk (by kernel_rfl)) rfl rfl (by exact Nat.zero_add _)) ?_
      refine WO.op rfl rfl rfl rfl (step_load Try.isAgg3 rfl rfl rfl) ?_
      refine WO.op rfl rfl rfl rfl (step_pure Try.call33 rfl (by (repeat (first | exact Nl.nil | refine Nl.keep (by rfl) ?_))) (w_within) (by repeat (rfl))) ?_
      refine WO.op rfl rfl rfl rfl (step_not rfl) ?_
      refine WO.op rfl rfl rfl rfl (pk_f rfl rfl rfl) ?_
      refine WO.op rfl rfl rfl rfl (mv_sc rfl) ?_
      refine WO.spl 37 rfl (fun h3 => ?_) (fun h3 => ?_)
      · try simp only [decide_eq_true_eq, decide_eq_false_iff_not, Bool.not_eq_true', Bool.not_eq_false', beq_iff_eq, bne_iff_ne, beq_eq_false_iff_ne, bne_eq_false_iff_eq, gt_iff_lt, ge_iff_le, Int.not_lt, Int.not_le] at h3
        exact False.elim (by omega)
      · try simp only [decide_eq_true_eq, decide_eq_false_iff_not, Bool.not_eq_true', Bool.not_eq_false', beq_iff_eq, bne_iff_ne, beq_eq_false_iff_ne, bne_eq_false_iff_eq, gt_iff_lt, ge_iff_le, Int.not_lt, Int.not_le] at h3
        refine WO.op rfl rfl rfl rfl (step_fieldR (k := 5) (FieldOff.mk (by kernel_rfl)) rfl rfl (by exact Nat.zero_add _)) ?_
        refine WO.op rfl rfl rfl rfl (step_load Try.isAgg3 rfl rfl rfl) ?_
        refine WO.op rfl rfl rfl rfl (step_pure Try.call33 rfl (by (repeat (first | exact Nl.nil | refine Nl.keep (by rfl) ?_))) (w_within) (by repeat (rfl))) ?_
        refine WO.op rfl rfl rfl rfl (step_not rfl) ?_
        refine WO.op rfl rfl rfl rfl (pk_f rfl rfl rfl) ?_
        refine WO.op rfl rfl rfl rfl (mv_sc rfl) ?_
        refine WO.spl 43 rfl (fun h4 => ?_) (fun h4 => ?_)
        · try simp only [decide_eq_true_eq, decide_eq_false_iff_not, Bool.not_eq_true', Bool.not_eq_false', beq_iff_eq, bne_iff_ne, beq_eq_false_iff_ne, bne_eq_false_iff_eq, gt_iff_lt, ge_iff_le, Int.not_lt, Int.not_le] at h4
          exact False.elim (by omega)
        · try simp only [decide_eq_true_eq, decide_eq_false_iff_not, Bool.not_eq_true', Bool.not_eq_false', beq_iff_eq, bne_iff_ne, beq_eq_false_iff_ne, bne_eq_false_iff_eq, gt_iff_lt, ge_iff_le, Int.not_lt, Int.not_le] at h4
          refine WO.op rfl rfl rfl rfl (step_fieldR (k := 10) (FieldOff.mk (by kernel_rfl)) rfl rfl (by exact Nat.zero_add _)) ?_
          refine WO.op rfl rfl rfl rfl (step_load Try.isAgg3 rfl rfl rfl) ?_
          refine WO.op rfl rfl rfl rfl (step_pure Try.call33 rfl (by (repeat (first | exact Nl.nil | refine Nl.keep (by rfl) ?_))) (w_within) (by repeat (rfl))) ?_
          refine WO.op rfl rfl rfl rfl (step_not rfl) ?_
          refine WO.op rfl rfl rfl rfl (pk_f rfl rfl rfl) ?_
          refine WO.op rfl rfl rfl rfl (mv_sc rfl) ?_
          refine WO.spl 49 rfl (fun h5 => ?_) (fun h5 => ?_)
          · try simp only [decide_eq_true_eq, decide_eq_false_iff_not, Bool.not_eq_true', Bool.not_eq_false', beq_iff_eq, bne_iff_ne, beq_eq_false_iff_ne, bne_eq_false_iff_eq, gt_iff_lt, ge_iff_le, Int.not_lt, Int.not_le] at h5
            exact False.elim (by omega)
          · try simp only [decide_eq_true_eq, decide_eq_false_iff_not, Bool.not_eq_true', Bool.not_eq_false', beq_iff_eq, bne_iff_ne, beq_eq_false_iff_ne, bne_eq_false_iff_eq, gt_iff_lt, ge_iff_le, Int.not_lt, Int.not_le] at h5
            refine WO.op rfl rfl rfl rfl (step_fieldR (k := 11) (FieldOff.mk (by kernel_rfl)) rfl rfl (by exact Nat.zero_add _)) ?_
            refine WO.op rfl rfl rfl rfl (step_load Try.isAgg3 rfl rfl rfl) ?_
            refine WO.op rfl rfl rfl rfl (step_pure Try.call33 rfl (by (repeat (first | exact Nl.nil | refine Nl.keep (by rfl) ?_))) (w_within) (by repeat (rfl))) ?_
            refine WO.op rfl rfl rfl rfl (step_not rfl) ?_
            refine WO.op rfl rfl rfl rfl (pk_f rfl rfl rfl) ?_
            refine WO.op rfl rfl rfl rfl (mv_sc rfl) ?_
            refine WO.spl 55 rfl (fun h6 => ?_) (fun h6 => ?_)
            · try simp only [decide_eq_true_eq, decide_eq_false_iff_not, Bool.not_eq_true', Bool.not_eq_false', beq_iff_eq, bne_iff_ne, beq_eq_false_iff_ne, bne_eq_false_iff_eq, gt_iff_lt, ge_iff_le, Int.not_lt, Int.not_le] at h6
              exact False.elim (by omega)
            · try simp only [decide_eq_true_eq, decide_eq_false_iff_not, Bool.not_eq_true', Bool.not_eq_false', beq_iff_eq, bne_iff_ne, beq_eq_false_iff_ne, bne_eq_false_iff_eq, gt_iff_lt, ge_iff_le, Int.not_lt, Int.not_le] at h6
              refine WO.op rfl rfl rfl rfl (step_fieldR (k := 9) (FieldOff.mk (by kernel_rfl)) rfl rfl (by exact Nat.zero_add _)) ?_
              refine WO.op rfl rfl rfl rfl (step_load Try.isAgg3 rfl rfl rfl) ?_
              refine WO.op rfl rfl rfl rfl (step_pure Try.call33 rfl (by (repeat (first | exact Nl.nil | refine Nl.keep (by rfl) ?_))) (w_within) (by repeat (rfl))) ?_
              refine WO.op rfl rfl rfl rfl (step_not rfl) ?_
              refine WO.op rfl rfl rfl rfl (pk_f rfl rfl rfl) ?_
              refine WO.op rfl rfl rfl rfl (mv_sc rfl) ?_
              refine WO.spl 61 rfl (fun h7 => ?_) (fun h7 => ?_)
              · try simp only [decide_eq_true_eq, decide_eq_false_iff_not, Bool.not_eq_true', Bool.not_eq_false', beq_iff_eq, bne_iff_ne, beq_eq_false_iff_ne, bne_eq_false_iff_eq, gt_iff_lt, ge_iff_le, Int.not_lt, Int.not_le] at h7
                exact False.elim (by omega)
              · try simp only [decide_eq_true_eq, decide_eq_false_iff_not, Bool.not_eq_true', Bool.not_eq_false', beq_iff_eq, bne_iff_ne, beq_eq_false_iff_ne, bne_eq_false_iff_eq, gt_iff_lt, ge_iff_le, Int.not_lt, Int.not_le] at h7
                refine WO.op rfl rfl rfl rfl (step_fieldR (k := 12) (FieldOff.mk (by kernel_rfl)) rfl rfl (by exact Nat.zero_add _)) ?_
                refine WO.op rfl rfl rfl rfl (step_load Try.isAgg9 rfl rfl rfl) ?_
                refine WO.op rfl rfl rfl rfl (step_lenS Try.runUnderlying9 rfl) ?_
                refine WO.op rfl rfl rfl rfl (step_int2 rfl rfl rfl) ?_
                refine WO.put 65 (.sc (.bool false)) (by kernel_rfl) ?_
                refine WO.op rfl rfl rfl rfl (pk_f rfl rfl rfl) ?_
                refine WO.op rfl rfl rfl rfl (mv_sc rfl) ?_
                refine WO.op rfl rfl rfl rfl (step_fieldR (k := 12) (FieldOff.mk (by kernel_rfl)) rfl rfl (by exact Nat.zero_add _)) ?_
                refine WO.op rfl rfl rfl rfl (step_load Try.isAgg9 rfl rfl rfl) ?_
                refine WO.op rfl rfl rfl rfl (step_lenS Try.runUnderlying9 rfl) ?_
                refine WO.op rfl rfl rfl rfl (step_remN (q := 4) rfl rfl (by omega)) ?_
                refine WO.op rfl rfl rfl rfl (step_int2 rfl rfl rfl) ?_
                refine WO.put 72 (.sc (.bool false)) (by kernel_rfl) ?_
                refine WO.op rfl rfl rfl rfl (pk_f rfl rfl rfl) ?_
                refine WO.op rfl rfl rfl rfl (mv_sc rfl) ?_
                refine WO.op rfl rfl rfl rfl (step_fieldR (k := 13) (FieldOff.mk (by kernel_rfl)) rfl rfl (by exact Nat.zero_add _)) ?_
                refine WO.op rfl rfl rfl rfl (step_load Try.isAgg9 rfl rfl rfl) ?_
                refine WO.op rfl rfl rfl rfl (step_lenS Try.runUnderlying9 rfl) ?_
                refine WO.op rfl rfl rfl rfl (mv_sc rfl) ?_
                refine WO.op rfl rfl rfl rfl (step_subN (p := 65515) rfl rfl (by (simp only [List.length_map, List.length_append, List.length_take, List.length_drop, List.length_set, List.length_cons, List.length_nil, List.length_replicate] <;> omega)) (by (simp only [cap]; omega))) ?_
                refine WO.op rfl rfl rfl rfl (step_int2 rfl rfl rfl) ?_
                refine WO.op rfl rfl rfl rfl (pk_f rfl rfl rfl) ?_
                refine WO.nil ?_
                refine W.cond rfl (fun h8 => ?_) (fun h8 => ?_)
                · try simp only [decide_eq_true_eq, decide_eq_false_iff_not, Bool.not_eq_true', Bool.not_eq_false', beq_iff_eq, bne_iff_ne, beq_eq_false_iff_ne, bne_eq_false_iff_eq, gt_iff_lt, ge_iff_le, Int.not_lt, Int.not_le] at h8
                  exact False.elim (by omega)
                · try simp only [decide_eq_true_eq, decide_eq_false_iff_not, Bool.not_eq_true', Bool.not_eq_false', beq_iff_eq, bne_iff_ne, beq_eq_false_iff_ne, bne_eq_false_iff_eq, gt_iff_lt, ge_iff_le, Int.not_lt, Int.not_le] at h8
                  refine W.skip ?_
                  refine W.seq ?_
                  refine W.to [(0, _), (1, _), (2, _), (3, _), (4, _), (5, _), (81, _)] [_, _] rfl ⟨(by exact sh_agg rfl), (by exact sh_ptr rfl), (by exact sh_sc rfl), (by exact sh_ptr rfl), (by exact sh_sc rfl), (by exact sh_sc rfl), (by exact sh_sc rfl), trivial⟩ ?_
                  refine W.region ?_
                  refine WO.op rfl rfl rfl rfl (as_sc rfl) ?_
                  refine WO.nil ?_
                  refine W.ret ?_
                  refine ⟨.inl rfl, ?_⟩
                  exact ret0 (Res.tmp rfl Res.nil) (.keep rfl)

end Go.Proofs.Ytdmlkcphlidcfaa
