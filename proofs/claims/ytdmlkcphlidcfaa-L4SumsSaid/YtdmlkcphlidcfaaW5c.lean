/-
  Contracts of functions of chapter 04: each theorem says what a call of one function answers, for all arguments that its hypotheses let in.
-/
import Derived.Test.YtdmlkcphlidcfaaW5a
import Derived.Test.YtdmlkcphlidcfaaW4g
set_option linter.unusedVariables false
set_option linter.unusedSimpArgs false
set_option maxRecDepth 100000
set_option maxHeartbeats 1000000
namespace Go.Proofs.Ytdmlkcphlidcfaa
open Go Go.SL Go.Proofs

theorem fo_mod (x : Nat) : fo x % 65535 = x % 65535 := by unfold fo; split <;> omega

theorem w_SumsX {src dst other : Nat} (hsrc : src < 4294967296) (hdst : dst < 4294967296) (hoth : other < 4294967296) {a0 : Int} {a1 : Int} {a2 : Int} {a3 : Int} {a4 : Int} {a5 : Int} {a6 : Bool} {a7 : Int} {a8 : Int} {a9 : Int} {a10 : Int} {a11 : Int} {a12 : ByteArray} {a13 : ByteArray} (g0 : isI a0) (g1 : isI a1) (g2 : isI a2) (g3 : isU a3) (g4 : isI a4) (g5 : isI a5) (g7 : isU a7) (g8 : isU a8) (g9 : isI a9) (g10 : isI a10) (g11 : isI a11) (g12 : a12.size ≤ 200000000000000) (g13 : a13.size ≤ 200000000000000) (h : ¬ okL4 a0 a1 a2 a3 a4 a5 a6 a7 a8 a9 a10 a11 a12 a13) : Spec0 Try.prog 5 [.sc (.int .u32 ((src : Nat) : Int)), .sc (.int .u32 ((dst : Nat) : Int)), .sc (.int .u32 ((other : Nat) : Int)), .agg [.sc (.int .i64 a0), .sc (.int .i64 a1), .sc (.int .i64 a2), .sc (.int .u32 a3), .sc (.int .i64 a4), .sc (.int .i64 a5), .sc (.bool a6), .sc (.int .u32 a7), .sc (.int .u32 a8), .sc (.int .i64 a9), .sc (.int .i64 a10), .sc (.int .i64 a11), .sc (.string a12), .sc (.string a13)]] (.sc (.bool true)) := by
  refine Spec.body Try.func5 rfl (Nat.le_of_ble_eq_true rfl) ?_
  refine W.seq ?_
  refine W.region ?_
  refine WO.opA rfl rfl rfl rfl (al_boxA rfl rfl) rfl rfl ?_
  refine WO.put 7 (.ptr 0 0) rfl ?_
  refine WO.op rfl rfl rfl rfl (as_sc rfl) ?_
  refine WO.nil ?_
  refine W.seq ?_
  refine W.to [(0, _), (1, _), (2, _), (3, _), (7, _), (8, _)] [_] rfl ⟨(by exact sh_sc rfl), (by exact sh_sc rfl), (by exact sh_sc rfl), (by exact sh_agg rfl), (by exact sh_ptr rfl), (by exact sh_sc rfl), trivial⟩ ?_
  refine W.region ?_
  refine WO.op rfl rfl rfl rfl (mv_sc rfl) ?_
  refine WO.op rfl rfl rfl rfl (mv_sc rfl) ?_
  refine WO.op rfl rfl rfl rfl (step_loadA Try.isAgg25 Try.sizeOf25 rfl rfl (by exact Nat.le_refl _)) ?_
  refine WO.put 18 (.agg [.sc (.int .i64 a0), .sc (.int .i64 a1), .sc (.int .i64 a2), .sc (.int .u32 a3), .sc (.int .i64 a4), .sc (.int .i64 a5), .sc (.bool a6), .sc (.int .u32 a7), .sc (.int .u32 a8), .sc (.int .i64 a9), .sc (.int .i64 a10), .sc (.int .i64 a11), .sc (.string a12), .sc (.string a13)]) (by kernel_rfl) ?_
  refine WO.op rfl rfl rfl rfl (step_pure Try.call11 rfl (by (repeat (first | exact Nl.nil | refine Nl.keep (by rfl) ?_))) (w_EncX g0 g1 g2 g3 g4 g5 g7 g8 g9 g10 g11 g12 g13 h) (by repeat (first | with_reducible exact noOwn_im | with_reducible refine noOwn_tup ?_ | with_reducible exact noOwnL_nil | with_reducible refine noOwnL_cons ?_ ?_ | rfl))) ?_
  refine WO.op rfl rfl rfl rfl (mv_tup rfl) ?_
  refine WO.op rfl rfl rfl rfl (step_extract rfl rfl) ?_
  refine WO.op rfl rfl rfl rfl (step_extract rfl rfl) ?_
  refine WO.op rfl rfl rfl rfl (as_im rfl) ?_
  refine WO.op rfl rfl rfl rfl (as_sc rfl) ?_
  refine WO.nil ?_
  refine W.seq ?_
  refine W.seq ?_
  refine W.to [(0, _), (1, _), (2, _), (3, _), (7, _), (8, _), (9, _), (10, _)] [_] rfl ⟨(by exact sh_sc rfl), (by exact sh_sc rfl), (by exact sh_sc rfl), (by exact sh_agg rfl), (by exact sh_ptr rfl), (by exact sh_sc rfl), (by exact sh_im rfl), (by exact sh_sc rfl), trivial⟩ ?_
  refine W.region ?_
  refine WO.op rfl rfl rfl rfl (step_pure Try.call10 rfl (by (repeat (exact Nl.nil))) (w_lives) (by repeat (rfl))) ?_
  refine WO.op rfl rfl rfl rfl (step_not rfl) ?_
  refine WO.put 23 (.sc (.bool false)) (rfl) ?_
  refine WO.nil ?_
  refine W.condF rfl ?_
  refine W.skip ?_
  refine W.seq ?_
  refine W.seq ?_
  refine W.to [(0, _), (1, _), (2, _), (3, _), (7, _), (8, _), (9, _), (10, _), (23, _)] [_] rfl ⟨(by exact sh_sc rfl), (by exact sh_sc rfl), (by exact sh_sc rfl), (by exact sh_agg rfl), (by exact sh_ptr rfl), (by exact sh_sc rfl), (by exact sh_im rfl), (by exact sh_sc rfl), (by exact sh_sc rfl), trivial⟩ ?_
  refine W.region ?_
  refine WO.op rfl rfl rfl rfl (mv_sc rfl) ?_
  refine WO.op rfl rfl rfl rfl (step_int2 rfl rfl rfl) ?_
  refine WO.put 25 (.sc (.bool true)) (by kernel_rfl) ?_
  refine WO.op rfl rfl rfl rfl (mv_sc rfl) ?_
  refine WO.sk rfl rfl rfl rfl ?_
  refine WO.sk rfl rfl rfl rfl ?_
  refine WO.sk rfl rfl rfl rfl ?_
  refine WO.sk rfl rfl rfl rfl ?_
  refine WO.sk rfl rfl rfl rfl ?_
  refine WO.sk rfl rfl rfl rfl ?_
  refine WO.sk rfl rfl rfl rfl ?_
  refine WO.sk rfl rfl rfl rfl ?_
  refine WO.op rfl rfl rfl rfl (pk_t rfl rfl rfl) ?_
  refine WO.nil ?_
  refine W.condT rfl ?_
  refine W.seq ?_
  refine W.to [(0, _), (1, _), (2, _), (3, _), (7, _), (8, _), (9, _), (10, _), (23, _), (35, _)] [_] rfl ⟨(by exact sh_sc rfl), (by exact sh_sc rfl), (by exact sh_sc rfl), (by exact sh_agg rfl), (by exact sh_ptr rfl), (by exact sh_sc rfl), (by exact sh_im rfl), (by exact sh_sc rfl), (by exact sh_sc rfl), (by exact sh_sc rfl), trivial⟩ ?_
  refine W.region ?_
  refine WO.op rfl rfl rfl rfl (mv_sc rfl) ?_
  refine WO.op rfl rfl rfl rfl (step_int2 rfl rfl rfl) ?_
  refine WO.put 37 (.sc (.bool false)) (by kernel_rfl) ?_
  refine WO.op rfl rfl rfl rfl (step_loadA Try.isAgg25 Try.sizeOf25 rfl rfl (by exact Nat.le_refl _)) ?_
  refine WO.put 38 (.agg [.sc (.int .i64 a0), .sc (.int .i64 a1), .sc (.int .i64 a2), .sc (.int .u32 a3), .sc (.int .i64 a4), .sc (.int .i64 a5), .sc (.bool a6), .sc (.int .u32 a7), .sc (.int .u32 a8), .sc (.int .i64 a9), .sc (.int .i64 a10), .sc (.int .i64 a11), .sc (.string a12), .sc (.string a13)]) (by kernel_rfl) ?_
  refine WO.op rfl rfl rfl rfl (step_pure Try.call13 rfl (by (repeat (first | exact Nl.nil | refine Nl.keep (by rfl) ?_))) (w_ChkX g0 g1 g2 g3 g4 g5 g7 g8 g9 g10 g11 g12 g13 h) (by repeat (rfl))) ?_
  refine WO.op rfl rfl rfl rfl (step_int2 rfl rfl rfl) ?_
  refine WO.put 40 (.sc (.bool false)) (by kernel_rfl) ?_
  refine WO.op rfl rfl rfl rfl (step_eqBool Try.runUnderlying4 rfl rfl) ?_
  refine WO.put 41 (.sc (.bool true)) (by kernel_rfl) ?_
  refine WO.op rfl rfl rfl rfl (as_sc rfl) ?_
  refine WO.nil ?_
  refine W.ret ?_
  refine ⟨.inl rfl, ?_⟩
  exact ret0 (Res.tmp rfl Res.nil) (.keep rfl)

theorem w_SumsC {src dst other : Nat} (hsrc : src < 4294967296) (hdst : dst < 4294967296) (hoth : other < 4294967296) {a0 : Int} {a1 : Int} {a2 : Int} {a3 : Int} {a4 : Int} {a5 : Int} {a6 : Bool} {a7 : Int} {a8 : Int} {a9 : Int} {a10 : Int} {a11 : Int} {a12 : ByteArray} {a13 : ByteArray} {c : List UInt8} (hk : a0 ≠ 2 ∧ a0 ≠ 3) (hE : Spec0 Try.prog 11 [.sc (.int .u32 ((src : Nat) : Int)), .sc (.int .u32 ((dst : Nat) : Int)), .agg [.sc (.int .i64 a0), .sc (.int .i64 a1), .sc (.int .i64 a2), .sc (.int .u32 a3), .sc (.int .i64 a4), .sc (.int .i64 a5), .sc (.bool a6), .sc (.int .u32 a7), .sc (.int .u32 a8), .sc (.int .i64 a9), .sc (.int .i64 a10), .sc (.int .i64 a11), .sc (.string a12), .sc (.string a13)]] (.tup [.im 1 (c.map byteAV), .sc (.int .i64 0)])) (hC : Spec0 Try.prog 13 [.agg [.sc (.int .i64 a0), .sc (.int .i64 a1), .sc (.int .i64 a2), .sc (.int .u32 a3), .sc (.int .i64 a4), .sc (.int .i64 a5), .sc (.bool a6), .sc (.int .u32 a7), .sc (.int .u32 a8), .sc (.int .i64 a9), .sc (.int .i64 a10), .sc (.int .i64 a11), .sc (.string a12), .sc (.string a13)]] (.sc (.int .i64 0))) : Spec0 Try.prog 5 [.sc (.int .u32 ((src : Nat) : Int)), .sc (.int .u32 ((dst : Nat) : Int)), .sc (.int .u32 ((other : Nat) : Int)), .agg [.sc (.int .i64 a0), .sc (.int .i64 a1), .sc (.int .i64 a2), .sc (.int .u32 a3), .sc (.int .i64 a4), .sc (.int .i64 a5), .sc (.bool a6), .sc (.int .u32 a7), .sc (.int .u32 a8), .sc (.int .i64 a9), .sc (.int .i64 a10), .sc (.int .i64 a11), .sc (.string a12), .sc (.string a13)]] (.sc (.bool true)) := by
  refine Spec.body Try.func5 rfl (Nat.le_of_ble_eq_true rfl) ?_
  refine W.seq ?_
  refine W.region ?_
  refine WO.opA rfl rfl rfl rfl (al_boxA rfl rfl) rfl rfl ?_
  refine WO.put 7 (.ptr 0 0) rfl ?_
  refine WO.op rfl rfl rfl rfl (as_sc rfl) ?_
  refine WO.nil ?_
  refine W.seq ?_
  refine W.to [(0, _), (1, _), (2, _), (3, _), (7, _), (8, _)] [_] rfl ⟨(by exact sh_sc rfl), (by exact sh_sc rfl), (by exact sh_sc rfl), (by exact sh_agg rfl), (by exact sh_ptr rfl), (by exact sh_sc rfl), trivial⟩ ?_
  refine W.region ?_
  refine WO.op rfl rfl rfl rfl (mv_sc rfl) ?_
  refine WO.op rfl rfl rfl rfl (mv_sc rfl) ?_
  refine WO.op rfl rfl rfl rfl (step_loadA Try.isAgg25 Try.sizeOf25 rfl rfl (by exact Nat.le_refl _)) ?_
  refine WO.put 18 (.agg [.sc (.int .i64 a0), .sc (.int .i64 a1), .sc (.int .i64 a2), .sc (.int .u32 a3), .sc (.int .i64 a4), .sc (.int .i64 a5), .sc (.bool a6), .sc (.int .u32 a7), .sc (.int .u32 a8), .sc (.int .i64 a9), .sc (.int .i64 a10), .sc (.int .i64 a11), .sc (.string a12), .sc (.string a13)]) (by kernel_rfl) ?_
  refine WO.op rfl rfl rfl rfl (step_pure Try.call11 rfl (by (repeat (first | exact Nl.nil | refine Nl.keep (by rfl) ?_))) (hE) (by repeat (first | with_reducible exact noOwn_im | with_reducible refine noOwn_tup ?_ | with_reducible exact noOwnL_nil | with_reducible refine noOwnL_cons ?_ ?_ | rfl))) ?_
  refine WO.op rfl rfl rfl rfl (mv_tup rfl) ?_
  refine WO.op rfl rfl rfl rfl (step_extract rfl rfl) ?_
  refine WO.op rfl rfl rfl rfl (step_extract rfl rfl) ?_
  refine WO.op rfl rfl rfl rfl (as_im rfl) ?_
  refine WO.op rfl rfl rfl rfl (as_sc rfl) ?_
  refine WO.nil ?_
  refine W.seq ?_
  refine W.seq ?_
  refine W.to [(0, _), (1, _), (2, _), (3, _), (7, _), (8, _), (9, _), (10, _)] [_] rfl ⟨(by exact sh_sc rfl), (by exact sh_sc rfl), (by exact sh_sc rfl), (by exact sh_agg rfl), (by exact sh_ptr rfl), (by exact sh_sc rfl), (by exact sh_im rfl), (by exact sh_sc rfl), trivial⟩ ?_
  refine W.region ?_
  refine WO.op rfl rfl rfl rfl (step_pure Try.call10 rfl (by (repeat (exact Nl.nil))) (w_lives) (by repeat (rfl))) ?_
  refine WO.op rfl rfl rfl rfl (step_not rfl) ?_
  refine WO.put 23 (.sc (.bool false)) (rfl) ?_
  refine WO.nil ?_
  refine W.condF rfl ?_
  refine W.skip ?_
  refine W.seq ?_
  refine W.seq ?_
  refine W.to [(0, _), (1, _), (2, _), (3, _), (7, _), (8, _), (9, _), (10, _), (23, _)] [_] rfl ⟨(by exact sh_sc rfl), (by exact sh_sc rfl), (by exact sh_sc rfl), (by exact sh_agg rfl), (by exact sh_ptr rfl), (by exact sh_sc rfl), (by exact sh_im rfl), (by exact sh_sc rfl), (by exact sh_sc rfl), trivial⟩ ?_
  refine W.region ?_
  refine WO.op rfl rfl rfl rfl (mv_sc rfl) ?_
  refine WO.op rfl rfl rfl rfl (step_int2 rfl rfl rfl) ?_
  refine WO.put 25 (.sc (.bool false)) (by kernel_rfl) ?_
  refine WO.op rfl rfl rfl rfl (mv_sc rfl) ?_
  refine WO.op rfl rfl rfl rfl (step_fieldR (k := 0) (FieldOff.mk (by kernel_rfl)) rfl rfl (by exact Nat.zero_add _)) ?_
  refine WO.op rfl rfl rfl rfl (step_load Try.isAgg3 rfl rfl rfl) ?_
  refine WO.op rfl rfl rfl rfl (step_int2 rfl rfl rfl) ?_
  refine WO.put 29 (.sc (.bool true)) (congrArg (fun b : Bool => AV.sc (.bool b)) (by simp; omega)) ?_
  refine WO.op rfl rfl rfl rfl (mv_sc rfl) ?_
  refine WO.op rfl rfl rfl rfl (step_fieldR (k := 0) (FieldOff.mk (by kernel_rfl)) rfl rfl (by exact Nat.zero_add _)) ?_
  refine WO.op rfl rfl rfl rfl (step_load Try.isAgg3 rfl rfl rfl) ?_
  refine WO.op rfl rfl rfl rfl (step_int2 rfl rfl rfl) ?_
  refine WO.put 33 (.sc (.bool true)) (congrArg (fun b : Bool => AV.sc (.bool b)) (by simp; omega)) ?_
  refine WO.op rfl rfl rfl rfl (pk_t rfl rfl rfl) ?_
  refine WO.op rfl rfl rfl rfl (pk_f rfl rfl rfl) ?_
  refine WO.nil ?_
  refine W.condT rfl ?_
  refine W.seq ?_
  refine W.to [(0, _), (1, _), (2, _), (3, _), (7, _), (8, _), (9, _), (10, _), (23, _), (35, _)] [_] rfl ⟨(by exact sh_sc rfl), (by exact sh_sc rfl), (by exact sh_sc rfl), (by exact sh_agg rfl), (by exact sh_ptr rfl), (by exact sh_sc rfl), (by exact sh_im rfl), (by exact sh_sc rfl), (by exact sh_sc rfl), (by exact sh_sc rfl), trivial⟩ ?_
  refine W.region ?_
  refine WO.op rfl rfl rfl rfl (mv_sc rfl) ?_
  refine WO.op rfl rfl rfl rfl (step_int2 rfl rfl rfl) ?_
  refine WO.put 37 (.sc (.bool true)) (by kernel_rfl) ?_
  refine WO.op rfl rfl rfl rfl (step_loadA Try.isAgg25 Try.sizeOf25 rfl rfl (by exact Nat.le_refl _)) ?_
  refine WO.put 38 (.agg [.sc (.int .i64 a0), .sc (.int .i64 a1), .sc (.int .i64 a2), .sc (.int .u32 a3), .sc (.int .i64 a4), .sc (.int .i64 a5), .sc (.bool a6), .sc (.int .u32 a7), .sc (.int .u32 a8), .sc (.int .i64 a9), .sc (.int .i64 a10), .sc (.int .i64 a11), .sc (.string a12), .sc (.string a13)]) (by kernel_rfl) ?_
  refine WO.op rfl rfl rfl rfl (step_pure Try.call13 rfl (by (repeat (first | exact Nl.nil | refine Nl.keep (by rfl) ?_))) (hC) (by repeat (rfl))) ?_
  refine WO.op rfl rfl rfl rfl (step_int2 rfl rfl rfl) ?_
  refine WO.put 40 (.sc (.bool true)) (by kernel_rfl) ?_
  refine WO.op rfl rfl rfl rfl (step_eqBool Try.runUnderlying4 rfl rfl) ?_
  refine WO.put 41 (.sc (.bool true)) (by kernel_rfl) ?_
  refine WO.op rfl rfl rfl rfl (as_sc rfl) ?_
  refine WO.nil ?_
  refine W.ret ?_
  refine ⟨.inl rfl, ?_⟩
  exact ret0 (Res.tmp rfl Res.nil) (.keep rfl)

theorem w_SumsU1 {src dst other : Nat} (hsrc : src < 4294967296) (hdst : dst < 4294967296) (hoth : other < 4294967296) {a1 : Int} {a2 : Int} {a3 : Int} {a4 : Int} {a5 : Int} {a7 : Int} {a8 : Int} {a9 : Int} {a10 : Int} {a11 : Int} {a12 : ByteArray} {a13 : ByteArray} {c : List UInt8} (g1 : isI a1) (g2 : isI a2) (g3 : isU a3) (g4 : isI a4) (g5 : isI a5) (g7 : isU a7) (g8 : isU a8) (g9 : isI a9) (g10 : isI a10) (g11 : isI a11) (g12 : a12.size ≤ 200000000000000) (g13 : a13.size ≤ 200000000000000) (hE : Spec0 Try.prog 11 [.sc (.int .u32 ((src : Nat) : Int)), .sc (.int .u32 ((dst : Nat) : Int)), .agg [.sc (.int .i64 2), .sc (.int .i64 a1), .sc (.int .i64 a2), .sc (.int .u32 a3), .sc (.int .i64 a4), .sc (.int .i64 a5), .sc (.bool true), .sc (.int .u32 a7), .sc (.int .u32 a8), .sc (.int .i64 a9), .sc (.int .i64 a10), .sc (.int .i64 a11), .sc (.string a12), .sc (.string a13)]] (.tup [.im 1 (c.map byteAV), .sc (.int .i64 0)])) (hD : Spec0 Try.prog 8 [.sc (.int .u32 ((other : Nat) : Int)), .sc (.int .u32 ((dst : Nat) : Int)), .sc (.int .i64 17), .im 1 (c.map byteAV)] (.tup [.agg [.sc (.int .i64 2), .sc (.int .i64 a1), .sc (.int .i64 a2), .sc (.int .u32 a3), .sc (.int .i64 a4), .sc (.int .i64 a5), .sc (.bool true), .sc (.int .u32 a7), .sc (.int .u32 a8), .sc (.int .i64 a9), .sc (.int .i64 a10), .sc (.int .i64 a11), .sc (.string a12), .sc (.string a13)], .sc (.int .i64 0)]))  : Spec0 Try.prog 5 [.sc (.int .u32 ((src : Nat) : Int)), .sc (.int .u32 ((dst : Nat) : Int)), .sc (.int .u32 ((other : Nat) : Int)), .agg [.sc (.int .i64 2), .sc (.int .i64 a1), .sc (.int .i64 a2), .sc (.int .u32 a3), .sc (.int .i64 a4), .sc (.int .i64 a5), .sc (.bool true), .sc (.int .u32 a7), .sc (.int .u32 a8), .sc (.int .i64 a9), .sc (.int .i64 a10), .sc (.int .i64 a11), .sc (.string a12), .sc (.string a13)]] (.sc (.bool true)) := by
  refine Spec.body Try.func5 rfl (Nat.le_of_ble_eq_true rfl) ?_
  refine W.seq ?_
  refine W.region ?_
  refine WO.opA rfl rfl rfl rfl (al_boxA rfl rfl) rfl rfl ?_
  refine WO.put 7 (.ptr 0 0) rfl ?_
  refine WO.op rfl rfl rfl rfl (as_sc rfl) ?_
  refine WO.nil ?_
  refine W.seq ?_
  refine W.to [(0, _), (1, _), (2, _), (3, _), (7, _), (8, _)] [_] rfl ⟨(by exact sh_sc rfl), (by exact sh_sc rfl), (by exact sh_sc rfl), (by exact sh_agg rfl), (by exact sh_ptr rfl), (by exact sh_sc rfl), trivial⟩ ?_
  refine W.region ?_
  refine WO.op rfl rfl rfl rfl (mv_sc rfl) ?_
  refine WO.op rfl rfl rfl rfl (mv_sc rfl) ?_
  refine WO.op rfl rfl rfl rfl (step_loadA Try.isAgg25 Try.sizeOf25 rfl rfl (by exact Nat.le_refl _)) ?_
  refine WO.put 18 (.agg [.sc (.int .i64 2), .sc (.int .i64 a1), .sc (.int .i64 a2), .sc (.int .u32 a3), .sc (.int .i64 a4), .sc (.int .i64 a5), .sc (.bool true), .sc (.int .u32 a7), .sc (.int .u32 a8), .sc (.int .i64 a9), .sc (.int .i64 a10), .sc (.int .i64 a11), .sc (.string a12), .sc (.string a13)]) (by kernel_rfl) ?_
  refine WO.op rfl rfl rfl rfl (step_pure Try.call11 rfl (by (repeat (first | exact Nl.nil | refine Nl.keep (by rfl) ?_))) (hE) (by repeat (first | with_reducible exact noOwn_im | with_reducible refine noOwn_tup ?_ | with_reducible exact noOwnL_nil | with_reducible refine noOwnL_cons ?_ ?_ | rfl))) ?_
  refine WO.op rfl rfl rfl rfl (mv_tup rfl) ?_
  refine WO.op rfl rfl rfl rfl (step_extract rfl rfl) ?_
  refine WO.op rfl rfl rfl rfl (step_extract rfl rfl) ?_
  refine WO.op rfl rfl rfl rfl (as_im rfl) ?_
  refine WO.op rfl rfl rfl rfl (as_sc rfl) ?_
  refine WO.nil ?_
  refine W.seq ?_
  refine W.seq ?_
  refine W.to [(0, _), (1, _), (2, _), (3, _), (7, _), (8, _), (9, _), (10, _)] [_] rfl ⟨(by exact sh_sc rfl), (by exact sh_sc rfl), (by exact sh_sc rfl), (by exact sh_agg rfl), (by exact sh_ptr rfl), (by exact sh_sc rfl), (by exact sh_im rfl), (by exact sh_sc rfl), trivial⟩ ?_
  refine W.region ?_
  refine WO.op rfl rfl rfl rfl (step_pure Try.call10 rfl (by (repeat (exact Nl.nil))) (w_lives) (by repeat (rfl))) ?_
  refine WO.op rfl rfl rfl rfl (step_not rfl) ?_
  refine WO.put 23 (.sc (.bool false)) (rfl) ?_
  refine WO.nil ?_
  refine W.condF rfl ?_
  refine W.skip ?_
  refine W.seq ?_
  refine W.seq ?_
  refine W.to [(0, _), (1, _), (2, _), (3, _), (7, _), (8, _), (9, _), (10, _), (23, _)] [_] rfl ⟨(by exact sh_sc rfl), (by exact sh_sc rfl), (by exact sh_sc rfl), (by exact sh_agg rfl), (by exact sh_ptr rfl), (by exact sh_sc rfl), (by exact sh_im rfl), (by exact sh_sc rfl), (by exact sh_sc rfl), trivial⟩ ?_
  refine W.region ?_
  refine WO.op rfl rfl rfl rfl (mv_sc rfl) ?_
  refine WO.op rfl rfl rfl rfl (step_int2 rfl rfl rfl) ?_
  refine WO.put 25 (.sc (.bool false)) (by kernel_rfl) ?_
  refine WO.op rfl rfl rfl rfl (mv_sc rfl) ?_
  refine WO.op rfl rfl rfl rfl (step_fieldR (k := 0) (FieldOff.mk (by kernel_rfl)) rfl rfl (by exact Nat.zero_add _)) ?_
  refine WO.op rfl rfl rfl rfl (step_load Try.isAgg3 rfl rfl rfl) ?_
  refine WO.op rfl rfl rfl rfl (step_int2 rfl rfl rfl) ?_
  refine WO.put 29 (.sc (.bool false)) (by kernel_rfl) ?_
  refine WO.op rfl rfl rfl rfl (mv_sc rfl) ?_
  refine WO.sk rfl rfl rfl rfl ?_
  refine WO.sk rfl rfl rfl rfl ?_
  refine WO.sk rfl rfl rfl rfl ?_
  refine WO.op rfl rfl rfl rfl (pk_f rfl rfl rfl) ?_
  refine WO.op rfl rfl rfl rfl (pk_f rfl rfl rfl) ?_
  refine WO.nil ?_
  refine W.condF rfl ?_
  refine W.skip ?_
  refine W.seq ?_
  refine W.to [(0, _), (1, _), (2, _), (3, _), (7, _), (8, _), (9, _), (10, _), (23, _), (35, _)] [_] rfl ⟨(by exact sh_sc rfl), (by exact sh_sc rfl), (by exact sh_sc rfl), (by exact sh_agg rfl), (by exact sh_ptr rfl), (by exact sh_sc rfl), (by exact sh_im rfl), (by exact sh_sc rfl), (by exact sh_sc rfl), (by exact sh_sc rfl), trivial⟩ ?_
  refine W.region ?_
  refine WO.op rfl rfl rfl rfl (step_fieldR (k := 0) (FieldOff.mk (by kernel_rfl)) rfl rfl (by exact Nat.zero_add _)) ?_
  refine WO.op rfl rfl rfl rfl (step_load Try.isAgg3 rfl rfl rfl) ?_
  refine WO.op rfl rfl rfl rfl (step_pure Try.call15 rfl (by (repeat (first | exact Nl.nil | refine Nl.keep (by rfl) ?_))) (w_Proto2) (by repeat (first | with_reducible refine noOwn_tup ?_ | with_reducible exact noOwnL_nil | with_reducible refine noOwnL_cons ?_ ?_ | rfl))) ?_
  refine WO.op rfl rfl rfl rfl (mv_tup rfl) ?_
  refine WO.op rfl rfl rfl rfl (step_extract rfl rfl) ?_
  refine WO.op rfl rfl rfl rfl (step_extract rfl rfl) ?_
  refine WO.op rfl rfl rfl rfl (as_sc rfl) ?_
  refine WO.op rfl rfl rfl rfl (as_sc rfl) ?_
  refine WO.nil ?_
  refine W.seq ?_
  refine W.to [(0, _), (1, _), (2, _), (3, _), (7, _), (8, _), (9, _), (10, _), (11, _), (23, _), (35, _)] [_] rfl ⟨(by exact sh_sc rfl), (by exact sh_sc rfl), (by exact sh_sc rfl), (by exact sh_agg rfl), (by exact sh_ptr rfl), (by exact sh_sc rfl), (by exact sh_im rfl), (by exact sh_sc rfl), (by exact sh_sc rfl), (by exact sh_sc rfl), (by exact sh_sc rfl), trivial⟩ ?_
  refine W.region ?_
  refine WO.op rfl rfl rfl rfl (mv_sc rfl) ?_
  refine WO.op rfl rfl rfl rfl (mv_sc rfl) ?_
  refine WO.op rfl rfl rfl rfl (mv_sc rfl) ?_
  refine WO.op rfl rfl rfl rfl (mv_im rfl) ?_
  refine WO.op rfl rfl rfl rfl (step_pure Try.call8 rfl (by (repeat (first | exact Nl.nil | refine Nl.keep (by first | rfl | exact noOwn_im) ?_))) (hD) (by repeat (first | with_reducible refine noOwn_tup ?_ | with_reducible refine noOwn_agg ?_ | with_reducible exact noOwnL_nil | with_reducible refine noOwnL_cons ?_ ?_ | rfl))) ?_
  refine WO.op rfl rfl rfl rfl (mv_tup rfl) ?_
  refine WO.op rfl rfl rfl rfl (step_extract rfl rfl) ?_
  refine WO.op rfl rfl rfl rfl (step_extract rfl rfl) ?_
  refine WO.opA rfl rfl rfl rfl (al_alloc Try.zeroValue25) rfl rfl ?_
  refine WO.put 13 (.ptr 1 0) rfl ?_
  refine WO.op0 rfl rfl rfl (step_storeA Try.sizeOf25 rfl rfl rfl (by repeat (exact all_cell rfl rfl)) rfl rfl) ?_
  refine WO.op rfl rfl rfl rfl (as_sc rfl) ?_
  refine WO.nil ?_
  refine W.seq ?_
  refine W.to [(0, _), (1, _), (2, _), (3, _), (7, _), (8, _), (9, _), (10, _), (11, _), (13, _), (23, _), (35, _)] [_, _] rfl ⟨(by exact sh_sc rfl), (by exact sh_sc rfl), (by exact sh_sc rfl), (by exact sh_agg rfl), (by exact sh_ptr rfl), (by exact sh_sc rfl), (by exact sh_im rfl), (by exact sh_sc rfl), (by exact sh_sc rfl), (by exact sh_ptr rfl), (by exact sh_sc rfl), (by exact sh_sc rfl), trivial⟩ ?_
  refine W.region ?_
  refine WO.op rfl rfl rfl rfl (mv_sc rfl) ?_
  refine WO.op rfl rfl rfl rfl (mv_sc rfl) ?_
  refine WO.op rfl rfl rfl rfl (step_pure Try.call16 rfl (by (repeat (first | exact Nl.nil | refine Nl.keep (by rfl) ?_))) (w_Pseudo (p := 0) (n := 0) hsrc hdst (by decide) (by decide)) (by repeat (rfl))) ?_
  refine WO.op rfl rfl rfl rfl (step_remN (q := 65535) rfl rfl (by omega)) ?_
  refine WO.op rfl rfl rfl rfl (mv_sc rfl) ?_
  refine WO.op rfl rfl rfl rfl (mv_sc rfl) ?_
  refine WO.op rfl rfl rfl rfl (step_pure Try.call16 rfl (by (repeat (first | exact Nl.nil | refine Nl.keep (by rfl) ?_))) (w_Pseudo (p := 0) (n := 0) hoth hdst (by decide) (by decide)) (by repeat (rfl))) ?_
  refine WO.op rfl rfl rfl rfl (step_remN (q := 65535) rfl rfl (by omega)) ?_
  refine WO.op rfl rfl rfl rfl (step_int2 rfl rfl rfl) ?_
  refine WO.op rfl rfl rfl rfl (as_sc rfl) ?_
  refine WO.nil ?_
  refine W.seq ?_
  refine W.seq ?_
  refine W.to [(0, _), (1, _), (2, _), (3, _), (7, _), (8, _), (9, _), (10, _), (11, _), (13, _), (14, _), (23, _), (35, _)] [_, _] rfl ⟨(by exact sh_sc rfl), (by exact sh_sc rfl), (by exact sh_sc rfl), (by exact sh_agg rfl), (by exact sh_ptr rfl), (by exact sh_sc rfl), (by exact sh_im rfl), (by exact sh_sc rfl), (by exact sh_sc rfl), (by exact sh_ptr rfl), (by exact sh_sc rfl), (by exact sh_sc rfl), (by exact sh_sc rfl), trivial⟩ ?_
  refine W.region ?_
  refine WO.op rfl rfl rfl rfl (step_fieldR (k := 6) (FieldOff.mk (by kernel_rfl)) rfl rfl (by exact Nat.zero_add _)) ?_
  refine WO.op rfl rfl rfl rfl (step_load Try.isAgg4 rfl rfl rfl) ?_
  refine WO.put 66 (.sc (.bool true)) (by kernel_rfl) ?_
  refine WO.op rfl rfl rfl rfl (mv_sc rfl) ?_
  refine WO.sk rfl rfl rfl rfl ?_
  refine WO.op rfl rfl rfl rfl (pk_t rfl rfl rfl) ?_
  refine WO.nil ?_
  refine W.condT rfl ?_
  refine W.seq ?_
  refine W.to [(0, _), (1, _), (2, _), (3, _), (7, _), (8, _), (9, _), (10, _), (11, _), (13, _), (14, _), (23, _), (35, _), (69, _)] [_, _] rfl ⟨(by exact sh_sc rfl), (by exact sh_sc rfl), (by exact sh_sc rfl), (by exact sh_agg rfl), (by exact sh_ptr rfl), (by exact sh_sc rfl), (by exact sh_im rfl), (by exact sh_sc rfl), (by exact sh_sc rfl), (by exact sh_ptr rfl), (by exact sh_sc rfl), (by exact sh_sc rfl), (by exact sh_sc rfl), (by exact sh_sc rfl), trivial⟩ ?_
  refine W.region ?_
  refine WO.op rfl rfl rfl rfl (mv_sc rfl) ?_
  refine WO.op rfl rfl rfl rfl (step_int2 rfl rfl rfl) ?_
  refine WO.put 71 (.sc (.bool true)) (by kernel_rfl) ?_
  refine WO.op rfl rfl rfl rfl (mv_sc rfl) ?_
  refine WO.op rfl rfl rfl rfl (step_loadA Try.isAgg25 Try.sizeOf25 rfl rfl (by exact Nat.le_refl _)) ?_
  refine WO.put 73 (.agg [.sc (.int .i64 2), .sc (.int .i64 a1), .sc (.int .i64 a2), .sc (.int .u32 a3), .sc (.int .i64 a4), .sc (.int .i64 a5), .sc (.bool true), .sc (.int .u32 a7), .sc (.int .u32 a8), .sc (.int .i64 a9), .sc (.int .i64 a10), .sc (.int .i64 a11), .sc (.string a12), .sc (.string a13)]) (by kernel_rfl) ?_
  refine WO.op rfl rfl rfl rfl (step_loadA Try.isAgg25 Try.sizeOf25 rfl rfl (by exact Nat.le_refl _)) ?_
  refine WO.put 74 (.agg [.sc (.int .i64 2), .sc (.int .i64 a1), .sc (.int .i64 a2), .sc (.int .u32 a3), .sc (.int .i64 a4), .sc (.int .i64 a5), .sc (.bool true), .sc (.int .u32 a7), .sc (.int .u32 a8), .sc (.int .i64 a9), .sc (.int .i64 a10), .sc (.int .i64 a11), .sc (.string a12), .sc (.string a13)]) (by kernel_rfl) ?_
  refine WO.op rfl rfl rfl rfl (eq_L4 (a0 := 2) (a1 := a1) (a2 := a2) (a3 := a3) (a4 := a4) (a5 := a5) (a6 := true) (a7 := a7) (a8 := a8) (a9 := a9) (a10 := a10) (a11 := a11) (a12 := a12) (a13 := a13) (by (constructor <;> decide)) (by assumption) (by assumption) (by assumption) (by assumption) (by assumption) (by assumption) (by assumption) (by assumption) (by assumption) (by assumption) (by assumption) (by assumption) rfl rfl) ?_
  refine WO.put 75 (.sc (.bool true)) (rfl) ?_
  refine WO.op rfl rfl rfl rfl (pk_t rfl rfl rfl) ?_
  refine WO.op rfl rfl rfl rfl (as_sc rfl) ?_
  refine WO.nil ?_
  refine W.ret ?_
  refine ⟨.inl rfl, ?_⟩
  exact ret0 (Res.tmp rfl Res.nil) (.keep rfl)

theorem w_SumsU2 {src dst other : Nat} (hsrc : src < 4294967296) (hdst : dst < 4294967296) (hoth : other < 4294967296) {a1 : Int} {a2 : Int} {a3 : Int} {a4 : Int} {a5 : Int} {a7 : Int} {a8 : Int} {a9 : Int} {a10 : Int} {a11 : Int} {a12 : ByteArray} {a13 : ByteArray} {c : List UInt8} (g1 : isI a1) (g2 : isI a2) (g3 : isU a3) (g4 : isI a4) (g5 : isI a5) (g7 : isU a7) (g8 : isU a8) (g9 : isI a9) (g10 : isI a10) (g11 : isI a11) (g12 : a12.size ≤ 200000000000000) (g13 : a13.size ≤ 200000000000000) (hE : Spec0 Try.prog 11 [.sc (.int .u32 ((src : Nat) : Int)), .sc (.int .u32 ((dst : Nat) : Int)), .agg [.sc (.int .i64 2), .sc (.int .i64 a1), .sc (.int .i64 a2), .sc (.int .u32 a3), .sc (.int .i64 a4), .sc (.int .i64 a5), .sc (.bool false), .sc (.int .u32 a7), .sc (.int .u32 a8), .sc (.int .i64 a9), .sc (.int .i64 a10), .sc (.int .i64 a11), .sc (.string a12), .sc (.string a13)]] (.tup [.im 1 (c.map byteAV), .sc (.int .i64 0)])) (hD : Spec0 Try.prog 8 [.sc (.int .u32 ((other : Nat) : Int)), .sc (.int .u32 ((dst : Nat) : Int)), .sc (.int .i64 17), .im 1 (c.map byteAV)] (.tup [.agg [.sc (.int .i64 2), .sc (.int .i64 a1), .sc (.int .i64 a2), .sc (.int .u32 a3), .sc (.int .i64 a4), .sc (.int .i64 a5), .sc (.bool false), .sc (.int .u32 a7), .sc (.int .u32 a8), .sc (.int .i64 a9), .sc (.int .i64 a10), .sc (.int .i64 a11), .sc (.string a12), .sc (.string a13)], .sc (.int .i64 0)])) (hsm : psu src dst 0 0 % 65535 = psu other dst 0 0 % 65535) : Spec0 Try.prog 5 [.sc (.int .u32 ((src : Nat) : Int)), .sc (.int .u32 ((dst : Nat) : Int)), .sc (.int .u32 ((other : Nat) : Int)), .agg [.sc (.int .i64 2), .sc (.int .i64 a1), .sc (.int .i64 a2), .sc (.int .u32 a3), .sc (.int .i64 a4), .sc (.int .i64 a5), .sc (.bool false), .sc (.int .u32 a7), .sc (.int .u32 a8), .sc (.int .i64 a9), .sc (.int .i64 a10), .sc (.int .i64 a11), .sc (.string a12), .sc (.string a13)]] (.sc (.bool true)) := by
  refine Spec.body Try.func5 rfl (Nat.le_of_ble_eq_true rfl) ?_
  refine W.seq ?_
  refine W.region ?_
  refine WO.opA rfl rfl rfl rfl (al_boxA rfl rfl) rfl rfl ?_
  refine WO.put 7 (.ptr 0 0) rfl ?_
  refine WO.op rfl rfl rfl rfl (as_sc rfl) ?_
  refine WO.nil ?_
  refine W.seq ?_
  refine W.to [(0, _), (1, _), (2, _), (3, _), (7, _), (8, _)] [_] rfl ⟨(by exact sh_sc rfl), (by exact sh_sc rfl), (by exact sh_sc rfl), (by exact sh_agg rfl), (by exact sh_ptr rfl), (by exact sh_sc rfl), trivial⟩ ?_
  refine W.region ?_
  refine WO.op rfl rfl rfl rfl (mv_sc rfl) ?_
  refine WO.op rfl rfl rfl rfl (mv_sc rfl) ?_
  refine WO.op rfl rfl rfl rfl (step_loadA Try.isAgg25 Try.sizeOf25 rfl rfl (by exact Nat.le_refl _)) ?_
  refine WO.put 18 (.agg [.sc (.int .i64 2), .sc (.int .i64 a1), .sc (.int .i64 a2), .sc (.int .u32 a3), .sc (.int .i64 a4), .sc (.int .i64 a5), .sc (.bool false), .sc (.int .u32 a7), .sc (.int .u32 a8), .sc (.int .i64 a9), .sc (.int .i64 a10), .sc (.int .i64 a11), .sc (.string a12), .sc (.string a13)]) (by kernel_rfl) ?_
  refine WO.op rfl rfl rfl rfl (step_pure Try.call11 rfl (by (repeat (first | exact Nl.nil | refine Nl.keep (by rfl) ?_))) (hE) (by repeat (first | with_reducible exact noOwn_im | with_reducible refine noOwn_tup ?_ | with_reducible exact noOwnL_nil | with_reducible refine noOwnL_cons ?_ ?_ | rfl))) ?_
  refine WO.op rfl rfl rfl rfl (mv_tup rfl) ?_
  refine WO.op rfl rfl rfl rfl (step_extract rfl rfl) ?_
  refine WO.op rfl rfl rfl rfl (step_extract rfl rfl) ?_
  refine WO.op rfl rfl rfl rfl (as_im rfl) ?_
  refine WO.op rfl rfl rfl rfl (as_sc rfl) ?_
  refine WO.nil ?_
  refine W.seq ?_
  refine W.seq ?_
  refine W.to [(0, _), (1, _), (2, _), (3, _), (7, _), (8, _), (9, _), (10, _)] [_] rfl ⟨(by exact sh_sc rfl), (by exact sh_sc rfl), (by exact sh_sc rfl), (by exact sh_agg rfl), (by exact sh_ptr rfl), (by exact sh_sc rfl), (by exact sh_im rfl), (by exact sh_sc rfl), trivial⟩ ?_
  refine W.region ?_
  refine WO.op rfl rfl rfl rfl (step_pure Try.call10 rfl (by (repeat (exact Nl.nil))) (w_lives) (by repeat (rfl))) ?_
  refine WO.op rfl rfl rfl rfl (step_not rfl) ?_
  refine WO.put 23 (.sc (.bool false)) (rfl) ?_
  refine WO.nil ?_
  refine W.condF rfl ?_
  refine W.skip ?_
  refine W.seq ?_
  refine W.seq ?_
  refine W.to [(0, _), (1, _), (2, _), (3, _), (7, _), (8, _), (9, _), (10, _), (23, _)] [_] rfl ⟨(by exact sh_sc rfl), (by exact sh_sc rfl), (by exact sh_sc rfl), (by exact sh_agg rfl), (by exact sh_ptr rfl), (by exact sh_sc rfl), (by exact sh_im rfl), (by exact sh_sc rfl), (by exact sh_sc rfl), trivial⟩ ?_
  refine W.region ?_
  refine WO.op rfl rfl rfl rfl (mv_sc rfl) ?_
  refine WO.op rfl rfl rfl rfl (step_int2 rfl rfl rfl) ?_
  refine WO.put 25 (.sc (.bool false)) (by kernel_rfl) ?_
  refine WO.op rfl rfl rfl rfl (mv_sc rfl) ?_
  refine WO.op rfl rfl rfl rfl (step_fieldR (k := 0) (FieldOff.mk (by kernel_rfl)) rfl rfl (by exact Nat.zero_add _)) ?_
  refine WO.op rfl rfl rfl rfl (step_load Try.isAgg3 rfl rfl rfl) ?_
  refine WO.op rfl rfl rfl rfl (step_int2 rfl rfl rfl) ?_
  refine WO.put 29 (.sc (.bool false)) (by kernel_rfl) ?_
  refine WO.op rfl rfl rfl rfl (mv_sc rfl) ?_
  refine WO.sk rfl rfl rfl rfl ?_
  refine WO.sk rfl rfl rfl rfl ?_
  refine WO.sk rfl rfl rfl rfl ?_
  refine WO.op rfl rfl rfl rfl (pk_f rfl rfl rfl) ?_
  refine WO.op rfl rfl rfl rfl (pk_f rfl rfl rfl) ?_
  refine WO.nil ?_
  refine W.condF rfl ?_
  refine W.skip ?_
  refine W.seq ?_
  refine W.to [(0, _), (1, _), (2, _), (3, _), (7, _), (8, _), (9, _), (10, _), (23, _), (35, _)] [_] rfl ⟨(by exact sh_sc rfl), (by exact sh_sc rfl), (by exact sh_sc rfl), (by exact sh_agg rfl), (by exact sh_ptr rfl), (by exact sh_sc rfl), (by exact sh_im rfl), (by exact sh_sc rfl), (by exact sh_sc rfl), (by exact sh_sc rfl), trivial⟩ ?_
  refine W.region ?_
  refine WO.op rfl rfl rfl rfl (step_fieldR (k := 0) (FieldOff.mk (by kernel_rfl)) rfl rfl (by exact Nat.zero_add _)) ?_
  refine WO.op rfl rfl rfl rfl (step_load Try.isAgg3 rfl rfl rfl) ?_
  refine WO.op rfl rfl rfl rfl (step_pure Try.call15 rfl (by (repeat (first | exact Nl.nil | refine Nl.keep (by rfl) ?_))) (w_Proto2) (by repeat (first | with_reducible refine noOwn_tup ?_ | with_reducible exact noOwnL_nil | with_reducible refine noOwnL_cons ?_ ?_ | rfl))) ?_
  refine WO.op rfl rfl rfl rfl (mv_tup rfl) ?_
  refine WO.op rfl rfl rfl rfl (step_extract rfl rfl) ?_
  refine WO.op rfl rfl rfl rfl (step_extract rfl rfl) ?_
  refine WO.op rfl rfl rfl rfl (as_sc rfl) ?_
  refine WO.op rfl rfl rfl rfl (as_sc rfl) ?_
  refine WO.nil ?_
  refine W.seq ?_
  refine W.to [(0, _), (1, _), (2, _), (3, _), (7, _), (8, _), (9, _), (10, _), (11, _), (23, _), (35, _)] [_] rfl ⟨(by exact sh_sc rfl), (by exact sh_sc rfl), (by exact sh_sc rfl), (by exact sh_agg rfl), (by exact sh_ptr rfl), (by exact sh_sc rfl), (by exact sh_im rfl), (by exact sh_sc rfl), (by exact sh_sc rfl), (by exact sh_sc rfl), (by exact sh_sc rfl), trivial⟩ ?_
  refine W.region ?_
  refine WO.op rfl rfl rfl rfl (mv_sc rfl) ?_
  refine WO.op rfl rfl rfl rfl (mv_sc rfl) ?_
  refine WO.op rfl rfl rfl rfl (mv_sc rfl) ?_
  refine WO.op rfl rfl rfl rfl (mv_im rfl) ?_
  refine WO.op rfl rfl rfl rfl (step_pure Try.call8 rfl (by (repeat (first | exact Nl.nil | refine Nl.keep (by first | rfl | exact noOwn_im) ?_))) (hD) (by repeat (first | with_reducible refine noOwn_tup ?_ | with_reducible refine noOwn_agg ?_ | with_reducible exact noOwnL_nil | with_reducible refine noOwnL_cons ?_ ?_ | rfl))) ?_
  refine WO.op rfl rfl rfl rfl (mv_tup rfl) ?_
  refine WO.op rfl rfl rfl rfl (step_extract rfl rfl) ?_
  refine WO.op rfl rfl rfl rfl (step_extract rfl rfl) ?_
  refine WO.opA rfl rfl rfl rfl (al_alloc Try.zeroValue25) rfl rfl ?_
  refine WO.put 13 (.ptr 1 0) rfl ?_
  refine WO.op0 rfl rfl rfl (step_storeA Try.sizeOf25 rfl rfl rfl (by repeat (exact all_cell rfl rfl)) rfl rfl) ?_
  refine WO.op rfl rfl rfl rfl (as_sc rfl) ?_
  refine WO.nil ?_
  refine W.seq ?_
  refine W.to [(0, _), (1, _), (2, _), (3, _), (7, _), (8, _), (9, _), (10, _), (11, _), (13, _), (23, _), (35, _)] [_, _] rfl ⟨(by exact sh_sc rfl), (by exact sh_sc rfl), (by exact sh_sc rfl), (by exact sh_agg rfl), (by exact sh_ptr rfl), (by exact sh_sc rfl), (by exact sh_im rfl), (by exact sh_sc rfl), (by exact sh_sc rfl), (by exact sh_ptr rfl), (by exact sh_sc rfl), (by exact sh_sc rfl), trivial⟩ ?_
  refine W.region ?_
  refine WO.op rfl rfl rfl rfl (mv_sc rfl) ?_
  refine WO.op rfl rfl rfl rfl (mv_sc rfl) ?_
  refine WO.op rfl rfl rfl rfl (step_pure Try.call16 rfl (by (repeat (first | exact Nl.nil | refine Nl.keep (by rfl) ?_))) (w_Pseudo (p := 0) (n := 0) hsrc hdst (by decide) (by decide)) (by repeat (rfl))) ?_
  refine WO.op rfl rfl rfl rfl (step_remN (q := 65535) rfl rfl (by omega)) ?_
  refine WO.op rfl rfl rfl rfl (mv_sc rfl) ?_
  refine WO.op rfl rfl rfl rfl (mv_sc rfl) ?_
  refine WO.op rfl rfl rfl rfl (step_pure Try.call16 rfl (by (repeat (first | exact Nl.nil | refine Nl.keep (by rfl) ?_))) (w_Pseudo (p := 0) (n := 0) hoth hdst (by decide) (by decide)) (by repeat (rfl))) ?_
  refine WO.op rfl rfl rfl rfl (step_remN (q := 65535) rfl rfl (by omega)) ?_
  refine WO.op rfl rfl rfl rfl (step_int2 rfl rfl rfl) ?_
  refine WO.put 64 (.sc (.bool true)) (congrArg (fun b : Bool => AV.sc (.bool b)) (by rw [fo_mod, fo_mod, hsm]; simp)) ?_
  refine WO.op rfl rfl rfl rfl (as_sc rfl) ?_
  refine WO.nil ?_
  refine W.seq ?_
  refine W.seq ?_
  refine W.to [(0, _), (1, _), (2, _), (3, _), (7, _), (8, _), (9, _), (10, _), (11, _), (13, _), (14, _), (23, _), (35, _)] [_, _] rfl ⟨(by exact sh_sc rfl), (by exact sh_sc rfl), (by exact sh_sc rfl), (by exact sh_agg rfl), (by exact sh_ptr rfl), (by exact sh_sc rfl), (by exact sh_im rfl), (by exact sh_sc rfl), (by exact sh_sc rfl), (by exact sh_ptr rfl), (by exact sh_sc rfl), (by exact sh_sc rfl), (by exact sh_sc rfl), trivial⟩ ?_
  refine W.region ?_
  refine WO.op rfl rfl rfl rfl (step_fieldR (k := 6) (FieldOff.mk (by kernel_rfl)) rfl rfl (by exact Nat.zero_add _)) ?_
  refine WO.op rfl rfl rfl rfl (step_load Try.isAgg4 rfl rfl rfl) ?_
  refine WO.put 66 (.sc (.bool false)) (by kernel_rfl) ?_
  refine WO.op rfl rfl rfl rfl (mv_sc rfl) ?_
  refine WO.op rfl rfl rfl rfl (mv_sc rfl) ?_
  refine WO.op rfl rfl rfl rfl (pk_f rfl rfl rfl) ?_
  refine WO.nil ?_
  refine W.condT rfl ?_
  refine W.seq ?_
  refine W.to [(0, _), (1, _), (2, _), (3, _), (7, _), (8, _), (9, _), (10, _), (11, _), (13, _), (14, _), (23, _), (35, _), (69, _)] [_, _] rfl ⟨(by exact sh_sc rfl), (by exact sh_sc rfl), (by exact sh_sc rfl), (by exact sh_agg rfl), (by exact sh_ptr rfl), (by exact sh_sc rfl), (by exact sh_im rfl), (by exact sh_sc rfl), (by exact sh_sc rfl), (by exact sh_ptr rfl), (by exact sh_sc rfl), (by exact sh_sc rfl), (by exact sh_sc rfl), (by exact sh_sc rfl), trivial⟩ ?_
  refine W.region ?_
  refine WO.op rfl rfl rfl rfl (mv_sc rfl) ?_
  refine WO.op rfl rfl rfl rfl (step_int2 rfl rfl rfl) ?_
  refine WO.put 71 (.sc (.bool true)) (by kernel_rfl) ?_
  refine WO.op rfl rfl rfl rfl (mv_sc rfl) ?_
  refine WO.op rfl rfl rfl rfl (step_loadA Try.isAgg25 Try.sizeOf25 rfl rfl (by exact Nat.le_refl _)) ?_
  refine WO.put 73 (.agg [.sc (.int .i64 2), .sc (.int .i64 a1), .sc (.int .i64 a2), .sc (.int .u32 a3), .sc (.int .i64 a4), .sc (.int .i64 a5), .sc (.bool false), .sc (.int .u32 a7), .sc (.int .u32 a8), .sc (.int .i64 a9), .sc (.int .i64 a10), .sc (.int .i64 a11), .sc (.string a12), .sc (.string a13)]) (by kernel_rfl) ?_
  refine WO.op rfl rfl rfl rfl (step_loadA Try.isAgg25 Try.sizeOf25 rfl rfl (by exact Nat.le_refl _)) ?_
  refine WO.put 74 (.agg [.sc (.int .i64 2), .sc (.int .i64 a1), .sc (.int .i64 a2), .sc (.int .u32 a3), .sc (.int .i64 a4), .sc (.int .i64 a5), .sc (.bool false), .sc (.int .u32 a7), .sc (.int .u32 a8), .sc (.int .i64 a9), .sc (.int .i64 a10), .sc (.int .i64 a11), .sc (.string a12), .sc (.string a13)]) (by kernel_rfl) ?_
  refine WO.op rfl rfl rfl rfl (eq_L4 (a0 := 2) (a1 := a1) (a2 := a2) (a3 := a3) (a4 := a4) (a5 := a5) (a6 := false) (a7 := a7) (a8 := a8) (a9 := a9) (a10 := a10) (a11 := a11) (a12 := a12) (a13 := a13) (by (constructor <;> decide)) (by assumption) (by assumption) (by assumption) (by assumption) (by assumption) (by assumption) (by assumption) (by assumption) (by assumption) (by assumption) (by assumption) (by assumption) rfl rfl) ?_
  refine WO.put 75 (.sc (.bool true)) (rfl) ?_
  refine WO.op rfl rfl rfl rfl (pk_t rfl rfl rfl) ?_
  refine WO.op rfl rfl rfl rfl (as_sc rfl) ?_
  refine WO.nil ?_
  refine W.ret ?_
  refine ⟨.inl rfl, ?_⟩
  exact ret0 (Res.tmp rfl Res.nil) (.keep rfl)

theorem w_SumsU3 {src dst other : Nat} (hsrc : src < 4294967296) (hdst : dst < 4294967296) (hoth : other < 4294967296) {a1 : Int} {a2 : Int} {a3 : Int} {a4 : Int} {a5 : Int} {a7 : Int} {a8 : Int} {a9 : Int} {a10 : Int} {a11 : Int} {a12 : ByteArray} {a13 : ByteArray} {c : List UInt8} (g1 : isI a1) (g2 : isI a2) (g3 : isU a3) (g4 : isI a4) (g5 : isI a5) (g7 : isU a7) (g8 : isU a8) (g9 : isI a9) (g10 : isI a10) (g11 : isI a11) (g12 : a12.size ≤ 200000000000000) (g13 : a13.size ≤ 200000000000000) (hE : Spec0 Try.prog 11 [.sc (.int .u32 ((src : Nat) : Int)), .sc (.int .u32 ((dst : Nat) : Int)), .agg [.sc (.int .i64 2), .sc (.int .i64 a1), .sc (.int .i64 a2), .sc (.int .u32 a3), .sc (.int .i64 a4), .sc (.int .i64 a5), .sc (.bool false), .sc (.int .u32 a7), .sc (.int .u32 a8), .sc (.int .i64 a9), .sc (.int .i64 a10), .sc (.int .i64 a11), .sc (.string a12), .sc (.string a13)]] (.tup [.im 1 (c.map byteAV), .sc (.int .i64 0)])) (hD : Spec0 Try.prog 8 [.sc (.int .u32 ((other : Nat) : Int)), .sc (.int .u32 ((dst : Nat) : Int)), .sc (.int .i64 17), .im 1 (c.map byteAV)] (.tup [.agg [.sc (.int .i64 0), .sc (.int .i64 0), .sc (.int .i64 0), .sc (.int .u32 0), .sc (.int .i64 0), .sc (.int .i64 0), .sc (.bool false), .sc (.int .u32 0), .sc (.int .u32 0), .sc (.int .i64 0), .sc (.int .i64 0), .sc (.int .i64 0), .sc (.string ⟨#[]⟩), .sc (.string ⟨#[]⟩)], .sc (.int .i64 30)])) (hsm : psu src dst 0 0 % 65535 ≠ psu other dst 0 0 % 65535) : Spec0 Try.prog 5 [.sc (.int .u32 ((src : Nat) : Int)), .sc (.int .u32 ((dst : Nat) : Int)), .sc (.int .u32 ((other : Nat) : Int)), .agg [.sc (.int .i64 2), .sc (.int .i64 a1), .sc (.int .i64 a2), .sc (.int .u32 a3), .sc (.int .i64 a4), .sc (.int .i64 a5), .sc (.bool false), .sc (.int .u32 a7), .sc (.int .u32 a8), .sc (.int .i64 a9), .sc (.int .i64 a10), .sc (.int .i64 a11), .sc (.string a12), .sc (.string a13)]] (.sc (.bool true)) := by
  refine Spec.body Try.func5 rfl (Nat.le_of_ble_eq_true rfl) ?_
  refine W.seq ?_
  refine W.region ?_
  refine WO.opA rfl rfl rfl rfl (al_boxA rfl rfl) rfl rfl ?_
  refine WO.put 7 (.ptr 0 0) rfl ?_
  refine WO.op rfl rfl rfl rfl (as_sc rfl) ?_
  refine WO.nil ?_
  refine W.seq ?_
  refine W.to [(0, _), (1, _), (2, _), (3, _), (7, _), (8, _)] [_] rfl ⟨(by exact sh_sc rfl), (by exact sh_sc rfl), (by exact sh_sc rfl), (by exact sh_agg rfl), (by exact sh_ptr rfl), (by exact sh_sc rfl), trivial⟩ ?_
  refine W.region ?_
  refine WO.op rfl rfl rfl rfl (mv_sc rfl) ?_
  refine WO.op rfl rfl rfl rfl (mv_sc rfl) ?_
  refine WO.op rfl rfl rfl rfl (step_loadA Try.isAgg25 Try.sizeOf25 rfl rfl (by exact Nat.le_refl _)) ?_
  refine WO.put 18 (.agg [.sc (.int .i64 2), .sc (.int .i64 a1), .sc (.int .i64 a2), .sc (.int .u32 a3), .sc (.int .i64 a4), .sc (.int .i64 a5), .sc (.bool false), .sc (.int .u32 a7), .sc (.int .u32 a8), .sc (.int .i64 a9), .sc (.int .i64 a10), .sc (.int .i64 a11), .sc (.string a12), .sc (.string a13)]) (by kernel_rfl) ?_
  refine WO.op rfl rfl rfl rfl (step_pure Try.call11 rfl (by (repeat (first | exact Nl.nil | refine Nl.keep (by rfl) ?_))) (hE) (by repeat (first | with_reducible exact noOwn_im | with_reducible refine noOwn_tup ?_ | with_reducible exact noOwnL_nil | with_reducible refine noOwnL_cons ?_ ?_ | rfl))) ?_
  refine WO.op rfl rfl rfl rfl (mv_tup rfl) ?_
  refine WO.op rfl rfl rfl rfl (step_extract rfl rfl) ?_
  refine WO.op rfl rfl rfl rfl (step_extract rfl rfl) ?_
  refine WO.op rfl rfl rfl rfl (as_im rfl) ?_
  refine WO.op rfl rfl rfl rfl (as_sc rfl) ?_
  refine WO.nil ?_
  refine W.seq ?_
  refine W.seq ?_
  refine W.to [(0, _), (1, _), (2, _), (3, _), (7, _), (8, _), (9, _), (10, _)] [_] rfl ⟨(by exact sh_sc rfl), (by exact sh_sc rfl), (by exact sh_sc rfl), (by exact sh_agg rfl), (by exact sh_ptr rfl), (by exact sh_sc rfl), (by exact sh_im rfl), (by exact sh_sc rfl), trivial⟩ ?_
  refine W.region ?_
  refine WO.op rfl rfl rfl rfl (step_pure Try.call10 rfl (by (repeat (exact Nl.nil))) (w_lives) (by repeat (rfl))) ?_
  refine WO.op rfl rfl rfl rfl (step_not rfl) ?_
  refine WO.put 23 (.sc (.bool false)) (rfl) ?_
  refine WO.nil ?_
  refine W.condF rfl ?_
  refine W.skip ?_
  refine W.seq ?_
  refine W.seq ?_
  refine W.to [(0, _), (1, _), (2, _), (3, _), (7, _), (8, _), (9, _), (10, _), (23, _)] [_] rfl ⟨(by exact sh_sc rfl), (by exact sh_sc rfl), (by exact sh_sc rfl), (by exact sh_agg rfl), (by exact sh_ptr rfl), (by exact sh_sc rfl), (by exact sh_im rfl), (by exact sh_sc rfl), (by exact sh_sc rfl), trivial⟩ ?_
  refine W.region ?_
  refine WO.op rfl rfl rfl rfl (mv_sc rfl) ?_
  refine WO.op rfl rfl rfl rfl (step_int2 rfl rfl rfl) ?_
  refine WO.put 25 (.sc (.bool false)) (by kernel_rfl) ?_
  refine WO.op rfl rfl rfl rfl (mv_sc rfl) ?_
  refine WO.op rfl rfl rfl rfl (step_fieldR (k := 0) (FieldOff.mk (by kernel_rfl)) rfl rfl (by exact Nat.zero_add _)) ?_
  refine WO.op rfl rfl rfl rfl (step_load Try.isAgg3 rfl rfl rfl) ?_
  refine WO.op rfl rfl rfl rfl (step_int2 rfl rfl rfl) ?_
  refine WO.put 29 (.sc (.bool false)) (by kernel_rfl) ?_
  refine WO.op rfl rfl rfl rfl (mv_sc rfl) ?_
  refine WO.sk rfl rfl rfl rfl ?_
  refine WO.sk rfl rfl rfl rfl ?_
  refine WO.sk rfl rfl rfl rfl ?_
  refine WO.op rfl rfl rfl rfl (pk_f rfl rfl rfl) ?_
  refine WO.op rfl rfl rfl rfl (pk_f rfl rfl rfl) ?_
  refine WO.nil ?_
  refine W.condF rfl ?_
  refine W.skip ?_
  refine W.seq ?_
  refine W.to [(0, _), (1, _), (2, _), (3, _), (7, _), (8, _), (9, _), (10, _), (23, _), (35, _)] [_] rfl ⟨(by exact sh_sc rfl), (by exact sh_sc rfl), (by exact sh_sc rfl), (by exact sh_agg rfl), (by exact sh_ptr rfl), (by exact sh_sc rfl), (by exact sh_im rfl), (by exact sh_sc rfl), (by exact sh_sc rfl), (by exact sh_sc rfl), trivial⟩ ?_
  refine W.region ?_
  refine WO.op rfl rfl rfl rfl (step_fieldR (k := 0) (FieldOff.mk (by kernel_rfl)) rfl rfl (by exact Nat.zero_add _)) ?_
  refine WO.op rfl rfl rfl rfl (step_load Try.isAgg3 rfl rfl rfl) ?_
  refine WO.op rfl rfl rfl rfl (step_pure Try.call15 rfl (by (repeat (first | exact Nl.nil | refine Nl.keep (by rfl) ?_))) (w_Proto2) (by repeat (first | with_reducible refine noOwn_tup ?_ | with_reducible exact noOwnL_nil | with_reducible refine noOwnL_cons ?_ ?_ | rfl))) ?_
  refine WO.op rfl rfl rfl rfl (mv_tup rfl) ?_
  refine WO.op rfl rfl rfl rfl (step_extract rfl rfl) ?_
  refine WO.op rfl rfl rfl rfl (step_extract rfl rfl) ?_
  refine WO.op rfl rfl rfl rfl (as_sc rfl) ?_
  refine WO.op rfl rfl rfl rfl (as_sc rfl) ?_
  refine WO.nil ?_
  refine W.seq ?_
  refine W.to [(0, _), (1, _), (2, _), (3, _), (7, _), (8, _), (9, _), (10, _), (11, _), (23, _), (35, _)] [_] rfl ⟨(by exact sh_sc rfl), (by exact sh_sc rfl), (by exact sh_sc rfl), (by exact sh_agg rfl), (by exact sh_ptr rfl), (by exact sh_sc rfl), (by exact sh_im rfl), (by exact sh_sc rfl), (by exact sh_sc rfl), (by exact sh_sc rfl), (by exact sh_sc rfl), trivial⟩ ?_
  refine W.region ?_
  refine WO.op rfl rfl rfl rfl (mv_sc rfl) ?_
  refine WO.op rfl rfl rfl rfl (mv_sc rfl) ?_
  refine WO.op rfl rfl rfl rfl (mv_sc rfl) ?_
  refine WO.op rfl rfl rfl rfl (mv_im rfl) ?_
  refine WO.op rfl rfl rfl rfl (step_pure Try.call8 rfl (by (repeat (first | exact Nl.nil | refine Nl.keep (by first | rfl | exact noOwn_im) ?_))) (hD) (by repeat (first | with_reducible refine noOwn_tup ?_ | with_reducible refine noOwn_agg ?_ | with_reducible exact noOwnL_nil | with_reducible refine noOwnL_cons ?_ ?_ | rfl))) ?_
  refine WO.op rfl rfl rfl rfl (mv_tup rfl) ?_
  refine WO.op rfl rfl rfl rfl (step_extract rfl rfl) ?_
  refine WO.op rfl rfl rfl rfl (step_extract rfl rfl) ?_
  refine WO.opA rfl rfl rfl rfl (al_alloc Try.zeroValue25) rfl rfl ?_
  refine WO.put 13 (.ptr 1 0) rfl ?_
  refine WO.op0 rfl rfl rfl (step_storeA Try.sizeOf25 rfl rfl rfl (by repeat (exact all_cell rfl rfl)) rfl rfl) ?_
  refine WO.op rfl rfl rfl rfl (as_sc rfl) ?_
  refine WO.nil ?_
  refine W.seq ?_
  refine W.to [(0, _), (1, _), (2, _), (3, _), (7, _), (8, _), (9, _), (10, _), (11, _), (13, _), (23, _), (35, _)] [_, _] rfl ⟨(by exact sh_sc rfl), (by exact sh_sc rfl), (by exact sh_sc rfl), (by exact sh_agg rfl), (by exact sh_ptr rfl), (by exact sh_sc rfl), (by exact sh_im rfl), (by exact sh_sc rfl), (by exact sh_sc rfl), (by exact sh_ptr rfl), (by exact sh_sc rfl), (by exact sh_sc rfl), trivial⟩ ?_
  refine W.region ?_
  refine WO.op rfl rfl rfl rfl (mv_sc rfl) ?_
  refine WO.op rfl rfl rfl rfl (mv_sc rfl) ?_
  refine WO.op rfl rfl rfl rfl (step_pure Try.call16 rfl (by (repeat (first | exact Nl.nil | refine Nl.keep (by rfl) ?_))) (w_Pseudo (p := 0) (n := 0) hsrc hdst (by decide) (by decide)) (by repeat (rfl))) ?_
  refine WO.op rfl rfl rfl rfl (step_remN (q := 65535) rfl rfl (by omega)) ?_
  refine WO.op rfl rfl rfl rfl (mv_sc rfl) ?_
  refine WO.op rfl rfl rfl rfl (mv_sc rfl) ?_
  refine WO.op rfl rfl rfl rfl (step_pure Try.call16 rfl (by (repeat (first | exact Nl.nil | refine Nl.keep (by rfl) ?_))) (w_Pseudo (p := 0) (n := 0) hoth hdst (by decide) (by decide)) (by repeat (rfl))) ?_
  refine WO.op rfl rfl rfl rfl (step_remN (q := 65535) rfl rfl (by omega)) ?_
  refine WO.op rfl rfl rfl rfl (step_int2 rfl rfl rfl) ?_
  refine WO.put 64 (.sc (.bool false)) (congrArg (fun b : Bool => AV.sc (.bool b)) (by rw [fo_mod, fo_mod]; simp; omega)) ?_
  refine WO.op rfl rfl rfl rfl (as_sc rfl) ?_
  refine WO.nil ?_
  refine W.seq ?_
  refine W.seq ?_
  refine W.to [(0, _), (1, _), (2, _), (3, _), (7, _), (8, _), (9, _), (10, _), (11, _), (13, _), (14, _), (23, _), (35, _)] [_, _] rfl ⟨(by exact sh_sc rfl), (by exact sh_sc rfl), (by exact sh_sc rfl), (by exact sh_agg rfl), (by exact sh_ptr rfl), (by exact sh_sc rfl), (by exact sh_im rfl), (by exact sh_sc rfl), (by exact sh_sc rfl), (by exact sh_ptr rfl), (by exact sh_sc rfl), (by exact sh_sc rfl), (by exact sh_sc rfl), trivial⟩ ?_
  refine W.region ?_
  refine WO.op rfl rfl rfl rfl (step_fieldR (k := 6) (FieldOff.mk (by kernel_rfl)) rfl rfl (by exact Nat.zero_add _)) ?_
  refine WO.op rfl rfl rfl rfl (step_load Try.isAgg4 rfl rfl rfl) ?_
  refine WO.put 66 (.sc (.bool false)) (by kernel_rfl) ?_
  refine WO.op rfl rfl rfl rfl (mv_sc rfl) ?_
  refine WO.op rfl rfl rfl rfl (mv_sc rfl) ?_
  refine WO.op rfl rfl rfl rfl (pk_f rfl rfl rfl) ?_
  refine WO.nil ?_
  refine W.condF rfl ?_
  refine W.skip ?_
  refine W.seq ?_
  refine W.to [(0, _), (1, _), (2, _), (3, _), (7, _), (8, _), (9, _), (10, _), (11, _), (13, _), (14, _), (23, _), (35, _), (69, _)] [_, _] rfl ⟨(by exact sh_sc rfl), (by exact sh_sc rfl), (by exact sh_sc rfl), (by exact sh_agg rfl), (by exact sh_ptr rfl), (by exact sh_sc rfl), (by exact sh_im rfl), (by exact sh_sc rfl), (by exact sh_sc rfl), (by exact sh_ptr rfl), (by exact sh_sc rfl), (by exact sh_sc rfl), (by exact sh_sc rfl), (by exact sh_sc rfl), trivial⟩ ?_
  refine W.region ?_
  refine WO.op rfl rfl rfl rfl (mv_sc rfl) ?_
  refine WO.op rfl rfl rfl rfl (step_int2 rfl rfl rfl) ?_
  refine WO.put 78 (.sc (.bool true)) (by kernel_rfl) ?_
  refine WO.op rfl rfl rfl rfl (mv_sc rfl) ?_
  refine WO.op rfl rfl rfl rfl (step_loadA Try.isAgg25 Try.sizeOf25 rfl rfl (by exact Nat.le_refl _)) ?_
  refine WO.put 80 (.agg [.sc (.int .i64 0), .sc (.int .i64 0), .sc (.int .i64 0), .sc (.int .u32 0), .sc (.int .i64 0), .sc (.int .i64 0), .sc (.bool false), .sc (.int .u32 0), .sc (.int .u32 0), .sc (.int .i64 0), .sc (.int .i64 0), .sc (.int .i64 0), .sc (.string ⟨#[]⟩), .sc (.string ⟨#[]⟩)]) (by kernel_rfl) ?_
  refine WO.op rfl rfl rfl rfl (step_build (out := [.sc (.int .i64 0), .sc (.int .i64 0), .sc (.int .i64 0), .sc (.int .u32 0), .sc (.int .i64 0), .sc (.int .i64 0), .sc (.bool false), .sc (.int .u32 0), .sc (.int .u32 0), .sc (.int .i64 0), .sc (.int .i64 0), .sc (.int .i64 0), .sc (.string ⟨#[]⟩), .sc (.string ⟨#[]⟩)]) Try.zeroValue25 (pl := [(0, 1), (1, 1), (2, 1), (3, 1), (4, 1), (5, 1), (6, 1), (7, 1), (8, 1), (9, 1), (10, 1), (11, 1), (12, 1), (13, 1)]) (PlacesOf.mk (by kernel_rfl)) (by kernel_rfl)) ?_
  refine WO.put 81 (.agg [.sc (.int .i64 0), .sc (.int .i64 0), .sc (.int .i64 0), .sc (.int .u32 0), .sc (.int .i64 0), .sc (.int .i64 0), .sc (.bool false), .sc (.int .u32 0), .sc (.int .u32 0), .sc (.int .i64 0), .sc (.int .i64 0), .sc (.int .i64 0), .sc (.string ⟨#[]⟩), .sc (.string ⟨#[]⟩)]) (by kernel_rfl) ?_
  refine WO.op rfl rfl rfl rfl (eq_L4 (a0 := 0) (a1 := 0) (a2 := 0) (a3 := 0) (a4 := 0) (a5 := 0) (a6 := false) (a7 := 0) (a8 := 0) (a9 := 0) (a10 := 0) (a11 := 0) (a12 := ⟨#[]⟩) (a13 := ⟨#[]⟩) (by (constructor <;> omega)) (by (constructor <;> omega)) (by (constructor <;> omega)) (by (constructor <;> omega)) (by (constructor <;> omega)) (by (constructor <;> omega)) (by (constructor <;> omega)) (by (constructor <;> omega)) (by (constructor <;> omega)) (by (constructor <;> omega)) (by (constructor <;> omega)) (by decide) (by decide) rfl rfl) ?_
  refine WO.put 82 (.sc (.bool true)) (rfl) ?_
  refine WO.op rfl rfl rfl rfl (pk_t rfl rfl rfl) ?_
  refine WO.op rfl rfl rfl rfl (as_sc rfl) ?_
  refine WO.nil ?_
  refine W.ret ?_
  refine ⟨.inl rfl, ?_⟩
  exact ret0 (Res.tmp rfl Res.nil) (.keep rfl)

theorem w_SumsT2 {src dst other : Nat} (hsrc : src < 4294967296) (hdst : dst < 4294967296) (hoth : other < 4294967296) {a1 : Int} {a2 : Int} {a3 : Int} {a4 : Int} {a5 : Int} {a7 : Int} {a8 : Int} {a9 : Int} {a10 : Int} {a11 : Int} {a12 : ByteArray} {a13 : ByteArray} {c : List UInt8} (g1 : isI a1) (g2 : isI a2) (g3 : isU a3) (g4 : isI a4) (g5 : isI a5) (g7 : isU a7) (g8 : isU a8) (g9 : isI a9) (g10 : isI a10) (g11 : isI a11) (g12 : a12.size ≤ 200000000000000) (g13 : a13.size ≤ 200000000000000) (hE : Spec0 Try.prog 11 [.sc (.int .u32 ((src : Nat) : Int)), .sc (.int .u32 ((dst : Nat) : Int)), .agg [.sc (.int .i64 3), .sc (.int .i64 a1), .sc (.int .i64 a2), .sc (.int .u32 a3), .sc (.int .i64 a4), .sc (.int .i64 a5), .sc (.bool false), .sc (.int .u32 a7), .sc (.int .u32 a8), .sc (.int .i64 a9), .sc (.int .i64 a10), .sc (.int .i64 a11), .sc (.string a12), .sc (.string a13)]] (.tup [.im 1 (c.map byteAV), .sc (.int .i64 0)])) (hD : Spec0 Try.prog 8 [.sc (.int .u32 ((other : Nat) : Int)), .sc (.int .u32 ((dst : Nat) : Int)), .sc (.int .i64 6), .im 1 (c.map byteAV)] (.tup [.agg [.sc (.int .i64 3), .sc (.int .i64 a1), .sc (.int .i64 a2), .sc (.int .u32 a3), .sc (.int .i64 a4), .sc (.int .i64 a5), .sc (.bool false), .sc (.int .u32 a7), .sc (.int .u32 a8), .sc (.int .i64 a9), .sc (.int .i64 a10), .sc (.int .i64 a11), .sc (.string a12), .sc (.string a13)], .sc (.int .i64 0)])) (hsm : psu src dst 0 0 % 65535 = psu other dst 0 0 % 65535) : Spec0 Try.prog 5 [.sc (.int .u32 ((src : Nat) : Int)), .sc (.int .u32 ((dst : Nat) : Int)), .sc (.int .u32 ((other : Nat) : Int)), .agg [.sc (.int .i64 3), .sc (.int .i64 a1), .sc (.int .i64 a2), .sc (.int .u32 a3), .sc (.int .i64 a4), .sc (.int .i64 a5), .sc (.bool false), .sc (.int .u32 a7), .sc (.int .u32 a8), .sc (.int .i64 a9), .sc (.int .i64 a10), .sc (.int .i64 a11), .sc (.string a12), .sc (.string a13)]] (.sc (.bool true)) := by
  refine Spec.body Try.func5 rfl (Nat.le_of_ble_eq_true rfl) ?_
  refine W.seq ?_
  refine W.region ?_
  refine WO.opA rfl rfl rfl rfl (al_boxA rfl rfl) rfl rfl ?_
  refine WO.put 7 (.ptr 0 0) rfl ?_
  refine WO.op rfl rfl rfl rfl (as_sc rfl) ?_
  refine WO.nil ?_
  refine W.seq ?_
  refine W.to [(0, _), (1, _), (2, _), (3, _), (7, _), (8, _)] [_] rfl ⟨(by exact sh_sc rfl), (by exact sh_sc rfl), (by exact sh_sc rfl), (by exact sh_agg rfl), (by exact sh_ptr rfl), (by exact sh_sc rfl), trivial⟩ ?_
  refine W.region ?_
  refine WO.op rfl rfl rfl rfl (mv_sc rfl) ?_
  refine WO.op rfl rfl rfl rfl (mv_sc rfl) ?_
  refine WO.op rfl rfl rfl rfl (step_loadA Try.isAgg25 Try.sizeOf25 rfl rfl (by exact Nat.le_refl _)) ?_
  refine WO.put 18 (.agg [.sc (.int .i64 3), .sc (.int .i64 a1), .sc (.int .i64 a2), .sc (.int .u32 a3), .sc (.int .i64 a4), .sc (.int .i64 a5), .sc (.bool false), .sc (.int .u32 a7), .sc (.int .u32 a8), .sc (.int .i64 a9), .sc (.int .i64 a10), .sc (.int .i64 a11), .sc (.string a12), .sc (.string a13)]) (by kernel_rfl) ?_
  refine WO.op rfl rfl rfl rfl (step_pure Try.call11 rfl (by (repeat (first | exact Nl.nil | refine Nl.keep (by rfl) ?_))) (hE) (by repeat (first | with_reducible exact noOwn_im | with_reducible refine noOwn_tup ?_ | with_reducible exact noOwnL_nil | with_reducible refine noOwnL_cons ?_ ?_ | rfl))) ?_
  refine WO.op rfl rfl rfl rfl (mv_tup rfl) ?_
  refine WO.op rfl rfl rfl rfl (step_extract rfl rfl) ?_
  refine WO.op rfl rfl rfl rfl (step_extract rfl rfl) ?_
  refine WO.op rfl rfl rfl rfl (as_im rfl) ?_
  refine WO.op rfl rfl rfl rfl (as_sc rfl) ?_
  refine WO.nil ?_
  refine W.seq ?_
  refine W.seq ?_
  refine W.to [(0, _), (1, _), (2, _), (3, _), (7, _), (8, _), (9, _), (10, _)] [_] rfl ⟨(by exact sh_sc rfl), (by exact sh_sc rfl), (by exact sh_sc rfl), (by exact sh_agg rfl), (by exact sh_ptr rfl), (by exact sh_sc rfl), (by exact sh_im rfl), (by exact sh_sc rfl), trivial⟩ ?_
  refine W.region ?_
  refine WO.op rfl rfl rfl rfl (step_pure Try.call10 rfl (by (repeat (exact Nl.nil))) (w_lives) (by repeat (rfl))) ?_
  refine WO.op rfl rfl rfl rfl (step_not rfl) ?_
  refine WO.put 23 (.sc (.bool false)) (rfl) ?_
  refine WO.nil ?_
  refine W.condF rfl ?_
  refine W.skip ?_
  refine W.seq ?_
  refine W.seq ?_
  refine W.to [(0, _), (1, _), (2, _), (3, _), (7, _), (8, _), (9, _), (10, _), (23, _)] [_] rfl ⟨(by exact sh_sc rfl), (by exact sh_sc rfl), (by exact sh_sc rfl), (by exact sh_agg rfl), (by exact sh_ptr rfl), (by exact sh_sc rfl), (by exact sh_im rfl), (by exact sh_sc rfl), (by exact sh_sc rfl), trivial⟩ ?_
  refine W.region ?_
  refine WO.op rfl rfl rfl rfl (mv_sc rfl) ?_
  refine WO.op rfl rfl rfl rfl (step_int2 rfl rfl rfl) ?_
  refine WO.put 25 (.sc (.bool false)) (by kernel_rfl) ?_
  refine WO.op rfl rfl rfl rfl (mv_sc rfl) ?_
  refine WO.op rfl rfl rfl rfl (step_fieldR (k := 0) (FieldOff.mk (by kernel_rfl)) rfl rfl (by exact Nat.zero_add _)) ?_
  refine WO.op rfl rfl rfl rfl (step_load Try.isAgg3 rfl rfl rfl) ?_
  refine WO.op rfl rfl rfl rfl (step_int2 rfl rfl rfl) ?_
  refine WO.put 29 (.sc (.bool true)) (by kernel_rfl) ?_
  refine WO.op rfl rfl rfl rfl (mv_sc rfl) ?_
  refine WO.op rfl rfl rfl rfl (step_fieldR (k := 0) (FieldOff.mk (by kernel_rfl)) rfl rfl (by exact Nat.zero_add _)) ?_
  refine WO.op rfl rfl rfl rfl (step_load Try.isAgg3 rfl rfl rfl) ?_
  refine WO.op rfl rfl rfl rfl (step_int2 rfl rfl rfl) ?_
  refine WO.put 33 (.sc (.bool false)) (by kernel_rfl) ?_
  refine WO.op rfl rfl rfl rfl (pk_t rfl rfl rfl) ?_
  refine WO.op rfl rfl rfl rfl (pk_f rfl rfl rfl) ?_
  refine WO.nil ?_
  refine W.condF rfl ?_
  refine W.skip ?_
  refine W.seq ?_
  refine W.to [(0, _), (1, _), (2, _), (3, _), (7, _), (8, _), (9, _), (10, _), (23, _), (35, _)] [_] rfl ⟨(by exact sh_sc rfl), (by exact sh_sc rfl), (by exact sh_sc rfl), (by exact sh_agg rfl), (by exact sh_ptr rfl), (by exact sh_sc rfl), (by exact sh_im rfl), (by exact sh_sc rfl), (by exact sh_sc rfl), (by exact sh_sc rfl), trivial⟩ ?_
  refine W.region ?_
  refine WO.op rfl rfl rfl rfl (step_fieldR (k := 0) (FieldOff.mk (by kernel_rfl)) rfl rfl (by exact Nat.zero_add _)) ?_
  refine WO.op rfl rfl rfl rfl (step_load Try.isAgg3 rfl rfl rfl) ?_
  refine WO.op rfl rfl rfl rfl (step_pure Try.call15 rfl (by (repeat (first | exact Nl.nil | refine Nl.keep (by rfl) ?_))) (w_Proto3) (by repeat (first | with_reducible refine noOwn_tup ?_ | with_reducible exact noOwnL_nil | with_reducible refine noOwnL_cons ?_ ?_ | rfl))) ?_
  refine WO.op rfl rfl rfl rfl (mv_tup rfl) ?_
  refine WO.op rfl rfl rfl rfl (step_extract rfl rfl) ?_
  refine WO.op rfl rfl rfl rfl (step_extract rfl rfl) ?_
  refine WO.op rfl rfl rfl rfl (as_sc rfl) ?_
  refine WO.op rfl rfl rfl rfl (as_sc rfl) ?_
  refine WO.nil ?_
  refine W.seq ?_
  refine W.to [(0, _), (1, _), (2, _), (3, _), (7, _), (8, _), (9, _), (10, _), (11, _), (23, _), (35, _)] [_] rfl ⟨(by exact sh_sc rfl), (by exact sh_sc rfl), (by exact sh_sc rfl), (by exact sh_agg rfl), (by exact sh_ptr rfl), (by exact sh_sc rfl), (by exact sh_im rfl), (by exact sh_sc rfl), (by exact sh_sc rfl), (by exact sh_sc rfl), (by exact sh_sc rfl), trivial⟩ ?_
  refine W.region ?_
  refine WO.op rfl rfl rfl rfl (mv_sc rfl) ?_
  refine WO.op rfl rfl rfl rfl (mv_sc rfl) ?_
  refine WO.op rfl rfl rfl rfl (mv_sc rfl) ?_
  refine WO.op rfl rfl rfl rfl (mv_im rfl) ?_
  refine WO.op rfl rfl rfl rfl (step_pure Try.call8 rfl (by (repeat (first | exact Nl.nil | refine Nl.keep (by first | rfl | exact noOwn_im) ?_))) (hD) (by repeat (first | with_reducible refine noOwn_tup ?_ | with_reducible refine noOwn_agg ?_ | with_reducible exact noOwnL_nil | with_reducible refine noOwnL_cons ?_ ?_ | rfl))) ?_
  refine WO.op rfl rfl rfl rfl (mv_tup rfl) ?_
  refine WO.op rfl rfl rfl rfl (step_extract rfl rfl) ?_
  refine WO.op rfl rfl rfl rfl (step_extract rfl rfl) ?_
  refine WO.opA rfl rfl rfl rfl (al_alloc Try.zeroValue25) rfl rfl ?_
  refine WO.put 13 (.ptr 1 0) rfl ?_
  refine WO.op0 rfl rfl rfl (step_storeA Try.sizeOf25 rfl rfl rfl (by repeat (exact all_cell rfl rfl)) rfl rfl) ?_
  refine WO.op rfl rfl rfl rfl (as_sc rfl) ?_
  refine WO.nil ?_
  refine W.seq ?_
  refine W.to [(0, _), (1, _), (2, _), (3, _), (7, _), (8, _), (9, _), (10, _), (11, _), (13, _), (23, _), (35, _)] [_, _] rfl ⟨(by exact sh_sc rfl), (by exact sh_sc rfl), (by exact sh_sc rfl), (by exact sh_agg rfl), (by exact sh_ptr rfl), (by exact sh_sc rfl), (by exact sh_im rfl), (by exact sh_sc rfl), (by exact sh_sc rfl), (by exact sh_ptr rfl), (by exact sh_sc rfl), (by exact sh_sc rfl), trivial⟩ ?_
  refine W.region ?_
  refine WO.op rfl rfl rfl rfl (mv_sc rfl) ?_
  refine WO.op rfl rfl rfl rfl (mv_sc rfl) ?_
  refine WO.op rfl rfl rfl rfl (step_pure Try.call16 rfl (by (repeat (first | exact Nl.nil | refine Nl.keep (by rfl) ?_))) (w_Pseudo (p := 0) (n := 0) hsrc hdst (by decide) (by decide)) (by repeat (rfl))) ?_
  refine WO.op rfl rfl rfl rfl (step_remN (q := 65535) rfl rfl (by omega)) ?_
  refine WO.op rfl rfl rfl rfl (mv_sc rfl) ?_
  refine WO.op rfl rfl rfl rfl (mv_sc rfl) ?_
  refine WO.op rfl rfl rfl rfl (step_pure Try.call16 rfl (by (repeat (first | exact Nl.nil | refine Nl.keep (by rfl) ?_))) (w_Pseudo (p := 0) (n := 0) hoth hdst (by decide) (by decide)) (by repeat (rfl))) ?_
  refine WO.op rfl rfl rfl rfl (step_remN (q := 65535) rfl rfl (by omega)) ?_
  refine WO.op rfl rfl rfl rfl (step_int2 rfl rfl rfl) ?_
  refine WO.put 64 (.sc (.bool true)) (congrArg (fun b : Bool => AV.sc (.bool b)) (by rw [fo_mod, fo_mod, hsm]; simp)) ?_
  refine WO.op rfl rfl rfl rfl (as_sc rfl) ?_
  refine WO.nil ?_
  refine W.seq ?_
  refine W.seq ?_
  refine W.to [(0, _), (1, _), (2, _), (3, _), (7, _), (8, _), (9, _), (10, _), (11, _), (13, _), (14, _), (23, _), (35, _)] [_, _] rfl ⟨(by exact sh_sc rfl), (by exact sh_sc rfl), (by exact sh_sc rfl), (by exact sh_agg rfl), (by exact sh_ptr rfl), (by exact sh_sc rfl), (by exact sh_im rfl), (by exact sh_sc rfl), (by exact sh_sc rfl), (by exact sh_ptr rfl), (by exact sh_sc rfl), (by exact sh_sc rfl), (by exact sh_sc rfl), trivial⟩ ?_
  refine W.region ?_
  refine WO.op rfl rfl rfl rfl (step_fieldR (k := 6) (FieldOff.mk (by kernel_rfl)) rfl rfl (by exact Nat.zero_add _)) ?_
  refine WO.op rfl rfl rfl rfl (step_load Try.isAgg4 rfl rfl rfl) ?_
  refine WO.put 66 (.sc (.bool false)) (by kernel_rfl) ?_
  refine WO.op rfl rfl rfl rfl (mv_sc rfl) ?_
  refine WO.op rfl rfl rfl rfl (mv_sc rfl) ?_
  refine WO.op rfl rfl rfl rfl (pk_f rfl rfl rfl) ?_
  refine WO.nil ?_
  refine W.condT rfl ?_
  refine W.seq ?_
  refine W.to [(0, _), (1, _), (2, _), (3, _), (7, _), (8, _), (9, _), (10, _), (11, _), (13, _), (14, _), (23, _), (35, _), (69, _)] [_, _] rfl ⟨(by exact sh_sc rfl), (by exact sh_sc rfl), (by exact sh_sc rfl), (by exact sh_agg rfl), (by exact sh_ptr rfl), (by exact sh_sc rfl), (by exact sh_im rfl), (by exact sh_sc rfl), (by exact sh_sc rfl), (by exact sh_ptr rfl), (by exact sh_sc rfl), (by exact sh_sc rfl), (by exact sh_sc rfl), (by exact sh_sc rfl), trivial⟩ ?_
  refine W.region ?_
  refine WO.op rfl rfl rfl rfl (mv_sc rfl) ?_
  refine WO.op rfl rfl rfl rfl (step_int2 rfl rfl rfl) ?_
  refine WO.put 71 (.sc (.bool true)) (by kernel_rfl) ?_
  refine WO.op rfl rfl rfl rfl (mv_sc rfl) ?_
  refine WO.op rfl rfl rfl rfl (step_loadA Try.isAgg25 Try.sizeOf25 rfl rfl (by exact Nat.le_refl _)) ?_
  refine WO.put 73 (.agg [.sc (.int .i64 3), .sc (.int .i64 a1), .sc (.int .i64 a2), .sc (.int .u32 a3), .sc (.int .i64 a4), .sc (.int .i64 a5), .sc (.bool false), .sc (.int .u32 a7), .sc (.int .u32 a8), .sc (.int .i64 a9), .sc (.int .i64 a10), .sc (.int .i64 a11), .sc (.string a12), .sc (.string a13)]) (by kernel_rfl) ?_
  refine WO.op rfl rfl rfl rfl (step_loadA Try.isAgg25 Try.sizeOf25 rfl rfl (by exact Nat.le_refl _)) ?_
  refine WO.put 74 (.agg [.sc (.int .i64 3), .sc (.int .i64 a1), .sc (.int .i64 a2), .sc (.int .u32 a3), .sc (.int .i64 a4), .sc (.int .i64 a5), .sc (.bool false), .sc (.int .u32 a7), .sc (.int .u32 a8), .sc (.int .i64 a9), .sc (.int .i64 a10), .sc (.int .i64 a11), .sc (.string a12), .sc (.string a13)]) (by kernel_rfl) ?_
  refine WO.op rfl rfl rfl rfl (eq_L4 (a0 := 3) (a1 := a1) (a2 := a2) (a3 := a3) (a4 := a4) (a5 := a5) (a6 := false) (a7 := a7) (a8 := a8) (a9 := a9) (a10 := a10) (a11 := a11) (a12 := a12) (a13 := a13) (by (constructor <;> decide)) (by assumption) (by assumption) (by assumption) (by assumption) (by assumption) (by assumption) (by assumption) (by assumption) (by assumption) (by assumption) (by assumption) (by assumption) rfl rfl) ?_
  refine WO.put 75 (.sc (.bool true)) (rfl) ?_
  refine WO.op rfl rfl rfl rfl (pk_t rfl rfl rfl) ?_
  refine WO.op rfl rfl rfl rfl (as_sc rfl) ?_
  refine WO.nil ?_
  refine W.ret ?_
  refine ⟨.inl rfl, ?_⟩
  exact ret0 (Res.tmp rfl Res.nil) (.keep rfl)

theorem w_SumsT3 {src dst other : Nat} (hsrc : src < 4294967296) (hdst : dst < 4294967296) (hoth : other < 4294967296) {a1 : Int} {a2 : Int} {a3 : Int} {a4 : Int} {a5 : Int} {a7 : Int} {a8 : Int} {a9 : Int} {a10 : Int} {a11 : Int} {a12 : ByteArray} {a13 : ByteArray} {c : List UInt8} (g1 : isI a1) (g2 : isI a2) (g3 : isU a3) (g4 : isI a4) (g5 : isI a5) (g7 : isU a7) (g8 : isU a8) (g9 : isI a9) (g10 : isI a10) (g11 : isI a11) (g12 : a12.size ≤ 200000000000000) (g13 : a13.size ≤ 200000000000000) (hE : Spec0 Try.prog 11 [.sc (.int .u32 ((src : Nat) : Int)), .sc (.int .u32 ((dst : Nat) : Int)), .agg [.sc (.int .i64 3), .sc (.int .i64 a1), .sc (.int .i64 a2), .sc (.int .u32 a3), .sc (.int .i64 a4), .sc (.int .i64 a5), .sc (.bool false), .sc (.int .u32 a7), .sc (.int .u32 a8), .sc (.int .i64 a9), .sc (.int .i64 a10), .sc (.int .i64 a11), .sc (.string a12), .sc (.string a13)]] (.tup [.im 1 (c.map byteAV), .sc (.int .i64 0)])) (hD : Spec0 Try.prog 8 [.sc (.int .u32 ((other : Nat) : Int)), .sc (.int .u32 ((dst : Nat) : Int)), .sc (.int .i64 6), .im 1 (c.map byteAV)] (.tup [.agg [.sc (.int .i64 0), .sc (.int .i64 0), .sc (.int .i64 0), .sc (.int .u32 0), .sc (.int .i64 0), .sc (.int .i64 0), .sc (.bool false), .sc (.int .u32 0), .sc (.int .u32 0), .sc (.int .i64 0), .sc (.int .i64 0), .sc (.int .i64 0), .sc (.string ⟨#[]⟩), .sc (.string ⟨#[]⟩)], .sc (.int .i64 30)])) (hsm : psu src dst 0 0 % 65535 ≠ psu other dst 0 0 % 65535) : Spec0 Try.prog 5 [.sc (.int .u32 ((src : Nat) : Int)), .sc (.int .u32 ((dst : Nat) : Int)), .sc (.int .u32 ((other : Nat) : Int)), .agg [.sc (.int .i64 3), .sc (.int .i64 a1), .sc (.int .i64 a2), .sc (.int .u32 a3), .sc (.int .i64 a4), .sc (.int .i64 a5), .sc (.bool false), .sc (.int .u32 a7), .sc (.int .u32 a8), .sc (.int .i64 a9), .sc (.int .i64 a10), .sc (.int .i64 a11), .sc (.string a12), .sc (.string a13)]] (.sc (.bool true)) := by
  refine Spec.body Try.func5 rfl (Nat.le_of_ble_eq_true rfl) ?_
  refine W.seq ?_
  refine W.region ?_
  refine WO.opA rfl rfl rfl rfl (al_boxA rfl rfl) rfl rfl ?_
  refine WO.put 7 (.ptr 0 0) rfl ?_
  refine WO.op rfl rfl rfl rfl (as_sc rfl) ?_
  refine WO.nil ?_
  refine W.seq ?_
  refine W.to [(0, _), (1, _), (2, _), (3, _), (7, _), (8, _)] [_] rfl ⟨(by exact sh_sc rfl), (by exact sh_sc rfl), (by exact sh_sc rfl), (by exact sh_agg rfl), (by exact sh_ptr rfl), (by exact sh_sc rfl), trivial⟩ ?_
  refine W.region ?_
  refine WO.op rfl rfl rfl rfl (mv_sc rfl) ?_
  refine WO.op rfl rfl rfl rfl (mv_sc rfl) ?_
  refine WO.op rfl rfl rfl rfl (step_loadA Try.isAgg25 Try.sizeOf25 rfl rfl (by exact Nat.le_refl _)) ?_
  refine WO.put 18 (.agg [.sc (.int .i64 3), .sc (.int .i64 a1), .sc (.int .i64 a2), .sc (.int .u32 a3), .sc (.int .i64 a4), .sc (.int .i64 a5), .sc (.bool false), .sc (.int .u32 a7), .sc (.int .u32 a8), .sc (.int .i64 a9), .sc (.int .i64 a10), .sc (.int .i64 a11), .sc (.string a12), .sc (.string a13)]) (by kernel_rfl) ?_
  refine WO.op rfl rfl rfl rfl (step_pure Try.call11 rfl (by (repeat (first | exact Nl.nil | refine Nl.keep (by rfl) ?_))) (hE) (by repeat (first | with_reducible exact noOwn_im | with_reducible refine noOwn_tup ?_ | with_reducible exact noOwnL_nil | with_reducible refine noOwnL_cons ?_ ?_ | rfl))) ?_
  refine WO.op rfl rfl rfl rfl (mv_tup rfl) ?_
  refine WO.op rfl rfl rfl rfl (step_extract rfl rfl) ?_
  refine WO.op rfl rfl rfl rfl (step_extract rfl rfl) ?_
  refine WO.op rfl rfl rfl rfl (as_im rfl) ?_
  refine WO.op rfl rfl rfl rfl (as_sc rfl) ?_
  refine WO.nil ?_
  refine W.seq ?_
  refine W.seq ?_
  refine W.to [(0, _), (1, _), (2, _), (3, _), (7, _), (8, _), (9, _), (10, _)] [_] rfl ⟨(by exact sh_sc rfl), (by exact sh_sc rfl), (by exact sh_sc rfl), (by exact sh_agg rfl), (by exact sh_ptr rfl), (by exact sh_sc rfl), (by exact sh_im rfl), (by exact sh_sc rfl), trivial⟩ ?_
  refine W.region ?_
  refine WO.op rfl rfl rfl rfl (step_pure Try.call10 rfl (by (repeat (exact Nl.nil))) (w_lives) (by repeat (rfl))) ?_
  refine WO.op rfl rfl rfl rfl (step_not rfl) ?_
  refine WO.put 23 (.sc (.bool false)) (rfl) ?_
  refine WO.nil ?_
  refine W.condF rfl ?_
  refine W.skip ?_
  refine W.seq ?_
  refine W.seq ?_
  refine W.to [(0, _), (1, _), (2, _), (3, _), (7, _), (8, _), (9, _), (10, _), (23, _)] [_] rfl ⟨(by exact sh_sc rfl), (by exact sh_sc rfl), (by exact sh_sc rfl), (by exact sh_agg rfl), (by exact sh_ptr rfl), (by exact sh_sc rfl), (by exact sh_im rfl), (by exact sh_sc rfl), (by exact sh_sc rfl), trivial⟩ ?_
  refine W.region ?_
  refine WO.op rfl rfl rfl rfl (mv_sc rfl) ?_
  refine WO.op rfl rfl rfl rfl (step_int2 rfl rfl rfl) ?_
  refine WO.put 25 (.sc (.bool false)) (by kernel_rfl) ?_
  refine WO.op rfl rfl rfl rfl (mv_sc rfl) ?_
  refine WO.op rfl rfl rfl rfl (step_fieldR (k := 0) (FieldOff.mk (by kernel_rfl)) rfl rfl (by exact Nat.zero_add _)) ?_
  refine WO.op rfl rfl rfl rfl (step_load Try.isAgg3 rfl rfl rfl) ?_
  refine WO.op rfl rfl rfl rfl (step_int2 rfl rfl rfl) ?_
  refine WO.put 29 (.sc (.bool true)) (by kernel_rfl) ?_
  refine WO.op rfl rfl rfl rfl (mv_sc rfl) ?_
  refine WO.op rfl rfl rfl rfl (step_fieldR (k := 0) (FieldOff.mk (by kernel_rfl)) rfl rfl (by exact Nat.zero_add _)) ?_
  refine WO.op rfl rfl rfl rfl (step_load Try.isAgg3 rfl rfl rfl) ?_
  refine WO.op rfl rfl rfl rfl (step_int2 rfl rfl rfl) ?_
  refine WO.put 33 (.sc (.bool false)) (by kernel_rfl) ?_
  refine WO.op rfl rfl rfl rfl (pk_t rfl rfl rfl) ?_
  refine WO.op rfl rfl rfl rfl (pk_f rfl rfl rfl) ?_
  refine WO.nil ?_
  refine W.condF rfl ?_
  refine W.skip ?_
  refine W.seq ?_
  refine W.to [(0, _), (1, _), (2, _), (3, _), (7, _), (8, _), (9, _), (10, _), (23, _), (35, _)] [_] rfl ⟨(by exact sh_sc rfl), (by exact sh_sc rfl), (by exact sh_sc rfl), (by exact sh_agg rfl), (by exact sh_ptr rfl), (by exact sh_sc rfl), (by exact sh_im rfl), (by exact sh_sc rfl), (by exact sh_sc rfl), (by exact sh_sc rfl), trivial⟩ ?_
  refine W.region ?_
  refine WO.op rfl rfl rfl rfl (step_fieldR (k := 0) (FieldOff.mk (by kernel_rfl)) rfl rfl (by exact Nat.zero_add _)) ?_
  refine WO.op rfl rfl rfl rfl (step_load Try.isAgg3 rfl rfl rfl) ?_
  refine WO.op rfl rfl rfl rfl (step_pure Try.call15 rfl (by (repeat (first | exact Nl.nil | refine Nl.keep (by rfl) ?_))) (w_Proto3) (by repeat (first | with_reducible refine noOwn_tup ?_ | with_reducible exact noOwnL_nil | with_reducible refine noOwnL_cons ?_ ?_ | rfl))) ?_
  refine WO.op rfl rfl rfl rfl (mv_tup rfl) ?_
  refine WO.op rfl rfl rfl rfl (step_extract rfl rfl) ?_
  refine WO.op rfl rfl rfl rfl (step_extract rfl rfl) ?_
  refine WO.op rfl rfl rfl rfl (as_sc rfl) ?_
  refine WO.op rfl rfl rfl rfl (as_sc rfl) ?_
  refine WO.nil ?_
  refine W.seq ?_
  refine W.to [(0, _), (1, _), (2, _), (3, _), (7, _), (8, _), (9, _), (10, _), (11, _), (23, _), (35, _)] [_] rfl ⟨(by exact sh_sc rfl), (by exact sh_sc rfl), (by exact sh_sc rfl), (by exact sh_agg rfl), (by exact sh_ptr rfl), (by exact sh_sc rfl), (by exact sh_im rfl), (by exact sh_sc rfl), (by exact sh_sc rfl), (by exact sh_sc rfl), (by exact sh_sc rfl), trivial⟩ ?_
  refine W.region ?_
  refine WO.op rfl rfl rfl rfl (mv_sc rfl) ?_
  refine WO.op rfl rfl rfl rfl (mv_sc rfl) ?_
  refine WO.op rfl rfl rfl rfl (mv_sc rfl) ?_
  refine WO.op rfl rfl rfl rfl (mv_im rfl) ?_
  refine WO.op rfl rfl rfl rfl (step_pure Try.call8 rfl (by (repeat (first | exact Nl.nil | refine Nl.keep (by first | rfl | exact noOwn_im) ?_))) (hD) (by repeat (first | with_reducible refine noOwn_tup ?_ | with_reducible refine noOwn_agg ?_ | with_reducible exact noOwnL_nil | with_reducible refine noOwnL_cons ?_ ?_ | rfl))) ?_
  refine WO.op rfl rfl rfl rfl (mv_tup rfl) ?_
  refine WO.op rfl rfl rfl rfl (step_extract rfl rfl) ?_
  refine WO.op rfl rfl rfl rfl (step_extract rfl rfl) ?_
  refine WO.opA rfl rfl rfl rfl (al_alloc Try.zeroValue25) rfl rfl ?_
  refine WO.put 13 (.ptr 1 0) rfl ?_
  refine WO.op0 rfl rfl rfl (step_storeA Try.sizeOf25 rfl rfl rfl (by repeat (exact all_cell rfl rfl)) rfl rfl) ?_
  refine WO.op rfl rfl rfl rfl (as_sc rfl) ?_
  refine WO.nil ?_
  refine W.seq ?_
  refine W.to [(0, _), (1, _), (2, _), (3, _), (7, _), (8, _), (9, _), (10, _), (11, _), (13, _), (23, _), (35, _)] [_, _] rfl ⟨(by exact sh_sc rfl), (by exact sh_sc rfl), (by exact sh_sc rfl), (by exact sh_agg rfl), (by exact sh_ptr rfl), (by exact sh_sc rfl), (by exact sh_im rfl), (by exact sh_sc rfl), (by exact sh_sc rfl), (by exact sh_ptr rfl), (by exact sh_sc rfl), (by exact sh_sc rfl), trivial⟩ ?_
  refine W.region ?_
  refine WO.op rfl rfl rfl rfl (mv_sc rfl) ?_
  refine WO.op rfl rfl rfl rfl (mv_sc rfl) ?_
  refine WO.op rfl rfl rfl rfl (step_pure Try.call16 rfl (by (repeat (first | exact Nl.nil | refine Nl.keep (by rfl) ?_))) (w_Pseudo (p := 0) (n := 0) hsrc hdst (by decide) (by decide)) (by repeat (rfl))) ?_
  refine WO.op rfl rfl rfl rfl (step_remN (q := 65535) rfl rfl (by omega)) ?_
  refine WO.op rfl rfl rfl rfl (mv_sc rfl) ?_
  refine WO.op rfl rfl rfl rfl (mv_sc rfl) ?_
  refine WO.op rfl rfl rfl rfl (step_pure Try.call16 rfl (by (repeat (first | exact Nl.nil | refine Nl.keep (by rfl) ?_))) (w_Pseudo (p := 0) (n := 0) hoth hdst (by decide) (by decide)) (by repeat (rfl))) ?_
  refine WO.op rfl rfl rfl rfl (step_remN (q := 65535) rfl rfl (by omega)) ?_
  refine WO.op rfl rfl rfl rfl (step_int2 rfl rfl rfl) ?_
  refine WO.put 64 (.sc (.bool false)) (congrArg (fun b : Bool => AV.sc (.bool b)) (by rw [fo_mod, fo_mod]; simp; omega)) ?_
  refine WO.op rfl rfl rfl rfl (as_sc rfl) ?_
  refine WO.nil ?_
  refine W.seq ?_
  refine W.seq ?_
  refine W.to [(0, _), (1, _), (2, _), (3, _), (7, _), (8, _), (9, _), (10, _), (11, _), (13, _), (14, _), (23, _), (35, _)] [_, _] rfl ⟨(by exact sh_sc rfl), (by exact sh_sc rfl), (by exact sh_sc rfl), (by exact sh_agg rfl), (by exact sh_ptr rfl), (by exact sh_sc rfl), (by exact sh_im rfl), (by exact sh_sc rfl), (by exact sh_sc rfl), (by exact sh_ptr rfl), (by exact sh_sc rfl), (by exact sh_sc rfl), (by exact sh_sc rfl), trivial⟩ ?_
  refine W.region ?_
  refine WO.op rfl rfl rfl rfl (step_fieldR (k := 6) (FieldOff.mk (by kernel_rfl)) rfl rfl (by exact Nat.zero_add _)) ?_
  refine WO.op rfl rfl rfl rfl (step_load Try.isAgg4 rfl rfl rfl) ?_
  refine WO.put 66 (.sc (.bool false)) (by kernel_rfl) ?_
  refine WO.op rfl rfl rfl rfl (mv_sc rfl) ?_
  refine WO.op rfl rfl rfl rfl (mv_sc rfl) ?_
  refine WO.op rfl rfl rfl rfl (pk_f rfl rfl rfl) ?_
  refine WO.nil ?_
  refine W.condF rfl ?_
  refine W.skip ?_
  refine W.seq ?_
  refine W.to [(0, _), (1, _), (2, _), (3, _), (7, _), (8, _), (9, _), (10, _), (11, _), (13, _), (14, _), (23, _), (35, _), (69, _)] [_, _] rfl ⟨(by exact sh_sc rfl), (by exact sh_sc rfl), (by exact sh_sc rfl), (by exact sh_agg rfl), (by exact sh_ptr rfl), (by exact sh_sc rfl), (by exact sh_im rfl), (by exact sh_sc rfl), (by exact sh_sc rfl), (by exact sh_ptr rfl), (by exact sh_sc rfl), (by exact sh_sc rfl), (by exact sh_sc rfl), (by exact sh_sc rfl), trivial⟩ ?_
  refine W.region ?_
  refine WO.op rfl rfl rfl rfl (mv_sc rfl) ?_
  refine WO.op rfl rfl rfl rfl (step_int2 rfl rfl rfl) ?_
  refine WO.put 78 (.sc (.bool true)) (by kernel_rfl) ?_
  refine WO.op rfl rfl rfl rfl (mv_sc rfl) ?_
  refine WO.op rfl rfl rfl rfl (step_loadA Try.isAgg25 Try.sizeOf25 rfl rfl (by exact Nat.le_refl _)) ?_
  refine WO.put 80 (.agg [.sc (.int .i64 0), .sc (.int .i64 0), .sc (.int .i64 0), .sc (.int .u32 0), .sc (.int .i64 0), .sc (.int .i64 0), .sc (.bool false), .sc (.int .u32 0), .sc (.int .u32 0), .sc (.int .i64 0), .sc (.int .i64 0), .sc (.int .i64 0), .sc (.string ⟨#[]⟩), .sc (.string ⟨#[]⟩)]) (by kernel_rfl) ?_
  refine WO.op rfl rfl rfl rfl (step_build (out := [.sc (.int .i64 0), .sc (.int .i64 0), .sc (.int .i64 0), .sc (.int .u32 0), .sc (.int .i64 0), .sc (.int .i64 0), .sc (.bool false), .sc (.int .u32 0), .sc (.int .u32 0), .sc (.int .i64 0), .sc (.int .i64 0), .sc (.int .i64 0), .sc (.string ⟨#[]⟩), .sc (.string ⟨#[]⟩)]) Try.zeroValue25 (pl := [(0, 1), (1, 1), (2, 1), (3, 1), (4, 1), (5, 1), (6, 1), (7, 1), (8, 1), (9, 1), (10, 1), (11, 1), (12, 1), (13, 1)]) (PlacesOf.mk (by kernel_rfl)) (by kernel_rfl)) ?_
  refine WO.put 81 (.agg [.sc (.int .i64 0), .sc (.int .i64 0), .sc (.int .i64 0), .sc (.int .u32 0), .sc (.int .i64 0), .sc (.int .i64 0), .sc (.bool false), .sc (.int .u32 0), .sc (.int .u32 0), .sc (.int .i64 0), .sc (.int .i64 0), .sc (.int .i64 0), .sc (.string ⟨#[]⟩), .sc (.string ⟨#[]⟩)]) (by kernel_rfl) ?_
  refine WO.op rfl rfl rfl rfl (eq_L4 (a0 := 0) (a1 := 0) (a2 := 0) (a3 := 0) (a4 := 0) (a5 := 0) (a6 := false) (a7 := 0) (a8 := 0) (a9 := 0) (a10 := 0) (a11 := 0) (a12 := ⟨#[]⟩) (a13 := ⟨#[]⟩) (by (constructor <;> omega)) (by (constructor <;> omega)) (by (constructor <;> omega)) (by (constructor <;> omega)) (by (constructor <;> omega)) (by (constructor <;> omega)) (by (constructor <;> omega)) (by (constructor <;> omega)) (by (constructor <;> omega)) (by (constructor <;> omega)) (by (constructor <;> omega)) (by decide) (by decide) rfl rfl) ?_
  refine WO.put 82 (.sc (.bool true)) (rfl) ?_
  refine WO.op rfl rfl rfl rfl (pk_t rfl rfl rfl) ?_
  refine WO.op rfl rfl rfl rfl (as_sc rfl) ?_
  refine WO.nil ?_
  refine W.ret ?_
  refine ⟨.inl rfl, ?_⟩
  exact ret0 (Res.tmp rfl Res.nil) (.keep rfl)

end Go.Proofs.Ytdmlkcphlidcfaa
