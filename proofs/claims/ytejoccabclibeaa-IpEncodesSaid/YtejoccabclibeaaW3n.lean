/-
  Contracts of functions of chapter 03: each theorem says what a call of one function answers, for all arguments that its hypotheses let in.
-/
import Derived.Test.YtejoccabclibeaaW3l
import Derived.Test.YtejoccabclibeaaW3c
import Derived.Test.YtejoccabclibeaaW3e
set_option linter.unusedVariables false
set_option linter.unusedSimpArgs false
set_option maxRecDepth 100000
set_option maxHeartbeats 1000000
namespace Go.Proofs.Ytejoccabclibeaa
open Go Go.SL Go.Proofs
theorem w_IpEncodesG {a0 a1 a2 a3 a4 a5 a6 : Nat} {l m : List UInt8} {a7 : ByteArray} (h0 : a0 ≤ 255) (h3 : a3 ≤ 255) (h4 : a4 ≤ 255) (h1 : a1 ≤ 65535) (h2 : a2 ≤ 65535) (h5 : a5 < 4294967296) (h6 : a6 < 4294967296) (hs : a7.size ≤ 40) (h8 : a7.size % 4 = 0) (hd : l.length + 20 + a7.size ≤ 65535) (hm : m.length ≤ 140737488351232) : Spec0 Try.prog 6 [.agg [.sc (.int .i64 ((a0 : Nat) : Int)), .sc (.int .i64 ((a1 : Nat) : Int)), .sc (.int .i64 ((a2 : Nat) : Int)), .sc (.int .i64 ((a3 : Nat) : Int)), .sc (.int .i64 ((a4 : Nat) : Int)), .sc (.int .u32 ((a5 : Nat) : Int)), .sc (.int .u32 ((a6 : Nat) : Int)), .sc (.string a7)], .im 1 (l.map byteAV), .im 1 (m.map byteAV)] (.sc (.bool true)) := by
  refine Spec.body Try.func6 rfl (Nat.le_of_ble_eq_true rfl) ?_
  have hoz : a7.data.toList.length = a7.size := by rw [Array.length_toList]; rfl
  refine W.seq ?_
  refine W.region ?_
  refine WO.opA rfl rfl rfl rfl (al_boxA rfl rfl) rfl rfl ?_
  refine WO.put 3 (.ptr 0 0) rfl ?_
  refine WO.op rfl rfl rfl rfl (as_sc rfl) ?_
  refine WO.nil ?_
  refine W.seq ?_
  refine W.to [(0, _), (1, _), (2, _), (3, _), (6, _)] [_] rfl ⟨(by exact sh_agg rfl), (by exact sh_im rfl), (by exact sh_im rfl), (by exact sh_ptr rfl), (by exact sh_sc rfl), trivial⟩ ?_
  refine W.region ?_
  refine WO.op rfl rfl rfl rfl (step_loadA Try.isAgg31 Try.sizeOf31 rfl rfl (by exact Nat.le_refl _)) ?_
  refine WO.op rfl rfl rfl rfl (mv_im rfl) ?_
  refine WO.op rfl rfl rfl rfl (step_lenB Try.runUnderlying22 rfl) ?_
  refine WO.op rfl rfl rfl rfl (step_pure Try.call12 rfl (by (repeat (first | exact Nl.nil | refine Nl.keep (by rfl) ?_))) (w_EncG h0 h3 h4 h1 h2 h5 h6 hs h8 hd) (by repeat (first | with_reducible exact noOwn_im | with_reducible refine noOwn_tup ?_ | with_reducible exact noOwnL_nil | with_reducible refine noOwnL_cons ?_ ?_ | rfl))) ?_
  refine WO.op rfl rfl rfl rfl (mv_tup rfl) ?_
  refine WO.op rfl rfl rfl rfl (step_extract rfl rfl) ?_
  refine WO.op rfl rfl rfl rfl (step_extract rfl rfl) ?_
  refine WO.op rfl rfl rfl rfl (as_im rfl) ?_
  refine WO.op rfl rfl rfl rfl (as_sc rfl) ?_
  refine WO.nil ?_
  refine W.seq ?_
  refine W.to [(0, _), (1, _), (2, _), (3, _), (6, _), (7, _), (8, _)] [_] rfl ⟨(by exact sh_agg rfl), (by exact sh_im rfl), (by exact sh_im rfl), (by exact sh_ptr rfl), (by exact sh_sc rfl), (by exact sh_im rfl), (by exact sh_sc rfl), trivial⟩ ?_
  refine W.region ?_
  refine WO.op rfl rfl rfl rfl (step_loadA Try.isAgg31 Try.sizeOf31 rfl rfl (by exact Nat.le_refl _)) ?_
  refine WO.op rfl rfl rfl rfl (mv_im rfl) ?_
  refine WO.op rfl rfl rfl rfl (step_lenB Try.runUnderlying22 rfl) ?_
  refine WO.op rfl rfl rfl rfl (step_pure Try.call13 rfl (by (repeat (first | exact Nl.nil | refine Nl.keep (by rfl) ?_))) (w_refEncG h0 h3 h4 h1 h2 h5 h6 hs h8 hd) (by repeat (first | with_reducible exact noOwn_im | with_reducible refine noOwn_tup ?_ | with_reducible exact noOwnL_nil | with_reducible refine noOwnL_cons ?_ ?_ | rfl))) ?_
  refine WO.op rfl rfl rfl rfl (mv_tup rfl) ?_
  refine WO.op rfl rfl rfl rfl (step_extract rfl rfl) ?_
  refine WO.op rfl rfl rfl rfl (step_extract rfl rfl) ?_
  refine WO.op rfl rfl rfl rfl (as_im rfl) ?_
  refine WO.op rfl rfl rfl rfl (as_sc rfl) ?_
  refine WO.nil ?_
  refine W.seq ?_
  refine W.seq ?_
  refine W.to [(0, _), (1, _), (2, _), (3, _), (6, _), (7, _), (8, _), (9, _), (10, _)] [_] rfl ⟨(by exact sh_agg rfl), (by exact sh_im rfl), (by exact sh_im rfl), (by exact sh_ptr rfl), (by exact sh_sc rfl), (by exact sh_im rfl), (by exact sh_sc rfl), (by exact sh_im rfl), (by exact sh_sc rfl), trivial⟩ ?_
  refine W.region ?_
  refine WO.op rfl rfl rfl rfl (step_pure Try.call10 rfl (by (repeat (exact Nl.nil))) (w_lives) (by repeat (rfl))) ?_
  refine WO.op rfl rfl rfl rfl (step_not rfl) ?_
  refine WO.put 30 (.sc (.bool false)) (rfl) ?_
  refine WO.op rfl rfl rfl rfl (mv_sc rfl) ?_
  refine WO.op rfl rfl rfl rfl (mv_im rfl) ?_
  refine WO.op rfl rfl rfl rfl (step_strI Try.underlying22 Try.underlying5 Try.underlying9 rfl) ?_
  refine WO.op rfl rfl rfl rfl (mv_im rfl) ?_
  refine WO.op rfl rfl rfl rfl (step_strI Try.underlying22 Try.underlying5 Try.underlying9 rfl) ?_
  refine WO.op rfl rfl rfl rfl (step_str2 rfl rfl rfl) ?_
  refine WO.put 36 (.sc (.bool false)) (congrArg (fun b : Bool => AV.sc (.bool b)) (by simp)) ?_
  refine WO.op rfl rfl rfl rfl (pk_f rfl rfl rfl) ?_
  refine WO.op rfl rfl rfl rfl (mv_sc rfl) ?_
  refine WO.op rfl rfl rfl rfl (mv_sc rfl) ?_
  refine WO.op rfl rfl rfl rfl (mv_sc rfl) ?_
  refine WO.op rfl rfl rfl rfl (step_int2 rfl rfl rfl) ?_
  refine WO.put 41 (.sc (.bool false)) (congrArg (fun b : Bool => AV.sc (.bool b)) (by rfl)) ?_
  refine WO.op rfl rfl rfl rfl (pk_f rfl rfl rfl) ?_
  refine WO.nil ?_
  refine W.condF rfl ?_
  refine W.skip ?_
  refine W.seq ?_
  refine W.seq ?_
  refine W.to [(0, _), (1, _), (2, _), (3, _), (6, _), (7, _), (8, _), (9, _), (10, _), (42, _)] [_] rfl ⟨(by exact sh_agg rfl), (by exact sh_im rfl), (by exact sh_im rfl), (by exact sh_ptr rfl), (by exact sh_sc rfl), (by exact sh_im rfl), (by exact sh_sc rfl), (by exact sh_im rfl), (by exact sh_sc rfl), (by exact sh_sc rfl), trivial⟩ ?_
  refine W.region ?_
  refine WO.op rfl rfl rfl rfl (mv_sc rfl) ?_
  refine WO.op rfl rfl rfl rfl (step_int2 rfl rfl rfl) ?_
  refine WO.put 44 (.sc (.bool false)) (by kernel_rfl) ?_
  refine WO.nil ?_
  refine W.condF rfl ?_
  refine W.skip ?_
  refine W.seq ?_
  refine W.to [(0, _), (1, _), (2, _), (3, _), (6, _), (7, _), (8, _), (9, _), (10, _), (42, _), (44, _)] [_] rfl ⟨(by exact sh_agg rfl), (by exact sh_im rfl), (by exact sh_im rfl), (by exact sh_ptr rfl), (by exact sh_sc rfl), (by exact sh_im rfl), (by exact sh_sc rfl), (by exact sh_im rfl), (by exact sh_sc rfl), (by exact sh_sc rfl), (by exact sh_sc rfl), trivial⟩ ?_
  refine W.region ?_
  refine WO.opA rfl rfl rfl rfl (al_buildSlice Try.runUnderlying22 (z := (Value.int IntKind.u8 0)) (bs := 1) (esz := 1) (EI.mk (by kernel_rfl)) rfl (by decide) rfl rfl) rfl rfl ?_
  refine WO.put 45 (.sl 1 0 _) rfl ?_
  refine WO.op rfl rfl rfl rfl (mv_im rfl) ?_
  refine WO.op rfl rfl rfl rfl (step_appE Try.runUnderlying22 (EI.mk (by kernel_rfl)) Try.runUnderlying22 (.inl ⟨_, rfl⟩) rfl rfl (Src.imB rfl) (by (simp only [List.length_map, List.length_append, List.length_take, List.length_drop, List.length_set, List.length_cons, List.length_nil, List.length_replicate, encB_len, hoz] <;> omega))) ?_
  refine WO.put 47 (.sl 2 0 _) rfl ?_
  refine WO.op rfl rfl rfl rfl (mv_im rfl) ?_
  refine WO.op rfl rfl rfl rfl (step_appB Try.runUnderlying22 (EI.mk (by kernel_rfl)) Try.runUnderlying22 (.inl ⟨_, rfl⟩) rfl rfl (by omega) (Src.imB rfl) (by (simp only [List.length_map, List.length_append, List.length_take, List.length_drop, List.length_set, List.length_cons, List.length_nil, List.length_replicate, encB_len, hoz] <;> omega)) rfl) ?_
  refine WO.put 49 (.sl 3 0 _) rfl ?_
  refine WO.op rfl rfl rfl rfl (mv_im rfl) ?_
  refine WO.op rfl rfl rfl rfl (step_appB Try.runUnderlying22 (EI.mk (by kernel_rfl)) Try.runUnderlying22 (.inl ⟨_, rfl⟩) rfl rfl (by (simp only [List.length_map, List.length_append, List.length_take, List.length_drop, List.length_set, List.length_cons, List.length_nil, List.length_replicate, encB_len, hoz] <;> omega)) (Src.imB rfl) (by (simp only [List.length_map, List.length_append, List.length_take, List.length_drop, List.length_set, List.length_cons, List.length_nil, List.length_replicate, encB_len, hoz] <;> omega)) rfl) ?_
  refine WO.put 51 (.sl 4 0 _) rfl ?_
  refine WO.op rfl rfl rfl rfl (as_sl rfl) ?_
  refine WO.put 11 (.sl 4 0 (20 + a7.size + l.length + m.length)) (congrArg (AV.sl 4 0) (by simp only [encB_len, hoz])) ?_
  refine WO.nil ?_
  refine W.seq ?_
  refine W.to [(0, _), (1, _), (2, _), (3, _), (6, _), (7, _), (8, _), (9, _), (10, _), (11, _), (42, _), (44, _)] [_, _, _, _, _] rfl ⟨(by exact sh_agg rfl), (by exact sh_im rfl), (by exact sh_im rfl), (by exact sh_ptr rfl), (by exact sh_sc rfl), (by exact sh_im rfl), (by exact sh_sc rfl), (by exact sh_im rfl), (by exact sh_sc rfl), (by exact sh_sl rfl), (by exact sh_sc rfl), (by exact sh_sc rfl), trivial⟩ ?_
  refine W.gatC [_, _, _, _] [] _ rfl rfl ?_
  intro L8 hL8
  have hl8 : L8.length = 20 + a7.size + l.length + m.length := by rw [hL8]; simp only [List.length_append, encB_len, hoz]
  refine W.region ?_
  refine WO.op rfl rfl rfl rfl (mv_sl rfl) ?_
  refine WO.op rfl rfl rfl rfl (step_lent Try.call18 rfl (by (repeat (first | exact Bw.nil | refine Bw.slB rfl (by (exact take_whole (by omega))) (by (simp only [List.length_map, List.length_append, List.length_take, List.length_drop, List.length_set, List.length_cons, List.length_nil, List.length_replicate, encB_len, hoz] <;> omega)) ?_))) (w_DecE (X := l ++ m) h0 h3 h4 h1 h2 h5 h6 hs h8 hd (by rw [List.length_append]; omega) (by omega) (by rw [hL8, List.append_assoc])) (by repeat (rfl))) ?_
  refine WO.op rfl rfl rfl rfl (mv_tup rfl) ?_
  refine WO.op rfl rfl rfl rfl (step_extract rfl rfl) ?_
  refine WO.op rfl rfl rfl rfl (step_extract rfl rfl) ?_
  refine WO.op rfl rfl rfl rfl (step_extract rfl rfl) ?_
  refine WO.op rfl rfl rfl rfl (step_extract rfl rfl) ?_
  refine WO.opA rfl rfl rfl rfl (al_alloc Try.zeroValue31) rfl rfl ?_
  refine WO.put 12 (.ptr 5 0) rfl ?_
  refine WO.op0 rfl rfl rfl (step_storeA Try.sizeOf31 rfl rfl rfl (by repeat (exact all_cell rfl rfl)) rfl rfl) ?_
  refine WO.op rfl rfl rfl rfl (as_sc rfl) ?_
  refine WO.op rfl rfl rfl rfl (as_sc rfl) ?_
  refine WO.op rfl rfl rfl rfl (as_sc rfl) ?_
  refine WO.nil ?_
  refine W.seq ?_
  refine W.to [(0, _), (1, _), (2, _), (3, _), (6, _), (7, _), (8, _), (9, _), (10, _), (11, _), (12, _), (13, _), (14, _), (42, _), (44, _)] [_, _, _, _, _, _] rfl ⟨(by exact sh_agg rfl), (by exact sh_im rfl), (by exact sh_im rfl), (by exact sh_ptr rfl), (by exact sh_sc rfl), (by exact sh_im rfl), (by exact sh_sc rfl), (by exact sh_im rfl), (by exact sh_sc rfl), (by exact sh_sl rfl), (by exact sh_ptr rfl), (by exact sh_sc rfl), (by exact sh_sc rfl), (by exact sh_sc rfl), (by exact sh_sc rfl), trivial⟩ ?_
  refine W.region ?_
  refine WO.op rfl rfl rfl rfl (mv_sc rfl) ?_
  refine WO.op rfl rfl rfl rfl (step_int2 rfl rfl rfl) ?_
  refine WO.put 60 (.sc (.bool true)) (by kernel_rfl) ?_
  refine WO.op rfl rfl rfl rfl (mv_sc rfl) ?_
  refine WO.op rfl rfl rfl rfl (step_loadA Try.isAgg31 Try.sizeOf31 rfl rfl (by exact Nat.le_refl _)) ?_
  refine WO.put 62 (.agg ((ipV a0 a1 a2 a3 a4 a5 a6 a7).map AV.sc)) (by kernel_rfl) ?_
  refine WO.op rfl rfl rfl rfl (step_loadA Try.isAgg31 Try.sizeOf31 rfl rfl (by exact Nat.le_refl _)) ?_
  refine WO.put 63 (.agg ((ipV a0 a1 a2 a3 a4 a5 a6 a7).map AV.sc)) (by kernel_rfl) ?_
  refine WO.op rfl rfl rfl rfl (eq_Ip (a0 := a0) (a1 := a1) (a2 := a2) (a3 := a3) (a4 := a4) (a5 := a5) (a6 := a6) (a7 := a7) (by constructor <;> omega) (by constructor <;> omega) (by constructor <;> omega) (by constructor <;> omega) (by constructor <;> omega) (by constructor <;> omega) (by constructor <;> omega) (by omega) rfl rfl) ?_
  refine WO.put 64 (.sc (.bool true)) (rfl) ?_
  refine WO.op rfl rfl rfl rfl (pk_t rfl rfl rfl) ?_
  refine WO.op rfl rfl rfl rfl (mv_sc rfl) ?_
  refine WO.op rfl rfl rfl rfl (mv_sc rfl) ?_
  refine WO.op rfl rfl rfl rfl (mv_im rfl) ?_
  refine WO.op rfl rfl rfl rfl (step_lenB Try.runUnderlying22 rfl) ?_
  refine WO.op rfl rfl rfl rfl (step_int2 rfl rfl rfl) ?_
  refine WO.put 70 (.sc (.bool true)) (congrArg (fun b : Bool => AV.sc (.bool b)) (by simp [encB_len, hoz])) ?_
  refine WO.op rfl rfl rfl rfl (pk_t rfl rfl rfl) ?_
  refine WO.op rfl rfl rfl rfl (mv_sc rfl) ?_
  refine WO.op rfl rfl rfl rfl (mv_sc rfl) ?_
  refine WO.op rfl rfl rfl rfl (mv_im rfl) ?_
  refine WO.op rfl rfl rfl rfl (step_lenB Try.runUnderlying22 rfl) ?_
  refine WO.op rfl rfl rfl rfl (mv_im rfl) ?_
  refine WO.op rfl rfl rfl rfl (step_lenB Try.runUnderlying22 rfl) ?_
  refine WO.op rfl rfl rfl rfl (step_int2 rfl rfl (int2_add (by rfl))) ?_
  refine WO.put 78 (.sc (.int .i64 ((20 + a7.size + l.length : Nat) : Int))) (congrArg (fun z : Int => AV.sc (.int .i64 z)) (by rw [encB_len, hoz]; exact IntWalk.i64_in _ (by omega))) ?_
  refine WO.op rfl rfl rfl rfl (step_int2 rfl rfl rfl) ?_
  refine WO.put 79 (.sc (.bool true)) (congrArg (fun b : Bool => AV.sc (.bool b)) (by simp)) ?_
  refine WO.op rfl rfl rfl rfl (pk_t rfl rfl rfl) ?_
  refine WO.op rfl rfl rfl rfl (as_sc rfl) ?_
  refine WO.nil ?_
  refine W.ret ?_
  refine ⟨.inl rfl, ?_⟩
  trace_state
  exact ret0 (Res.tmp rfl Res.nil) (.keep rfl)

theorem w_IpEncodesX {a0 a1 a2 a3 a4 a5 a6 : Int} {l m : List UInt8} {a7 : ByteArray} (hz : a7.size ≤ 200000000000000) (hl : l.length ≤ 140737488351232) (h : ¬ encOK a0 a1 a2 a3 a4 a7 (l.length : Int)) : Spec0 Try.prog 6 [.agg [.sc (.int .i64 a0), .sc (.int .i64 a1), .sc (.int .i64 a2), .sc (.int .i64 a3), .sc (.int .i64 a4), .sc (.int .u32 a5), .sc (.int .u32 a6), .sc (.string a7)], .im 1 (l.map byteAV), .im 1 (m.map byteAV)] (.sc (.bool true)) := by
  refine Spec.body Try.func6 rfl (Nat.le_of_ble_eq_true rfl) ?_
  refine W.seq ?_
  refine W.region ?_
  refine WO.opA rfl rfl rfl rfl (al_boxA rfl rfl) rfl rfl ?_
  refine WO.put 3 (.ptr 0 0) rfl ?_
  refine WO.op rfl rfl rfl rfl (as_sc rfl) ?_
  refine WO.nil ?_
  refine W.seq ?_
  refine W.to [(0, _), (1, _), (2, _), (3, _), (6, _)] [_] rfl ⟨(by exact sh_agg rfl), (by exact sh_im rfl), (by exact sh_im rfl), (by exact sh_ptr rfl), (by exact sh_sc rfl), trivial⟩ ?_
  refine W.region ?_
  refine WO.op rfl rfl rfl rfl (step_loadA Try.isAgg31 Try.sizeOf31 rfl rfl (by exact Nat.le_refl _)) ?_
  refine WO.op rfl rfl rfl rfl (mv_im rfl) ?_
  refine WO.op rfl rfl rfl rfl (step_lenB Try.runUnderlying22 rfl) ?_
  refine WO.op rfl rfl rfl rfl (step_pure Try.call12 rfl (by (repeat (first | exact Nl.nil | refine Nl.keep (by rfl) ?_))) (w_EncX hz (by omega) h) (by repeat (first | with_reducible exact noOwn_im | with_reducible refine noOwn_tup ?_ | with_reducible exact noOwnL_nil | with_reducible refine noOwnL_cons ?_ ?_ | rfl))) ?_
  refine WO.op rfl rfl rfl rfl (mv_tup rfl) ?_
  refine WO.op rfl rfl rfl rfl (step_extract rfl rfl) ?_
  refine WO.op rfl rfl rfl rfl (step_extract rfl rfl) ?_
  refine WO.op rfl rfl rfl rfl (as_im rfl) ?_
  refine WO.op rfl rfl rfl rfl (as_sc rfl) ?_
  refine WO.nil ?_
  refine W.seq ?_
  refine W.to [(0, _), (1, _), (2, _), (3, _), (6, _), (7, _), (8, _)] [_] rfl ⟨(by exact sh_agg rfl), (by exact sh_im rfl), (by exact sh_im rfl), (by exact sh_ptr rfl), (by exact sh_sc rfl), (by exact sh_im rfl), (by exact sh_sc rfl), trivial⟩ ?_
  refine W.region ?_
  refine WO.op rfl rfl rfl rfl (step_loadA Try.isAgg31 Try.sizeOf31 rfl rfl (by exact Nat.le_refl _)) ?_
  refine WO.op rfl rfl rfl rfl (mv_im rfl) ?_
  refine WO.op rfl rfl rfl rfl (step_lenB Try.runUnderlying22 rfl) ?_
  refine WO.op rfl rfl rfl rfl (step_pure Try.call13 rfl (by (repeat (first | exact Nl.nil | refine Nl.keep (by rfl) ?_))) (w_refEncX hz (by omega) h) (by repeat (first | with_reducible exact noOwn_im | with_reducible refine noOwn_tup ?_ | with_reducible exact noOwnL_nil | with_reducible refine noOwnL_cons ?_ ?_ | rfl))) ?_
  refine WO.op rfl rfl rfl rfl (mv_tup rfl) ?_
  refine WO.op rfl rfl rfl rfl (step_extract rfl rfl) ?_
  refine WO.op rfl rfl rfl rfl (step_extract rfl rfl) ?_
  refine WO.op rfl rfl rfl rfl (as_im rfl) ?_
  refine WO.op rfl rfl rfl rfl (as_sc rfl) ?_
  refine WO.nil ?_
  refine W.seq ?_
  refine W.seq ?_
  refine W.to [(0, _), (1, _), (2, _), (3, _), (6, _), (7, _), (8, _), (9, _), (10, _)] [_] rfl ⟨(by exact sh_agg rfl), (by exact sh_im rfl), (by exact sh_im rfl), (by exact sh_ptr rfl), (by exact sh_sc rfl), (by exact sh_im rfl), (by exact sh_sc rfl), (by exact sh_im rfl), (by exact sh_sc rfl), trivial⟩ ?_
  refine W.region ?_
  refine WO.op rfl rfl rfl rfl (step_pure Try.call10 rfl (by (repeat (exact Nl.nil))) (w_lives) (by repeat (rfl))) ?_
  refine WO.op rfl rfl rfl rfl (step_not rfl) ?_
  refine WO.put 30 (.sc (.bool false)) (rfl) ?_
  refine WO.op rfl rfl rfl rfl (mv_sc rfl) ?_
  refine WO.op rfl rfl rfl rfl (mv_im rfl) ?_
  refine WO.op rfl rfl rfl rfl (step_strI Try.underlying22 Try.underlying5 Try.underlying9 rfl) ?_
  refine WO.op rfl rfl rfl rfl (mv_im rfl) ?_
  refine WO.op rfl rfl rfl rfl (step_strI Try.underlying22 Try.underlying5 Try.underlying9 rfl) ?_
  refine WO.op rfl rfl rfl rfl (step_str2 rfl rfl rfl) ?_
  refine WO.put 36 (.sc (.bool false)) (congrArg (fun b : Bool => AV.sc (.bool b)) (by simp)) ?_
  refine WO.op rfl rfl rfl rfl (pk_f rfl rfl rfl) ?_
  refine WO.op rfl rfl rfl rfl (mv_sc rfl) ?_
  refine WO.op rfl rfl rfl rfl (mv_sc rfl) ?_
  refine WO.op rfl rfl rfl rfl (mv_sc rfl) ?_
  refine WO.op rfl rfl rfl rfl (step_int2 rfl rfl rfl) ?_
  refine WO.put 41 (.sc (.bool false)) (congrArg (fun b : Bool => AV.sc (.bool b)) (by rfl)) ?_
  refine WO.op rfl rfl rfl rfl (pk_f rfl rfl rfl) ?_
  refine WO.nil ?_
  refine W.condF rfl ?_
  refine W.skip ?_
  refine W.seq ?_
  refine W.seq ?_
  refine W.to [(0, _), (1, _), (2, _), (3, _), (6, _), (7, _), (8, _), (9, _), (10, _), (42, _)] [_] rfl ⟨(by exact sh_agg rfl), (by exact sh_im rfl), (by exact sh_im rfl), (by exact sh_ptr rfl), (by exact sh_sc rfl), (by exact sh_im rfl), (by exact sh_sc rfl), (by exact sh_im rfl), (by exact sh_sc rfl), (by exact sh_sc rfl), trivial⟩ ?_
  refine W.region ?_
  refine WO.op rfl rfl rfl rfl (mv_sc rfl) ?_
  refine WO.op rfl rfl rfl rfl (step_int2 rfl rfl rfl) ?_
  refine WO.put 44 (.sc (.bool true)) (by kernel_rfl) ?_
  refine WO.nil ?_
  refine W.condT rfl ?_
  refine W.seq ?_
  refine W.to [(0, _), (1, _), (2, _), (3, _), (6, _), (7, _), (8, _), (9, _), (10, _), (42, _), (44, _)] [_] rfl ⟨(by exact sh_agg rfl), (by exact sh_im rfl), (by exact sh_im rfl), (by exact sh_ptr rfl), (by exact sh_sc rfl), (by exact sh_im rfl), (by exact sh_sc rfl), (by exact sh_im rfl), (by exact sh_sc rfl), (by exact sh_sc rfl), (by exact sh_sc rfl), trivial⟩ ?_
  refine W.region ?_
  refine WO.op rfl rfl rfl rfl (as_sc rfl) ?_
  refine WO.nil ?_
  refine W.ret ?_
  refine ⟨.inl rfl, ?_⟩
  exact ret0 (Res.tmp rfl Res.nil) (.keep rfl)


theorem w_IpEncodes {a0 a1 a2 a3 a4 a5 a6 : Int} {a7 : ByteArray} {l m : List UInt8} (hz : a7.size ≤ 200000000000000) (hl : l.length ≤ 140737488351232) (hm : m.length ≤ 140737488351232) (g5 : 0 ≤ a5 ∧ a5 < 4294967296) (g6 : 0 ≤ a6 ∧ a6 < 4294967296) :
    Spec0 Try.prog 6 [.agg [.sc (.int .i64 a0), .sc (.int .i64 a1), .sc (.int .i64 a2), .sc (.int .i64 a3), .sc (.int .i64 a4), .sc (.int .u32 a5), .sc (.int .u32 a6), .sc (.string a7)], .im 1 (l.map byteAV), .im 1 (m.map byteAV)] (.sc (.bool true)) := by
  by_cases h : encOK a0 a1 a2 a3 a4 a7 (l.length : Int)
  · obtain ⟨h0, h3, h4, h1, h2, h5, h6, h7⟩ := h
    obtain ⟨b0, rfl⟩ := Int.eq_ofNat_of_zero_le h0.1
    obtain ⟨b1, rfl⟩ := Int.eq_ofNat_of_zero_le h1.1
    obtain ⟨b2, rfl⟩ := Int.eq_ofNat_of_zero_le h2.1
    obtain ⟨b3, rfl⟩ := Int.eq_ofNat_of_zero_le h3.1
    obtain ⟨b4, rfl⟩ := Int.eq_ofNat_of_zero_le h4.1
    obtain ⟨b5, rfl⟩ := Int.eq_ofNat_of_zero_le g5.1
    obtain ⟨b6, rfl⟩ := Int.eq_ofNat_of_zero_le g6.1
    exact w_IpEncodesG (by omega) (by omega) (by omega) (by omega) (by omega) (by omega) (by omega) h5 h6 (by omega) hm
  · exact w_IpEncodesX hz hl h

end Go.Proofs.Ytejoccabclibeaa
