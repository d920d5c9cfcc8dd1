/-
  Contracts of functions of chapter 04: each theorem says what a call of one function answers, for all arguments that its hypotheses let in.
-/
import Derived.Test.YtdmlkcphlidcfaaW4d
set_option linter.unusedVariables false
set_option linter.unusedSimpArgs false
set_option maxRecDepth 100000
set_option maxHeartbeats 1000000
namespace Go.Proofs.Ytdmlkcphlidcfaa
open Go Go.SL Go.Proofs

/-- A datagram's bytes, its sum not yet in place. -/
def udp0 (sp dp : Nat) (o : List UInt8) : List UInt8 := put2 (put2 (put2 (List.replicate 8 0 ++ o) 0 sp) 2 dp) 4 (8 + o.length)
theorem udp0_len (sp dp : Nat) (o : List UInt8) : (udp0 sp dp o).length = 8 + o.length := by simp [udp0, put2_len]; omega
def udpC (src dst sp dp : Nat) (o : List UInt8) : Nat := 65535 - fo (psu src dst 17 (udp0 sp dp o).length + ws (udp0 sp dp o) (udp0 sp dp o).length)

theorem w_EncU1 {src dst sp dp : Nat} {da : ByteArray} (hsrc : src < 4294967296) (hdst : dst < 4294967296) (hsp : sp ≤ 65535) (hdp : dp ≤ 65535) (hda : da.size ≤ 65507) : Spec0 Try.prog 11 [.sc (.int .u32 ((src : Nat) : Int)), .sc (.int .u32 ((dst : Nat) : Int)), .agg [.sc (.int .i64 2), .sc (.int .i64 0), .sc (.int .i64 0), .sc (.int .u32 0), .sc (.int .i64 ((sp : Nat) : Int)), .sc (.int .i64 ((dp : Nat) : Int)), .sc (.bool true), .sc (.int .u32 0), .sc (.int .u32 0), .sc (.int .i64 0), .sc (.int .i64 0), .sc (.int .i64 0), .sc (.string ⟨#[]⟩), .sc (.string da)]] (.tup [.im 1 ((udp0 sp dp da.data.toList).map byteAV), .sc (.int .i64 0)]) := by
  refine Spec.body Try.func11 rfl (Nat.le_of_ble_eq_true rfl) ?_
  have hoz : da.data.toList.length = da.size := by rw [Array.length_toList]; rfl
  refine W.seq ?_
  refine W.region ?_
  refine WO.opA rfl rfl rfl rfl (al_boxA rfl rfl) rfl rfl ?_
  refine WO.put 5 (.ptr 0 0) rfl ?_
  refine WO.op rfl rfl rfl rfl (as_nil rfl) ?_
  refine WO.op rfl rfl rfl rfl (as_sc rfl) ?_
  refine WO.nil ?_
  refine W.seq ?_
  refine W.seq ?_
  refine W.to [(0, _), (1, _), (2, _), (5, _), (6, _), (7, _)] [_] rfl ⟨(by exact sh_sc rfl), (by exact sh_sc rfl), (by exact sh_agg rfl), (by exact sh_ptr rfl), (by exact sh_nil rfl), (by exact sh_sc rfl), trivial⟩ ?_
  refine W.region ?_
  refine WO.op rfl rfl rfl rfl (step_loadA Try.isAgg25 Try.sizeOf25 rfl rfl (by exact Nat.le_refl _)) ?_
  refine WO.put 14 (.agg [.sc (.int .i64 2), .sc (.int .i64 0), .sc (.int .i64 0), .sc (.int .u32 0), .sc (.int .i64 ((sp : Nat) : Int)), .sc (.int .i64 ((dp : Nat) : Int)), .sc (.bool true), .sc (.int .u32 0), .sc (.int .u32 0), .sc (.int .i64 0), .sc (.int .i64 0), .sc (.int .i64 0), .sc (.string ⟨#[]⟩), .sc (.string da)]) (by kernel_rfl) ?_
  refine WO.op rfl rfl rfl rfl (step_pure Try.call13 rfl (by (repeat (first | exact Nl.nil | refine Nl.keep (by rfl) ?_))) (w_Chk2 hsp hdp hda) (by repeat (rfl))) ?_
  refine WO.op rfl rfl rfl rfl (as_sc rfl) ?_
  refine WO.nil ?_
  refine W.seq ?_
  refine W.to [(0, _), (1, _), (2, _), (5, _), (6, _), (7, _), (8, _)] [_] rfl ⟨(by exact sh_sc rfl), (by exact sh_sc rfl), (by exact sh_agg rfl), (by exact sh_ptr rfl), (by exact sh_nil rfl), (by exact sh_sc rfl), (by exact sh_sc rfl), trivial⟩ ?_
  refine W.region ?_
  refine WO.op rfl rfl rfl rfl (mv_sc rfl) ?_
  refine WO.op rfl rfl rfl rfl (step_int2 rfl rfl rfl) ?_
  refine WO.put 17 (.sc (.bool false)) (by kernel_rfl) ?_
  refine WO.nil ?_
  refine W.condF rfl ?_
  refine W.skip ?_
  refine W.seq ?_
  refine W.to [(0, _), (1, _), (2, _), (5, _), (6, _), (7, _), (8, _), (17, _)] [_] rfl ⟨(by exact sh_sc rfl), (by exact sh_sc rfl), (by exact sh_agg rfl), (by exact sh_ptr rfl), (by exact sh_nil rfl), (by exact sh_sc rfl), (by exact sh_sc rfl), (by exact sh_sc rfl), trivial⟩ ?_
  refine W.region ?_
  refine WO.op rfl rfl rfl rfl (step_loadA Try.isAgg25 Try.sizeOf25 rfl rfl (by exact Nat.le_refl _)) ?_
  refine WO.put 20 (.agg [.sc (.int .i64 2), .sc (.int .i64 0), .sc (.int .i64 0), .sc (.int .u32 0), .sc (.int .i64 ((sp : Nat) : Int)), .sc (.int .i64 ((dp : Nat) : Int)), .sc (.bool true), .sc (.int .u32 0), .sc (.int .u32 0), .sc (.int .i64 0), .sc (.int .i64 0), .sc (.int .i64 0), .sc (.string ⟨#[]⟩), .sc (.string da)]) (by kernel_rfl) ?_
  refine WO.op rfl rfl rfl rfl (step_pure Try.call26 rfl (by (repeat (first | exact Nl.nil | refine Nl.keep (by rfl) ?_))) (w_own2) (by repeat (first | with_reducible refine noOwn_tup ?_ | with_reducible refine noOwn_agg ?_ | with_reducible exact noOwnL_nil | with_reducible refine noOwnL_cons ?_ ?_ | rfl))) ?_
  refine WO.op rfl rfl rfl rfl (mv_tup rfl) ?_
  refine WO.op rfl rfl rfl rfl (step_extract rfl rfl) ?_
  refine WO.put 22 (.agg [.sc (.int .i64 2), .sc (.int .i64 0), .sc (.int .i64 0), .sc (.int .u32 0), .sc (.int .i64 ((sp : Nat) : Int)), .sc (.int .i64 ((dp : Nat) : Int)), .sc (.bool true), .sc (.int .u32 0), .sc (.int .u32 0), .sc (.int .i64 0), .sc (.int .i64 0), .sc (.int .i64 0), .sc (.string ⟨#[]⟩), .sc (.string da)]) (by kernel_rfl) ?_
  refine WO.op rfl rfl rfl rfl (step_extract rfl rfl) ?_
  refine WO.op rfl rfl rfl rfl (step_extract rfl rfl) ?_
  refine WO.opA rfl rfl rfl rfl (al_alloc Try.zeroValue25) rfl rfl ?_
  refine WO.put 9 (.ptr 1 0) rfl ?_
  refine WO.op0 rfl rfl rfl (step_storeA Try.sizeOf25 rfl rfl rfl (by repeat (exact all_cell rfl rfl)) rfl rfl) ?_
  refine WO.op rfl rfl rfl rfl (as_sc rfl) ?_
  refine WO.op rfl rfl rfl rfl (as_sc rfl) ?_
  refine WO.nil ?_
  refine W.seq ?_
  refine W.to [(0, _), (1, _), (2, _), (5, _), (6, _), (7, _), (8, _), (10, _), (17, _)] [_, _] rfl ⟨(by exact sh_sc rfl), (by exact sh_sc rfl), (by exact sh_agg rfl), (by exact sh_ptr rfl), (by exact sh_nil rfl), (by exact sh_sc rfl), (by exact sh_sc rfl), (by exact sh_sc rfl), (by exact sh_sc rfl), trivial⟩ ?_
  refine W.draw (Checked.mixed Try.checked) ?_
  refine DC.op rfl rfl rfl (fun _ => mv_sc rfl) ?_
  refine DC.opE rfl rfl rfl (step_makeB Try.runUnderlying23 (EI.mk (by kernel_rfl)) rfl rfl (by (exact rfl)) (by (exact rfl)) (by (simp only [List.length_map, List.length_append, List.length_take, List.length_drop, List.length_set, List.length_cons, List.length_nil, List.length_replicate, put2_len, hoz] <;> omega))) (by simp) (by repeat (first | exact True.intro | refine And.intro (by rfl) ?_)) (by repeat (first | exact True.intro | refine And.intro (by rfl) ?_)) ?_
  refine DC.set 26 (.sl 2 0 _) rfl ?_
  refine DC.op1 rfl rfl rfl rfl (fun _ ho => step_fieldR (k := 13) (FieldOff.mk (by kernel_rfl)) rfl ho (by exact Nat.zero_add _)) ?_
  refine DC.op1 rfl rfl rfl rfl (fun _ ho => step_load Try.isAgg9 rfl ho rfl) ?_
  refine DC.opE rfl rfl rfl (step_appB Try.runUnderlying23 (EI.mk (by kernel_rfl)) Try.runUnderlying9 (.inr rfl) rfl rfl (by (simp only [List.length_map, List.length_append, List.length_take, List.length_drop, List.length_set, List.length_cons, List.length_nil, List.length_replicate, put2_len, hoz] <;> omega)) (Src.str rfl) (by (simp only [List.length_map, List.length_append, List.length_take, List.length_drop, List.length_set, List.length_cons, List.length_nil, List.length_replicate, put2_len, hoz] <;> omega)) rfl) (by simp) (by repeat (first | exact True.intro | refine And.intro (by rfl) ?_)) (by repeat (first | exact True.intro | refine And.intro (by first | exact rowLt_bytes | rfl) ?_)) ?_
  refine DC.set 29 (.sl 3 0 _) rfl ?_
  refine DC.op rfl rfl rfl (fun _ => as_sl rfl) ?_
  refine DC.set 12 (.sl 3 0 (8 + da.size)) (congrArg (AV.sl 3 0) (by rfl)) ?_
  refine DC.fin [(2, 0), (2, 1), (3, 0), (3, 1)] (by kernel_rfl) (by kernel_rfl) ?_ ?_
  · repeat (first | exact True.intro | refine And.intro ?_ ?_ | kernel_rfl)
  · refine W.seq ?_
    refine W.seq ?_
    refine W.to [(0, _), (1, _), (2, _), (5, _), (6, _), (7, _), (8, _), (10, _), (12, _), (17, _)] [_, _, _, _] rfl ⟨(by exact sh_sc rfl), (by exact sh_sc rfl), (by exact sh_agg rfl), (by exact sh_ptr rfl), (by exact sh_nil rfl), (by exact sh_sc rfl), (by exact sh_sc rfl), (by exact sh_sc rfl), (by exact sh_sl rfl), (by exact sh_sc rfl), trivial⟩ ?_
    refine W.region ?_
    refine WO.op rfl rfl rfl rfl (step_fieldR (k := 0) (FieldOff.mk (by kernel_rfl)) rfl rfl (by exact Nat.zero_add _)) ?_
    refine WO.op rfl rfl rfl rfl (step_load Try.isAgg3 rfl rfl rfl) ?_
    refine WO.nil ?_
    refine W.block ?_
    refine W.seq ?_
    refine W.to [(0, _), (1, _), (2, _), (5, _), (6, _), (7, _), (8, _), (10, _), (12, _), (17, _), (31, _)] [_, _, _, _] rfl ⟨(by exact sh_sc rfl), (by exact sh_sc rfl), (by exact sh_agg rfl), (by exact sh_ptr rfl), (by exact sh_nil rfl), (by exact sh_sc rfl), (by exact sh_sc rfl), (by exact sh_sc rfl), (by exact sh_sl rfl), (by exact sh_sc rfl), (by exact sh_sc rfl), trivial⟩ ?_
    refine W.region ?_
    refine WO.op rfl rfl rfl rfl (step_int2 rfl rfl rfl) ?_
    refine WO.put 33 (.sc (.bool false)) (by kernel_rfl) ?_
    refine WO.op rfl rfl rfl rfl (as_sc rfl) ?_
    refine WO.nil ?_
    refine W.condF rfl ?_
    refine W.seq ?_
    refine W.to [(0, _), (1, _), (2, _), (5, _), (6, _), (7, _), (8, _), (10, _), (12, _), (17, _), (31, _), (32, _)] [_, _, _, _] rfl ⟨(by exact sh_sc rfl), (by exact sh_sc rfl), (by exact sh_agg rfl), (by exact sh_ptr rfl), (by exact sh_nil rfl), (by exact sh_sc rfl), (by exact sh_sc rfl), (by exact sh_sc rfl), (by exact sh_sl rfl), (by exact sh_sc rfl), (by exact sh_sc rfl), (by exact sh_sc rfl), trivial⟩ ?_
    refine W.region ?_
    refine WO.op rfl rfl rfl rfl (step_int2 rfl rfl rfl) ?_
    refine WO.put 54 (.sc (.bool true)) (by kernel_rfl) ?_
    refine WO.op rfl rfl rfl rfl (as_sc rfl) ?_
    refine WO.nil ?_
    refine W.condT rfl ?_
    refine W.seq ?_
    refine W.to [(0, _), (1, _), (2, _), (5, _), (6, _), (7, _), (8, _), (10, _), (12, _), (17, _), (31, _), (32, _), (53, _)] [_, _, _, _] rfl ⟨(by exact sh_sc rfl), (by exact sh_sc rfl), (by exact sh_agg rfl), (by exact sh_ptr rfl), (by exact sh_nil rfl), (by exact sh_sc rfl), (by exact sh_sc rfl), (by exact sh_sc rfl), (by exact sh_sl rfl), (by exact sh_sc rfl), (by exact sh_sc rfl), (by exact sh_sc rfl), (by exact sh_sc rfl), trivial⟩ ?_
    refine W.gatC [_, _, _] [] _ rfl rfl ?_
    intro L12 hL12
    have hl12 : L12.length = 8 + da.size := by rw [hL12]; simp only [put2_len, List.length_append, List.length_replicate, hoz, hoz] <;> omega
    refine W.region ?_
    refine WO.op rfl rfl rfl rfl (mv_sl rfl) ?_
    refine WO.op rfl rfl rfl rfl (step_fieldR (k := 4) (FieldOff.mk (by kernel_rfl)) rfl rfl (by exact Nat.zero_add _)) ?_
    refine WO.op rfl rfl rfl rfl (step_load Try.isAgg3 rfl rfl rfl) ?_
    refine WO.op rfl rfl rfl rfl (step_over Try.call28 rfl rfl rfl noOwn_bytes noOwn_bytes rfl (w_put (i := 0) (by omega) (by omega) (by omega) (by omega))) ?_
    refine WO.nil ?_
    refine W.seq ?_
    refine W.to [(0, _), (1, _), (2, _), (5, _), (6, _), (7, _), (8, _), (10, _), (12, _), (17, _), (31, _), (32, _), (53, _)] [_, _, _, _] rfl ⟨(by exact sh_sc rfl), (by exact sh_sc rfl), (by exact sh_agg rfl), (by exact sh_ptr rfl), (by exact sh_nil rfl), (by exact sh_sc rfl), (by exact sh_sc rfl), (by exact sh_sc rfl), (by exact sh_sl rfl), (by exact sh_sc rfl), (by exact sh_sc rfl), (by exact sh_sc rfl), (by exact sh_sc rfl), trivial⟩ ?_
    refine W.gatC [_, _, _] [] _ rfl rfl ?_
    intro L13 hL13
    have hl13 : L13.length = 8 + da.size := by rw [hL13]; simp only [put2_len, List.length_append, List.length_replicate, hoz, hl12] <;> omega
    refine W.region ?_
    refine WO.op rfl rfl rfl rfl (mv_sl rfl) ?_
    refine WO.op rfl rfl rfl rfl (step_fieldR (k := 5) (FieldOff.mk (by kernel_rfl)) rfl rfl (by exact Nat.zero_add _)) ?_
    refine WO.op rfl rfl rfl rfl (step_load Try.isAgg3 rfl rfl rfl) ?_
    refine WO.op rfl rfl rfl rfl (step_over Try.call28 rfl rfl rfl noOwn_bytes noOwn_bytes rfl (w_put (i := 2) (by omega) (by omega) (by omega) (by omega))) ?_
    refine WO.nil ?_
    refine W.seq ?_
    refine W.to [(0, _), (1, _), (2, _), (5, _), (6, _), (7, _), (8, _), (10, _), (12, _), (17, _), (31, _), (32, _), (53, _)] [_, _, _, _] rfl ⟨(by exact sh_sc rfl), (by exact sh_sc rfl), (by exact sh_agg rfl), (by exact sh_ptr rfl), (by exact sh_nil rfl), (by exact sh_sc rfl), (by exact sh_sc rfl), (by exact sh_sc rfl), (by exact sh_sl rfl), (by exact sh_sc rfl), (by exact sh_sc rfl), (by exact sh_sc rfl), (by exact sh_sc rfl), trivial⟩ ?_
    refine W.gatC [_, _, _] [] _ rfl rfl ?_
    intro L14 hL14
    have hl14 : L14.length = 8 + da.size := by rw [hL14]; simp only [put2_len, List.length_append, List.length_replicate, hoz, hl12, hl13] <;> omega
    refine W.region ?_
    refine WO.op rfl rfl rfl rfl (mv_sl rfl) ?_
    refine WO.op rfl rfl rfl rfl (mv_sl rfl) ?_
    refine WO.op rfl rfl rfl rfl (step_lenL Try.runUnderlying23 rfl rfl) ?_
    refine WO.op rfl rfl rfl rfl (step_over Try.call28 rfl rfl rfl noOwn_bytes noOwn_bytes rfl (w_put (i := 4) (by omega) (by omega) (by omega) (by omega))) ?_
    refine WO.nil ?_
    refine W.seq ?_
    refine W.to [(0, _), (1, _), (2, _), (5, _), (6, _), (7, _), (8, _), (10, _), (12, _), (17, _), (31, _), (32, _), (53, _)] [_, _, _, _] rfl ⟨(by exact sh_sc rfl), (by exact sh_sc rfl), (by exact sh_agg rfl), (by exact sh_ptr rfl), (by exact sh_nil rfl), (by exact sh_sc rfl), (by exact sh_sc rfl), (by exact sh_sc rfl), (by exact sh_sl rfl), (by exact sh_sc rfl), (by exact sh_sc rfl), (by exact sh_sc rfl), (by exact sh_sc rfl), trivial⟩ ?_
    refine W.gatC [_, _, _] [] _ rfl rfl ?_
    intro L15 hL15
    have hl15 : L15.length = 8 + da.size := by rw [hL15]; simp only [put2_len, List.length_append, List.length_replicate, hoz, hl12, hl13, hl14] <;> omega
    have e15 : udp0 sp dp da.data.toList = L15 := by rw [hL15, hL14, hL13, hL12]; unfold udp0; rw [hoz]
    have hf := fo_le (psu src dst 17 L15.length + ws L15 L15.length)
    have hC : udpC src dst sp dp da.data.toList = 65535 - fo (psu src dst 17 L15.length + ws L15 L15.length) := by unfold udpC; rw [e15]
    refine W.region ?_
    refine WO.op rfl rfl rfl rfl (mv_sc rfl) ?_
    refine WO.op rfl rfl rfl rfl (mv_sc rfl) ?_
    refine WO.op rfl rfl rfl rfl (mv_sl rfl) ?_
    refine WO.op rfl rfl rfl rfl (step_lent Try.call21 rfl (by (repeat (first | exact Bw.nil | refine Bw.keep (by rfl) ?_ | refine Bw.slB rfl (by (exact take_whole (by omega))) (by (simp only [List.length_map, List.length_append, List.length_take, List.length_drop, List.length_set, List.length_cons, List.length_nil, List.length_replicate, put2_len, hoz] <;> omega)) ?_))) (w_whole hsrc hdst (by decide) (by omega)) (by repeat (rfl))) ?_
    refine WO.op rfl rfl rfl rfl (step_not16 rfl (by omega)) ?_
    refine WO.op rfl rfl rfl rfl (as_sc rfl) ?_
    refine WO.nil ?_
    refine W.seq ?_
    refine W.to [(0, _), (1, _), (2, _), (5, _), (6, _), (7, _), (8, _), (10, _), (12, _), (13, _), (17, _), (31, _), (32, _), (53, _)] [_, _, _, _] rfl ⟨(by exact sh_sc rfl), (by exact sh_sc rfl), (by exact sh_agg rfl), (by exact sh_ptr rfl), (by exact sh_nil rfl), (by exact sh_sc rfl), (by exact sh_sc rfl), (by exact sh_sc rfl), (by exact sh_sl rfl), (by exact sh_sc rfl), (by exact sh_sc rfl), (by exact sh_sc rfl), (by exact sh_sc rfl), (by exact sh_sc rfl), trivial⟩ ?_
    refine W.region ?_
    refine WO.op rfl rfl rfl rfl (step_fieldR (k := 6) (FieldOff.mk (by kernel_rfl)) rfl rfl (by exact Nat.zero_add _)) ?_
    refine WO.op rfl rfl rfl rfl (step_load Try.isAgg4 rfl rfl rfl) ?_
    refine WO.op rfl rfl rfl rfl (step_not rfl) ?_
    refine WO.put 74 (.sc (.bool false)) (by kernel_rfl) ?_
    refine WO.op rfl rfl rfl rfl (mv_sc rfl) ?_
    refine WO.sk rfl rfl rfl rfl ?_
    refine WO.sk rfl rfl rfl rfl ?_
    refine WO.op rfl rfl rfl rfl (pk_f rfl rfl rfl) ?_
    refine WO.nil ?_
    refine W.condF rfl ?_
    refine W.seq ?_
    refine W.to [(0, _), (1, _), (2, _), (5, _), (6, _), (7, _), (8, _), (10, _), (12, _), (13, _), (17, _), (31, _), (32, _), (53, _), (78, _)] [_, _, _, _] rfl ⟨(by exact sh_sc rfl), (by exact sh_sc rfl), (by exact sh_agg rfl), (by exact sh_ptr rfl), (by exact sh_nil rfl), (by exact sh_sc rfl), (by exact sh_sc rfl), (by exact sh_sc rfl), (by exact sh_sl rfl), (by exact sh_sc rfl), (by exact sh_sc rfl), (by exact sh_sc rfl), (by exact sh_sc rfl), (by exact sh_sc rfl), (by exact sh_sc rfl), trivial⟩ ?_
    refine W.region ?_
    refine WO.op rfl rfl rfl rfl (step_fieldR (k := 6) (FieldOff.mk (by kernel_rfl)) rfl rfl (by exact Nat.zero_add _)) ?_
    refine WO.op rfl rfl rfl rfl (step_load Try.isAgg4 rfl rfl rfl) ?_
    refine WO.op rfl rfl rfl rfl (step_not rfl) ?_
    refine WO.put 83 (.sc (.bool false)) (by kernel_rfl) ?_
    refine WO.nil ?_
    refine W.condF rfl ?_
    refine W.skip ?_
    refine W.seq ?_
    refine W.to [(0, _), (1, _), (2, _), (5, _), (6, _), (7, _), (8, _), (10, _), (12, _), (13, _), (17, _), (31, _), (32, _), (53, _), (78, _), (83, _)] [_, _, _, _] rfl ⟨(by exact sh_sc rfl), (by exact sh_sc rfl), (by exact sh_agg rfl), (by exact sh_ptr rfl), (by exact sh_nil rfl), (by exact sh_sc rfl), (by exact sh_sc rfl), (by exact sh_sc rfl), (by exact sh_sl rfl), (by exact sh_sc rfl), (by exact sh_sc rfl), (by exact sh_sc rfl), (by exact sh_sc rfl), (by exact sh_sc rfl), (by exact sh_sc rfl), (by exact sh_sc rfl), trivial⟩ ?_
    refine W.region ?_
    refine WO.op rfl rfl rfl rfl (mv_sl rfl) ?_
    refine WO.op rfl rfl rfl rfl (as_sl rfl) ?_
    refine WO.op rfl rfl rfl rfl (as_sc rfl) ?_
    refine WO.nil ?_
    refine W.ret ?_
    refine ⟨.inl rfl, ?_⟩
    rw [e15]
    exact ret0 (Res.tmp rfl (Res.tmp rfl Res.nil)) (.tup (.cons (Fz.bytes rfl (Nat.zero_le _) (take_whole (by omega)) (by rw [List.length_map]; omega)) (.cons (.keep rfl) .nil)))

theorem w_EncU2 {src dst sp dp : Nat} {da : ByteArray} (hsrc : src < 4294967296) (hdst : dst < 4294967296) (hsp : sp ≤ 65535) (hdp : dp ≤ 65535) (hda : da.size ≤ 65507) (hc : udpC src dst sp dp da.data.toList = 0) : Spec0 Try.prog 11 [.sc (.int .u32 ((src : Nat) : Int)), .sc (.int .u32 ((dst : Nat) : Int)), .agg [.sc (.int .i64 2), .sc (.int .i64 0), .sc (.int .i64 0), .sc (.int .u32 0), .sc (.int .i64 ((sp : Nat) : Int)), .sc (.int .i64 ((dp : Nat) : Int)), .sc (.bool false), .sc (.int .u32 0), .sc (.int .u32 0), .sc (.int .i64 0), .sc (.int .i64 0), .sc (.int .i64 0), .sc (.string ⟨#[]⟩), .sc (.string da)]] (.tup [.im 1 ((put2 (udp0 sp dp da.data.toList) 6 65535).map byteAV), .sc (.int .i64 0)]) := by
  refine Spec.body Try.func11 rfl (Nat.le_of_ble_eq_true rfl) ?_
  have hoz : da.data.toList.length = da.size := by rw [Array.length_toList]; rfl
  refine W.seq ?_
  refine W.region ?_
  refine WO.opA rfl rfl rfl rfl (al_boxA rfl rfl) rfl rfl ?_
  refine WO.put 5 (.ptr 0 0) rfl ?_
  refine WO.op rfl rfl rfl rfl (as_nil rfl) ?_
  refine WO.op rfl rfl rfl rfl (as_sc rfl) ?_
  refine WO.nil ?_
  refine W.seq ?_
  refine W.seq ?_
  refine W.to [(0, _), (1, _), (2, _), (5, _), (6, _), (7, _)] [_] rfl ⟨(by exact sh_sc rfl), (by exact sh_sc rfl), (by exact sh_agg rfl), (by exact sh_ptr rfl), (by exact sh_nil rfl), (by exact sh_sc rfl), trivial⟩ ?_
  refine W.region ?_
  refine WO.op rfl rfl rfl rfl (step_loadA Try.isAgg25 Try.sizeOf25 rfl rfl (by exact Nat.le_refl _)) ?_
  refine WO.put 14 (.agg [.sc (.int .i64 2), .sc (.int .i64 0), .sc (.int .i64 0), .sc (.int .u32 0), .sc (.int .i64 ((sp : Nat) : Int)), .sc (.int .i64 ((dp : Nat) : Int)), .sc (.bool false), .sc (.int .u32 0), .sc (.int .u32 0), .sc (.int .i64 0), .sc (.int .i64 0), .sc (.int .i64 0), .sc (.string ⟨#[]⟩), .sc (.string da)]) (by kernel_rfl) ?_
  refine WO.op rfl rfl rfl rfl (step_pure Try.call13 rfl (by (repeat (first | exact Nl.nil | refine Nl.keep (by rfl) ?_))) (w_Chk2 hsp hdp hda) (by repeat (rfl))) ?_
  refine WO.op rfl rfl rfl rfl (as_sc rfl) ?_
  refine WO.nil ?_
  refine W.seq ?_
  refine W.to [(0, _), (1, _), (2, _), (5, _), (6, _), (7, _), (8, _)] [_] rfl ⟨(by exact sh_sc rfl), (by exact sh_sc rfl), (by exact sh_agg rfl), (by exact sh_ptr rfl), (by exact sh_nil rfl), (by exact sh_sc rfl), (by exact sh_sc rfl), trivial⟩ ?_
  refine W.region ?_
  refine WO.op rfl rfl rfl rfl (mv_sc rfl) ?_
  refine WO.op rfl rfl rfl rfl (step_int2 rfl rfl rfl) ?_
  refine WO.put 17 (.sc (.bool false)) (by kernel_rfl) ?_
  refine WO.nil ?_
  refine W.condF rfl ?_
  refine W.skip ?_
  refine W.seq ?_
  refine W.to [(0, _), (1, _), (2, _), (5, _), (6, _), (7, _), (8, _), (17, _)] [_] rfl ⟨(by exact sh_sc rfl), (by exact sh_sc rfl), (by exact sh_agg rfl), (by exact sh_ptr rfl), (by exact sh_nil rfl), (by exact sh_sc rfl), (by exact sh_sc rfl), (by exact sh_sc rfl), trivial⟩ ?_
  refine W.region ?_
  refine WO.op rfl rfl rfl rfl (step_loadA Try.isAgg25 Try.sizeOf25 rfl rfl (by exact Nat.le_refl _)) ?_
  refine WO.put 20 (.agg [.sc (.int .i64 2), .sc (.int .i64 0), .sc (.int .i64 0), .sc (.int .u32 0), .sc (.int .i64 ((sp : Nat) : Int)), .sc (.int .i64 ((dp : Nat) : Int)), .sc (.bool false), .sc (.int .u32 0), .sc (.int .u32 0), .sc (.int .i64 0), .sc (.int .i64 0), .sc (.int .i64 0), .sc (.string ⟨#[]⟩), .sc (.string da)]) (by kernel_rfl) ?_
  refine WO.op rfl rfl rfl rfl (step_pure Try.call26 rfl (by (repeat (first | exact Nl.nil | refine Nl.keep (by rfl) ?_))) (w_own2) (by repeat (first | with_reducible refine noOwn_tup ?_ | with_reducible refine noOwn_agg ?_ | with_reducible exact noOwnL_nil | with_reducible refine noOwnL_cons ?_ ?_ | rfl))) ?_
  refine WO.op rfl rfl rfl rfl (mv_tup rfl) ?_
  refine WO.op rfl rfl rfl rfl (step_extract rfl rfl) ?_
  refine WO.put 22 (.agg [.sc (.int .i64 2), .sc (.int .i64 0), .sc (.int .i64 0), .sc (.int .u32 0), .sc (.int .i64 ((sp : Nat) : Int)), .sc (.int .i64 ((dp : Nat) : Int)), .sc (.bool false), .sc (.int .u32 0), .sc (.int .u32 0), .sc (.int .i64 0), .sc (.int .i64 0), .sc (.int .i64 0), .sc (.string ⟨#[]⟩), .sc (.string da)]) (by kernel_rfl) ?_
  refine WO.op rfl rfl rfl rfl (step_extract rfl rfl) ?_
  refine WO.op rfl rfl rfl rfl (step_extract rfl rfl) ?_
  refine WO.opA rfl rfl rfl rfl (al_alloc Try.zeroValue25) rfl rfl ?_
  refine WO.put 9 (.ptr 1 0) rfl ?_
  refine WO.op0 rfl rfl rfl (step_storeA Try.sizeOf25 rfl rfl rfl (by repeat (exact all_cell rfl rfl)) rfl rfl) ?_
  refine WO.op rfl rfl rfl rfl (as_sc rfl) ?_
  refine WO.op rfl rfl rfl rfl (as_sc rfl) ?_
  refine WO.nil ?_
  refine W.seq ?_
  refine W.to [(0, _), (1, _), (2, _), (5, _), (6, _), (7, _), (8, _), (10, _), (17, _)] [_, _] rfl ⟨(by exact sh_sc rfl), (by exact sh_sc rfl), (by exact sh_agg rfl), (by exact sh_ptr rfl), (by exact sh_nil rfl), (by exact sh_sc rfl), (by exact sh_sc rfl), (by exact sh_sc rfl), (by exact sh_sc rfl), trivial⟩ ?_
  refine W.draw (Checked.mixed Try.checked) ?_
  refine DC.op rfl rfl rfl (fun _ => mv_sc rfl) ?_
  refine DC.opE rfl rfl rfl (step_makeB Try.runUnderlying23 (EI.mk (by kernel_rfl)) rfl rfl (by (exact rfl)) (by (exact rfl)) (by (simp only [List.length_map, List.length_append, List.length_take, List.length_drop, List.length_set, List.length_cons, List.length_nil, List.length_replicate, put2_len, hoz] <;> omega))) (by simp) (by repeat (first | exact True.intro | refine And.intro (by rfl) ?_)) (by repeat (first | exact True.intro | refine And.intro (by rfl) ?_)) ?_
  refine DC.set 26 (.sl 2 0 _) rfl ?_
  refine DC.op1 rfl rfl rfl rfl (fun _ ho => step_fieldR (k := 13) (FieldOff.mk (by kernel_rfl)) rfl ho (by exact Nat.zero_add _)) ?_
  refine DC.op1 rfl rfl rfl rfl (fun _ ho => step_load Try.isAgg9 rfl ho rfl) ?_
  refine DC.opE rfl rfl rfl (step_appB Try.runUnderlying23 (EI.mk (by kernel_rfl)) Try.runUnderlying9 (.inr rfl) rfl rfl (by (simp only [List.length_map, List.length_append, List.length_take, List.length_drop, List.length_set, List.length_cons, List.length_nil, List.length_replicate, put2_len, hoz] <;> omega)) (Src.str rfl) (by (simp only [List.length_map, List.length_append, List.length_take, List.length_drop, List.length_set, List.length_cons, List.length_nil, List.length_replicate, put2_len, hoz] <;> omega)) rfl) (by simp) (by repeat (first | exact True.intro | refine And.intro (by rfl) ?_)) (by repeat (first | exact True.intro | refine And.intro (by first | exact rowLt_bytes | rfl) ?_)) ?_
  refine DC.set 29 (.sl 3 0 _) rfl ?_
  refine DC.op rfl rfl rfl (fun _ => as_sl rfl) ?_
  refine DC.set 12 (.sl 3 0 (8 + da.size)) (congrArg (AV.sl 3 0) (by rfl)) ?_
  refine DC.fin [(2, 0), (2, 1), (3, 0), (3, 1)] (by kernel_rfl) (by kernel_rfl) ?_ ?_
  · repeat (first | exact True.intro | refine And.intro ?_ ?_ | kernel_rfl)
  · refine W.seq ?_
    refine W.seq ?_
    refine W.to [(0, _), (1, _), (2, _), (5, _), (6, _), (7, _), (8, _), (10, _), (12, _), (17, _)] [_, _, _, _] rfl ⟨(by exact sh_sc rfl), (by exact sh_sc rfl), (by exact sh_agg rfl), (by exact sh_ptr rfl), (by exact sh_nil rfl), (by exact sh_sc rfl), (by exact sh_sc rfl), (by exact sh_sc rfl), (by exact sh_sl rfl), (by exact sh_sc rfl), trivial⟩ ?_
    refine W.region ?_
    refine WO.op rfl rfl rfl rfl (step_fieldR (k := 0) (FieldOff.mk (by kernel_rfl)) rfl rfl (by exact Nat.zero_add _)) ?_
    refine WO.op rfl rfl rfl rfl (step_load Try.isAgg3 rfl rfl rfl) ?_
    refine WO.nil ?_
    refine W.block ?_
    refine W.seq ?_
    refine W.to [(0, _), (1, _), (2, _), (5, _), (6, _), (7, _), (8, _), (10, _), (12, _), (17, _), (31, _)] [_, _, _, _] rfl ⟨(by exact sh_sc rfl), (by exact sh_sc rfl), (by exact sh_agg rfl), (by exact sh_ptr rfl), (by exact sh_nil rfl), (by exact sh_sc rfl), (by exact sh_sc rfl), (by exact sh_sc rfl), (by exact sh_sl rfl), (by exact sh_sc rfl), (by exact sh_sc rfl), trivial⟩ ?_
    refine W.region ?_
    refine WO.op rfl rfl rfl rfl (step_int2 rfl rfl rfl) ?_
    refine WO.put 33 (.sc (.bool false)) (by kernel_rfl) ?_
    refine WO.op rfl rfl rfl rfl (as_sc rfl) ?_
    refine WO.nil ?_
    refine W.condF rfl ?_
    refine W.seq ?_
    refine W.to [(0, _), (1, _), (2, _), (5, _), (6, _), (7, _), (8, _), (10, _), (12, _), (17, _), (31, _), (32, _)] [_, _, _, _] rfl ⟨(by exact sh_sc rfl), (by exact sh_sc rfl), (by exact sh_agg rfl), (by exact sh_ptr rfl), (by exact sh_nil rfl), (by exact sh_sc rfl), (by exact sh_sc rfl), (by exact sh_sc rfl), (by exact sh_sl rfl), (by exact sh_sc rfl), (by exact sh_sc rfl), (by exact sh_sc rfl), trivial⟩ ?_
    refine W.region ?_
    refine WO.op rfl rfl rfl rfl (step_int2 rfl rfl rfl) ?_
    refine WO.put 54 (.sc (.bool true)) (by kernel_rfl) ?_
    refine WO.op rfl rfl rfl rfl (as_sc rfl) ?_
    refine WO.nil ?_
    refine W.condT rfl ?_
    refine W.seq ?_
    refine W.to [(0, _), (1, _), (2, _), (5, _), (6, _), (7, _), (8, _), (10, _), (12, _), (17, _), (31, _), (32, _), (53, _)] [_, _, _, _] rfl ⟨(by exact sh_sc rfl), (by exact sh_sc rfl), (by exact sh_agg rfl), (by exact sh_ptr rfl), (by exact sh_nil rfl), (by exact sh_sc rfl), (by exact sh_sc rfl), (by exact sh_sc rfl), (by exact sh_sl rfl), (by exact sh_sc rfl), (by exact sh_sc rfl), (by exact sh_sc rfl), (by exact sh_sc rfl), trivial⟩ ?_
    refine W.gatC [_, _, _] [] _ rfl rfl ?_
    intro L12 hL12
    have hl12 : L12.length = 8 + da.size := by rw [hL12]; simp only [put2_len, List.length_append, List.length_replicate, hoz, hoz] <;> omega
    refine W.region ?_
    refine WO.op rfl rfl rfl rfl (mv_sl rfl) ?_
    refine WO.op rfl rfl rfl rfl (step_fieldR (k := 4) (FieldOff.mk (by kernel_rfl)) rfl rfl (by exact Nat.zero_add _)) ?_
    refine WO.op rfl rfl rfl rfl (step_load Try.isAgg3 rfl rfl rfl) ?_
    refine WO.op rfl rfl rfl rfl (step_over Try.call28 rfl rfl rfl noOwn_bytes noOwn_bytes rfl (w_put (i := 0) (by omega) (by omega) (by omega) (by omega))) ?_
    refine WO.nil ?_
    refine W.seq ?_
    refine W.to [(0, _), (1, _), (2, _), (5, _), (6, _), (7, _), (8, _), (10, _), (12, _), (17, _), (31, _), (32, _), (53, _)] [_, _, _, _] rfl ⟨(by exact sh_sc rfl), (by exact sh_sc rfl), (by exact sh_agg rfl), (by exact sh_ptr rfl), (by exact sh_nil rfl), (by exact sh_sc rfl), (by exact sh_sc rfl), (by exact sh_sc rfl), (by exact sh_sl rfl), (by exact sh_sc rfl), (by exact sh_sc rfl), (by exact sh_sc rfl), (by exact sh_sc rfl), trivial⟩ ?_
    refine W.gatC [_, _, _] [] _ rfl rfl ?_
    intro L13 hL13
    have hl13 : L13.length = 8 + da.size := by rw [hL13]; simp only [put2_len, List.length_append, List.length_replicate, hoz, hl12] <;> omega
    refine W.region ?_
    refine WO.op rfl rfl rfl rfl (mv_sl rfl) ?_
    refine WO.op rfl rfl rfl rfl (step_fieldR (k := 5) (FieldOff.mk (by kernel_rfl)) rfl rfl (by exact Nat.zero_add _)) ?_
    refine WO.op rfl rfl rfl rfl (step_load Try.isAgg3 rfl rfl rfl) ?_
    refine WO.op rfl rfl rfl rfl (step_over Try.call28 rfl rfl rfl noOwn_bytes noOwn_bytes rfl (w_put (i := 2) (by omega) (by omega) (by omega) (by omega))) ?_
    refine WO.nil ?_
    refine W.seq ?_
    refine W.to [(0, _), (1, _), (2, _), (5, _), (6, _), (7, _), (8, _), (10, _), (12, _), (17, _), (31, _), (32, _), (53, _)] [_, _, _, _] rfl ⟨(by exact sh_sc rfl), (by exact sh_sc rfl), (by exact sh_agg rfl), (by exact sh_ptr rfl), (by exact sh_nil rfl), (by exact sh_sc rfl), (by exact sh_sc rfl), (by exact sh_sc rfl), (by exact sh_sl rfl), (by exact sh_sc rfl), (by exact sh_sc rfl), (by exact sh_sc rfl), (by exact sh_sc rfl), trivial⟩ ?_
    refine W.gatC [_, _, _] [] _ rfl rfl ?_
    intro L14 hL14
    have hl14 : L14.length = 8 + da.size := by rw [hL14]; simp only [put2_len, List.length_append, List.length_replicate, hoz, hl12, hl13] <;> omega
    refine W.region ?_
    refine WO.op rfl rfl rfl rfl (mv_sl rfl) ?_
    refine WO.op rfl rfl rfl rfl (mv_sl rfl) ?_
    refine WO.op rfl rfl rfl rfl (step_lenL Try.runUnderlying23 rfl rfl) ?_
    refine WO.op rfl rfl rfl rfl (step_over Try.call28 rfl rfl rfl noOwn_bytes noOwn_bytes rfl (w_put (i := 4) (by omega) (by omega) (by omega) (by omega))) ?_
    refine WO.nil ?_
    refine W.seq ?_
    refine W.to [(0, _), (1, _), (2, _), (5, _), (6, _), (7, _), (8, _), (10, _), (12, _), (17, _), (31, _), (32, _), (53, _)] [_, _, _, _] rfl ⟨(by exact sh_sc rfl), (by exact sh_sc rfl), (by exact sh_agg rfl), (by exact sh_ptr rfl), (by exact sh_nil rfl), (by exact sh_sc rfl), (by exact sh_sc rfl), (by exact sh_sc rfl), (by exact sh_sl rfl), (by exact sh_sc rfl), (by exact sh_sc rfl), (by exact sh_sc rfl), (by exact sh_sc rfl), trivial⟩ ?_
    refine W.gatC [_, _, _] [] _ rfl rfl ?_
    intro L15 hL15
    have hl15 : L15.length = 8 + da.size := by rw [hL15]; simp only [put2_len, List.length_append, List.length_replicate, hoz, hl12, hl13, hl14] <;> omega
    have e15 : udp0 sp dp da.data.toList = L15 := by rw [hL15, hL14, hL13, hL12]; unfold udp0; rw [hoz]
    have hf := fo_le (psu src dst 17 L15.length + ws L15 L15.length)
    have hC : udpC src dst sp dp da.data.toList = 65535 - fo (psu src dst 17 L15.length + ws L15 L15.length) := by unfold udpC; rw [e15]
    refine W.region ?_
    refine WO.op rfl rfl rfl rfl (mv_sc rfl) ?_
    refine WO.op rfl rfl rfl rfl (mv_sc rfl) ?_
    refine WO.op rfl rfl rfl rfl (mv_sl rfl) ?_
    refine WO.op rfl rfl rfl rfl (step_lent Try.call21 rfl (by (repeat (first | exact Bw.nil | refine Bw.keep (by rfl) ?_ | refine Bw.slB rfl (by (exact take_whole (by omega))) (by (simp only [List.length_map, List.length_append, List.length_take, List.length_drop, List.length_set, List.length_cons, List.length_nil, List.length_replicate, put2_len, hoz] <;> omega)) ?_))) (w_whole hsrc hdst (by decide) (by omega)) (by repeat (rfl))) ?_
    refine WO.op rfl rfl rfl rfl (step_not16 rfl (by omega)) ?_
    refine WO.op rfl rfl rfl rfl (as_sc rfl) ?_
    refine WO.nil ?_
    refine W.seq ?_
    refine W.to [(0, _), (1, _), (2, _), (5, _), (6, _), (7, _), (8, _), (10, _), (12, _), (13, _), (17, _), (31, _), (32, _), (53, _)] [_, _, _, _] rfl ⟨(by exact sh_sc rfl), (by exact sh_sc rfl), (by exact sh_agg rfl), (by exact sh_ptr rfl), (by exact sh_nil rfl), (by exact sh_sc rfl), (by exact sh_sc rfl), (by exact sh_sc rfl), (by exact sh_sl rfl), (by exact sh_sc rfl), (by exact sh_sc rfl), (by exact sh_sc rfl), (by exact sh_sc rfl), (by exact sh_sc rfl), trivial⟩ ?_
    refine W.region ?_
    refine WO.op rfl rfl rfl rfl (step_fieldR (k := 6) (FieldOff.mk (by kernel_rfl)) rfl rfl (by exact Nat.zero_add _)) ?_
    refine WO.op rfl rfl rfl rfl (step_load Try.isAgg4 rfl rfl rfl) ?_
    refine WO.op rfl rfl rfl rfl (step_not rfl) ?_
    refine WO.put 74 (.sc (.bool true)) (by kernel_rfl) ?_
    refine WO.op rfl rfl rfl rfl (mv_sc rfl) ?_
    refine WO.op rfl rfl rfl rfl (mv_sc rfl) ?_
    refine WO.op rfl rfl rfl rfl (step_int2 rfl rfl rfl) ?_
    refine WO.put 77 (.sc (.bool true)) (congrArg (fun b : Bool => AV.sc (.bool b)) (by rw [← hC, hc]; rfl)) ?_
    refine WO.op rfl rfl rfl rfl (pk_t rfl rfl rfl) ?_
    refine WO.nil ?_
    refine W.condT rfl ?_
    refine W.to [(0, _), (1, _), (2, _), (5, _), (6, _), (7, _), (8, _), (10, _), (12, _), (13, _), (17, _), (31, _), (32, _), (53, _), (78, _)] [_, _, _, _] rfl ⟨(by exact sh_sc rfl), (by exact sh_sc rfl), (by exact sh_agg rfl), (by exact sh_ptr rfl), (by exact sh_nil rfl), (by exact sh_sc rfl), (by exact sh_sc rfl), (by exact sh_sc rfl), (by exact sh_sl rfl), (by exact sh_sc rfl), (by exact sh_sc rfl), (by exact sh_sc rfl), (by exact sh_sc rfl), (by exact sh_sc rfl), (by exact sh_sc rfl), trivial⟩ ?_
    refine W.region ?_
    refine WO.op rfl rfl rfl rfl (mv_sl rfl) ?_
    refine WO.op rfl rfl rfl rfl (step_over Try.call28 rfl rfl rfl noOwn_bytes noOwn_bytes rfl (w_put (i := 6) (x := 65535) (by omega) (by omega) (by omega) (by omega))) ?_
    refine WO.nil ?_
    refine W.seq ?_
    refine W.to [(0, _), (1, _), (2, _), (5, _), (6, _), (7, _), (8, _), (10, _), (12, _), (13, _), (17, _), (31, _), (32, _), (53, _), (78, _)] [_, _, _, _] rfl ⟨(by exact sh_sc rfl), (by exact sh_sc rfl), (by exact sh_agg rfl), (by exact sh_ptr rfl), (by exact sh_nil rfl), (by exact sh_sc rfl), (by exact sh_sc rfl), (by exact sh_sc rfl), (by exact sh_sl rfl), (by exact sh_sc rfl), (by exact sh_sc rfl), (by exact sh_sc rfl), (by exact sh_sc rfl), (by exact sh_sc rfl), (by exact sh_sc rfl), trivial⟩ ?_
    refine W.region ?_
    refine WO.op rfl rfl rfl rfl (mv_sl rfl) ?_
    refine WO.op rfl rfl rfl rfl (as_sl rfl) ?_
    refine WO.op rfl rfl rfl rfl (as_sc rfl) ?_
    refine WO.nil ?_
    refine W.ret ?_
    refine ⟨.inl rfl, ?_⟩
    rw [e15]
    exact ret0 (Res.tmp rfl (Res.tmp rfl Res.nil)) (.tup (.cons (Fz.bytes rfl (Nat.zero_le _) (take_whole (by (rw [put2_len]; omega))) (by rw [List.length_map]; (rw [put2_len]; omega))) (.cons (.keep rfl) .nil)))

theorem w_EncU3 {src dst sp dp : Nat} {da : ByteArray} (hsrc : src < 4294967296) (hdst : dst < 4294967296) (hsp : sp ≤ 65535) (hdp : dp ≤ 65535) (hda : da.size ≤ 65507) (hc : udpC src dst sp dp da.data.toList ≠ 0) : Spec0 Try.prog 11 [.sc (.int .u32 ((src : Nat) : Int)), .sc (.int .u32 ((dst : Nat) : Int)), .agg [.sc (.int .i64 2), .sc (.int .i64 0), .sc (.int .i64 0), .sc (.int .u32 0), .sc (.int .i64 ((sp : Nat) : Int)), .sc (.int .i64 ((dp : Nat) : Int)), .sc (.bool false), .sc (.int .u32 0), .sc (.int .u32 0), .sc (.int .i64 0), .sc (.int .i64 0), .sc (.int .i64 0), .sc (.string ⟨#[]⟩), .sc (.string da)]] (.tup [.im 1 ((put2 (udp0 sp dp da.data.toList) 6 (udpC src dst sp dp da.data.toList)).map byteAV), .sc (.int .i64 0)]) := by
  refine Spec.body Try.func11 rfl (Nat.le_of_ble_eq_true rfl) ?_
  have hoz : da.data.toList.length = da.size := by rw [Array.length_toList]; rfl
  refine W.seq ?_
  refine W.region ?_
  refine WO.opA rfl rfl rfl rfl (al_boxA rfl rfl) rfl rfl ?_
  refine WO.put 5 (.ptr 0 0) rfl ?_
  refine WO.op rfl rfl rfl rfl (as_nil rfl) ?_
  refine WO.op rfl rfl rfl rfl (as_sc rfl) ?_
  refine WO.nil ?_
  refine W.seq ?_
  refine W.seq ?_
  refine W.to [(0, _), (1, _), (2, _), (5, _), (6, _), (7, _)] [_] rfl ⟨(by exact sh_sc rfl), (by exact sh_sc rfl), (by exact sh_agg rfl), (by exact sh_ptr rfl), (by exact sh_nil rfl), (by exact sh_sc rfl), trivial⟩ ?_
  refine W.region ?_
  refine WO.op rfl rfl rfl rfl (step_loadA Try.isAgg25 Try.sizeOf25 rfl rfl (by exact Nat.le_refl _)) ?_
  refine WO.put 14 (.agg [.sc (.int .i64 2), .sc (.int .i64 0), .sc (.int .i64 0), .sc (.int .u32 0), .sc (.int .i64 ((sp : Nat) : Int)), .sc (.int .i64 ((dp : Nat) : Int)), .sc (.bool false), .sc (.int .u32 0), .sc (.int .u32 0), .sc (.int .i64 0), .sc (.int .i64 0), .sc (.int .i64 0), .sc (.string ⟨#[]⟩), .sc (.string da)]) (by kernel_rfl) ?_
  refine WO.op rfl rfl rfl rfl (step_pure Try.call13 rfl (by (repeat (first | exact Nl.nil | refine Nl.keep (by rfl) ?_))) (w_Chk2 hsp hdp hda) (by repeat (rfl))) ?_
  refine WO.op rfl rfl rfl rfl (as_sc rfl) ?_
  refine WO.nil ?_
  refine W.seq ?_
  refine W.to [(0, _), (1, _), (2, _), (5, _), (6, _), (7, _), (8, _)] [_] rfl ⟨(by exact sh_sc rfl), (by exact sh_sc rfl), (by exact sh_agg rfl), (by exact sh_ptr rfl), (by exact sh_nil rfl), (by exact sh_sc rfl), (by exact sh_sc rfl), trivial⟩ ?_
  refine W.region ?_
  refine WO.op rfl rfl rfl rfl (mv_sc rfl) ?_
  refine WO.op rfl rfl rfl rfl (step_int2 rfl rfl rfl) ?_
  refine WO.put 17 (.sc (.bool false)) (by kernel_rfl) ?_
  refine WO.nil ?_
  refine W.condF rfl ?_
  refine W.skip ?_
  refine W.seq ?_
  refine W.to [(0, _), (1, _), (2, _), (5, _), (6, _), (7, _), (8, _), (17, _)] [_] rfl ⟨(by exact sh_sc rfl), (by exact sh_sc rfl), (by exact sh_agg rfl), (by exact sh_ptr rfl), (by exact sh_nil rfl), (by exact sh_sc rfl), (by exact sh_sc rfl), (by exact sh_sc rfl), trivial⟩ ?_
  refine W.region ?_
  refine WO.op rfl rfl rfl rfl (step_loadA Try.isAgg25 Try.sizeOf25 rfl rfl (by exact Nat.le_refl _)) ?_
  refine WO.put 20 (.agg [.sc (.int .i64 2), .sc (.int .i64 0), .sc (.int .i64 0), .sc (.int .u32 0), .sc (.int .i64 ((sp : Nat) : Int)), .sc (.int .i64 ((dp : Nat) : Int)), .sc (.bool false), .sc (.int .u32 0), .sc (.int .u32 0), .sc (.int .i64 0), .sc (.int .i64 0), .sc (.int .i64 0), .sc (.string ⟨#[]⟩), .sc (.string da)]) (by kernel_rfl) ?_
  refine WO.op rfl rfl rfl rfl (step_pure Try.call26 rfl (by (repeat (first | exact Nl.nil | refine Nl.keep (by rfl) ?_))) (w_own2) (by repeat (first | with_reducible refine noOwn_tup ?_ | with_reducible refine noOwn_agg ?_ | with_reducible exact noOwnL_nil | with_reducible refine noOwnL_cons ?_ ?_ | rfl))) ?_
  refine WO.op rfl rfl rfl rfl (mv_tup rfl) ?_
  refine WO.op rfl rfl rfl rfl (step_extract rfl rfl) ?_
  refine WO.put 22 (.agg [.sc (.int .i64 2), .sc (.int .i64 0), .sc (.int .i64 0), .sc (.int .u32 0), .sc (.int .i64 ((sp : Nat) : Int)), .sc (.int .i64 ((dp : Nat) : Int)), .sc (.bool false), .sc (.int .u32 0), .sc (.int .u32 0), .sc (.int .i64 0), .sc (.int .i64 0), .sc (.int .i64 0), .sc (.string ⟨#[]⟩), .sc (.string da)]) (by kernel_rfl) ?_
  refine WO.op rfl rfl rfl rfl (step_extract rfl rfl) ?_
  refine WO.op rfl rfl rfl rfl (step_extract rfl rfl) ?_
  refine WO.opA rfl rfl rfl rfl (al_alloc Try.zeroValue25) rfl rfl ?_
  refine WO.put 9 (.ptr 1 0) rfl ?_
  refine WO.op0 rfl rfl rfl (step_storeA Try.sizeOf25 rfl rfl rfl (by repeat (exact all_cell rfl rfl)) rfl rfl) ?_
  refine WO.op rfl rfl rfl rfl (as_sc rfl) ?_
  refine WO.op rfl rfl rfl rfl (as_sc rfl) ?_
  refine WO.nil ?_
  refine W.seq ?_
  refine W.to [(0, _), (1, _), (2, _), (5, _), (6, _), (7, _), (8, _), (10, _), (17, _)] [_, _] rfl ⟨(by exact sh_sc rfl), (by exact sh_sc rfl), (by exact sh_agg rfl), (by exact sh_ptr rfl), (by exact sh_nil rfl), (by exact sh_sc rfl), (by exact sh_sc rfl), (by exact sh_sc rfl), (by exact sh_sc rfl), trivial⟩ ?_
  refine W.draw (Checked.mixed Try.checked) ?_
  refine DC.op rfl rfl rfl (fun _ => mv_sc rfl) ?_
  refine DC.opE rfl rfl rfl (step_makeB Try.runUnderlying23 (EI.mk (by kernel_rfl)) rfl rfl (by (exact rfl)) (by (exact rfl)) (by (simp only [List.length_map, List.length_append, List.length_take, List.length_drop, List.length_set, List.length_cons, List.length_nil, List.length_replicate, put2_len, hoz] <;> omega))) (by simp) (by repeat (first | exact True.intro | refine And.intro (by rfl) ?_)) (by repeat (first | exact True.intro | refine And.intro (by rfl) ?_)) ?_
  refine DC.set 26 (.sl 2 0 _) rfl ?_
  refine DC.op1 rfl rfl rfl rfl (fun _ ho => step_fieldR (k := 13) (FieldOff.mk (by kernel_rfl)) rfl ho (by exact Nat.zero_add _)) ?_
  refine DC.op1 rfl rfl rfl rfl (fun _ ho => step_load Try.isAgg9 rfl ho rfl) ?_
  refine DC.opE rfl rfl rfl (step_appB Try.runUnderlying23 (EI.mk (by kernel_rfl)) Try.runUnderlying9 (.inr rfl) rfl rfl (by (simp only [List.length_map, List.length_append, List.length_take, List.length_drop, List.length_set, List.length_cons, List.length_nil, List.length_replicate, put2_len, hoz] <;> omega)) (Src.str rfl) (by (simp only [List.length_map, List.length_append, List.length_take, List.length_drop, List.length_set, List.length_cons, List.length_nil, List.length_replicate, put2_len, hoz] <;> omega)) rfl) (by simp) (by repeat (first | exact True.intro | refine And.intro (by rfl) ?_)) (by repeat (first | exact True.intro | refine And.intro (by first | exact rowLt_bytes | rfl) ?_)) ?_
  refine DC.set 29 (.sl 3 0 _) rfl ?_
  refine DC.op rfl rfl rfl (fun _ => as_sl rfl) ?_
  refine DC.set 12 (.sl 3 0 (8 + da.size)) (congrArg (AV.sl 3 0) (by rfl)) ?_
  refine DC.fin [(2, 0), (2, 1), (3, 0), (3, 1)] (by kernel_rfl) (by kernel_rfl) ?_ ?_
  · repeat (first | exact True.intro | refine And.intro ?_ ?_ | kernel_rfl)
  · refine W.seq ?_
    refine W.seq ?_
    refine W.to [(0, _), (1, _), (2, _), (5, _), (6, _), (7, _), (8, _), (10, _), (12, _), (17, _)] [_, _, _, _] rfl ⟨(by exact sh_sc rfl), (by exact sh_sc rfl), (by exact sh_agg rfl), (by exact sh_ptr rfl), (by exact sh_nil rfl), (by exact sh_sc rfl), (by exact sh_sc rfl), (by exact sh_sc rfl), (by exact sh_sl rfl), (by exact sh_sc rfl), trivial⟩ ?_
    refine W.region ?_
    refine WO.op rfl rfl rfl rfl (step_fieldR (k := 0) (FieldOff.mk (by kernel_rfl)) rfl rfl (by exact Nat.zero_add _)) ?_
    refine WO.op rfl rfl rfl rfl (step_load Try.isAgg3 rfl rfl rfl) ?_
    refine WO.nil ?_
    refine W.block ?_
    refine W.seq ?_
    refine W.to [(0, _), (1, _), (2, _), (5, _), (6, _), (7, _), (8, _), (10, _), (12, _), (17, _), (31, _)] [_, _, _, _] rfl ⟨(by exact sh_sc rfl), (by exact sh_sc rfl), (by exact sh_agg rfl), (by exact sh_ptr rfl), (by exact sh_nil rfl), (by exact sh_sc rfl), (by exact sh_sc rfl), (by exact sh_sc rfl), (by exact sh_sl rfl), (by exact sh_sc rfl), (by exact sh_sc rfl), trivial⟩ ?_
    refine W.region ?_
    refine WO.op rfl rfl rfl rfl (step_int2 rfl rfl rfl) ?_
    refine WO.put 33 (.sc (.bool false)) (by kernel_rfl) ?_
    refine WO.op rfl rfl rfl rfl (as_sc rfl) ?_
    refine WO.nil ?_
    refine W.condF rfl ?_
    refine W.seq ?_
    refine W.to [(0, _), (1, _), (2, _), (5, _), (6, _), (7, _), (8, _), (10, _), (12, _), (17, _), (31, _), (32, _)] [_, _, _, _] rfl ⟨(by exact sh_sc rfl), (by exact sh_sc rfl), (by exact sh_agg rfl), (by exact sh_ptr rfl), (by exact sh_nil rfl), (by exact sh_sc rfl), (by exact sh_sc rfl), (by exact sh_sc rfl), (by exact sh_sl rfl), (by exact sh_sc rfl), (by exact sh_sc rfl), (by exact sh_sc rfl), trivial⟩ ?_
    refine W.region ?_
    refine WO.op rfl rfl rfl rfl (step_int2 rfl rfl rfl) ?_
    refine WO.put 54 (.sc (.bool true)) (by kernel_rfl) ?_
    refine WO.op rfl rfl rfl rfl (as_sc rfl) ?_
    refine WO.nil ?_
    refine W.condT rfl ?_
    refine W.seq ?_
    refine W.to [(0, _), (1, _), (2, _), (5, _), (6, _), (7, _), (8, _), (10, _), (12, _), (17, _), (31, _), (32, _), (53, _)] [_, _, _, _] rfl ⟨(by exact sh_sc rfl), (by exact sh_sc rfl), (by exact sh_agg rfl), (by exact sh_ptr rfl), (by exact sh_nil rfl), (by exact sh_sc rfl), (by exact sh_sc rfl), (by exact sh_sc rfl), (by exact sh_sl rfl), (by exact sh_sc rfl), (by exact sh_sc rfl), (by exact sh_sc rfl), (by exact sh_sc rfl), trivial⟩ ?_
    refine W.gatC [_, _, _] [] _ rfl rfl ?_
    intro L12 hL12
    have hl12 : L12.length = 8 + da.size := by rw [hL12]; simp only [put2_len, List.length_append, List.length_replicate, hoz, hoz] <;> omega
    refine W.region ?_
    refine WO.op rfl rfl rfl rfl (mv_sl rfl) ?_
    refine WO.op rfl rfl rfl rfl (step_fieldR (k := 4) (FieldOff.mk (by kernel_rfl)) rfl rfl (by exact Nat.zero_add _)) ?_
    refine WO.op rfl rfl rfl rfl (step_load Try.isAgg3 rfl rfl rfl) ?_
    refine WO.op rfl rfl rfl rfl (step_over Try.call28 rfl rfl rfl noOwn_bytes noOwn_bytes rfl (w_put (i := 0) (by omega) (by omega) (by omega) (by omega))) ?_
    refine WO.nil ?_
    refine W.seq ?_
    refine W.to [(0, _), (1, _), (2, _), (5, _), (6, _), (7, _), (8, _), (10, _), (12, _), (17, _), (31, _), (32, _), (53, _)] [_, _, _, _] rfl ⟨(by exact sh_sc rfl), (by exact sh_sc rfl), (by exact sh_agg rfl), (by exact sh_ptr rfl), (by exact sh_nil rfl), (by exact sh_sc rfl), (by exact sh_sc rfl), (by exact sh_sc rfl), (by exact sh_sl rfl), (by exact sh_sc rfl), (by exact sh_sc rfl), (by exact sh_sc rfl), (by exact sh_sc rfl), trivial⟩ ?_
    refine W.gatC [_, _, _] [] _ rfl rfl ?_
    intro L13 hL13
    have hl13 : L13.length = 8 + da.size := by rw [hL13]; simp only [put2_len, List.length_append, List.length_replicate, hoz, hl12] <;> omega
    refine W.region ?_
    refine WO.op rfl rfl rfl rfl (mv_sl rfl) ?_
    refine WO.op rfl rfl rfl rfl (step_fieldR (k := 5) (FieldOff.mk (by kernel_rfl)) rfl rfl (by exact Nat.zero_add _)) ?_
    refine WO.op rfl rfl rfl rfl (step_load Try.isAgg3 rfl rfl rfl) ?_
    refine WO.op rfl rfl rfl rfl (step_over Try.call28 rfl rfl rfl noOwn_bytes noOwn_bytes rfl (w_put (i := 2) (by omega) (by omega) (by omega) (by omega))) ?_
    refine WO.nil ?_
    refine W.seq ?_
    refine W.to [(0, _), (1, _), (2, _), (5, _), (6, _), (7, _), (8, _), (10, _), (12, _), (17, _), (31, _), (32, _), (53, _)] [_, _, _, _] rfl ⟨(by exact sh_sc rfl), (by exact sh_sc rfl), (by exact sh_agg rfl), (by exact sh_ptr rfl), (by exact sh_nil rfl), (by exact sh_sc rfl), (by exact sh_sc rfl), (by exact sh_sc rfl), (by exact sh_sl rfl), (by exact sh_sc rfl), (by exact sh_sc rfl), (by exact sh_sc rfl), (by exact sh_sc rfl), trivial⟩ ?_
    refine W.gatC [_, _, _] [] _ rfl rfl ?_
    intro L14 hL14
    have hl14 : L14.length = 8 + da.size := by rw [hL14]; simp only [put2_len, List.length_append, List.length_replicate, hoz, hl12, hl13] <;> omega
    refine W.region ?_
    refine WO.op rfl rfl rfl rfl (mv_sl rfl) ?_
    refine WO.op rfl rfl rfl rfl (mv_sl rfl) ?_
    refine WO.op rfl rfl rfl rfl (step_lenL Try.runUnderlying23 rfl rfl) ?_
    refine WO.op rfl rfl rfl rfl (step_over Try.call28 rfl rfl rfl noOwn_bytes noOwn_bytes rfl (w_put (i := 4) (by omega) (by omega) (by omega) (by omega))) ?_
    refine WO.nil ?_
    refine W.seq ?_
    refine W.to [(0, _), (1, _), (2, _), (5, _), (6, _), (7, _), (8, _), (10, _), (12, _), (17, _), (31, _), (32, _), (53, _)] [_, _, _, _] rfl ⟨(by exact sh_sc rfl), (by exact sh_sc rfl), (by exact sh_agg rfl), (by exact sh_ptr rfl), (by exact sh_nil rfl), (by exact sh_sc rfl), (by exact sh_sc rfl), (by exact sh_sc rfl), (by exact sh_sl rfl), (by exact sh_sc rfl), (by exact sh_sc rfl), (by exact sh_sc rfl), (by exact sh_sc rfl), trivial⟩ ?_
    refine W.gatC [_, _, _] [] _ rfl rfl ?_
    intro L15 hL15
    have hl15 : L15.length = 8 + da.size := by rw [hL15]; simp only [put2_len, List.length_append, List.length_replicate, hoz, hl12, hl13, hl14] <;> omega
    have e15 : udp0 sp dp da.data.toList = L15 := by rw [hL15, hL14, hL13, hL12]; unfold udp0; rw [hoz]
    have hf := fo_le (psu src dst 17 L15.length + ws L15 L15.length)
    have hC : udpC src dst sp dp da.data.toList = 65535 - fo (psu src dst 17 L15.length + ws L15 L15.length) := by unfold udpC; rw [e15]
    refine W.region ?_
    refine WO.op rfl rfl rfl rfl (mv_sc rfl) ?_
    refine WO.op rfl rfl rfl rfl (mv_sc rfl) ?_
    refine WO.op rfl rfl rfl rfl (mv_sl rfl) ?_
    refine WO.op rfl rfl rfl rfl (step_lent Try.call21 rfl (by (repeat (first | exact Bw.nil | refine Bw.keep (by rfl) ?_ | refine Bw.slB rfl (by (exact take_whole (by omega))) (by (simp only [List.length_map, List.length_append, List.length_take, List.length_drop, List.length_set, List.length_cons, List.length_nil, List.length_replicate, put2_len, hoz] <;> omega)) ?_))) (w_whole hsrc hdst (by decide) (by omega)) (by repeat (rfl))) ?_
    refine WO.op rfl rfl rfl rfl (step_not16 rfl (by omega)) ?_
    refine WO.op rfl rfl rfl rfl (as_sc rfl) ?_
    refine WO.nil ?_
    refine W.seq ?_
    refine W.to [(0, _), (1, _), (2, _), (5, _), (6, _), (7, _), (8, _), (10, _), (12, _), (13, _), (17, _), (31, _), (32, _), (53, _)] [_, _, _, _] rfl ⟨(by exact sh_sc rfl), (by exact sh_sc rfl), (by exact sh_agg rfl), (by exact sh_ptr rfl), (by exact sh_nil rfl), (by exact sh_sc rfl), (by exact sh_sc rfl), (by exact sh_sc rfl), (by exact sh_sl rfl), (by exact sh_sc rfl), (by exact sh_sc rfl), (by exact sh_sc rfl), (by exact sh_sc rfl), (by exact sh_sc rfl), trivial⟩ ?_
    refine W.region ?_
    refine WO.op rfl rfl rfl rfl (step_fieldR (k := 6) (FieldOff.mk (by kernel_rfl)) rfl rfl (by exact Nat.zero_add _)) ?_
    refine WO.op rfl rfl rfl rfl (step_load Try.isAgg4 rfl rfl rfl) ?_
    refine WO.op rfl rfl rfl rfl (step_not rfl) ?_
    refine WO.put 74 (.sc (.bool true)) (by kernel_rfl) ?_
    refine WO.op rfl rfl rfl rfl (mv_sc rfl) ?_
    refine WO.op rfl rfl rfl rfl (mv_sc rfl) ?_
    refine WO.op rfl rfl rfl rfl (step_int2 rfl rfl rfl) ?_
    refine WO.put 77 (.sc (.bool false)) (congrArg (fun b : Bool => AV.sc (.bool b)) (by rw [← hC]; simpa using hc)) ?_
    refine WO.op rfl rfl rfl rfl (pk_t rfl rfl rfl) ?_
    refine WO.nil ?_
    refine W.condF rfl ?_
    refine W.seq ?_
    refine W.to [(0, _), (1, _), (2, _), (5, _), (6, _), (7, _), (8, _), (10, _), (12, _), (13, _), (17, _), (31, _), (32, _), (53, _), (78, _)] [_, _, _, _] rfl ⟨(by exact sh_sc rfl), (by exact sh_sc rfl), (by exact sh_agg rfl), (by exact sh_ptr rfl), (by exact sh_nil rfl), (by exact sh_sc rfl), (by exact sh_sc rfl), (by exact sh_sc rfl), (by exact sh_sl rfl), (by exact sh_sc rfl), (by exact sh_sc rfl), (by exact sh_sc rfl), (by exact sh_sc rfl), (by exact sh_sc rfl), (by exact sh_sc rfl), trivial⟩ ?_
    refine W.region ?_
    refine WO.op rfl rfl rfl rfl (step_fieldR (k := 6) (FieldOff.mk (by kernel_rfl)) rfl rfl (by exact Nat.zero_add _)) ?_
    refine WO.op rfl rfl rfl rfl (step_load Try.isAgg4 rfl rfl rfl) ?_
    refine WO.op rfl rfl rfl rfl (step_not rfl) ?_
    refine WO.put 83 (.sc (.bool true)) (by kernel_rfl) ?_
    refine WO.nil ?_
    refine W.condT rfl ?_
    refine W.to [(0, _), (1, _), (2, _), (5, _), (6, _), (7, _), (8, _), (10, _), (12, _), (13, _), (17, _), (31, _), (32, _), (53, _), (78, _), (83, _)] [_, _, _, _] rfl ⟨(by exact sh_sc rfl), (by exact sh_sc rfl), (by exact sh_agg rfl), (by exact sh_ptr rfl), (by exact sh_nil rfl), (by exact sh_sc rfl), (by exact sh_sc rfl), (by exact sh_sc rfl), (by exact sh_sl rfl), (by exact sh_sc rfl), (by exact sh_sc rfl), (by exact sh_sc rfl), (by exact sh_sc rfl), (by exact sh_sc rfl), (by exact sh_sc rfl), (by exact sh_sc rfl), trivial⟩ ?_
    refine W.region ?_
    refine WO.op rfl rfl rfl rfl (mv_sl rfl) ?_
    refine WO.op rfl rfl rfl rfl (mv_sc rfl) ?_
    refine WO.op rfl rfl rfl rfl (step_convR Try.runUnderlying37 Try.runUnderlying3 rfl (by exact convN (by (simp only [cap]; omega)))) ?_
    refine WO.op rfl rfl rfl rfl (step_over Try.call28 rfl rfl rfl noOwn_bytes noOwn_bytes rfl (w_put (i := 6) (by omega) (by omega) (by omega) (by omega))) ?_
    refine WO.nil ?_
    refine W.seq ?_
    refine W.to [(0, _), (1, _), (2, _), (5, _), (6, _), (7, _), (8, _), (10, _), (12, _), (13, _), (17, _), (31, _), (32, _), (53, _), (78, _), (83, _)] [_, _, _, _] rfl ⟨(by exact sh_sc rfl), (by exact sh_sc rfl), (by exact sh_agg rfl), (by exact sh_ptr rfl), (by exact sh_nil rfl), (by exact sh_sc rfl), (by exact sh_sc rfl), (by exact sh_sc rfl), (by exact sh_sl rfl), (by exact sh_sc rfl), (by exact sh_sc rfl), (by exact sh_sc rfl), (by exact sh_sc rfl), (by exact sh_sc rfl), (by exact sh_sc rfl), (by exact sh_sc rfl), trivial⟩ ?_
    refine W.region ?_
    refine WO.op rfl rfl rfl rfl (mv_sl rfl) ?_
    refine WO.op rfl rfl rfl rfl (as_sl rfl) ?_
    refine WO.op rfl rfl rfl rfl (as_sc rfl) ?_
    refine WO.nil ?_
    refine W.ret ?_
    refine ⟨.inl rfl, ?_⟩
    rw [e15, hC]
    exact ret0 (Res.tmp rfl (Res.tmp rfl Res.nil)) (.tup (.cons (Fz.bytes rfl (Nat.zero_le _) (take_whole (by (rw [put2_len]; omega))) (by rw [List.length_map]; (rw [put2_len]; omega))) (.cons (.keep rfl) .nil)))

end Go.Proofs.Ytdmlkcphlidcfaa
