/-
  Contracts of functions of chapter 04: each theorem says what a call of one function answers, for all arguments that its hypotheses let in.
-/
import Derived.Test.YtdmlkcphlidcfaaW4l
set_option linter.unusedVariables false
set_option linter.unusedSimpArgs false
set_option maxRecDepth 100000
set_option maxHeartbeats 1000000
namespace Go.Proofs.Ytdmlkcphlidcfaa
open Go Go.SL Go.Proofs

theorem icE_ok {l : List UInt8} (h : icE l = 0) : 8 ≤ l.length ∧ fo (ws l l.length) = 65535 := by
  unfold icE at h
  split at h; · omega
  split at h <;> omega
theorem udE_ok {src dst : Nat} {l : List UInt8} (h : udE src dst l = 0) : 8 ≤ l.length ∧ be (sub l 4 2) = l.length ∧ (be (sub l 6 2) = 0 ∨ fo (psu src dst 17 l.length + ws l l.length) = 65535) := by
  unfold udE at h
  split at h; · omega
  split at h; · omega
  split at h
  · omega
  · split at h <;> omega
theorem tcE_ok {src dst : Nat} {l : List UInt8} (h : tcE src dst l = 0) : 20 ≤ l.length ∧ 20 ≤ tcS l ∧ tcS l ≤ l.length ∧ fo (psu src dst 6 l.length + ws l l.length) = 65535 := by
  unfold tcE at h
  split at h; · omega
  split at h; · omega
  split at h; · omega
  split at h <;> omega

theorem w_DecI {src dst : Nat} {l : List UInt8} (hsrc : src < 4294967296) (hdst : dst < 4294967296) (hl : l.length ≤ 200000000000000) (h : icE l = 0) : Spec0 Try.prog 8 [.sc (.int .u32 ((src : Nat) : Int)), .sc (.int .u32 ((dst : Nat) : Int)), .sc (.int .i64 1), .im 1 (l.map byteAV)] (.tup [.agg [.sc (.int .i64 1), .sc (.int .i64 (((l.getD 0 0).toNat : Nat) : Int)), .sc (.int .i64 (((l.getD 1 0).toNat : Nat) : Int)), .sc (.int .u32 ((be (sub l 4 4) : Nat) : Int)), .sc (.int .i64 0), .sc (.int .i64 0), .sc (.bool false), .sc (.int .u32 0), .sc (.int .u32 0), .sc (.int .i64 0), .sc (.int .i64 0), .sc (.int .i64 0), .sc (.string ⟨#[]⟩), .sc (.string ⟨(l.drop 8).toArray⟩)], .sc (.int .i64 0)]) := by
  refine Spec.body Try.func8 rfl (Nat.le_of_ble_eq_true rfl) ?_
  obtain ⟨h8, hs⟩ := icE_ok h
  have b0 := byte_le (l.getD 0 0)
  have b1 := byte_le (l.getD 1 0)
  have b12 := byte_le (l.getD 12 0)
  have g0 : be (sub l 0 2) < 65536 := be2 _
  have g2 : be (sub l 2 2) < 65536 := be2 _
  have g4 : be (sub l 4 2) < 65536 := be2 _
  have g6 : be (sub l 6 2) < 65536 := be2 _
  have g12 : be (sub l 12 2) < 65536 := be2 _
  have g14 : be (sub l 14 2) < 65536 := be2 _
  have g18 : be (sub l 18 2) < 65536 := be2 _
  have f4 : be (List.take 4 (List.drop 4 l)) < 4294967296 := be4 _
  have k4 : be (sub l 4 4) < 4294967296 := be4 _
  have f8 : be (List.take 4 (List.drop 8 l)) < 4294967296 := be4 _
  have k8 : be (sub l 8 4) < 4294967296 := be4 _
  refine W.seq ?_
  refine W.region ?_
  refine WO.opA rfl rfl rfl rfl (al_alloc Try.zeroValue25) rfl rfl ?_
  refine WO.put 8 (.ptr 0 0) rfl ?_
  refine WO.op rfl rfl rfl rfl (as_sc rfl) ?_
  refine WO.nil ?_
  refine W.scopeN 3 (fun _ _ h => (by exact h.elim (fun h => nomatch h))) ?_
  refine W.seq ?_
  refine W.to [(0, _), (1, _), (2, _), (3, _), (8, _), (9, _)] [_] rfl ⟨(by exact sh_sc rfl), (by exact sh_sc rfl), (by exact sh_sc rfl), (by exact sh_im rfl), (by exact sh_ptr rfl), (by exact sh_sc rfl), trivial⟩ ?_
  refine W.region ?_
  refine WO.op rfl rfl rfl rfl (step_build (out := [.sc (.int .i64 0), .sc (.int .i64 0), .sc (.int .i64 0), .sc (.int .u32 0), .sc (.int .i64 0), .sc (.int .i64 0), .sc (.bool false), .sc (.int .u32 0), .sc (.int .u32 0), .sc (.int .i64 0), .sc (.int .i64 0), .sc (.int .i64 0), .sc (.string ⟨#[]⟩), .sc (.string ⟨#[]⟩)]) Try.zeroValue25 (pl := [(0, 1), (1, 1), (2, 1), (3, 1), (4, 1), (5, 1), (6, 1), (7, 1), (8, 1), (9, 1), (10, 1), (11, 1), (12, 1), (13, 1)]) (PlacesOf.mk (by kernel_rfl)) (by kernel_rfl)) ?_
  refine WO.put 13 (.agg [.sc (.int .i64 0), .sc (.int .i64 0), .sc (.int .i64 0), .sc (.int .u32 0), .sc (.int .i64 0), .sc (.int .i64 0), .sc (.bool false), .sc (.int .u32 0), .sc (.int .u32 0), .sc (.int .i64 0), .sc (.int .i64 0), .sc (.int .i64 0), .sc (.string ⟨#[]⟩), .sc (.string ⟨#[]⟩)]) (by kernel_rfl) ?_
  refine WO.opA rfl rfl rfl rfl (al_alloc Try.zeroValue25) rfl rfl ?_
  refine WO.put 10 (.ptr 1 0) rfl ?_
  refine WO.op0 rfl rfl rfl (step_storeA Try.sizeOf25 rfl rfl rfl (by repeat (exact all_cell rfl rfl)) rfl rfl) ?_
  refine WO.nil ?_
  refine W.seq ?_
  refine W.to [(0, _), (1, _), (2, _), (3, _), (8, _), (9, _), (10, _)] [_, _] rfl ⟨(by exact sh_sc rfl), (by exact sh_sc rfl), (by exact sh_sc rfl), (by exact sh_im rfl), (by exact sh_ptr rfl), (by exact sh_sc rfl), (by exact sh_ptr rfl), trivial⟩ ?_
  refine W.region ?_
  refine WO.op rfl rfl rfl rfl (as_sc rfl) ?_
  refine WO.nil ?_
  refine W.seq ?_
  refine W.to [(0, _), (1, _), (2, _), (3, _), (8, _), (9, _), (10, _), (11, _)] [_, _] rfl ⟨(by exact sh_sc rfl), (by exact sh_sc rfl), (by exact sh_sc rfl), (by exact sh_im rfl), (by exact sh_ptr rfl), (by exact sh_sc rfl), (by exact sh_ptr rfl), (by exact sh_sc rfl), trivial⟩ ?_
  refine W.region ?_
  refine WO.op rfl rfl rfl rfl (as_sc rfl) ?_
  refine WO.nil ?_
  refine W.seq ?_
  refine W.seq ?_
  refine W.to [(0, _), (1, _), (2, _), (3, _), (8, _), (9, _), (10, _), (11, _), (12, _)] [_, _] rfl ⟨(by exact sh_sc rfl), (by exact sh_sc rfl), (by exact sh_sc rfl), (by exact sh_im rfl), (by exact sh_ptr rfl), (by exact sh_sc rfl), (by exact sh_ptr rfl), (by exact sh_sc rfl), (by exact sh_sc rfl), trivial⟩ ?_
  refine W.region ?_
  refine WO.op rfl rfl rfl rfl (mv_sc rfl) ?_
  refine WO.nil ?_
  refine W.block ?_
  refine W.seq ?_
  refine W.to [(0, _), (1, _), (2, _), (3, _), (8, _), (9, _), (10, _), (11, _), (12, _), (14, _)] [_, _] rfl ⟨(by exact sh_sc rfl), (by exact sh_sc rfl), (by exact sh_sc rfl), (by exact sh_im rfl), (by exact sh_ptr rfl), (by exact sh_sc rfl), (by exact sh_ptr rfl), (by exact sh_sc rfl), (by exact sh_sc rfl), (by exact sh_sc rfl), trivial⟩ ?_
  refine W.region ?_
  refine WO.op rfl rfl rfl rfl (step_int2 rfl rfl rfl) ?_
  refine WO.put 16 (.sc (.bool true)) (by kernel_rfl) ?_
  refine WO.op rfl rfl rfl rfl (as_sc rfl) ?_
  refine WO.nil ?_
  refine W.condT rfl ?_
  refine W.seq ?_
  refine W.seq ?_
  refine W.to [(0, _), (1, _), (2, _), (3, _), (8, _), (9, _), (10, _), (11, _), (12, _), (14, _), (15, _)] [_, _] rfl ⟨(by exact sh_sc rfl), (by exact sh_sc rfl), (by exact sh_sc rfl), (by exact sh_im rfl), (by exact sh_ptr rfl), (by exact sh_sc rfl), (by exact sh_ptr rfl), (by exact sh_sc rfl), (by exact sh_sc rfl), (by exact sh_sc rfl), (by exact sh_sc rfl), trivial⟩ ?_
  refine W.region ?_
  refine WO.op rfl rfl rfl rfl (mv_im rfl) ?_
  refine WO.op rfl rfl rfl rfl (step_lenB Try.runUnderlying23 rfl) ?_
  refine WO.op rfl rfl rfl rfl (mv_sc rfl) ?_
  refine WO.op rfl rfl rfl rfl (step_int2 rfl rfl rfl) ?_
  refine WO.nil ?_
  refine W.cond rfl (fun h1 => ?_) (fun h1 => ?_)
  · try simp only [decide_eq_true_eq, decide_eq_false_iff_not, Bool.not_eq_true', Bool.not_eq_false', beq_iff_eq, bne_iff_ne, beq_eq_false_iff_ne, bne_eq_false_iff_eq, gt_iff_lt, ge_iff_le, Int.not_lt, Int.not_le] at h1
    exact False.elim (by omega)
  · try simp only [decide_eq_true_eq, decide_eq_false_iff_not, Bool.not_eq_true', Bool.not_eq_false', beq_iff_eq, bne_iff_ne, beq_eq_false_iff_ne, bne_eq_false_iff_eq, gt_iff_lt, ge_iff_le, Int.not_lt, Int.not_le] at h1
    refine W.skip ?_
    refine W.seq ?_
    refine W.seq ?_
    refine W.to [(0, _), (1, _), (2, _), (3, _), (8, _), (9, _), (10, _), (11, _), (12, _), (14, _), (15, _), (20, _)] [_, _] rfl ⟨(by exact sh_sc rfl), (by exact sh_sc rfl), (by exact sh_sc rfl), (by exact sh_im rfl), (by exact sh_ptr rfl), (by exact sh_sc rfl), (by exact sh_ptr rfl), (by exact sh_sc rfl), (by exact sh_sc rfl), (by exact sh_sc rfl), (by exact sh_sc rfl), (by exact sh_sc rfl), trivial⟩ ?_
    refine W.region ?_
    refine WO.op rfl rfl rfl rfl (mv_im rfl) ?_
    refine WO.op rfl rfl rfl rfl (step_pure Try.call18 rfl (by (repeat (first | exact Nl.nil | refine Nl.keep (by exact noOwn_im) ?_))) (w_Sum hl) (by repeat (rfl))) ?_
    refine WO.op rfl rfl rfl rfl (step_int2 rfl rfl rfl) ?_
    refine WO.put 23 (.sc (.bool false)) (congrArg (fun b : Bool => AV.sc (.bool b)) (by rw [hs]; rfl)) ?_
    refine WO.nil ?_
    refine W.condF rfl ?_
    refine W.skip ?_
    refine W.to [(0, _), (1, _), (2, _), (3, _), (8, _), (9, _), (10, _), (11, _), (12, _), (14, _), (15, _), (20, _), (23, _)] [_, _] rfl ⟨(by exact sh_sc rfl), (by exact sh_sc rfl), (by exact sh_sc rfl), (by exact sh_im rfl), (by exact sh_ptr rfl), (by exact sh_sc rfl), (by exact sh_ptr rfl), (by exact sh_sc rfl), (by exact sh_sc rfl), (by exact sh_sc rfl), (by exact sh_sc rfl), (by exact sh_sc rfl), (by exact sh_sc rfl), trivial⟩ ?_
    refine W.draw (Checked.mixed Try.checked) ?_
    refine DC.op rfl rfl rfl (fun _ => mv_im rfl) ?_
    refine DC.op rfl rfl rfl (fun _ => step_idxB (j := 0) Try.runUnderlying23 Try.sizeOf5 rfl rfl (by (exact rfl)) (by omega)) ?_
    refine DC.op rfl rfl rfl (fun _ => step_loadB Try.isAgg5 rfl (by omega)) ?_
    refine DC.op rfl rfl rfl (fun _ => step_convR Try.runUnderlying5 Try.runUnderlying3 rfl (by exact convN (by (simp only [cap]; omega)))) ?_
    refine DC.op rfl rfl rfl (fun _ => mv_im rfl) ?_
    refine DC.op rfl rfl rfl (fun _ => step_idxB (j := 1) Try.runUnderlying23 Try.sizeOf5 rfl rfl (by (exact rfl)) (by omega)) ?_
    refine DC.op rfl rfl rfl (fun _ => step_loadB Try.isAgg5 rfl (by omega)) ?_
    refine DC.op rfl rfl rfl (fun _ => step_convR Try.runUnderlying5 Try.runUnderlying3 rfl (by exact convN (by (simp only [cap]; omega)))) ?_
    refine DC.op rfl rfl rfl (fun _ => mv_im rfl) ?_
    refine DC.op rfl rfl rfl (fun _ => step_subB (m := 4) Try.runUnderlying23 Try.sizeOf5 rfl (Bd.some (v := 4) rfl (by (exact rfl))) (Bd.some (v := 8) rfl (by (exact rfl))) (by omega) (by omega) (by exact Nat.sub_zero _) rfl) ?_
    refine DC.op rfl rfl rfl (fun _ => step_pure Try.call19 rfl (by (repeat (first | exact Nl.nil | refine Nl.keep (by exact noOwn_im) ?_))) (w_get4) (by repeat (rfl))) ?_
    refine DC.op rfl rfl rfl (fun _ => step_build (out := [.sc (.int .i64 1), .sc (.int .i64 (((l.getD 0 0).toNat : Nat) : Int)), .sc (.int .i64 (((l.getD 1 0).toNat : Nat) : Int)), .sc (.int .u32 ((be (sub l 4 4) : Nat) : Int)), .sc (.int .i64 0), .sc (.int .i64 0), .sc (.bool false), .sc (.int .u32 0), .sc (.int .u32 0), .sc (.int .i64 0), .sc (.int .i64 0), .sc (.int .i64 0), .sc (.string ⟨#[]⟩), .sc (.string ⟨#[]⟩)]) Try.zeroValue25 (pl := [(0, 1), (1, 1), (2, 1), (3, 1), (4, 1), (5, 1), (6, 1), (7, 1), (8, 1), (9, 1), (10, 1), (11, 1), (12, 1), (13, 1)]) (PlacesOf.mk (by kernel_rfl)) (by kernel_rfl)) ?_
    refine DC.set 35 (.agg [.sc (.int .i64 1), .sc (.int .i64 (((l.getD 0 0).toNat : Nat) : Int)), .sc (.int .i64 (((l.getD 1 0).toNat : Nat) : Int)), .sc (.int .u32 ((be (sub l 4 4) : Nat) : Int)), .sc (.int .i64 0), .sc (.int .i64 0), .sc (.bool false), .sc (.int .u32 0), .sc (.int .u32 0), .sc (.int .i64 0), .sc (.int .i64 0), .sc (.int .i64 0), .sc (.string ⟨#[]⟩), .sc (.string ⟨#[]⟩)]) (by kernel_rfl) ?_
    refine DC.opE0 rfl rfl (step_storeA Try.sizeOf25 rfl rfl rfl (by repeat (exact all_cell rfl rfl)) rfl rfl) (by simp) (by repeat (first | exact True.intro | refine And.intro (by rfl) ?_)) (by repeat (first | exact True.intro | refine And.intro (by rfl) ?_)) ?_
    refine DC.fin [(1, 0), (2, 0), (3, 0), (5, 0), (6, 0), (7, 0), (9, 0), (10, 0)] (by kernel_rfl) (by kernel_rfl) ?_ ?_
    · repeat (first | exact True.intro | refine And.intro ?_ ?_)
    · refine W.seq ?_
      refine W.to [(0, _), (1, _), (2, _), (3, _), (8, _), (9, _), (10, _), (11, _), (12, _), (14, _), (15, _), (20, _), (23, _)] [_, _] rfl ⟨(by exact sh_sc rfl), (by exact sh_sc rfl), (by exact sh_sc rfl), (by exact sh_im rfl), (by exact sh_ptr rfl), (by exact sh_sc rfl), (by exact sh_ptr rfl), (by exact sh_sc rfl), (by exact sh_sc rfl), (by exact sh_sc rfl), (by exact sh_sc rfl), (by exact sh_sc rfl), (by exact sh_sc rfl), trivial⟩ ?_
      refine W.region ?_
      refine WO.op rfl rfl rfl rfl (mv_im rfl) ?_
      refine WO.op rfl rfl rfl rfl (mv_sc rfl) ?_
      refine WO.op rfl rfl rfl rfl (step_subB Try.runUnderlying23 Try.sizeOf5 rfl (Bd.some rfl (by (exact rfl))) Bd.none (by omega) (by omega) (by exact Nat.sub_zero _) rfl) ?_
      refine WO.op rfl rfl rfl rfl (step_strI Try.underlying23 Try.underlying5 Try.underlying9 rfl) ?_
      refine WO.put 114 (.sc (.string ⟨(l.drop 8).toArray⟩)) (congrArg (fun z : List UInt8 => AV.sc (.string ⟨z.toArray⟩)) (List.take_of_length_le (by rw [List.length_drop]; exact Nat.le_refl _))) ?_
      refine WO.op rfl rfl rfl rfl (step_fieldR (k := 13) (FieldOff.mk (by kernel_rfl)) rfl rfl (by exact Nat.zero_add _)) ?_
      refine WO.op0 rfl rfl rfl (step_store1 Try.sizeOf9 rfl rfl rfl rfl (by (simp only [List.length_map, List.length_append, List.length_take, List.length_drop, List.length_set, List.length_cons, List.length_nil, List.length_replicate] <;> omega))) ?_
      refine WO.nil ?_
      refine W.seq ?_
      refine W.seq ?_
      refine W.to [(0, _), (1, _), (2, _), (3, _), (8, _), (9, _), (10, _), (11, _), (12, _), (14, _), (15, _), (20, _), (23, _)] [_, _] rfl ⟨(by exact sh_sc rfl), (by exact sh_sc rfl), (by exact sh_sc rfl), (by exact sh_im rfl), (by exact sh_ptr rfl), (by exact sh_sc rfl), (by exact sh_ptr rfl), (by exact sh_sc rfl), (by exact sh_sc rfl), (by exact sh_sc rfl), (by exact sh_sc rfl), (by exact sh_sc rfl), (by exact sh_sc rfl), trivial⟩ ?_
      refine W.region ?_
      refine WO.op rfl rfl rfl rfl (step_loadA Try.isAgg25 Try.sizeOf25 rfl rfl (by exact Nat.le_refl _)) ?_
      refine WO.put 116 (.agg [.sc (.int .i64 1), .sc (.int .i64 (((l.getD 0 0).toNat : Nat) : Int)), .sc (.int .i64 (((l.getD 1 0).toNat : Nat) : Int)), .sc (.int .u32 ((be (sub l 4 4) : Nat) : Int)), .sc (.int .i64 0), .sc (.int .i64 0), .sc (.bool false), .sc (.int .u32 0), .sc (.int .u32 0), .sc (.int .i64 0), .sc (.int .i64 0), .sc (.int .i64 0), .sc (.string ⟨#[]⟩), .sc (.string ⟨(l.drop 8).toArray⟩)]) (by kernel_rfl) ?_
      refine WO.op0 rfl rfl rfl (step_storeA Try.sizeOf25 rfl rfl rfl (by repeat (exact all_cell rfl rfl)) rfl rfl) ?_
      refine WO.op rfl rfl rfl rfl (as_sc rfl) ?_
      refine WO.nil ?_
      refine W.ret ?_
      refine ⟨.inl rfl, ?_⟩
      exact ret0 (Res.cellA Try.isAgg25 Try.sizeOf25 rfl rfl (Nat.le_of_ble_eq_true rfl) (Res.tmp rfl Res.nil)) (.keep rfl)

theorem w_DecT {src dst : Nat} {l : List UInt8} (hsrc : src < 4294967296) (hdst : dst < 4294967296) (hl : l.length ≤ 200000000000000) (h : tcE src dst l = 0) : Spec0 Try.prog 8 [.sc (.int .u32 ((src : Nat) : Int)), .sc (.int .u32 ((dst : Nat) : Int)), .sc (.int .i64 6), .im 1 (l.map byteAV)] (.tup [.agg [.sc (.int .i64 3), .sc (.int .i64 0), .sc (.int .i64 0), .sc (.int .u32 0), .sc (.int .i64 ((be (sub l 0 2) : Nat) : Int)), .sc (.int .i64 ((be (sub l 2 2) : Nat) : Int)), .sc (.bool false), .sc (.int .u32 ((be (sub l 4 4) : Nat) : Int)), .sc (.int .u32 ((be (sub l 8 4) : Nat) : Int)), .sc (.int .i64 ((be (sub l 12 2) % 4096 : Nat) : Int)), .sc (.int .i64 ((be (sub l 14 2) : Nat) : Int)), .sc (.int .i64 ((be (sub l 18 2) : Nat) : Int)), .sc (.string ⟨(sub l 20 (tcS l - 20)).toArray⟩), .sc (.string ⟨(l.drop (tcS l)).toArray⟩)], .sc (.int .i64 0)]) := by
  refine Spec.body Try.func8 rfl (Nat.le_of_ble_eq_true rfl) ?_
  obtain ⟨h20, hz, hz2, hs⟩ := tcE_ok h
  have b0 := byte_le (l.getD 0 0)
  have b1 := byte_le (l.getD 1 0)
  have b12 := byte_le (l.getD 12 0)
  have g0 : be (sub l 0 2) < 65536 := be2 _
  have g2 : be (sub l 2 2) < 65536 := be2 _
  have g4 : be (sub l 4 2) < 65536 := be2 _
  have g6 : be (sub l 6 2) < 65536 := be2 _
  have g12 : be (sub l 12 2) < 65536 := be2 _
  have g14 : be (sub l 14 2) < 65536 := be2 _
  have g18 : be (sub l 18 2) < 65536 := be2 _
  have f4 : be (List.take 4 (List.drop 4 l)) < 4294967296 := be4 _
  have k4 : be (sub l 4 4) < 4294967296 := be4 _
  have f8 : be (List.take 4 (List.drop 8 l)) < 4294967296 := be4 _
  have k8 : be (sub l 8 4) < 4294967296 := be4 _
  refine W.seq ?_
  refine W.region ?_
  refine WO.opA rfl rfl rfl rfl (al_alloc Try.zeroValue25) rfl rfl ?_
  refine WO.put 8 (.ptr 0 0) rfl ?_
  refine WO.op rfl rfl rfl rfl (as_sc rfl) ?_
  refine WO.nil ?_
  refine W.scopeN 3 (fun _ _ h => (by exact h.elim (fun h => nomatch h))) ?_
  refine W.seq ?_
  refine W.to [(0, _), (1, _), (2, _), (3, _), (8, _), (9, _)] [_] rfl ⟨(by exact sh_sc rfl), (by exact sh_sc rfl), (by exact sh_sc rfl), (by exact sh_im rfl), (by exact sh_ptr rfl), (by exact sh_sc rfl), trivial⟩ ?_
  refine W.region ?_
  refine WO.op rfl rfl rfl rfl (step_build (out := [.sc (.int .i64 0), .sc (.int .i64 0), .sc (.int .i64 0), .sc (.int .u32 0), .sc (.int .i64 0), .sc (.int .i64 0), .sc (.bool false), .sc (.int .u32 0), .sc (.int .u32 0), .sc (.int .i64 0), .sc (.int .i64 0), .sc (.int .i64 0), .sc (.string ⟨#[]⟩), .sc (.string ⟨#[]⟩)]) Try.zeroValue25 (pl := [(0, 1), (1, 1), (2, 1), (3, 1), (4, 1), (5, 1), (6, 1), (7, 1), (8, 1), (9, 1), (10, 1), (11, 1), (12, 1), (13, 1)]) (PlacesOf.mk (by kernel_rfl)) (by kernel_rfl)) ?_
  refine WO.put 13 (.agg [.sc (.int .i64 0), .sc (.int .i64 0), .sc (.int .i64 0), .sc (.int .u32 0), .sc (.int .i64 0), .sc (.int .i64 0), .sc (.bool false), .sc (.int .u32 0), .sc (.int .u32 0), .sc (.int .i64 0), .sc (.int .i64 0), .sc (.int .i64 0), .sc (.string ⟨#[]⟩), .sc (.string ⟨#[]⟩)]) (by kernel_rfl) ?_
  refine WO.opA rfl rfl rfl rfl (al_alloc Try.zeroValue25) rfl rfl ?_
  refine WO.put 10 (.ptr 1 0) rfl ?_
  refine WO.op0 rfl rfl rfl (step_storeA Try.sizeOf25 rfl rfl rfl (by repeat (exact all_cell rfl rfl)) rfl rfl) ?_
  refine WO.nil ?_
  refine W.seq ?_
  refine W.to [(0, _), (1, _), (2, _), (3, _), (8, _), (9, _), (10, _)] [_, _] rfl ⟨(by exact sh_sc rfl), (by exact sh_sc rfl), (by exact sh_sc rfl), (by exact sh_im rfl), (by exact sh_ptr rfl), (by exact sh_sc rfl), (by exact sh_ptr rfl), trivial⟩ ?_
  refine W.region ?_
  refine WO.op rfl rfl rfl rfl (as_sc rfl) ?_
  refine WO.nil ?_
  refine W.seq ?_
  refine W.to [(0, _), (1, _), (2, _), (3, _), (8, _), (9, _), (10, _), (11, _)] [_, _] rfl ⟨(by exact sh_sc rfl), (by exact sh_sc rfl), (by exact sh_sc rfl), (by exact sh_im rfl), (by exact sh_ptr rfl), (by exact sh_sc rfl), (by exact sh_ptr rfl), (by exact sh_sc rfl), trivial⟩ ?_
  refine W.region ?_
  refine WO.op rfl rfl rfl rfl (as_sc rfl) ?_
  refine WO.nil ?_
  refine W.seq ?_
  refine W.seq ?_
  refine W.to [(0, _), (1, _), (2, _), (3, _), (8, _), (9, _), (10, _), (11, _), (12, _)] [_, _] rfl ⟨(by exact sh_sc rfl), (by exact sh_sc rfl), (by exact sh_sc rfl), (by exact sh_im rfl), (by exact sh_ptr rfl), (by exact sh_sc rfl), (by exact sh_ptr rfl), (by exact sh_sc rfl), (by exact sh_sc rfl), trivial⟩ ?_
  refine W.region ?_
  refine WO.op rfl rfl rfl rfl (mv_sc rfl) ?_
  refine WO.nil ?_
  refine W.block ?_
  refine W.seq ?_
  refine W.to [(0, _), (1, _), (2, _), (3, _), (8, _), (9, _), (10, _), (11, _), (12, _), (14, _)] [_, _] rfl ⟨(by exact sh_sc rfl), (by exact sh_sc rfl), (by exact sh_sc rfl), (by exact sh_im rfl), (by exact sh_ptr rfl), (by exact sh_sc rfl), (by exact sh_ptr rfl), (by exact sh_sc rfl), (by exact sh_sc rfl), (by exact sh_sc rfl), trivial⟩ ?_
  refine W.region ?_
  refine WO.op rfl rfl rfl rfl (step_int2 rfl rfl rfl) ?_
  refine WO.put 16 (.sc (.bool false)) (by kernel_rfl) ?_
  refine WO.op rfl rfl rfl rfl (as_sc rfl) ?_
  refine WO.nil ?_
  refine W.condF rfl ?_
  refine W.seq ?_
  refine W.to [(0, _), (1, _), (2, _), (3, _), (8, _), (9, _), (10, _), (11, _), (12, _), (14, _), (15, _)] [_, _] rfl ⟨(by exact sh_sc rfl), (by exact sh_sc rfl), (by exact sh_sc rfl), (by exact sh_im rfl), (by exact sh_ptr rfl), (by exact sh_sc rfl), (by exact sh_ptr rfl), (by exact sh_sc rfl), (by exact sh_sc rfl), (by exact sh_sc rfl), (by exact sh_sc rfl), trivial⟩ ?_
  refine W.region ?_
  refine WO.op rfl rfl rfl rfl (step_int2 rfl rfl rfl) ?_
  refine WO.put 37 (.sc (.bool false)) (by kernel_rfl) ?_
  refine WO.op rfl rfl rfl rfl (as_sc rfl) ?_
  refine WO.nil ?_
  refine W.condF rfl ?_
  refine W.seq ?_
  refine W.to [(0, _), (1, _), (2, _), (3, _), (8, _), (9, _), (10, _), (11, _), (12, _), (14, _), (15, _), (36, _)] [_, _] rfl ⟨(by exact sh_sc rfl), (by exact sh_sc rfl), (by exact sh_sc rfl), (by exact sh_im rfl), (by exact sh_ptr rfl), (by exact sh_sc rfl), (by exact sh_ptr rfl), (by exact sh_sc rfl), (by exact sh_sc rfl), (by exact sh_sc rfl), (by exact sh_sc rfl), (by exact sh_sc rfl), trivial⟩ ?_
  refine W.region ?_
  refine WO.op rfl rfl rfl rfl (step_int2 rfl rfl rfl) ?_
  refine WO.put 67 (.sc (.bool true)) (by kernel_rfl) ?_
  refine WO.op rfl rfl rfl rfl (as_sc rfl) ?_
  refine WO.nil ?_
  refine W.condT rfl ?_
  refine W.seq ?_
  refine W.seq ?_
  refine W.to [(0, _), (1, _), (2, _), (3, _), (8, _), (9, _), (10, _), (11, _), (12, _), (14, _), (15, _), (36, _), (66, _)] [_, _] rfl ⟨(by exact sh_sc rfl), (by exact sh_sc rfl), (by exact sh_sc rfl), (by exact sh_im rfl), (by exact sh_ptr rfl), (by exact sh_sc rfl), (by exact sh_ptr rfl), (by exact sh_sc rfl), (by exact sh_sc rfl), (by exact sh_sc rfl), (by exact sh_sc rfl), (by exact sh_sc rfl), (by exact sh_sc rfl), trivial⟩ ?_
  refine W.region ?_
  refine WO.op rfl rfl rfl rfl (mv_im rfl) ?_
  refine WO.op rfl rfl rfl rfl (step_lenB Try.runUnderlying23 rfl) ?_
  refine WO.op rfl rfl rfl rfl (step_int2 rfl rfl rfl) ?_
  refine WO.nil ?_
  refine W.cond rfl (fun h1 => ?_) (fun h1 => ?_)
  · try simp only [decide_eq_true_eq, decide_eq_false_iff_not, Bool.not_eq_true', Bool.not_eq_false', beq_iff_eq, bne_iff_ne, beq_eq_false_iff_ne, bne_eq_false_iff_eq, gt_iff_lt, ge_iff_le, Int.not_lt, Int.not_le] at h1
    exact False.elim (by omega)
  · try simp only [decide_eq_true_eq, decide_eq_false_iff_not, Bool.not_eq_true', Bool.not_eq_false', beq_iff_eq, bne_iff_ne, beq_eq_false_iff_ne, bne_eq_false_iff_eq, gt_iff_lt, ge_iff_le, Int.not_lt, Int.not_le] at h1
    refine W.skip ?_
    refine W.seq ?_
    refine W.to [(0, _), (1, _), (2, _), (3, _), (8, _), (9, _), (10, _), (11, _), (12, _), (14, _), (15, _), (36, _), (66, _), (70, _)] [_, _] rfl ⟨(by exact sh_sc rfl), (by exact sh_sc rfl), (by exact sh_sc rfl), (by exact sh_im rfl), (by exact sh_ptr rfl), (by exact sh_sc rfl), (by exact sh_ptr rfl), (by exact sh_sc rfl), (by exact sh_sc rfl), (by exact sh_sc rfl), (by exact sh_sc rfl), (by exact sh_sc rfl), (by exact sh_sc rfl), (by exact sh_sc rfl), trivial⟩ ?_
    refine W.region ?_
    refine WO.op rfl rfl rfl rfl (mv_im rfl) ?_
    refine WO.op rfl rfl rfl rfl (step_idxB (j := 12) Try.runUnderlying23 Try.sizeOf5 rfl rfl (by (exact rfl)) (by omega)) ?_
    refine WO.op rfl rfl rfl rfl (step_loadB Try.isAgg5 rfl (by omega)) ?_
    refine WO.op rfl rfl rfl rfl (step_shrN (s := 4) rfl rfl (by (simp only [cap]; omega))) ?_
    refine WO.op rfl rfl rfl rfl (step_convR Try.runUnderlying5 Try.runUnderlying3 rfl (by exact convN (by (simp only [cap]; omega)))) ?_
    refine WO.op rfl rfl rfl rfl (step_mulN (p := 4) rfl rfl (by (simp only [cap]; omega))) ?_
    refine WO.put 76 (.sc (.int .i64 ((tcS l : Nat) : Int))) (rfl) ?_
    refine WO.op rfl rfl rfl rfl (as_sc rfl) ?_
    refine WO.nil ?_
    refine W.seq ?_
    refine W.seq ?_
    refine W.to [(0, _), (1, _), (2, _), (3, _), (8, _), (9, _), (10, _), (11, _), (12, _), (14, _), (15, _), (36, _), (66, _), (70, _)] [_, _] rfl ⟨(by exact sh_sc rfl), (by exact sh_sc rfl), (by exact sh_sc rfl), (by exact sh_im rfl), (by exact sh_ptr rfl), (by exact sh_sc rfl), (by exact sh_ptr rfl), (by exact sh_sc rfl), (by exact sh_sc rfl), (by exact sh_sc rfl), (by exact sh_sc rfl), (by exact sh_sc rfl), (by exact sh_sc rfl), (by exact sh_sc rfl), trivial⟩ ?_
    refine W.region ?_
    refine WO.op rfl rfl rfl rfl (mv_sc rfl) ?_
    refine WO.op rfl rfl rfl rfl (step_int2 rfl rfl rfl) ?_
    refine WO.nil ?_
    refine W.cond rfl (fun h2 => ?_) (fun h2 => ?_)
    · try simp only [decide_eq_true_eq, decide_eq_false_iff_not, Bool.not_eq_true', Bool.not_eq_false', beq_iff_eq, bne_iff_ne, beq_eq_false_iff_ne, bne_eq_false_iff_eq, gt_iff_lt, ge_iff_le, Int.not_lt, Int.not_le] at h2
      exact False.elim (by omega)
    · try simp only [decide_eq_true_eq, decide_eq_false_iff_not, Bool.not_eq_true', Bool.not_eq_false', beq_iff_eq, bne_iff_ne, beq_eq_false_iff_ne, bne_eq_false_iff_eq, gt_iff_lt, ge_iff_le, Int.not_lt, Int.not_le] at h2
      refine W.skip ?_
      refine W.seq ?_
      refine W.seq ?_
      refine W.to [(0, _), (1, _), (2, _), (3, _), (8, _), (9, _), (10, _), (11, _), (12, _), (14, _), (15, _), (36, _), (66, _), (70, _), (78, _)] [_, _] rfl ⟨(by exact sh_sc rfl), (by exact sh_sc rfl), (by exact sh_sc rfl), (by exact sh_im rfl), (by exact sh_ptr rfl), (by exact sh_sc rfl), (by exact sh_ptr rfl), (by exact sh_sc rfl), (by exact sh_sc rfl), (by exact sh_sc rfl), (by exact sh_sc rfl), (by exact sh_sc rfl), (by exact sh_sc rfl), (by exact sh_sc rfl), (by exact sh_sc rfl), trivial⟩ ?_
      refine W.region ?_
      refine WO.op rfl rfl rfl rfl (mv_im rfl) ?_
      refine WO.op rfl rfl rfl rfl (step_lenB Try.runUnderlying23 rfl) ?_
      refine WO.op rfl rfl rfl rfl (mv_sc rfl) ?_
      refine WO.op rfl rfl rfl rfl (step_int2 rfl rfl rfl) ?_
      refine WO.nil ?_
      refine W.cond rfl (fun h3 => ?_) (fun h3 => ?_)
      · try simp only [decide_eq_true_eq, decide_eq_false_iff_not, Bool.not_eq_true', Bool.not_eq_false', beq_iff_eq, bne_iff_ne, beq_eq_false_iff_ne, bne_eq_false_iff_eq, gt_iff_lt, ge_iff_le, Int.not_lt, Int.not_le] at h3
        exact False.elim (by omega)
      · try simp only [decide_eq_true_eq, decide_eq_false_iff_not, Bool.not_eq_true', Bool.not_eq_false', beq_iff_eq, bne_iff_ne, beq_eq_false_iff_ne, bne_eq_false_iff_eq, gt_iff_lt, ge_iff_le, Int.not_lt, Int.not_le] at h3
        refine W.skip ?_
        refine W.seq ?_
        refine W.seq ?_
        refine W.to [(0, _), (1, _), (2, _), (3, _), (8, _), (9, _), (10, _), (11, _), (12, _), (14, _), (15, _), (36, _), (66, _), (70, _), (78, _), (82, _)] [_, _] rfl ⟨(by exact sh_sc rfl), (by exact sh_sc rfl), (by exact sh_sc rfl), (by exact sh_im rfl), (by exact sh_ptr rfl), (by exact sh_sc rfl), (by exact sh_ptr rfl), (by exact sh_sc rfl), (by exact sh_sc rfl), (by exact sh_sc rfl), (by exact sh_sc rfl), (by exact sh_sc rfl), (by exact sh_sc rfl), (by exact sh_sc rfl), (by exact sh_sc rfl), (by exact sh_sc rfl), trivial⟩ ?_
        refine W.region ?_
        refine WO.op rfl rfl rfl rfl (mv_sc rfl) ?_
        refine WO.op rfl rfl rfl rfl (mv_sc rfl) ?_
        refine WO.op rfl rfl rfl rfl (mv_sc rfl) ?_
        refine WO.op rfl rfl rfl rfl (mv_im rfl) ?_
        refine WO.op rfl rfl rfl rfl (step_pure Try.call21 rfl (by (repeat (first | exact Nl.nil | refine Nl.keep (by first | rfl | exact noOwn_im) ?_))) (w_whole hsrc hdst (by decide) hl) (by repeat (rfl))) ?_
        refine WO.op rfl rfl rfl rfl (step_int2 rfl rfl rfl) ?_
        refine WO.put 88 (.sc (.bool false)) (congrArg (fun b : Bool => AV.sc (.bool b)) (by rw [hs]; rfl)) ?_
        refine WO.nil ?_
        refine W.condF rfl ?_
        refine W.skip ?_
        refine W.to [(0, _), (1, _), (2, _), (3, _), (8, _), (9, _), (10, _), (11, _), (12, _), (14, _), (15, _), (36, _), (66, _), (70, _), (78, _), (82, _), (88, _)] [_, _] rfl ⟨(by exact sh_sc rfl), (by exact sh_sc rfl), (by exact sh_sc rfl), (by exact sh_im rfl), (by exact sh_ptr rfl), (by exact sh_sc rfl), (by exact sh_ptr rfl), (by exact sh_sc rfl), (by exact sh_sc rfl), (by exact sh_sc rfl), (by exact sh_sc rfl), (by exact sh_sc rfl), (by exact sh_sc rfl), (by exact sh_sc rfl), (by exact sh_sc rfl), (by exact sh_sc rfl), (by exact sh_sc rfl), trivial⟩ ?_
        refine W.draw (Checked.mixed Try.checked) ?_
        refine DC.op rfl rfl rfl (fun _ => mv_im rfl) ?_
        refine DC.op rfl rfl rfl (fun _ => step_pure Try.call20 rfl (by (repeat (first | exact Nl.nil | refine Nl.keep (by first | rfl | exact noOwn_im) ?_))) (w_two (i := 0) (by omega) hl) (by repeat (rfl))) ?_
        refine DC.op rfl rfl rfl (fun _ => mv_im rfl) ?_
        refine DC.op rfl rfl rfl (fun _ => step_pure Try.call20 rfl (by (repeat (first | exact Nl.nil | refine Nl.keep (by first | rfl | exact noOwn_im) ?_))) (w_two (i := 2) (by omega) hl) (by repeat (rfl))) ?_
        refine DC.op rfl rfl rfl (fun _ => mv_im rfl) ?_
        refine DC.op rfl rfl rfl (fun _ => step_subB (m := 4) Try.runUnderlying23 Try.sizeOf5 rfl (Bd.some (v := 4) rfl (by (exact rfl))) (Bd.some (v := 8) rfl (by (exact rfl))) (by omega) (by omega) (by exact Nat.sub_zero _) rfl) ?_
        refine DC.op rfl rfl rfl (fun _ => step_pure Try.call19 rfl (by (repeat (first | exact Nl.nil | refine Nl.keep (by exact noOwn_im) ?_))) (w_get4) (by repeat (rfl))) ?_
        refine DC.op rfl rfl rfl (fun _ => mv_im rfl) ?_
        refine DC.op rfl rfl rfl (fun _ => step_subB (m := 4) Try.runUnderlying23 Try.sizeOf5 rfl (Bd.some (v := 8) rfl (by (exact rfl))) (Bd.some (v := 12) rfl (by (exact rfl))) (by omega) (by omega) (by exact Nat.sub_zero _) rfl) ?_
        refine DC.op rfl rfl rfl (fun _ => step_pure Try.call19 rfl (by (repeat (first | exact Nl.nil | refine Nl.keep (by exact noOwn_im) ?_))) (w_get4) (by repeat (rfl))) ?_
        refine DC.op rfl rfl rfl (fun _ => mv_im rfl) ?_
        refine DC.op rfl rfl rfl (fun _ => step_pure Try.call20 rfl (by (repeat (first | exact Nl.nil | refine Nl.keep (by first | rfl | exact noOwn_im) ?_))) (w_two (i := 12) (by omega) hl) (by repeat (rfl))) ?_
        refine DC.op rfl rfl rfl (fun _ => step_andN (q := 4095) rfl rfl (by (simp only [cap]; omega)) (by (simp only [cap]; omega))) ?_
        refine DC.set 101 (.sc (.int .i64 ((be (sub l 12 2) % 4096 : Nat) : Int))) (congrArg (fun z : Nat => AV.sc (.int .i64 (z : Int))) (Nat.and_two_pow_sub_one_eq_mod _ 12)) ?_
        refine DC.op rfl rfl rfl (fun _ => mv_im rfl) ?_
        refine DC.op rfl rfl rfl (fun _ => step_pure Try.call20 rfl (by (repeat (first | exact Nl.nil | refine Nl.keep (by first | rfl | exact noOwn_im) ?_))) (w_two (i := 14) (by omega) hl) (by repeat (rfl))) ?_
        refine DC.op rfl rfl rfl (fun _ => mv_im rfl) ?_
        refine DC.op rfl rfl rfl (fun _ => step_pure Try.call20 rfl (by (repeat (first | exact Nl.nil | refine Nl.keep (by first | rfl | exact noOwn_im) ?_))) (w_two (i := 18) (by omega) hl) (by repeat (rfl))) ?_
        refine DC.op rfl rfl rfl (fun _ => mv_im rfl) ?_
        refine DC.op rfl rfl rfl (fun _ => mv_sc rfl) ?_
        refine DC.op rfl rfl rfl (fun _ => step_subB Try.runUnderlying23 Try.sizeOf5 rfl (Bd.some (v := 20) rfl (by (exact rfl))) (Bd.some rfl (by (exact rfl))) (by omega) (by omega) (by exact Nat.sub_zero _) rfl) ?_
        refine DC.op rfl rfl rfl (fun _ => step_strI Try.underlying23 Try.underlying5 Try.underlying9 rfl) ?_
        refine DC.op rfl rfl rfl (fun _ => step_build (out := [.sc (.int .i64 3), .sc (.int .i64 0), .sc (.int .i64 0), .sc (.int .u32 0), .sc (.int .i64 ((be (sub l 0 2) : Nat) : Int)), .sc (.int .i64 ((be (sub l 2 2) : Nat) : Int)), .sc (.bool false), .sc (.int .u32 ((be (sub l 4 4) : Nat) : Int)), .sc (.int .u32 ((be (sub l 8 4) : Nat) : Int)), .sc (.int .i64 ((be (sub l 12 2) % 4096 : Nat) : Int)), .sc (.int .i64 ((be (sub l 14 2) : Nat) : Int)), .sc (.int .i64 ((be (sub l 18 2) : Nat) : Int)), .sc (.string ⟨(sub l 20 (tcS l - 20)).toArray⟩), .sc (.string ⟨#[]⟩)]) Try.zeroValue25 (pl := [(0, 1), (1, 1), (2, 1), (3, 1), (4, 1), (5, 1), (6, 1), (7, 1), (8, 1), (9, 1), (10, 1), (11, 1), (12, 1), (13, 1)]) (PlacesOf.mk (by kernel_rfl)) (by kernel_rfl)) ?_
        refine DC.set 110 (.agg [.sc (.int .i64 3), .sc (.int .i64 0), .sc (.int .i64 0), .sc (.int .u32 0), .sc (.int .i64 ((be (sub l 0 2) : Nat) : Int)), .sc (.int .i64 ((be (sub l 2 2) : Nat) : Int)), .sc (.bool false), .sc (.int .u32 ((be (sub l 4 4) : Nat) : Int)), .sc (.int .u32 ((be (sub l 8 4) : Nat) : Int)), .sc (.int .i64 ((be (sub l 12 2) % 4096 : Nat) : Int)), .sc (.int .i64 ((be (sub l 14 2) : Nat) : Int)), .sc (.int .i64 ((be (sub l 18 2) : Nat) : Int)), .sc (.string ⟨(sub l 20 (tcS l - 20)).toArray⟩), .sc (.string ⟨#[]⟩)]) (by kernel_rfl) ?_
        refine DC.opE0 rfl rfl (step_storeA Try.sizeOf25 rfl rfl rfl (by repeat (exact all_cell rfl rfl)) rfl rfl) (by simp) (by repeat (first | exact True.intro | refine And.intro (by rfl) ?_)) (by repeat (first | exact True.intro | refine And.intro (by rfl) ?_)) ?_
        refine DC.fin [(1, 0), (3, 0), (5, 0), (6, 0), (8, 0), (9, 0), (11, 0), (14, 0), (16, 0), (19, 0), (20, 0)] (by kernel_rfl) (by kernel_rfl) ?_ ?_
        · repeat (first | exact True.intro | refine And.intro ?_ ?_)
        · refine W.seq ?_
          refine W.to [(0, _), (1, _), (2, _), (3, _), (8, _), (9, _), (10, _), (11, _), (12, _), (14, _), (15, _), (36, _), (66, _), (70, _), (78, _), (82, _), (88, _)] [_, _] rfl ⟨(by exact sh_sc rfl), (by exact sh_sc rfl), (by exact sh_sc rfl), (by exact sh_im rfl), (by exact sh_ptr rfl), (by exact sh_sc rfl), (by exact sh_ptr rfl), (by exact sh_sc rfl), (by exact sh_sc rfl), (by exact sh_sc rfl), (by exact sh_sc rfl), (by exact sh_sc rfl), (by exact sh_sc rfl), (by exact sh_sc rfl), (by exact sh_sc rfl), (by exact sh_sc rfl), (by exact sh_sc rfl), trivial⟩ ?_
          refine W.region ?_
          refine WO.op rfl rfl rfl rfl (mv_im rfl) ?_
          refine WO.op rfl rfl rfl rfl (mv_sc rfl) ?_
          refine WO.op rfl rfl rfl rfl (step_subB Try.runUnderlying23 Try.sizeOf5 rfl (Bd.some rfl (by (exact rfl))) Bd.none (by omega) (by omega) (by exact Nat.sub_zero _) rfl) ?_
          refine WO.op rfl rfl rfl rfl (step_strI Try.underlying23 Try.underlying5 Try.underlying9 rfl) ?_
          refine WO.put 114 (.sc (.string ⟨(l.drop (tcS l)).toArray⟩)) (congrArg (fun z : List UInt8 => AV.sc (.string ⟨z.toArray⟩)) (List.take_of_length_le (by rw [List.length_drop]; exact Nat.le_refl _))) ?_
          refine WO.op rfl rfl rfl rfl (step_fieldR (k := 13) (FieldOff.mk (by kernel_rfl)) rfl rfl (by exact Nat.zero_add _)) ?_
          refine WO.op0 rfl rfl rfl (step_store1 Try.sizeOf9 rfl rfl rfl rfl (by (simp only [List.length_map, List.length_append, List.length_take, List.length_drop, List.length_set, List.length_cons, List.length_nil, List.length_replicate] <;> omega))) ?_
          refine WO.nil ?_
          refine W.seq ?_
          refine W.seq ?_
          refine W.to [(0, _), (1, _), (2, _), (3, _), (8, _), (9, _), (10, _), (11, _), (12, _), (14, _), (15, _), (36, _), (66, _), (70, _), (78, _), (82, _), (88, _)] [_, _] rfl ⟨(by exact sh_sc rfl), (by exact sh_sc rfl), (by exact sh_sc rfl), (by exact sh_im rfl), (by exact sh_ptr rfl), (by exact sh_sc rfl), (by exact sh_ptr rfl), (by exact sh_sc rfl), (by exact sh_sc rfl), (by exact sh_sc rfl), (by exact sh_sc rfl), (by exact sh_sc rfl), (by exact sh_sc rfl), (by exact sh_sc rfl), (by exact sh_sc rfl), (by exact sh_sc rfl), (by exact sh_sc rfl), trivial⟩ ?_
          refine W.region ?_
          refine WO.op rfl rfl rfl rfl (step_loadA Try.isAgg25 Try.sizeOf25 rfl rfl (by exact Nat.le_refl _)) ?_
          refine WO.put 116 (.agg [.sc (.int .i64 3), .sc (.int .i64 0), .sc (.int .i64 0), .sc (.int .u32 0), .sc (.int .i64 ((be (sub l 0 2) : Nat) : Int)), .sc (.int .i64 ((be (sub l 2 2) : Nat) : Int)), .sc (.bool false), .sc (.int .u32 ((be (sub l 4 4) : Nat) : Int)), .sc (.int .u32 ((be (sub l 8 4) : Nat) : Int)), .sc (.int .i64 ((be (sub l 12 2) % 4096 : Nat) : Int)), .sc (.int .i64 ((be (sub l 14 2) : Nat) : Int)), .sc (.int .i64 ((be (sub l 18 2) : Nat) : Int)), .sc (.string ⟨(sub l 20 (tcS l - 20)).toArray⟩), .sc (.string ⟨(l.drop (tcS l)).toArray⟩)]) (by kernel_rfl) ?_
          refine WO.op0 rfl rfl rfl (step_storeA Try.sizeOf25 rfl rfl rfl (by repeat (exact all_cell rfl rfl)) rfl rfl) ?_
          refine WO.op rfl rfl rfl rfl (as_sc rfl) ?_
          refine WO.nil ?_
          refine W.ret ?_
          refine ⟨.inl rfl, ?_⟩
          exact ret0 (Res.cellA Try.isAgg25 Try.sizeOf25 rfl rfl (Nat.le_of_ble_eq_true rfl) (Res.tmp rfl Res.nil)) (.keep rfl)

theorem w_DecO {src dst : Nat} {l : List UInt8} (hsrc : src < 4294967296) (hdst : dst < 4294967296) (hl : l.length ≤ 200000000000000) {p : Int} (hp : p ≠ 1 ∧ p ≠ 17 ∧ p ≠ 6) : Spec0 Try.prog 8 [.sc (.int .u32 ((src : Nat) : Int)), .sc (.int .u32 ((dst : Nat) : Int)), .sc (.int .i64 p), .im 1 (l.map byteAV)] (.tup [.agg [.sc (.int .i64 0), .sc (.int .i64 0), .sc (.int .i64 0), .sc (.int .u32 0), .sc (.int .i64 0), .sc (.int .i64 0), .sc (.bool false), .sc (.int .u32 0), .sc (.int .u32 0), .sc (.int .i64 0), .sc (.int .i64 0), .sc (.int .i64 0), .sc (.string ⟨#[]⟩), .sc (.string ⟨l.toArray⟩)], .sc (.int .i64 0)]) := by
  refine Spec.body Try.func8 rfl (Nat.le_of_ble_eq_true rfl) ?_
  have b0 := byte_le (l.getD 0 0)
  have b1 := byte_le (l.getD 1 0)
  have b12 := byte_le (l.getD 12 0)
  have g0 : be (sub l 0 2) < 65536 := be2 _
  have g2 : be (sub l 2 2) < 65536 := be2 _
  have g4 : be (sub l 4 2) < 65536 := be2 _
  have g6 : be (sub l 6 2) < 65536 := be2 _
  have g12 : be (sub l 12 2) < 65536 := be2 _
  have g14 : be (sub l 14 2) < 65536 := be2 _
  have g18 : be (sub l 18 2) < 65536 := be2 _
  have f4 : be (List.take 4 (List.drop 4 l)) < 4294967296 := be4 _
  have k4 : be (sub l 4 4) < 4294967296 := be4 _
  have f8 : be (List.take 4 (List.drop 8 l)) < 4294967296 := be4 _
  have k8 : be (sub l 8 4) < 4294967296 := be4 _
  refine W.seq ?_
  refine W.region ?_
  refine WO.opA rfl rfl rfl rfl (al_alloc Try.zeroValue25) rfl rfl ?_
  refine WO.put 8 (.ptr 0 0) rfl ?_
  refine WO.op rfl rfl rfl rfl (as_sc rfl) ?_
  refine WO.nil ?_
  refine W.scopeN 3 (fun _ _ h => (by exact h.elim (fun h => nomatch h))) ?_
  refine W.seq ?_
  refine W.to [(0, _), (1, _), (2, _), (3, _), (8, _), (9, _)] [_] rfl ⟨(by exact sh_sc rfl), (by exact sh_sc rfl), (by exact sh_sc rfl), (by exact sh_im rfl), (by exact sh_ptr rfl), (by exact sh_sc rfl), trivial⟩ ?_
  refine W.region ?_
  refine WO.op rfl rfl rfl rfl (step_build (out := [.sc (.int .i64 0), .sc (.int .i64 0), .sc (.int .i64 0), .sc (.int .u32 0), .sc (.int .i64 0), .sc (.int .i64 0), .sc (.bool false), .sc (.int .u32 0), .sc (.int .u32 0), .sc (.int .i64 0), .sc (.int .i64 0), .sc (.int .i64 0), .sc (.string ⟨#[]⟩), .sc (.string ⟨#[]⟩)]) Try.zeroValue25 (pl := [(0, 1), (1, 1), (2, 1), (3, 1), (4, 1), (5, 1), (6, 1), (7, 1), (8, 1), (9, 1), (10, 1), (11, 1), (12, 1), (13, 1)]) (PlacesOf.mk (by kernel_rfl)) (by kernel_rfl)) ?_
  refine WO.put 13 (.agg [.sc (.int .i64 0), .sc (.int .i64 0), .sc (.int .i64 0), .sc (.int .u32 0), .sc (.int .i64 0), .sc (.int .i64 0), .sc (.bool false), .sc (.int .u32 0), .sc (.int .u32 0), .sc (.int .i64 0), .sc (.int .i64 0), .sc (.int .i64 0), .sc (.string ⟨#[]⟩), .sc (.string ⟨#[]⟩)]) (by kernel_rfl) ?_
  refine WO.opA rfl rfl rfl rfl (al_alloc Try.zeroValue25) rfl rfl ?_
  refine WO.put 10 (.ptr 1 0) rfl ?_
  refine WO.op0 rfl rfl rfl (step_storeA Try.sizeOf25 rfl rfl rfl (by repeat (exact all_cell rfl rfl)) rfl rfl) ?_
  refine WO.nil ?_
  refine W.seq ?_
  refine W.to [(0, _), (1, _), (2, _), (3, _), (8, _), (9, _), (10, _)] [_, _] rfl ⟨(by exact sh_sc rfl), (by exact sh_sc rfl), (by exact sh_sc rfl), (by exact sh_im rfl), (by exact sh_ptr rfl), (by exact sh_sc rfl), (by exact sh_ptr rfl), trivial⟩ ?_
  refine W.region ?_
  refine WO.op rfl rfl rfl rfl (as_sc rfl) ?_
  refine WO.nil ?_
  refine W.seq ?_
  refine W.to [(0, _), (1, _), (2, _), (3, _), (8, _), (9, _), (10, _), (11, _)] [_, _] rfl ⟨(by exact sh_sc rfl), (by exact sh_sc rfl), (by exact sh_sc rfl), (by exact sh_im rfl), (by exact sh_ptr rfl), (by exact sh_sc rfl), (by exact sh_ptr rfl), (by exact sh_sc rfl), trivial⟩ ?_
  refine W.region ?_
  refine WO.op rfl rfl rfl rfl (as_sc rfl) ?_
  refine WO.nil ?_
  refine W.seq ?_
  refine W.seq ?_
  refine W.to [(0, _), (1, _), (2, _), (3, _), (8, _), (9, _), (10, _), (11, _), (12, _)] [_, _] rfl ⟨(by exact sh_sc rfl), (by exact sh_sc rfl), (by exact sh_sc rfl), (by exact sh_im rfl), (by exact sh_ptr rfl), (by exact sh_sc rfl), (by exact sh_ptr rfl), (by exact sh_sc rfl), (by exact sh_sc rfl), trivial⟩ ?_
  refine W.region ?_
  refine WO.op rfl rfl rfl rfl (mv_sc rfl) ?_
  refine WO.nil ?_
  refine W.block ?_
  refine W.seq ?_
  refine W.to [(0, _), (1, _), (2, _), (3, _), (8, _), (9, _), (10, _), (11, _), (12, _), (14, _)] [_, _] rfl ⟨(by exact sh_sc rfl), (by exact sh_sc rfl), (by exact sh_sc rfl), (by exact sh_im rfl), (by exact sh_ptr rfl), (by exact sh_sc rfl), (by exact sh_ptr rfl), (by exact sh_sc rfl), (by exact sh_sc rfl), (by exact sh_sc rfl), trivial⟩ ?_
  refine W.region ?_
  refine WO.op rfl rfl rfl rfl (step_int2 rfl rfl rfl) ?_
  refine WO.put 16 (.sc (.bool false)) (congrArg (fun b : Bool => AV.sc (.bool b)) (by simp; omega)) ?_
  refine WO.op rfl rfl rfl rfl (as_sc rfl) ?_
  refine WO.nil ?_
  refine W.condF rfl ?_
  refine W.seq ?_
  refine W.to [(0, _), (1, _), (2, _), (3, _), (8, _), (9, _), (10, _), (11, _), (12, _), (14, _), (15, _)] [_, _] rfl ⟨(by exact sh_sc rfl), (by exact sh_sc rfl), (by exact sh_sc rfl), (by exact sh_im rfl), (by exact sh_ptr rfl), (by exact sh_sc rfl), (by exact sh_ptr rfl), (by exact sh_sc rfl), (by exact sh_sc rfl), (by exact sh_sc rfl), (by exact sh_sc rfl), trivial⟩ ?_
  refine W.region ?_
  refine WO.op rfl rfl rfl rfl (step_int2 rfl rfl rfl) ?_
  refine WO.put 37 (.sc (.bool false)) (congrArg (fun b : Bool => AV.sc (.bool b)) (by simp; omega)) ?_
  refine WO.op rfl rfl rfl rfl (as_sc rfl) ?_
  refine WO.nil ?_
  refine W.condF rfl ?_
  refine W.seq ?_
  refine W.to [(0, _), (1, _), (2, _), (3, _), (8, _), (9, _), (10, _), (11, _), (12, _), (14, _), (15, _), (36, _)] [_, _] rfl ⟨(by exact sh_sc rfl), (by exact sh_sc rfl), (by exact sh_sc rfl), (by exact sh_im rfl), (by exact sh_ptr rfl), (by exact sh_sc rfl), (by exact sh_ptr rfl), (by exact sh_sc rfl), (by exact sh_sc rfl), (by exact sh_sc rfl), (by exact sh_sc rfl), (by exact sh_sc rfl), trivial⟩ ?_
  refine W.region ?_
  refine WO.op rfl rfl rfl rfl (step_int2 rfl rfl rfl) ?_
  refine WO.put 67 (.sc (.bool false)) (congrArg (fun b : Bool => AV.sc (.bool b)) (by simp; omega)) ?_
  refine WO.op rfl rfl rfl rfl (as_sc rfl) ?_
  refine WO.nil ?_
  refine W.condF rfl ?_
  refine W.to [(0, _), (1, _), (2, _), (3, _), (8, _), (9, _), (10, _), (11, _), (12, _), (14, _), (15, _), (36, _), (66, _)] [_, _] rfl ⟨(by exact sh_sc rfl), (by exact sh_sc rfl), (by exact sh_sc rfl), (by exact sh_im rfl), (by exact sh_ptr rfl), (by exact sh_sc rfl), (by exact sh_ptr rfl), (by exact sh_sc rfl), (by exact sh_sc rfl), (by exact sh_sc rfl), (by exact sh_sc rfl), (by exact sh_sc rfl), (by exact sh_sc rfl), trivial⟩ ?_
  refine W.region ?_
  refine WO.op rfl rfl rfl rfl (as_sc rfl) ?_
  refine WO.nil ?_
  refine W.seq ?_
  refine W.to [(0, _), (1, _), (2, _), (3, _), (8, _), (9, _), (10, _), (11, _), (12, _), (14, _), (15, _), (36, _), (66, _)] [_, _] rfl ⟨(by exact sh_sc rfl), (by exact sh_sc rfl), (by exact sh_sc rfl), (by exact sh_im rfl), (by exact sh_ptr rfl), (by exact sh_sc rfl), (by exact sh_ptr rfl), (by exact sh_sc rfl), (by exact sh_sc rfl), (by exact sh_sc rfl), (by exact sh_sc rfl), (by exact sh_sc rfl), (by exact sh_sc rfl), trivial⟩ ?_
  refine W.region ?_
  refine WO.op rfl rfl rfl rfl (mv_im rfl) ?_
  refine WO.op rfl rfl rfl rfl (mv_sc rfl) ?_
  refine WO.op rfl rfl rfl rfl (step_subB Try.runUnderlying23 Try.sizeOf5 rfl (Bd.some rfl (by (exact rfl))) Bd.none (by (simp only [List.length_map, List.length_append, List.length_take, List.length_drop, List.length_set, List.length_cons, List.length_nil, List.length_replicate] <;> omega)) (by omega) (by exact Nat.sub_zero _) rfl) ?_
  refine WO.op rfl rfl rfl rfl (step_strI Try.underlying23 Try.underlying5 Try.underlying9 rfl) ?_
  refine WO.put 114 (.sc (.string ⟨l.toArray⟩)) (congrArg (fun z : List UInt8 => AV.sc (.string ⟨z.toArray⟩)) (by rw [List.drop_zero]; exact List.take_of_length_le (Nat.le_refl _))) ?_
  refine WO.op rfl rfl rfl rfl (step_fieldR (k := 13) (FieldOff.mk (by kernel_rfl)) rfl rfl (by exact Nat.zero_add _)) ?_
  refine WO.op0 rfl rfl rfl (step_store1 Try.sizeOf9 rfl rfl rfl rfl (by (simp only [List.length_map, List.length_append, List.length_take, List.length_drop, List.length_set, List.length_cons, List.length_nil, List.length_replicate] <;> omega))) ?_
  refine WO.nil ?_
  refine W.seq ?_
  refine W.seq ?_
  refine W.to [(0, _), (1, _), (2, _), (3, _), (8, _), (9, _), (10, _), (11, _), (12, _), (14, _), (15, _), (36, _), (66, _)] [_, _] rfl ⟨(by exact sh_sc rfl), (by exact sh_sc rfl), (by exact sh_sc rfl), (by exact sh_im rfl), (by exact sh_ptr rfl), (by exact sh_sc rfl), (by exact sh_ptr rfl), (by exact sh_sc rfl), (by exact sh_sc rfl), (by exact sh_sc rfl), (by exact sh_sc rfl), (by exact sh_sc rfl), (by exact sh_sc rfl), trivial⟩ ?_
  refine W.region ?_
  refine WO.op rfl rfl rfl rfl (step_loadA Try.isAgg25 Try.sizeOf25 rfl rfl (by exact Nat.le_refl _)) ?_
  refine WO.put 116 (.agg [.sc (.int .i64 0), .sc (.int .i64 0), .sc (.int .i64 0), .sc (.int .u32 0), .sc (.int .i64 0), .sc (.int .i64 0), .sc (.bool false), .sc (.int .u32 0), .sc (.int .u32 0), .sc (.int .i64 0), .sc (.int .i64 0), .sc (.int .i64 0), .sc (.string ⟨#[]⟩), .sc (.string ⟨l.toArray⟩)]) (by kernel_rfl) ?_
  refine WO.op0 rfl rfl rfl (step_storeA Try.sizeOf25 rfl rfl rfl (by repeat (exact all_cell rfl rfl)) rfl rfl) ?_
  refine WO.op rfl rfl rfl rfl (as_sc rfl) ?_
  refine WO.nil ?_
  refine W.ret ?_
  refine ⟨.inl rfl, ?_⟩
  exact ret0 (Res.cellA Try.isAgg25 Try.sizeOf25 rfl rfl (Nat.le_of_ble_eq_true rfl) (Res.tmp rfl Res.nil)) (.keep rfl)

end Go.Proofs.Ytdmlkcphlidcfaa
