/-
  Contracts of functions of chapter 03: each theorem says what a call of one function answers, for all arguments that its hypotheses let in.
-/
import Derived.Test.YtejoccabclibeaaW3k
import Derived.Test.YtejoccabclibeaaW3i
import Derived.Test.YtejoccabclibeaaW3j
import Derived.Test.YtejoccabclibeaaSlAa
set_option linter.unusedVariables false
set_option linter.unusedSimpArgs false
set_option maxRecDepth 100000
set_option maxHeartbeats 1000000
namespace Go.Proofs.Ytejoccabclibeaa
open Go Go.SL Go.Proofs

theorem row_at {D : List AObj} {r s : AObj} : (D ++ [r] ++ [s])[D.length]? = some r := by simp
theorem row_at2 {D : List AObj} {r s : AObj} : (D ++ [r] ++ [s])[(D ++ [r]).length]? = some s := by simp
theorem row_at1 {D : List AObj} {r : AObj} : (D ++ [r])[D.length]? = some r := by simp
/-- Zeros behind, so many that the length is at least n. -/
def padN (l : List UInt8) (n : Nat) : List UInt8 := l ++ List.replicate (n - l.length) 0
theorem pad_get {l : List UInt8} {n i : Nat} (h : i < l.length) : (padN l n).getD i 0 = l.getD i 0 := by
  unfold padN; rw [List.getD_eq_getElem?_getD, List.getD_eq_getElem?_getD, List.getElem?_append_left h]
theorem pad_len (l : List UInt8) (n : Nat) : (padN l n).length = max l.length n := by
  unfold padN; rw [List.length_append, List.length_replicate]; omega
theorem pad_sub {l : List UInt8} {n i k : Nat} (h : i + k ≤ l.length) : sub (padN l n) i k = sub l i k := by
  unfold sub padN
  rw [List.drop_append_of_le_length (by omega), List.take_append_of_le_length (by rw [List.length_drop]; omega)]
theorem pad_hdS {l : List UInt8} {n : Nat} (h : 20 ≤ l.length) : hdS (padN l n) = hdS l := by unfold hdS; rw [pad_get (by omega)]
/-- What is padded to its total length can be read, if the head lies in what was there. -/
theorem pad_dec {l : List UInt8} (h : hopOK l) : decE (padN l (be (sub l 2 2))) = 0 := by
  obtain ⟨h0, h1, h2, _⟩ := h
  obtain ⟨q1, q2, q3⟩ := hd_ok h0
  have hf := hd_form h0
  have e2 : be (sub l 2 2) < 65536 := be2 _
  have hl := pad_len l (be (sub l 2 2))
  have hS := pad_hdS (n := be (sub l 2 2)) q1
  have ht : be (sub (padN l (be (sub l 2 2))) 2 2) = be (sub l 2 2) := by rw [pad_sub (by omega)]
  have hz : hdE (padN l (be (sub l 2 2))) = 0 := hd_zero (by omega) (by rw [pad_get (by omega)]; exact hf) (by omega) (by omega)
  refine decE_7 hz ?_ ?_ ?_
  · show be (sub (padN l _) 2 2) ≤ _; omega
  · show _ ≤ be (sub (padN l _) 2 2); omega
  · show fo (ws (sub (padN l _) 0 (hdS (padN l _))) (sub (padN l _) 0 (hdS (padN l _))).length) = 65535
    rw [hS, pad_sub (by omega)]; exact h2
theorem pad_hop {l : List UInt8} (hl : 20 ≤ l.length) (h : decE (padN l (be (sub l 2 2))) = 0) (hs : hdS (padN l (be (sub l 2 2))) ≤ l.length) (ht : 2 ≤ ((padN l (be (sub l 2 2))).getD 8 0).toNat) : hopOK l := by
  obtain ⟨h0, hA, hB, hC⟩ := decE_ok h
  obtain ⟨q1, q2, q3⟩ := hd_ok h0
  have hf := hd_form h0
  have e2 : be (sub l 2 2) < 65536 := be2 _
  have hS := pad_hdS (n := be (sub l 2 2)) hl
  rw [hS] at hs q2 hB hC
  rw [pad_get (by omega)] at ht hf
  rw [pad_sub (by omega)] at hB
  rw [pad_sub (by omega)] at hC
  exact ⟨hd_zero hl hf q2 hs, by omega, hC, ht⟩
theorem u16_of {l : List UInt8} {i : Nat} (h : i + 2 ≤ l.length) : u16at l i = (l.getD i 0).toNat * 256 + (l.getD (i + 1) 0).toNat := by
  have e : sub l i 2 = [l.getD i 0, l.getD (i + 1) 0] := by
    unfold sub
    apply List.ext_getElem?
    intro j
    match j with
    | 0 => simp [List.getD_eq_getElem?_getD, List.getElem?_eq_getElem (show i < l.length by omega)]
    | 1 => simp [List.getD_eq_getElem?_getD, List.getElem?_eq_getElem (show i + 1 < l.length by omega)]
    | j + 2 => simp; omega
  unfold u16at
  rw [e, be_two]
  have h1 := u8_lt (l.getD i 0)
  have h2 := u8_lt (l.getD (i + 1) 0)
  omega
theorem hop_shape {l L1 L2 : List UInt8} {c : Nat} (h20 : 20 ≤ l.length) (h1 : L1 = l.set 8 (UInt8.ofNat ((l.getD 8 0).toNat - 1)))
    (hc : c = 65535 - fo (65535 - ((l.getD 10 0).toNat * 256 + (l.getD 11 0).toNat) + (65535 - ((l.getD 8 0).toNat * 256 + (l.getD 9 0).toNat)) + ((L1.getD 8 0).toNat * 256 + (L1.getD 9 0).toNat)))
    (h2 : L2 = (L1.set 10 (UInt8.ofNat (c / 256))).set 11 (UInt8.ofNat c)) : hopB l = L2 := by
  have hh : hopC l = L1 := h1.symm
  have hl1 : L1.length = l.length := by rw [h1, List.length_set]
  have hn : hopN l = c := by
    unfold hopN
    rw [hh, u16_of (by omega), u16_of (by omega), u16_of (by omega), hc]
  unfold hopB
  rw [hn, hh, h2]
  show (L1.set 11 (byteOf c 0)).set 10 (byteOf c 8) = _
  rw [List.set_comm _ _ (by decide)]
  have e : UInt8.ofNat c = byteOf c 0 := by unfold byteOf; rw [Nat.pow_zero, Nat.div_one]
  rw [e]
  rfl

theorem w_refHopX1 {l : List UInt8} (hl : l.length ≤ 200000000000000) (h : l.length < 20) : Spec0 Try.prog 9 [.im 1 (l.map byteAV)] (.tup [.im 1 (([] : List UInt8).map byteAV), .sc (.bool false)]) := by
  refine Spec.body Try.func9 rfl (Nat.le_of_ble_eq_true rfl) ?_
  refine W.seq ?_
  refine W.region ?_
  refine WO.op rfl rfl rfl rfl (as_nil rfl) ?_
  refine WO.op rfl rfl rfl rfl (as_sc rfl) ?_
  refine WO.nil ?_
  refine W.seq ?_
  refine W.seq ?_
  refine W.to [(0, _), (2, _), (3, _)] [] rfl ⟨(by exact sh_im rfl), (by exact sh_nil rfl), (by exact sh_sc rfl), trivial⟩ ?_
  refine W.region ?_
  refine WO.op rfl rfl rfl rfl (mv_im rfl) ?_
  refine WO.op rfl rfl rfl rfl (step_lenB Try.runUnderlying22 rfl) ?_
  refine WO.op rfl rfl rfl rfl (step_int2 rfl rfl rfl) ?_
  refine WO.nil ?_
  refine W.cond rfl (fun h1 => ?_) (fun h1 => ?_)
  · try simp only [decide_eq_true_eq, decide_eq_false_iff_not, Bool.not_eq_true', Bool.not_eq_false', beq_iff_eq, bne_iff_ne, beq_eq_false_iff_ne, bne_eq_false_iff_eq, gt_iff_lt, ge_iff_le, Int.not_lt, Int.not_le] at h1
    refine W.seq ?_
    refine W.to [(0, _), (2, _), (3, _), (14, _)] [] rfl ⟨(by exact sh_im rfl), (by exact sh_nil rfl), (by exact sh_sc rfl), (by exact sh_sc rfl), trivial⟩ ?_
    refine W.region ?_
    refine WO.op rfl rfl rfl rfl (as_nil rfl) ?_
    refine WO.op rfl rfl rfl rfl (as_sc rfl) ?_
    refine WO.nil ?_
    refine W.wk 2 (.im 1 (([] : List UInt8).map byteAV)) Wk.noneB ?_
    refine W.ret ?_
    refine ⟨.inl rfl, ?_⟩
    exact ret0 (Res.tmp rfl (Res.tmp rfl Res.nil)) (.keep rfl)
  · try simp only [decide_eq_true_eq, decide_eq_false_iff_not, Bool.not_eq_true', Bool.not_eq_false', beq_iff_eq, bne_iff_ne, beq_eq_false_iff_ne, bne_eq_false_iff_eq, gt_iff_lt, ge_iff_le, Int.not_lt, Int.not_le] at h1
    exact False.elim (by omega)

theorem w_refHopX2 {l : List UInt8} (hl : l.length ≤ 200000000000000) (h : 20 ≤ l.length) (h2 : decE (padN l (be (sub l 2 2))) ≠ 0) : Spec0 Try.prog 9 [.im 1 (l.map byteAV)] (.tup [.im 1 (([] : List UInt8).map byteAV), .sc (.bool false)]) := by
  refine Spec.body Try.func9 rfl (Nat.le_of_ble_eq_true rfl) ?_
  have e2 : be (sub l 2 2) < 65536 := be2 _
  have e2t : be (List.take 2 (List.drop 2 l)) < 65536 := be2 _
  have hpl := pad_len l (be (sub l 2 2))
  refine W.seq ?_
  refine W.region ?_
  refine WO.op rfl rfl rfl rfl (as_nil rfl) ?_
  refine WO.op rfl rfl rfl rfl (as_sc rfl) ?_
  refine WO.nil ?_
  refine W.seq ?_
  refine W.seq ?_
  refine W.to [(0, _), (2, _), (3, _)] [] rfl ⟨(by exact sh_im rfl), (by exact sh_nil rfl), (by exact sh_sc rfl), trivial⟩ ?_
  refine W.region ?_
  refine WO.op rfl rfl rfl rfl (mv_im rfl) ?_
  refine WO.op rfl rfl rfl rfl (step_lenB Try.runUnderlying22 rfl) ?_
  refine WO.op rfl rfl rfl rfl (step_int2 rfl rfl rfl) ?_
  refine WO.nil ?_
  refine W.cond rfl (fun h1 => ?_) (fun h1 => ?_)
  · try simp only [decide_eq_true_eq, decide_eq_false_iff_not, Bool.not_eq_true', Bool.not_eq_false', beq_iff_eq, bne_iff_ne, beq_eq_false_iff_ne, bne_eq_false_iff_eq, gt_iff_lt, ge_iff_le, Int.not_lt, Int.not_le] at h1
    exact False.elim (by omega)
  · try simp only [decide_eq_true_eq, decide_eq_false_iff_not, Bool.not_eq_true', Bool.not_eq_false', beq_iff_eq, bne_iff_ne, beq_eq_false_iff_ne, bne_eq_false_iff_eq, gt_iff_lt, ge_iff_le, Int.not_lt, Int.not_le] at h1
    refine W.skip ?_
    refine W.seq ?_
    refine W.to [(0, _), (2, _), (3, _), (14, _)] [] rfl ⟨(by exact sh_im rfl), (by exact sh_nil rfl), (by exact sh_sc rfl), (by exact sh_sc rfl), trivial⟩ ?_
    refine W.region ?_
    refine WO.op rfl rfl rfl rfl (mv_im rfl) ?_
    refine WO.op rfl rfl rfl rfl (step_subB (m := 2) Try.runUnderlying22 Try.sizeOf5 rfl (Bd.some (v := 2) rfl (by (exact rfl))) (Bd.some (v := 4) rfl (by (exact rfl))) (by omega) (by omega) (by exact Nat.sub_zero _) rfl) ?_
    refine WO.op rfl rfl rfl rfl (step_pure Try.call24 rfl (by (repeat (first | exact Nl.nil | refine Nl.keep (by exact noOwn_im) ?_))) (w_Num2) (by repeat (rfl))) ?_
    refine WO.op rfl rfl rfl rfl (step_convR Try.runUnderlying45 Try.runUnderlying3 rfl (by exact convN (by (simp only [cap]; omega)))) ?_
    refine WO.put 18 (.sc (.int .i64 ((be (sub l 2 2) : Nat) : Int))) (rfl) ?_
    refine WO.op rfl rfl rfl rfl (as_sc rfl) ?_
    refine WO.nil ?_
    refine W.seq ?_
    refine W.to [(0, _), (2, _), (3, _), (4, _), (14, _)] [] rfl ⟨(by exact sh_im rfl), (by exact sh_nil rfl), (by exact sh_sc rfl), (by exact sh_sc rfl), (by exact sh_sc rfl), trivial⟩ ?_
    refine W.region ?_
    refine WO.opA rfl rfl rfl rfl (al_buildSlice Try.runUnderlying22 (z := (Value.int IntKind.u8 0)) (bs := 1) (esz := 1) (EI.mk (by kernel_rfl)) rfl (by decide) rfl rfl) rfl rfl ?_
    refine WO.put 19 (.sl 0 0 _) rfl ?_
    refine WO.op rfl rfl rfl rfl (mv_im rfl) ?_
    refine WO.op rfl rfl rfl rfl (step_appE Try.runUnderlying22 (EI.mk (by kernel_rfl)) Try.runUnderlying22 (.inl ⟨_, rfl⟩) rfl rfl (Src.imB rfl) (by omega)) ?_
    refine WO.put 21 (.sl 1 0 _) rfl ?_
    refine WO.op rfl rfl rfl rfl (as_sl rfl) ?_
    refine WO.nil ?_
    refine W.seq ?_
    refine W.frzAll [(0, .im 1 (l.map byteAV)), (2, .nil), (3, .sc (.bool false)), (4, .sc (.int .i64 ((be (sub l 2 2) : Nat) : Int))), (5, .im 1 ((padN l (be (sub l 2 2))).map byteAV))] ?_ ?_
    · refine W.block ?_
      refine W.loop (α := Nat × List AObj) (fun q => ⟨tbl [(0, .im 1 (l.map byteAV)), (2, .nil), (3, .sc (.bool false)), (4, .sc (.int .i64 ((be (sub l 2 2) : Nat) : Int))), (5, .sl q.2.length 0 (l.length + q.1))], q.2 ++ [.row 1 ((l ++ List.replicate q.1 0).map byteAV)]⟩) (fun q => q.1 = 0 ∨ l.length + q.1 ≤ be (sub l 2 2)) (fun q => be (sub l 2 2) - (l.length + q.1)) ((0, [.dead])) (.inl rfl) (Le.eqs (by rw [List.replicate_zero, List.append_nil]; rfl) ⟨rfl, rfl, rfl, rfl, rfl, trivial⟩) ?_
      intro q hq
      refine W.seq ?_
      refine W.seq ?_
      refine W.to [(0, _), (2, _), (3, _), (4, _), (5, _)] _ rfl ⟨(by exact sh_im rfl), (by exact sh_nil rfl), (by exact sh_sc rfl), (by exact sh_sc rfl), (by exact sh_sl rfl), trivial⟩ ?_
      refine W.region ?_
      refine WO.op rfl rfl rfl rfl (mv_sl rfl) ?_
      refine WO.op rfl rfl rfl rfl (step_lenL Try.runUnderlying22 rfl row_at1) ?_
      refine WO.op rfl rfl rfl rfl (mv_sc rfl) ?_
      refine WO.op rfl rfl rfl rfl (step_int2 rfl rfl rfl) ?_
      refine WO.nil ?_
      refine W.cond rfl (fun h2 => ?_) (fun h2 => ?_)
      · try simp only [decide_eq_true_eq, decide_eq_false_iff_not, Bool.not_eq_true', Bool.not_eq_false', beq_iff_eq, bne_iff_ne, beq_eq_false_iff_ne, bne_eq_false_iff_eq, gt_iff_lt, ge_iff_le, Int.not_lt, Int.not_le] at h2
        refine W.skip ?_
        refine W.block ?_
        refine W.to [(0, _), (2, _), (3, _), (4, _), (5, _), (25, _)] _ rfl ⟨(by exact sh_im rfl), (by exact sh_nil rfl), (by exact sh_sc rfl), (by exact sh_sc rfl), (by exact sh_sl rfl), (by exact sh_sc rfl), trivial⟩ ?_
        refine W.region ?_
        refine WO.op rfl rfl rfl rfl (mv_sl rfl) ?_
        refine WO.opA rfl rfl rfl rfl (al_buildSlice Try.runUnderlying22 (z := (Value.int IntKind.u8 0)) (bs := 1) (esz := 1) (EI.mk (by kernel_rfl)) rfl (by decide) rfl rfl) rfl rfl ?_
        refine WO.op rfl rfl rfl rfl (step_appB (a := l ++ List.replicate q.1 0) (b := [0]) (k := l.length + q.1 + 1) Try.runUnderlying22 (EI.mk (by kernel_rfl)) Try.runUnderlying22 (.inl ⟨_, rfl⟩) rfl row_at (by rw [List.length_append, List.length_replicate]) (Src.ownB rfl row_at2 rfl (Nat.le_of_ble_eq_true rfl)) (by omega) rfl) ?_
        refine WO.op rfl rfl rfl rfl (as_sl rfl) ?_
        refine WO.nil ?_
        exact ⟨(q.1 + 1, (q.2 ++ [AObj.row 1 ((l ++ List.replicate q.1 0).map byteAV)] ++ [AObj.row 1 (([0] : List UInt8).map byteAV)]).set q.2.length AObj.dead), (.inr (by omega)), (by simp only; omega), Le.eqs (by rw [List.replicate_succ', ← List.append_assoc]; rfl) ⟨rfl, rfl, rfl, rfl, (by simp only [List.length_set]; rfl), trivial⟩⟩
      · try simp only [decide_eq_true_eq, decide_eq_false_iff_not, Bool.not_eq_true', Bool.not_eq_false', beq_iff_eq, bne_iff_ne, beq_eq_false_iff_ne, bne_eq_false_iff_eq, gt_iff_lt, ge_iff_le, Int.not_lt, Int.not_le] at h2
        refine W.exit ?_
        have hj : q.1 = be (sub l 2 2) - l.length := by omega
        exact ⟨rfl, .keep noOwn_im, .keep rfl, .keep rfl, .keep rfl, (by
          unfold padN; rw [← hj]
          exact Fz.bytes row_at1 (Nat.zero_le _) (by rw [List.drop_zero, List.take_of_length_le (by rw [List.length_map, List.length_append, List.length_replicate]; exact Nat.le_refl _)]) (by rw [List.length_map, List.length_append, List.length_replicate]; omega)), trivial⟩
    · refine W.seq ?_
      refine W.to [(0, _), (2, _), (3, _), (4, _), (5, _)] [_, _] rfl ⟨(by exact sh_im rfl), (by exact sh_nil rfl), (by exact sh_sc rfl), (by exact sh_sc rfl), (by exact sh_im rfl), trivial⟩ ?_
      refine W.region ?_
      refine WO.op rfl rfl rfl rfl (mv_im rfl) ?_
      refine WO.op rfl rfl rfl rfl (step_pure Try.call19 rfl (by (repeat (first | exact Nl.nil | refine Nl.keep (by exact noOwn_im) ?_))) (w_refDecX (by omega) h2) (by repeat (first | with_reducible refine noOwn_tup ?_ | with_reducible refine noOwn_agg ?_ | with_reducible exact noOwnL_nil | with_reducible refine noOwnL_cons ?_ ?_ | rfl))) ?_
      refine WO.op rfl rfl rfl rfl (mv_tup rfl) ?_
      refine WO.op rfl rfl rfl rfl (step_extract rfl rfl) ?_
      refine WO.op rfl rfl rfl rfl (step_extract rfl rfl) ?_
      refine WO.op rfl rfl rfl rfl (step_extract rfl rfl) ?_
      refine WO.op rfl rfl rfl rfl (step_extract rfl rfl) ?_
      refine WO.opA rfl rfl rfl rfl (al_alloc Try.zeroValue31) rfl rfl ?_
      refine WO.put 6 (.ptr 2 0) rfl ?_
      refine WO.op0 rfl rfl rfl (step_storeA Try.sizeOf31 rfl rfl rfl (by repeat (exact all_cell rfl rfl)) rfl rfl) ?_
      refine WO.op rfl rfl rfl rfl (as_sc rfl) ?_
      refine WO.op rfl rfl rfl rfl (as_sc rfl) ?_
      refine WO.op rfl rfl rfl rfl (as_sc rfl) ?_
      refine WO.nil ?_
      refine W.seq ?_
      refine W.seq ?_
      refine W.to [(0, _), (2, _), (3, _), (4, _), (5, _), (6, _), (7, _), (9, _)] [_, _, _] rfl ⟨(by exact sh_im rfl), (by exact sh_nil rfl), (by exact sh_sc rfl), (by exact sh_sc rfl), (by exact sh_im rfl), (by exact sh_ptr rfl), (by exact sh_sc rfl), (by exact sh_sc rfl), trivial⟩ ?_
      refine W.region ?_
      refine WO.op rfl rfl rfl rfl (mv_sc rfl) ?_
      refine WO.op rfl rfl rfl rfl (step_int2 rfl rfl rfl) ?_
      refine WO.put 37 (.sc (.bool true)) (congrArg (fun b : Bool => AV.sc (.bool b)) (by simp; omega)) ?_
      refine WO.op rfl rfl rfl rfl (mv_sc rfl) ?_
      refine WO.sk rfl rfl rfl rfl ?_
      refine WO.sk rfl rfl rfl rfl ?_
      refine WO.sk rfl rfl rfl rfl ?_
      refine WO.sk rfl rfl rfl rfl ?_
      refine WO.op rfl rfl rfl rfl (pk_t rfl rfl rfl) ?_
      refine WO.op rfl rfl rfl rfl (mv_sc rfl) ?_
      refine WO.sk rfl rfl rfl rfl ?_
      refine WO.sk rfl rfl rfl rfl ?_
      refine WO.sk rfl rfl rfl rfl ?_
      refine WO.op rfl rfl rfl rfl (pk_t rfl rfl rfl) ?_
      refine WO.nil ?_
      refine W.condT rfl ?_
      refine W.seq ?_
      refine W.to [(0, _), (2, _), (3, _), (4, _), (5, _), (6, _), (7, _), (9, _), (48, _)] [_, _, _] rfl ⟨(by exact sh_im rfl), (by exact sh_nil rfl), (by exact sh_sc rfl), (by exact sh_sc rfl), (by exact sh_im rfl), (by exact sh_ptr rfl), (by exact sh_sc rfl), (by exact sh_sc rfl), (by exact sh_sc rfl), trivial⟩ ?_
      refine W.region ?_
      refine WO.op rfl rfl rfl rfl (as_nil rfl) ?_
      refine WO.op rfl rfl rfl rfl (as_sc rfl) ?_
      refine WO.nil ?_
      refine W.wk 2 (.im 1 (([] : List UInt8).map byteAV)) Wk.noneB ?_
      refine W.ret ?_
      refine ⟨.inl rfl, ?_⟩
      exact ret0 (Res.tmp rfl (Res.tmp rfl Res.nil)) (.keep rfl)

theorem w_refHopX3 {l : List UInt8} (hl : l.length ≤ 200000000000000) (h : 20 ≤ l.length) (h2 : decE (padN l (be (sub l 2 2))) = 0) (hx3 : ¬ hopOK l) : Spec0 Try.prog 9 [.im 1 (l.map byteAV)] (.tup [.im 1 (([] : List UInt8).map byteAV), .sc (.bool false)]) := by
  refine Spec.body Try.func9 rfl (Nat.le_of_ble_eq_true rfl) ?_
  have e2 : be (sub l 2 2) < 65536 := be2 _
  have e2t : be (List.take 2 (List.drop 2 l)) < 65536 := be2 _
  have hpl := pad_len l (be (sub l 2 2))
  refine W.seq ?_
  refine W.region ?_
  refine WO.op rfl rfl rfl rfl (as_nil rfl) ?_
  refine WO.op rfl rfl rfl rfl (as_sc rfl) ?_
  refine WO.nil ?_
  refine W.seq ?_
  refine W.seq ?_
  refine W.to [(0, _), (2, _), (3, _)] [] rfl ⟨(by exact sh_im rfl), (by exact sh_nil rfl), (by exact sh_sc rfl), trivial⟩ ?_
  refine W.region ?_
  refine WO.op rfl rfl rfl rfl (mv_im rfl) ?_
  refine WO.op rfl rfl rfl rfl (step_lenB Try.runUnderlying22 rfl) ?_
  refine WO.op rfl rfl rfl rfl (step_int2 rfl rfl rfl) ?_
  refine WO.nil ?_
  refine W.cond rfl (fun h1 => ?_) (fun h1 => ?_)
  · try simp only [decide_eq_true_eq, decide_eq_false_iff_not, Bool.not_eq_true', Bool.not_eq_false', beq_iff_eq, bne_iff_ne, beq_eq_false_iff_ne, bne_eq_false_iff_eq, gt_iff_lt, ge_iff_le, Int.not_lt, Int.not_le] at h1
    exact False.elim (by omega)
  · try simp only [decide_eq_true_eq, decide_eq_false_iff_not, Bool.not_eq_true', Bool.not_eq_false', beq_iff_eq, bne_iff_ne, beq_eq_false_iff_ne, bne_eq_false_iff_eq, gt_iff_lt, ge_iff_le, Int.not_lt, Int.not_le] at h1
    refine W.skip ?_
    refine W.seq ?_
    refine W.to [(0, _), (2, _), (3, _), (14, _)] [] rfl ⟨(by exact sh_im rfl), (by exact sh_nil rfl), (by exact sh_sc rfl), (by exact sh_sc rfl), trivial⟩ ?_
    refine W.region ?_
    refine WO.op rfl rfl rfl rfl (mv_im rfl) ?_
    refine WO.op rfl rfl rfl rfl (step_subB (m := 2) Try.runUnderlying22 Try.sizeOf5 rfl (Bd.some (v := 2) rfl (by (exact rfl))) (Bd.some (v := 4) rfl (by (exact rfl))) (by omega) (by omega) (by exact Nat.sub_zero _) rfl) ?_
    refine WO.op rfl rfl rfl rfl (step_pure Try.call24 rfl (by (repeat (first | exact Nl.nil | refine Nl.keep (by exact noOwn_im) ?_))) (w_Num2) (by repeat (rfl))) ?_
    refine WO.op rfl rfl rfl rfl (step_convR Try.runUnderlying45 Try.runUnderlying3 rfl (by exact convN (by (simp only [cap]; omega)))) ?_
    refine WO.put 18 (.sc (.int .i64 ((be (sub l 2 2) : Nat) : Int))) (rfl) ?_
    refine WO.op rfl rfl rfl rfl (as_sc rfl) ?_
    refine WO.nil ?_
    refine W.seq ?_
    refine W.to [(0, _), (2, _), (3, _), (4, _), (14, _)] [] rfl ⟨(by exact sh_im rfl), (by exact sh_nil rfl), (by exact sh_sc rfl), (by exact sh_sc rfl), (by exact sh_sc rfl), trivial⟩ ?_
    refine W.region ?_
    refine WO.opA rfl rfl rfl rfl (al_buildSlice Try.runUnderlying22 (z := (Value.int IntKind.u8 0)) (bs := 1) (esz := 1) (EI.mk (by kernel_rfl)) rfl (by decide) rfl rfl) rfl rfl ?_
    refine WO.put 19 (.sl 0 0 _) rfl ?_
    refine WO.op rfl rfl rfl rfl (mv_im rfl) ?_
    refine WO.op rfl rfl rfl rfl (step_appE Try.runUnderlying22 (EI.mk (by kernel_rfl)) Try.runUnderlying22 (.inl ⟨_, rfl⟩) rfl rfl (Src.imB rfl) (by omega)) ?_
    refine WO.put 21 (.sl 1 0 _) rfl ?_
    refine WO.op rfl rfl rfl rfl (as_sl rfl) ?_
    refine WO.nil ?_
    refine W.seq ?_
    refine W.frzAll [(0, .im 1 (l.map byteAV)), (2, .nil), (3, .sc (.bool false)), (4, .sc (.int .i64 ((be (sub l 2 2) : Nat) : Int))), (5, .im 1 ((padN l (be (sub l 2 2))).map byteAV))] ?_ ?_
    · refine W.block ?_
      refine W.loop (α := Nat × List AObj) (fun q => ⟨tbl [(0, .im 1 (l.map byteAV)), (2, .nil), (3, .sc (.bool false)), (4, .sc (.int .i64 ((be (sub l 2 2) : Nat) : Int))), (5, .sl q.2.length 0 (l.length + q.1))], q.2 ++ [.row 1 ((l ++ List.replicate q.1 0).map byteAV)]⟩) (fun q => q.1 = 0 ∨ l.length + q.1 ≤ be (sub l 2 2)) (fun q => be (sub l 2 2) - (l.length + q.1)) ((0, [.dead])) (.inl rfl) (Le.eqs (by rw [List.replicate_zero, List.append_nil]; rfl) ⟨rfl, rfl, rfl, rfl, rfl, trivial⟩) ?_
      intro q hq
      refine W.seq ?_
      refine W.seq ?_
      refine W.to [(0, _), (2, _), (3, _), (4, _), (5, _)] _ rfl ⟨(by exact sh_im rfl), (by exact sh_nil rfl), (by exact sh_sc rfl), (by exact sh_sc rfl), (by exact sh_sl rfl), trivial⟩ ?_
      refine W.region ?_
      refine WO.op rfl rfl rfl rfl (mv_sl rfl) ?_
      refine WO.op rfl rfl rfl rfl (step_lenL Try.runUnderlying22 rfl row_at1) ?_
      refine WO.op rfl rfl rfl rfl (mv_sc rfl) ?_
      refine WO.op rfl rfl rfl rfl (step_int2 rfl rfl rfl) ?_
      refine WO.nil ?_
      refine W.cond rfl (fun h2 => ?_) (fun h2 => ?_)
      · try simp only [decide_eq_true_eq, decide_eq_false_iff_not, Bool.not_eq_true', Bool.not_eq_false', beq_iff_eq, bne_iff_ne, beq_eq_false_iff_ne, bne_eq_false_iff_eq, gt_iff_lt, ge_iff_le, Int.not_lt, Int.not_le] at h2
        refine W.skip ?_
        refine W.block ?_
        refine W.to [(0, _), (2, _), (3, _), (4, _), (5, _), (25, _)] _ rfl ⟨(by exact sh_im rfl), (by exact sh_nil rfl), (by exact sh_sc rfl), (by exact sh_sc rfl), (by exact sh_sl rfl), (by exact sh_sc rfl), trivial⟩ ?_
        refine W.region ?_
        refine WO.op rfl rfl rfl rfl (mv_sl rfl) ?_
        refine WO.opA rfl rfl rfl rfl (al_buildSlice Try.runUnderlying22 (z := (Value.int IntKind.u8 0)) (bs := 1) (esz := 1) (EI.mk (by kernel_rfl)) rfl (by decide) rfl rfl) rfl rfl ?_
        refine WO.op rfl rfl rfl rfl (step_appB (a := l ++ List.replicate q.1 0) (b := [0]) (k := l.length + q.1 + 1) Try.runUnderlying22 (EI.mk (by kernel_rfl)) Try.runUnderlying22 (.inl ⟨_, rfl⟩) rfl row_at (by rw [List.length_append, List.length_replicate]) (Src.ownB rfl row_at2 rfl (Nat.le_of_ble_eq_true rfl)) (by omega) rfl) ?_
        refine WO.op rfl rfl rfl rfl (as_sl rfl) ?_
        refine WO.nil ?_
        exact ⟨(q.1 + 1, (q.2 ++ [AObj.row 1 ((l ++ List.replicate q.1 0).map byteAV)] ++ [AObj.row 1 (([0] : List UInt8).map byteAV)]).set q.2.length AObj.dead), (.inr (by omega)), (by simp only; omega), Le.eqs (by rw [List.replicate_succ', ← List.append_assoc]; rfl) ⟨rfl, rfl, rfl, rfl, (by simp only [List.length_set]; rfl), trivial⟩⟩
      · try simp only [decide_eq_true_eq, decide_eq_false_iff_not, Bool.not_eq_true', Bool.not_eq_false', beq_iff_eq, bne_iff_ne, beq_eq_false_iff_ne, bne_eq_false_iff_eq, gt_iff_lt, ge_iff_le, Int.not_lt, Int.not_le] at h2
        refine W.exit ?_
        have hj : q.1 = be (sub l 2 2) - l.length := by omega
        exact ⟨rfl, .keep noOwn_im, .keep rfl, .keep rfl, .keep rfl, (by
          unfold padN; rw [← hj]
          exact Fz.bytes row_at1 (Nat.zero_le _) (by rw [List.drop_zero, List.take_of_length_le (by rw [List.length_map, List.length_append, List.length_replicate]; exact Nat.le_refl _)]) (by rw [List.length_map, List.length_append, List.length_replicate]; omega)), trivial⟩
    · refine W.seq ?_
      refine W.to [(0, _), (2, _), (3, _), (4, _), (5, _)] [_, _] rfl ⟨(by exact sh_im rfl), (by exact sh_nil rfl), (by exact sh_sc rfl), (by exact sh_sc rfl), (by exact sh_im rfl), trivial⟩ ?_
      refine W.region ?_
      refine WO.op rfl rfl rfl rfl (mv_im rfl) ?_
      refine WO.op rfl rfl rfl rfl (step_pure Try.call19 rfl (by (repeat (first | exact Nl.nil | refine Nl.keep (by exact noOwn_im) ?_))) (w_refDecG (by omega) h2) (by repeat (first | with_reducible refine noOwn_tup ?_ | with_reducible refine noOwn_agg ?_ | with_reducible exact noOwnL_nil | with_reducible refine noOwnL_cons ?_ ?_ | rfl))) ?_
      refine WO.op rfl rfl rfl rfl (mv_tup rfl) ?_
      refine WO.op rfl rfl rfl rfl (step_extract rfl rfl) ?_
      refine WO.op rfl rfl rfl rfl (step_extract rfl rfl) ?_
      refine WO.op rfl rfl rfl rfl (step_extract rfl rfl) ?_
      refine WO.op rfl rfl rfl rfl (step_extract rfl rfl) ?_
      refine WO.opA rfl rfl rfl rfl (al_alloc Try.zeroValue31) rfl rfl ?_
      refine WO.put 6 (.ptr 2 0) rfl ?_
      refine WO.op0 rfl rfl rfl (step_storeA Try.sizeOf31 rfl rfl rfl (by repeat (exact all_cell rfl rfl)) rfl rfl) ?_
      refine WO.op rfl rfl rfl rfl (as_sc rfl) ?_
      refine WO.op rfl rfl rfl rfl (as_sc rfl) ?_
      refine WO.op rfl rfl rfl rfl (as_sc rfl) ?_
      refine WO.nil ?_
      refine W.seq ?_
      refine W.seq ?_
      refine W.to [(0, _), (2, _), (3, _), (4, _), (5, _), (6, _), (7, _), (9, _)] [_, _, _] rfl ⟨(by exact sh_im rfl), (by exact sh_nil rfl), (by exact sh_sc rfl), (by exact sh_sc rfl), (by exact sh_im rfl), (by exact sh_ptr rfl), (by exact sh_sc rfl), (by exact sh_sc rfl), trivial⟩ ?_
      refine W.region ?_
      refine WO.op rfl rfl rfl rfl (mv_sc rfl) ?_
      refine WO.op rfl rfl rfl rfl (step_int2 rfl rfl rfl) ?_
      refine WO.put 37 (.sc (.bool false)) (by kernel_rfl) ?_
      refine WO.op rfl rfl rfl rfl (mv_sc rfl) ?_
      refine WO.op rfl rfl rfl rfl (mv_im rfl) ?_
      refine WO.op rfl rfl rfl rfl (step_lenB Try.runUnderlying22 rfl) ?_
      refine WO.op rfl rfl rfl rfl (mv_sc rfl) ?_
      refine WO.op rfl rfl rfl rfl (step_int2 rfl rfl rfl) ?_
      refine WO.op rfl rfl rfl rfl (pk_f rfl rfl rfl) ?_
      refine WO.op rfl rfl rfl rfl (mv_sc rfl) ?_
      refine WO.spl 44 rfl (fun h3 => ?_) (fun h3 => ?_)
      · try simp only [decide_eq_true_eq, decide_eq_false_iff_not, Bool.not_eq_true', Bool.not_eq_false', beq_iff_eq, bne_iff_ne, beq_eq_false_iff_ne, bne_eq_false_iff_eq, gt_iff_lt, ge_iff_le, Int.not_lt, Int.not_le] at h3
        refine WO.sk rfl rfl rfl rfl ?_
        refine WO.sk rfl rfl rfl rfl ?_
        refine WO.sk rfl rfl rfl rfl ?_
        refine WO.op rfl rfl rfl rfl (pk_t rfl rfl rfl) ?_
        refine WO.nil ?_
        refine W.condT rfl ?_
        refine W.seq ?_
        refine W.to [(0, _), (2, _), (3, _), (4, _), (5, _), (6, _), (7, _), (9, _), (48, _)] [_, _, _] rfl ⟨(by exact sh_im rfl), (by exact sh_nil rfl), (by exact sh_sc rfl), (by exact sh_sc rfl), (by exact sh_im rfl), (by exact sh_ptr rfl), (by exact sh_sc rfl), (by exact sh_sc rfl), (by exact sh_sc rfl), trivial⟩ ?_
        refine W.region ?_
        refine WO.op rfl rfl rfl rfl (as_nil rfl) ?_
        refine WO.op rfl rfl rfl rfl (as_sc rfl) ?_
        refine WO.nil ?_
        refine W.wk 2 (.im 1 (([] : List UInt8).map byteAV)) Wk.noneB ?_
        refine W.ret ?_
        refine ⟨.inl rfl, ?_⟩
        exact ret0 (Res.tmp rfl (Res.tmp rfl Res.nil)) (.keep rfl)
      · try simp only [decide_eq_true_eq, decide_eq_false_iff_not, Bool.not_eq_true', Bool.not_eq_false', beq_iff_eq, bne_iff_ne, beq_eq_false_iff_ne, bne_eq_false_iff_eq, gt_iff_lt, ge_iff_le, Int.not_lt, Int.not_le] at h3
        refine WO.op rfl rfl rfl rfl (step_fieldR (k := 3) (FieldOff.mk (by kernel_rfl)) rfl rfl (by exact Nat.zero_add _)) ?_
        refine WO.op rfl rfl rfl rfl (step_load Try.isAgg3 rfl rfl rfl) ?_
        refine WO.op rfl rfl rfl rfl (step_int2 rfl rfl rfl) ?_
        refine WO.op rfl rfl rfl rfl (pk_f rfl rfl rfl) ?_
        refine WO.nil ?_
        refine W.cond rfl (fun h4 => ?_) (fun h4 => ?_)
        · try simp only [decide_eq_true_eq, decide_eq_false_iff_not, Bool.not_eq_true', Bool.not_eq_false', beq_iff_eq, bne_iff_ne, beq_eq_false_iff_ne, bne_eq_false_iff_eq, gt_iff_lt, ge_iff_le, Int.not_lt, Int.not_le] at h4
          refine W.seq ?_
          refine W.to [(0, _), (2, _), (3, _), (4, _), (5, _), (6, _), (7, _), (9, _), (48, _)] [_, _, _] rfl ⟨(by exact sh_im rfl), (by exact sh_nil rfl), (by exact sh_sc rfl), (by exact sh_sc rfl), (by exact sh_im rfl), (by exact sh_ptr rfl), (by exact sh_sc rfl), (by exact sh_sc rfl), (by exact sh_sc rfl), trivial⟩ ?_
          refine W.region ?_
          refine WO.op rfl rfl rfl rfl (as_nil rfl) ?_
          refine WO.op rfl rfl rfl rfl (as_sc rfl) ?_
          refine WO.nil ?_
          refine W.wk 2 (.im 1 (([] : List UInt8).map byteAV)) Wk.noneB ?_
          refine W.ret ?_
          refine ⟨.inl rfl, ?_⟩
          exact ret0 (Res.tmp rfl (Res.tmp rfl Res.nil)) (.keep rfl)
        · try simp only [decide_eq_true_eq, decide_eq_false_iff_not, Bool.not_eq_true', Bool.not_eq_false', beq_iff_eq, bne_iff_ne, beq_eq_false_iff_ne, bne_eq_false_iff_eq, gt_iff_lt, ge_iff_le, Int.not_lt, Int.not_le] at h4
          exact False.elim (hx3 (pad_hop h h2 (by omega) (by omega)))

end Go.Proofs.Ytejoccabclibeaa
