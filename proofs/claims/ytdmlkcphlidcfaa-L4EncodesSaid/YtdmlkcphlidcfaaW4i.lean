/-
  Contracts of functions of chapter 04: each theorem says what a call of one function answers, for all arguments that its hypotheses let in.
-/
import Derived.Test.YtdmlkcphlidcfaaW4h
set_option linter.unusedVariables false
set_option linter.unusedSimpArgs false
set_option maxRecDepth 100000
set_option maxHeartbeats 1000000
namespace Go.Proofs.Ytdmlkcphlidcfaa
open Go Go.SL Go.Proofs

theorem step_copyT {P : Program} {env : Nat → AV} {hp : List AObj} {dst : Option Nat} {ty : TypeId} {pos : String} {after : Array Edge} {guard : Option (Nat × Bool)} {dT sT e : TypeId} {len o off : Nat} {d s : Operand} {l : List UInt8} {b : ByteArray} (ht : Und P dT (.slice e)) (hi : EI P e (.int .u8 0) 1 1)
    (hx : opd env d = .sl o off len) (ho : hp[o]? = some (AObj.row 1 (l.map byteAV))) (hs : opd env s = .sc (.string b)) (hend : off + len ≤ l.length) (hl : b.size ≤ len) :
    Step P ⟨dst, .call ⟨.builtin .copy, #[d, s], #[dT, sT]⟩, ty, pos, after, guard⟩ env hp (is (.sc (.int .i64 ((b.size : Nat) : Int))) (hp.set o (.row 1 ((splice l off b.data.toList).map byteAV)))) := by
  have := step_copy (P := P) (dst := dst) (ty := ty) (pos := pos) (after := after) (guard := guard) (hp := hp) (sT := sT) ht hi hx ho (by simpa using hend) (Src.str hs)
  have hm : min b.size len = b.size := Nat.min_eq_left hl
  have e1 : (b.data.toList.map byteAV).take (min b.size len * 1) = b.data.toList.map byteAV := by
    rw [hm, Nat.mul_one, List.take_of_length_le]
    rw [List.length_map]
    show b.data.toList.length ≤ b.data.size
    rw [Array.length_toList]
    exact Nat.le_refl _
  have e2 : splice (l.map byteAV) off (b.data.toList.map byteAV) = (splice l off b.data.toList).map byteAV := by
    simp [splice]
  rw [e1, e2, hm] at this
  exact this
theorem or12 {x f : Nat} (h : f < 4096) : x * 2 ^ 12 ||| f = x * 4096 + f := by
  rw [Nat.mul_comm, ← Nat.two_pow_add_eq_or_of_lt (i := 12) h]
theorem splice_len {l o : List UInt8} {k : Nat} (h : k + o.length ≤ l.length) : (splice l k o).length = l.length := by
  unfold splice
  simp only [List.length_append, List.length_take, List.length_drop]
  omega
def icmp0 (ty co re : Nat) (o : List UInt8) : List UInt8 := put4L (((List.replicate 8 0 ++ o).set 0 (UInt8.ofNat ty)).set 1 (UInt8.ofNat co)) 4 re
def encI (ty co re : Nat) (o : List UInt8) : List UInt8 := put2 (icmp0 ty co re o) 2 (65535 - fo (ws (icmp0 ty co re o) (icmp0 ty co re o).length))
def tcp0 (sp dp se ac fl wi ur : Nat) (p o : List UInt8) : List UInt8 :=
  splice (put2 (put2 (put2 (put4L (put4L (put2 (put2 (List.replicate (20 + p.length) 0 ++ o) 0 sp) 2 dp) 4 se) 8 ac) 12 ((20 + p.length) / 4 * 4096 + fl)) 14 wi) 18 ur) 20 p
def encT (src dst sp dp se ac fl wi ur : Nat) (p o : List UInt8) : List UInt8 :=
  let b := tcp0 sp dp se ac fl wi ur p o
  put2 b 16 (65535 - fo (psu src dst 6 b.length + ws b b.length))

theorem w_Enc1 {src dst : Nat} (hsrc : src < 4294967296) (hdst : dst < 4294967296) {ty co re : Nat} {da : ByteArray} (hty : ty ≤ 255) (hco : co ≤ 255) (hre : re < 4294967296) (hda : da.size ≤ 65507) : Spec0 Try.prog 11 [.sc (.int .u32 ((src : Nat) : Int)), .sc (.int .u32 ((dst : Nat) : Int)), .agg [.sc (.int .i64 1), .sc (.int .i64 ((ty : Nat) : Int)), .sc (.int .i64 ((co : Nat) : Int)), .sc (.int .u32 ((re : Nat) : Int)), .sc (.int .i64 0), .sc (.int .i64 0), .sc (.bool false), .sc (.int .u32 0), .sc (.int .u32 0), .sc (.int .i64 0), .sc (.int .i64 0), .sc (.int .i64 0), .sc (.string ⟨#[]⟩), .sc (.string da)]] (.tup [.im 1 ((encI ty co re da.data.toList).map byteAV), .sc (.int .i64 0)]) := by
  refine Spec.body Try.func11 rfl (Nat.le_of_ble_eq_true rfl) ?_
  have hoz : da.data.toList.length = da.size := by rw [Array.length_toList]; rfl
  refine W.seq ?_
  refine W.region ?_
  refine WO.opA rfl rfl rfl rfl (al_boxA rfl rfl) rfl rfl ?_
  refine WO.put 5 (.ptr 0 0) rfl ?_
  refine WO.op rfl rfl rfl rfl (as_nil rfl) ?_
  refine WO.op rfl rfl rfl rfl (as_sc rfl) ?_
  refine WO.nil ?_
  refine W.seq ?_
  refine W.seq ?_
  refine W.to [(0, _), (1, _), (2, _), (5, _), (6, _), (7, _)] [_] rfl ⟨(by exact sh_sc rfl), (by exact sh_sc rfl), (by exact sh_agg rfl), (by exact sh_ptr rfl), (by exact sh_nil rfl), (by exact sh_sc rfl), trivial⟩ ?_
  refine W.region ?_
  refine WO.op rfl rfl rfl rfl (step_loadA Try.isAgg25 Try.sizeOf25 rfl rfl (by exact Nat.le_refl _)) ?_
  refine WO.put 14 (.agg [.sc (.int .i64 1), .sc (.int .i64 ((ty : Nat) : Int)), .sc (.int .i64 ((co : Nat) : Int)), .sc (.int .u32 ((re : Nat) : Int)), .sc (.int .i64 0), .sc (.int .i64 0), .sc (.bool false), .sc (.int .u32 0), .sc (.int .u32 0), .sc (.int .i64 0), .sc (.int .i64 0), .sc (.int .i64 0), .sc (.string ⟨#[]⟩), .sc (.string da)]) (by kernel_rfl) ?_
  refine WO.op rfl rfl rfl rfl (step_pure Try.call13 rfl (by (repeat (first | exact Nl.nil | refine Nl.keep (by rfl) ?_))) (w_Chk1 hty hco hre hda) (by repeat (rfl))) ?_
  refine WO.op rfl rfl rfl rfl (as_sc rfl) ?_
  refine WO.nil ?_
  refine W.seq ?_
  refine W.to [(0, _), (1, _), (2, _), (5, _), (6, _), (7, _), (8, _)] [_] rfl ⟨(by exact sh_sc rfl), (by exact sh_sc rfl), (by exact sh_agg rfl), (by exact sh_ptr rfl), (by exact sh_nil rfl), (by exact sh_sc rfl), (by exact sh_sc rfl), trivial⟩ ?_
  refine W.region ?_
  refine WO.op rfl rfl rfl rfl (mv_sc rfl) ?_
  refine WO.op rfl rfl rfl rfl (step_int2 rfl rfl rfl) ?_
  refine WO.put 17 (.sc (.bool false)) (by kernel_rfl) ?_
  refine WO.nil ?_
  refine W.condF rfl ?_
  refine W.skip ?_
  refine W.seq ?_
  refine W.to [(0, _), (1, _), (2, _), (5, _), (6, _), (7, _), (8, _), (17, _)] [_] rfl ⟨(by exact sh_sc rfl), (by exact sh_sc rfl), (by exact sh_agg rfl), (by exact sh_ptr rfl), (by exact sh_nil rfl), (by exact sh_sc rfl), (by exact sh_sc rfl), (by exact sh_sc rfl), trivial⟩ ?_
  refine W.region ?_
  refine WO.op rfl rfl rfl rfl (step_loadA Try.isAgg25 Try.sizeOf25 rfl rfl (by exact Nat.le_refl _)) ?_
  refine WO.put 20 (.agg [.sc (.int .i64 1), .sc (.int .i64 ((ty : Nat) : Int)), .sc (.int .i64 ((co : Nat) : Int)), .sc (.int .u32 ((re : Nat) : Int)), .sc (.int .i64 0), .sc (.int .i64 0), .sc (.bool false), .sc (.int .u32 0), .sc (.int .u32 0), .sc (.int .i64 0), .sc (.int .i64 0), .sc (.int .i64 0), .sc (.string ⟨#[]⟩), .sc (.string da)]) (by kernel_rfl) ?_
  refine WO.op rfl rfl rfl rfl (step_pure Try.call26 rfl (by (repeat (first | exact Nl.nil | refine Nl.keep (by rfl) ?_))) (w_own1) (by repeat (first | with_reducible refine noOwn_tup ?_ | with_reducible refine noOwn_agg ?_ | with_reducible exact noOwnL_nil | with_reducible refine noOwnL_cons ?_ ?_ | rfl))) ?_
  refine WO.op rfl rfl rfl rfl (mv_tup rfl) ?_
  refine WO.op rfl rfl rfl rfl (step_extract rfl rfl) ?_
  refine WO.put 22 (.agg [.sc (.int .i64 1), .sc (.int .i64 ((ty : Nat) : Int)), .sc (.int .i64 ((co : Nat) : Int)), .sc (.int .u32 ((re : Nat) : Int)), .sc (.int .i64 0), .sc (.int .i64 0), .sc (.bool false), .sc (.int .u32 0), .sc (.int .u32 0), .sc (.int .i64 0), .sc (.int .i64 0), .sc (.int .i64 0), .sc (.string ⟨#[]⟩), .sc (.string da)]) (by kernel_rfl) ?_
  refine WO.op rfl rfl rfl rfl (step_extract rfl rfl) ?_
  refine WO.op rfl rfl rfl rfl (step_extract rfl rfl) ?_
  refine WO.opA rfl rfl rfl rfl (al_alloc Try.zeroValue25) rfl rfl ?_
  refine WO.put 9 (.ptr 1 0) rfl ?_
  refine WO.op0 rfl rfl rfl (step_storeA Try.sizeOf25 rfl rfl rfl (by repeat (exact all_cell rfl rfl)) rfl rfl) ?_
  refine WO.op rfl rfl rfl rfl (as_sc rfl) ?_
  refine WO.op rfl rfl rfl rfl (as_sc rfl) ?_
  refine WO.nil ?_
  refine W.seq ?_
  refine W.to [(0, _), (1, _), (2, _), (5, _), (6, _), (7, _), (8, _), (10, _), (17, _)] [_, _] rfl ⟨(by exact sh_sc rfl), (by exact sh_sc rfl), (by exact sh_agg rfl), (by exact sh_ptr rfl), (by exact sh_nil rfl), (by exact sh_sc rfl), (by exact sh_sc rfl), (by exact sh_sc rfl), (by exact sh_sc rfl), trivial⟩ ?_
  refine W.draw (Checked.mixed Try.checked) ?_
  refine DC.op rfl rfl rfl (fun _ => mv_sc rfl) ?_
  refine DC.opE rfl rfl rfl (step_makeB Try.runUnderlying23 (EI.mk (by kernel_rfl)) rfl rfl (by (exact rfl)) (by (exact rfl)) (by (simp only [List.length_map, List.length_append, List.length_take, List.length_drop, List.length_set, List.length_cons, List.length_nil, List.length_replicate, put2_len, put4L_len, hoz] <;> omega))) (by simp) (by repeat (first | exact True.intro | refine And.intro (by rfl) ?_)) (by repeat (first | exact True.intro | refine And.intro (by rfl) ?_)) ?_
  refine DC.set 26 (.sl 2 0 _) rfl ?_
  refine DC.op1 rfl rfl rfl rfl (fun _ ho => step_fieldR (k := 13) (FieldOff.mk (by kernel_rfl)) rfl ho (by exact Nat.zero_add _)) ?_
  refine DC.op1 rfl rfl rfl rfl (fun _ ho => step_load Try.isAgg9 rfl ho rfl) ?_
  refine DC.opE rfl rfl rfl (step_appB Try.runUnderlying23 (EI.mk (by kernel_rfl)) Try.runUnderlying9 (.inr rfl) rfl rfl (by (simp only [List.length_map, List.length_append, List.length_take, List.length_drop, List.length_set, List.length_cons, List.length_nil, List.length_replicate, put2_len, put4L_len, hoz] <;> omega)) (Src.str rfl) (by (simp only [List.length_map, List.length_append, List.length_take, List.length_drop, List.length_set, List.length_cons, List.length_nil, List.length_replicate, put2_len, put4L_len, hoz] <;> omega)) rfl) (by simp) (by repeat (first | exact True.intro | refine And.intro (by rfl) ?_)) (by repeat (first | exact True.intro | refine And.intro (by first | exact rowLt_bytes | rfl) ?_)) ?_
  refine DC.set 29 (.sl 3 0 _) rfl ?_
  refine DC.op rfl rfl rfl (fun _ => as_sl rfl) ?_
  refine DC.set 12 (.sl 3 0 (8 + da.size)) (congrArg (AV.sl 3 0) (by rfl)) ?_
  refine DC.fin [(2, 0), (2, 1), (3, 0), (3, 1)] (by kernel_rfl) (by kernel_rfl) ?_ ?_
  · repeat (first | exact True.intro | refine And.intro ?_ ?_ | kernel_rfl)
  · refine W.seq ?_
    refine W.seq ?_
    refine W.to [(0, _), (1, _), (2, _), (5, _), (6, _), (7, _), (8, _), (10, _), (12, _), (17, _)] [_, _, _, _] rfl ⟨(by exact sh_sc rfl), (by exact sh_sc rfl), (by exact sh_agg rfl), (by exact sh_ptr rfl), (by exact sh_nil rfl), (by exact sh_sc rfl), (by exact sh_sc rfl), (by exact sh_sc rfl), (by exact sh_sl rfl), (by exact sh_sc rfl), trivial⟩ ?_
    refine W.region ?_
    refine WO.op rfl rfl rfl rfl (step_fieldR (k := 0) (FieldOff.mk (by kernel_rfl)) rfl rfl (by exact Nat.zero_add _)) ?_
    refine WO.op rfl rfl rfl rfl (step_load Try.isAgg3 rfl rfl rfl) ?_
    refine WO.nil ?_
    refine W.block ?_
    refine W.seq ?_
    refine W.to [(0, _), (1, _), (2, _), (5, _), (6, _), (7, _), (8, _), (10, _), (12, _), (17, _), (31, _)] [_, _, _, _] rfl ⟨(by exact sh_sc rfl), (by exact sh_sc rfl), (by exact sh_agg rfl), (by exact sh_ptr rfl), (by exact sh_nil rfl), (by exact sh_sc rfl), (by exact sh_sc rfl), (by exact sh_sc rfl), (by exact sh_sl rfl), (by exact sh_sc rfl), (by exact sh_sc rfl), trivial⟩ ?_
    refine W.region ?_
    refine WO.op rfl rfl rfl rfl (step_int2 rfl rfl rfl) ?_
    refine WO.put 33 (.sc (.bool true)) (by kernel_rfl) ?_
    refine WO.op rfl rfl rfl rfl (as_sc rfl) ?_
    refine WO.nil ?_
    refine W.condT rfl ?_
    refine W.seq ?_
    refine W.to [(0, _), (1, _), (2, _), (5, _), (6, _), (7, _), (8, _), (10, _), (12, _), (17, _), (31, _), (32, _)] [_, _, _, _] rfl ⟨(by exact sh_sc rfl), (by exact sh_sc rfl), (by exact sh_agg rfl), (by exact sh_ptr rfl), (by exact sh_nil rfl), (by exact sh_sc rfl), (by exact sh_sc rfl), (by exact sh_sc rfl), (by exact sh_sl rfl), (by exact sh_sc rfl), (by exact sh_sc rfl), (by exact sh_sc rfl), trivial⟩ ?_
    refine W.gatC [_, _, _] [] _ rfl rfl ?_
    intro L8 hL8
    have hl8 : L8.length = 8 + da.size := by rw [hL8]; simp only [put2_len, put4L_len, List.length_set, List.length_append, List.length_replicate, hoz, hoz] <;> omega
    refine W.draw (Checked.mixed Try.checked) ?_
    refine DC.op rfl rfl rfl (fun _ => mv_sl rfl) ?_
    refine DC.op rfl rfl rfl (fun _ => mv_sl rfl) ?_
    refine DC.op1 rfl rfl rfl rfl (fun _ ho => step_fieldR (k := 1) (FieldOff.mk (by kernel_rfl)) rfl ho (by exact Nat.zero_add _)) ?_
    refine DC.op1 rfl rfl rfl rfl (fun _ ho => step_load Try.isAgg3 rfl ho rfl) ?_
    refine DC.op rfl rfl rfl (fun _ => step_convR Try.runUnderlying3 Try.runUnderlying5 rfl (by exact convN (by (simp only [cap]; omega)))) ?_
    refine DC.op1 rfl rfl rfl rfl (fun _ ho => step_fieldR (k := 2) (FieldOff.mk (by kernel_rfl)) rfl ho (by exact Nat.zero_add _)) ?_
    refine DC.op1 rfl rfl rfl rfl (fun _ ho => step_load Try.isAgg3 rfl ho rfl) ?_
    refine DC.op rfl rfl rfl (fun _ => step_convR Try.runUnderlying3 Try.runUnderlying5 rfl (by exact convN (by (simp only [cap]; omega)))) ?_
    refine DC.op1 rfl rfl rfl rfl (fun _ ho => step_idxO (j := 0) Try.runUnderlying23 Try.sizeOf5 rfl ho rfl (by (exact rfl)) (by omega) (by exact Nat.zero_add _)) ?_
    refine DC.opE0 rfl rfl (step_storeB (b := _) Try.sizeOf5 rfl rfl rfl (by (exact u8_nat (by omega))) (by omega)) (by simp) (by repeat (first | exact True.intro | refine And.intro (by rfl) ?_)) (by repeat (first | exact True.intro | refine And.intro (by first | exact rowLt_bytes | rfl) ?_)) ?_
    refine DC.op1 rfl rfl rfl rfl (fun _ ho => step_idxO (j := 1) Try.runUnderlying23 Try.sizeOf5 rfl ho rfl (by (exact rfl)) (by omega) (by exact Nat.zero_add _)) ?_
    refine DC.opE0 rfl rfl (step_storeB (b := _) Try.sizeOf5 rfl rfl rfl (by (exact u8_nat (by omega))) (by (simp only [List.length_map, List.length_append, List.length_take, List.length_drop, List.length_set, List.length_cons, List.length_nil, List.length_replicate, put2_len, put4L_len, hoz] <;> omega))) (by simp) (by repeat (first | exact True.intro | refine And.intro (by rfl) ?_)) (by repeat (first | exact True.intro | refine And.intro (by first | exact rowLt_bytes | rfl) ?_)) ?_
    refine DC.fin [(2, 0), (3, 0), (4, 0), (5, 0), (5, 1), (6, 0), (6, 1), (7, 0), (7, 1), (8, 0), (10, 1)] (by kernel_rfl) (by kernel_rfl) ?_ ?_
    · repeat (first | exact True.intro | refine And.intro ?_ ?_ | kernel_rfl)
    · refine W.seq ?_
      refine W.to [(0, _), (1, _), (2, _), (5, _), (6, _), (7, _), (8, _), (10, _), (12, _), (17, _), (31, _), (32, _)] [_, _, _, _] rfl ⟨(by exact sh_sc rfl), (by exact sh_sc rfl), (by exact sh_agg rfl), (by exact sh_ptr rfl), (by exact sh_nil rfl), (by exact sh_sc rfl), (by exact sh_sc rfl), (by exact sh_sc rfl), (by exact sh_sl rfl), (by exact sh_sc rfl), (by exact sh_sc rfl), (by exact sh_sc rfl), trivial⟩ ?_
      refine W.gatC [_, _, _] [] _ rfl rfl ?_
      intro L9 hL9
      have hl9 : L9.length = 8 + da.size := by rw [hL9]; simp only [put2_len, put4L_len, List.length_set, List.length_append, List.length_replicate, hoz, hl8] <;> omega
      refine W.region ?_
      refine WO.op rfl rfl rfl rfl (mv_sl rfl) ?_
      refine WO.op rfl rfl rfl rfl (step_fieldR (k := 3) (FieldOff.mk (by kernel_rfl)) rfl rfl (by exact Nat.zero_add _)) ?_
      refine WO.op rfl rfl rfl rfl (step_load Try.isAgg22 rfl rfl rfl) ?_
      refine WO.op rfl rfl rfl rfl (step_over Try.call27 rfl rfl rfl noOwn_bytes noOwn_bytes rfl (w_put4 (i := 4) (by omega) (by omega) (by omega) (by omega))) ?_
      refine WO.nil ?_
      refine W.to [(0, _), (1, _), (2, _), (5, _), (6, _), (7, _), (8, _), (10, _), (12, _), (17, _), (31, _), (32, _)] [_, _, _, _] rfl ⟨(by exact sh_sc rfl), (by exact sh_sc rfl), (by exact sh_agg rfl), (by exact sh_ptr rfl), (by exact sh_nil rfl), (by exact sh_sc rfl), (by exact sh_sc rfl), (by exact sh_sc rfl), (by exact sh_sl rfl), (by exact sh_sc rfl), (by exact sh_sc rfl), (by exact sh_sc rfl), trivial⟩ ?_
      refine W.gatC [_, _, _] [] _ rfl rfl ?_
      intro L10 hL10
      have hl10 : L10.length = 8 + da.size := by rw [hL10]; simp only [put2_len, put4L_len, List.length_set, List.length_append, List.length_replicate, hoz, hl8, hl9] <;> omega
      refine W.region ?_
      refine WO.op rfl rfl rfl rfl (mv_sl rfl) ?_
      refine WO.op rfl rfl rfl rfl (mv_sl rfl) ?_
      refine WO.op rfl rfl rfl rfl (step_lent Try.call29 rfl (by (repeat (first | exact Bw.nil | refine Bw.slB rfl (by (exact take_whole (by omega))) (by (simp only [List.length_map, List.length_append, List.length_take, List.length_drop, List.length_set, List.length_cons, List.length_nil, List.length_replicate, put2_len, put4L_len, hoz] <;> omega)) ?_))) (w_Check (by omega)) (by repeat (rfl))) ?_
      refine WO.op rfl rfl rfl rfl (step_convR Try.runUnderlying37 Try.runUnderlying3 rfl (by exact convN (by (simp only [cap]; omega)))) ?_
      refine WO.op rfl rfl rfl rfl (step_over Try.call28 rfl rfl rfl noOwn_bytes noOwn_bytes rfl (w_put (i := 2) (by omega) (by omega) (by omega) (by omega))) ?_
      refine WO.nil ?_
      refine W.seq ?_
      refine W.to [(0, _), (1, _), (2, _), (5, _), (6, _), (7, _), (8, _), (10, _), (12, _), (17, _), (31, _), (32, _)] [_, _, _, _] rfl ⟨(by exact sh_sc rfl), (by exact sh_sc rfl), (by exact sh_agg rfl), (by exact sh_ptr rfl), (by exact sh_nil rfl), (by exact sh_sc rfl), (by exact sh_sc rfl), (by exact sh_sc rfl), (by exact sh_sl rfl), (by exact sh_sc rfl), (by exact sh_sc rfl), (by exact sh_sc rfl), trivial⟩ ?_
      refine W.region ?_
      refine WO.op rfl rfl rfl rfl (mv_sl rfl) ?_
      refine WO.op rfl rfl rfl rfl (as_sl rfl) ?_
      refine WO.op rfl rfl rfl rfl (as_sc rfl) ?_
      refine WO.nil ?_
      refine W.ret ?_
      refine ⟨.inl rfl, ?_⟩
      have e : icmp0 ty co re da.data.toList = L10 := by rw [hL10, hL9, hL8]; rfl
      unfold encI
      rw [e]
      exact ret0 (Res.tmp rfl (Res.tmp rfl Res.nil)) (.tup (.cons (Fz.bytes rfl (Nat.zero_le _) (take_whole (by (rw [put2_len]; omega))) (by rw [List.length_map]; (rw [put2_len]; omega))) (.cons (.keep rfl) .nil)))

end Go.Proofs.Ytdmlkcphlidcfaa
