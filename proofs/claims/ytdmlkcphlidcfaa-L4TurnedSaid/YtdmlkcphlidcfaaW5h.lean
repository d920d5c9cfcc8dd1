/-
  Contracts of functions of chapter 04: each theorem says what a call of one function answers, for all arguments that its hypotheses let in.
-/
import Derived.Test.YtdmlkcphlidcfaaW5g
import Derived.Test.YtdmlkcphlidcfaaW5a
import Derived.Test.YtdmlkcphlidcfaaW4g
import Derived.Test.YtdmlkcphlidcfaaW5b
set_option linter.unusedVariables false
set_option linter.unusedSimpArgs false
set_option maxRecDepth 100000
set_option maxHeartbeats 1000000
namespace Go.Proofs.Ytdmlkcphlidcfaa
open Go Go.SL Go.Proofs

theorem xor_bit : ∀ x, x < 256 → ∀ b, b < 8 → x ^^^ (1 * 2 ^ b % 256) = x + 2 ^ b ∨ (x ^^^ (1 * 2 ^ b % 256)) + 2 ^ b = x := by decide
theorem pow8 {b : Nat} (h : b < 8) : 1 ≤ 2 ^ b ∧ 2 ^ b ≤ 128 := ⟨Nat.one_le_two_pow, by have : 2 ^ b ≤ 2 ^ 7 := Nat.pow_le_pow_right (by decide) (by omega); simpa using this⟩
theorem xor_u8 {x j : Nat} (h : x ≤ 255) : (UInt8.ofNat (x ^^^ (1 * 2 ^ (j % 8) % 256))).toNat = x ^^^ (1 * 2 ^ (j % 8) % 256) := by
  rw [UInt8.toNat_ofNat']
  apply Nat.mod_eq_of_lt
  have h1 : x < 2 ^ 8 := by show x < 256; omega
  exact Nat.xor_lt_two_pow h1 (by show _ < 256; omega)
theorem shl8 {s : Nat} (h : s < 8) : IntKind.u8.wrap (1 * 2 ^ min ((s : Nat) : Int).toNat IntKind.u8.bits) = ((1 * 2 ^ s % 256 : Nat) : Int) := by
  have : s = 0 ∨ s = 1 ∨ s = 2 ∨ s = 3 ∨ s = 4 ∨ s = 5 ∨ s = 6 ∨ s = 7 := by omega
  rcases this with rfl | rfl | rfl | rfl | rfl | rfl | rfl | rfl <;> rfl
theorem tmod_rng {x m : Int} (h : 0 < m) : -m < x.tmod m ∧ x.tmod m < m := ⟨by have := Int.lt_tmod_of_pos x h; omega, Int.tmod_lt_of_pos x h⟩
/-- One bit of a byte turned. -/
def flip (L : List UInt8) (i b : Nat) : List UInt8 := L.set i (UInt8.ofNat ((L.getD i 0).toNat ^^^ (1 * 2 ^ (b % 8) % 256)))
theorem flip_sum {L : List UInt8} {C i b n : Nat} (hs : fo (C + ws L n) = 65535) (hi : i < L.length) (hn : n = L.length) : fo (C + ws (flip L i b) n) ≠ 65535 := by
  intro h2
  subst hn
  have hws := ws_set (l := L) (i := i) (v := UInt8.ofNat ((L.getD i 0).toNat ^^^ (1 * 2 ^ (b % 8) % 256))) L.length hi hi
  have hb : b % 8 < 8 := Nat.mod_lt _ (by decide)
  have hx := xor_bit (L.getD i 0).toNat (u8_lt _) (b % 8) hb
  have hp := pow8 hb
  have hv := xor_u8 (x := (L.getD i 0).toNat) (j := b) (byte_le _)
  unfold flip at h2
  rw [← hv] at hx
  generalize UInt8.ofNat ((L.getD i 0).toNat ^^^ (1 * 2 ^ (b % 8) % 256)) = v at *
  have t1 := fo_top.1 hs
  have t2 := fo_top.1 h2
  generalize ws (L.set i v) L.length = A at *
  generalize ws L L.length = B at *
  generalize (L.getD i 0).toNat = x at *
  generalize v.toNat = y at *
  generalize 2 ^ (b % 8) = p at *
  have hw : wt i = 256 ∨ wt i = 1 := by unfold wt; split <;> simp
  rcases hw with hw | hw <;> rw [hw] at hws <;> rcases hx with hx | hx <;> omega

theorem w_TurnX {src dst : Nat} (hsrc : src < 4294967296) (hdst : dst < 4294967296) {a0 : Int} {a1 : Int} {a2 : Int} {a3 : Int} {a4 : Int} {a5 : Int} {a6 : Bool} {a7 : Int} {a8 : Int} {a9 : Int} {a10 : Int} {a11 : Int} {a12 : ByteArray} {a13 : ByteArray} {bit : Int} (g0 : isI a0) (g1 : isI a1) (g2 : isI a2) (g3 : isU a3) (g4 : isI a4) (g5 : isI a5) (g7 : isU a7) (g8 : isU a8) (g9 : isI a9) (g10 : isI a10) (g11 : isI a11) (g12 : a12.size ≤ 200000000000000) (g13 : a13.size ≤ 200000000000000) (h : ¬ okL4 a0 a1 a2 a3 a4 a5 a6 a7 a8 a9 a10 a11 a12 a13) : Spec0 Try.prog 7 [.sc (.int .u32 ((src : Nat) : Int)), .sc (.int .u32 ((dst : Nat) : Int)), .agg [.sc (.int .i64 a0), .sc (.int .i64 a1), .sc (.int .i64 a2), .sc (.int .u32 a3), .sc (.int .i64 a4), .sc (.int .i64 a5), .sc (.bool a6), .sc (.int .u32 a7), .sc (.int .u32 a8), .sc (.int .i64 a9), .sc (.int .i64 a10), .sc (.int .i64 a11), .sc (.string a12), .sc (.string a13)], .sc (.int .i64 bit)] (.sc (.bool true)) := by
  refine Spec.body Try.func7 rfl (Nat.le_of_ble_eq_true rfl) ?_
  refine W.seq ?_
  refine W.region ?_
  refine WO.opA rfl rfl rfl rfl (al_boxA rfl rfl) rfl rfl ?_
  refine WO.put 6 (.ptr 0 0) rfl ?_
  refine WO.op rfl rfl rfl rfl (as_sc rfl) ?_
  refine WO.nil ?_
  refine W.seq ?_
  refine W.to [(0, _), (1, _), (2, _), (3, _), (6, _), (8, _)] [_] rfl ⟨(by exact sh_sc rfl), (by exact sh_sc rfl), (by exact sh_agg rfl), (by exact sh_sc rfl), (by exact sh_ptr rfl), (by exact sh_sc rfl), trivial⟩ ?_
  refine W.region ?_
  refine WO.op rfl rfl rfl rfl (mv_sc rfl) ?_
  refine WO.op rfl rfl rfl rfl (mv_sc rfl) ?_
  refine WO.op rfl rfl rfl rfl (step_loadA Try.isAgg25 Try.sizeOf25 rfl rfl (by exact Nat.le_refl _)) ?_
  refine WO.put 19 (.agg [.sc (.int .i64 a0), .sc (.int .i64 a1), .sc (.int .i64 a2), .sc (.int .u32 a3), .sc (.int .i64 a4), .sc (.int .i64 a5), .sc (.bool a6), .sc (.int .u32 a7), .sc (.int .u32 a8), .sc (.int .i64 a9), .sc (.int .i64 a10), .sc (.int .i64 a11), .sc (.string a12), .sc (.string a13)]) (by kernel_rfl) ?_
  refine WO.op rfl rfl rfl rfl (step_pure Try.call11 rfl (by (repeat (first | exact Nl.nil | refine Nl.keep (by rfl) ?_))) (w_EncX g0 g1 g2 g3 g4 g5 g7 g8 g9 g10 g11 g12 g13 h) (by repeat (first | with_reducible exact noOwn_im | with_reducible refine noOwn_tup ?_ | with_reducible exact noOwnL_nil | with_reducible refine noOwnL_cons ?_ ?_ | rfl))) ?_
  refine WO.op rfl rfl rfl rfl (mv_tup rfl) ?_
  refine WO.op rfl rfl rfl rfl (step_extract rfl rfl) ?_
  refine WO.op rfl rfl rfl rfl (step_extract rfl rfl) ?_
  refine WO.op rfl rfl rfl rfl (as_im rfl) ?_
  refine WO.op rfl rfl rfl rfl (as_sc rfl) ?_
  refine WO.nil ?_
  refine W.seq ?_
  refine W.seq ?_
  refine W.to [(0, _), (1, _), (2, _), (3, _), (6, _), (8, _), (9, _), (10, _)] [_] rfl ⟨(by exact sh_sc rfl), (by exact sh_sc rfl), (by exact sh_agg rfl), (by exact sh_sc rfl), (by exact sh_ptr rfl), (by exact sh_sc rfl), (by exact sh_im rfl), (by exact sh_sc rfl), trivial⟩ ?_
  refine W.region ?_
  refine WO.op rfl rfl rfl rfl (step_pure Try.call10 rfl (by (repeat (exact Nl.nil))) (w_lives) (by repeat (rfl))) ?_
  refine WO.op rfl rfl rfl rfl (step_not rfl) ?_
  refine WO.put 24 (.sc (.bool false)) (rfl) ?_
  refine WO.nil ?_
  refine W.condF rfl ?_
  refine W.skip ?_
  refine W.seq ?_
  refine W.seq ?_
  refine W.to [(0, _), (1, _), (2, _), (3, _), (6, _), (8, _), (9, _), (10, _), (24, _)] [_] rfl ⟨(by exact sh_sc rfl), (by exact sh_sc rfl), (by exact sh_agg rfl), (by exact sh_sc rfl), (by exact sh_ptr rfl), (by exact sh_sc rfl), (by exact sh_im rfl), (by exact sh_sc rfl), (by exact sh_sc rfl), trivial⟩ ?_
  refine W.region ?_
  refine WO.op rfl rfl rfl rfl (mv_sc rfl) ?_
  refine WO.op rfl rfl rfl rfl (step_int2 rfl rfl rfl) ?_
  refine WO.put 26 (.sc (.bool true)) (by kernel_rfl) ?_
  refine WO.op rfl rfl rfl rfl (mv_sc rfl) ?_
  refine WO.sk rfl rfl rfl rfl ?_
  refine WO.sk rfl rfl rfl rfl ?_
  refine WO.sk rfl rfl rfl rfl ?_
  refine WO.op rfl rfl rfl rfl (pk_t rfl rfl rfl) ?_
  refine WO.op rfl rfl rfl rfl (mv_sc rfl) ?_
  refine WO.sk rfl rfl rfl rfl ?_
  refine WO.sk rfl rfl rfl rfl ?_
  refine WO.op rfl rfl rfl rfl (pk_t rfl rfl rfl) ?_
  refine WO.nil ?_
  refine W.condT rfl ?_
  refine W.seq ?_
  refine W.to [(0, _), (1, _), (2, _), (3, _), (6, _), (8, _), (9, _), (10, _), (24, _), (35, _)] [_] rfl ⟨(by exact sh_sc rfl), (by exact sh_sc rfl), (by exact sh_agg rfl), (by exact sh_sc rfl), (by exact sh_ptr rfl), (by exact sh_sc rfl), (by exact sh_im rfl), (by exact sh_sc rfl), (by exact sh_sc rfl), (by exact sh_sc rfl), trivial⟩ ?_
  refine W.region ?_
  refine WO.op rfl rfl rfl rfl (mv_sc rfl) ?_
  refine WO.op rfl rfl rfl rfl (step_int2 rfl rfl rfl) ?_
  refine WO.put 37 (.sc (.bool false)) (by kernel_rfl) ?_
  refine WO.op rfl rfl rfl rfl (step_loadA Try.isAgg25 Try.sizeOf25 rfl rfl (by exact Nat.le_refl _)) ?_
  refine WO.put 38 (.agg [.sc (.int .i64 a0), .sc (.int .i64 a1), .sc (.int .i64 a2), .sc (.int .u32 a3), .sc (.int .i64 a4), .sc (.int .i64 a5), .sc (.bool a6), .sc (.int .u32 a7), .sc (.int .u32 a8), .sc (.int .i64 a9), .sc (.int .i64 a10), .sc (.int .i64 a11), .sc (.string a12), .sc (.string a13)]) (by kernel_rfl) ?_
  refine WO.op rfl rfl rfl rfl (step_pure Try.call13 rfl (by (repeat (first | exact Nl.nil | refine Nl.keep (by rfl) ?_))) (w_ChkX g0 g1 g2 g3 g4 g5 g7 g8 g9 g10 g11 g12 g13 h) (by repeat (rfl))) ?_
  refine WO.op rfl rfl rfl rfl (step_int2 rfl rfl rfl) ?_
  refine WO.put 40 (.sc (.bool false)) (by kernel_rfl) ?_
  refine WO.op rfl rfl rfl rfl (step_eqBool Try.runUnderlying4 rfl rfl) ?_
  refine WO.put 41 (.sc (.bool true)) (by kernel_rfl) ?_
  refine WO.op rfl rfl rfl rfl (as_sc rfl) ?_
  refine WO.nil ?_
  refine W.ret ?_
  refine ⟨.inl rfl, ?_⟩
  exact ret0 (Res.tmp rfl Res.nil) (.keep rfl)

theorem w_TurnC0 {src dst : Nat} {a1 : Int} {a2 : Int} {a3 : Int} {a4 : Int} {a5 : Int} {a6 : Bool} {a7 : Int} {a8 : Int} {a9 : Int} {a10 : Int} {a11 : Int} {a12 : ByteArray} {a13 : ByteArray} {bit : Int} {c : List UInt8} (hE : Spec0 Try.prog 11 [.sc (.int .u32 ((src : Nat) : Int)), .sc (.int .u32 ((dst : Nat) : Int)), .agg [.sc (.int .i64 0), .sc (.int .i64 a1), .sc (.int .i64 a2), .sc (.int .u32 a3), .sc (.int .i64 a4), .sc (.int .i64 a5), .sc (.bool a6), .sc (.int .u32 a7), .sc (.int .u32 a8), .sc (.int .i64 a9), .sc (.int .i64 a10), .sc (.int .i64 a11), .sc (.string a12), .sc (.string a13)]] (.tup [.im 1 (c.map byteAV), .sc (.int .i64 0)])) (hC : Spec0 Try.prog 13 [.agg [.sc (.int .i64 0), .sc (.int .i64 a1), .sc (.int .i64 a2), .sc (.int .u32 a3), .sc (.int .i64 a4), .sc (.int .i64 a5), .sc (.bool a6), .sc (.int .u32 a7), .sc (.int .u32 a8), .sc (.int .i64 a9), .sc (.int .i64 a10), .sc (.int .i64 a11), .sc (.string a12), .sc (.string a13)]] (.sc (.int .i64 0))) : Spec0 Try.prog 7 [.sc (.int .u32 ((src : Nat) : Int)), .sc (.int .u32 ((dst : Nat) : Int)), .agg [.sc (.int .i64 0), .sc (.int .i64 a1), .sc (.int .i64 a2), .sc (.int .u32 a3), .sc (.int .i64 a4), .sc (.int .i64 a5), .sc (.bool a6), .sc (.int .u32 a7), .sc (.int .u32 a8), .sc (.int .i64 a9), .sc (.int .i64 a10), .sc (.int .i64 a11), .sc (.string a12), .sc (.string a13)], .sc (.int .i64 bit)] (.sc (.bool true)) := by
  refine Spec.body Try.func7 rfl (Nat.le_of_ble_eq_true rfl) ?_
  refine W.seq ?_
  refine W.region ?_
  refine WO.opA rfl rfl rfl rfl (al_boxA rfl rfl) rfl rfl ?_
  refine WO.put 6 (.ptr 0 0) rfl ?_
  refine WO.op rfl rfl rfl rfl (as_sc rfl) ?_
  refine WO.nil ?_
  refine W.seq ?_
  refine W.to [(0, _), (1, _), (2, _), (3, _), (6, _), (8, _)] [_] rfl ⟨(by exact sh_sc rfl), (by exact sh_sc rfl), (by exact sh_agg rfl), (by exact sh_sc rfl), (by exact sh_ptr rfl), (by exact sh_sc rfl), trivial⟩ ?_
  refine W.region ?_
  refine WO.op rfl rfl rfl rfl (mv_sc rfl) ?_
  refine WO.op rfl rfl rfl rfl (mv_sc rfl) ?_
  refine WO.op rfl rfl rfl rfl (step_loadA Try.isAgg25 Try.sizeOf25 rfl rfl (by exact Nat.le_refl _)) ?_
  refine WO.put 19 (.agg [.sc (.int .i64 0), .sc (.int .i64 a1), .sc (.int .i64 a2), .sc (.int .u32 a3), .sc (.int .i64 a4), .sc (.int .i64 a5), .sc (.bool a6), .sc (.int .u32 a7), .sc (.int .u32 a8), .sc (.int .i64 a9), .sc (.int .i64 a10), .sc (.int .i64 a11), .sc (.string a12), .sc (.string a13)]) (by kernel_rfl) ?_
  refine WO.op rfl rfl rfl rfl (step_pure Try.call11 rfl (by (repeat (first | exact Nl.nil | refine Nl.keep (by rfl) ?_))) (hE) (by repeat (first | with_reducible exact noOwn_im | with_reducible refine noOwn_tup ?_ | with_reducible exact noOwnL_nil | with_reducible refine noOwnL_cons ?_ ?_ | rfl))) ?_
  refine WO.op rfl rfl rfl rfl (mv_tup rfl) ?_
  refine WO.op rfl rfl rfl rfl (step_extract rfl rfl) ?_
  refine WO.op rfl rfl rfl rfl (step_extract rfl rfl) ?_
  refine WO.op rfl rfl rfl rfl (as_im rfl) ?_
  refine WO.op rfl rfl rfl rfl (as_sc rfl) ?_
  refine WO.nil ?_
  refine W.seq ?_
  refine W.seq ?_
  refine W.to [(0, _), (1, _), (2, _), (3, _), (6, _), (8, _), (9, _), (10, _)] [_] rfl ⟨(by exact sh_sc rfl), (by exact sh_sc rfl), (by exact sh_agg rfl), (by exact sh_sc rfl), (by exact sh_ptr rfl), (by exact sh_sc rfl), (by exact sh_im rfl), (by exact sh_sc rfl), trivial⟩ ?_
  refine W.region ?_
  refine WO.op rfl rfl rfl rfl (step_pure Try.call10 rfl (by (repeat (exact Nl.nil))) (w_lives) (by repeat (rfl))) ?_
  refine WO.op rfl rfl rfl rfl (step_not rfl) ?_
  refine WO.put 24 (.sc (.bool false)) (rfl) ?_
  refine WO.nil ?_
  refine W.condF rfl ?_
  refine W.skip ?_
  refine W.seq ?_
  refine W.seq ?_
  refine W.to [(0, _), (1, _), (2, _), (3, _), (6, _), (8, _), (9, _), (10, _), (24, _)] [_] rfl ⟨(by exact sh_sc rfl), (by exact sh_sc rfl), (by exact sh_agg rfl), (by exact sh_sc rfl), (by exact sh_ptr rfl), (by exact sh_sc rfl), (by exact sh_im rfl), (by exact sh_sc rfl), (by exact sh_sc rfl), trivial⟩ ?_
  refine W.region ?_
  refine WO.op rfl rfl rfl rfl (mv_sc rfl) ?_
  refine WO.op rfl rfl rfl rfl (step_int2 rfl rfl rfl) ?_
  refine WO.put 26 (.sc (.bool false)) (by kernel_rfl) ?_
  refine WO.op rfl rfl rfl rfl (mv_sc rfl) ?_
  refine WO.op rfl rfl rfl rfl (step_fieldR (k := 0) (FieldOff.mk (by kernel_rfl)) rfl rfl (by exact Nat.zero_add _)) ?_
  refine WO.op rfl rfl rfl rfl (step_load Try.isAgg3 rfl rfl rfl) ?_
  refine WO.op rfl rfl rfl rfl (step_int2 rfl rfl rfl) ?_
  refine WO.put 30 (.sc (.bool true)) (by kernel_rfl) ?_
  refine WO.op rfl rfl rfl rfl (pk_f rfl rfl rfl) ?_
  refine WO.op rfl rfl rfl rfl (mv_sc rfl) ?_
  refine WO.sk rfl rfl rfl rfl ?_
  refine WO.sk rfl rfl rfl rfl ?_
  refine WO.op rfl rfl rfl rfl (pk_t rfl rfl rfl) ?_
  refine WO.nil ?_
  refine W.condT rfl ?_
  refine W.seq ?_
  refine W.to [(0, _), (1, _), (2, _), (3, _), (6, _), (8, _), (9, _), (10, _), (24, _), (35, _)] [_] rfl ⟨(by exact sh_sc rfl), (by exact sh_sc rfl), (by exact sh_agg rfl), (by exact sh_sc rfl), (by exact sh_ptr rfl), (by exact sh_sc rfl), (by exact sh_im rfl), (by exact sh_sc rfl), (by exact sh_sc rfl), (by exact sh_sc rfl), trivial⟩ ?_
  refine W.region ?_
  refine WO.op rfl rfl rfl rfl (mv_sc rfl) ?_
  refine WO.op rfl rfl rfl rfl (step_int2 rfl rfl rfl) ?_
  refine WO.put 37 (.sc (.bool true)) (by kernel_rfl) ?_
  refine WO.op rfl rfl rfl rfl (step_loadA Try.isAgg25 Try.sizeOf25 rfl rfl (by exact Nat.le_refl _)) ?_
  refine WO.put 38 (.agg [.sc (.int .i64 0), .sc (.int .i64 a1), .sc (.int .i64 a2), .sc (.int .u32 a3), .sc (.int .i64 a4), .sc (.int .i64 a5), .sc (.bool a6), .sc (.int .u32 a7), .sc (.int .u32 a8), .sc (.int .i64 a9), .sc (.int .i64 a10), .sc (.int .i64 a11), .sc (.string a12), .sc (.string a13)]) (by kernel_rfl) ?_
  refine WO.op rfl rfl rfl rfl (step_pure Try.call13 rfl (by (repeat (first | exact Nl.nil | refine Nl.keep (by rfl) ?_))) (hC) (by repeat (rfl))) ?_
  refine WO.op rfl rfl rfl rfl (step_int2 rfl rfl rfl) ?_
  refine WO.put 40 (.sc (.bool true)) (by kernel_rfl) ?_
  refine WO.op rfl rfl rfl rfl (step_eqBool Try.runUnderlying4 rfl rfl) ?_
  refine WO.put 41 (.sc (.bool true)) (by kernel_rfl) ?_
  refine WO.op rfl rfl rfl rfl (as_sc rfl) ?_
  refine WO.nil ?_
  refine W.ret ?_
  refine ⟨.inl rfl, ?_⟩
  exact ret0 (Res.tmp rfl Res.nil) (.keep rfl)

theorem w_TurnC2 {src dst : Nat} {a1 : Int} {a2 : Int} {a3 : Int} {a4 : Int} {a5 : Int} {a7 : Int} {a8 : Int} {a9 : Int} {a10 : Int} {a11 : Int} {a12 : ByteArray} {a13 : ByteArray} {bit : Int} {c : List UInt8} (hE : Spec0 Try.prog 11 [.sc (.int .u32 ((src : Nat) : Int)), .sc (.int .u32 ((dst : Nat) : Int)), .agg [.sc (.int .i64 2), .sc (.int .i64 a1), .sc (.int .i64 a2), .sc (.int .u32 a3), .sc (.int .i64 a4), .sc (.int .i64 a5), .sc (.bool true), .sc (.int .u32 a7), .sc (.int .u32 a8), .sc (.int .i64 a9), .sc (.int .i64 a10), .sc (.int .i64 a11), .sc (.string a12), .sc (.string a13)]] (.tup [.im 1 (c.map byteAV), .sc (.int .i64 0)])) (hC : Spec0 Try.prog 13 [.agg [.sc (.int .i64 2), .sc (.int .i64 a1), .sc (.int .i64 a2), .sc (.int .u32 a3), .sc (.int .i64 a4), .sc (.int .i64 a5), .sc (.bool true), .sc (.int .u32 a7), .sc (.int .u32 a8), .sc (.int .i64 a9), .sc (.int .i64 a10), .sc (.int .i64 a11), .sc (.string a12), .sc (.string a13)]] (.sc (.int .i64 0))) : Spec0 Try.prog 7 [.sc (.int .u32 ((src : Nat) : Int)), .sc (.int .u32 ((dst : Nat) : Int)), .agg [.sc (.int .i64 2), .sc (.int .i64 a1), .sc (.int .i64 a2), .sc (.int .u32 a3), .sc (.int .i64 a4), .sc (.int .i64 a5), .sc (.bool true), .sc (.int .u32 a7), .sc (.int .u32 a8), .sc (.int .i64 a9), .sc (.int .i64 a10), .sc (.int .i64 a11), .sc (.string a12), .sc (.string a13)], .sc (.int .i64 bit)] (.sc (.bool true)) := by
  refine Spec.body Try.func7 rfl (Nat.le_of_ble_eq_true rfl) ?_
  refine W.seq ?_
  refine W.region ?_
  refine WO.opA rfl rfl rfl rfl (al_boxA rfl rfl) rfl rfl ?_
  refine WO.put 6 (.ptr 0 0) rfl ?_
  refine WO.op rfl rfl rfl rfl (as_sc rfl) ?_
  refine WO.nil ?_
  refine W.seq ?_
  refine W.to [(0, _), (1, _), (2, _), (3, _), (6, _), (8, _)] [_] rfl ⟨(by exact sh_sc rfl), (by exact sh_sc rfl), (by exact sh_agg rfl), (by exact sh_sc rfl), (by exact sh_ptr rfl), (by exact sh_sc rfl), trivial⟩ ?_
  refine W.region ?_
  refine WO.op rfl rfl rfl rfl (mv_sc rfl) ?_
  refine WO.op rfl rfl rfl rfl (mv_sc rfl) ?_
  refine WO.op rfl rfl rfl rfl (step_loadA Try.isAgg25 Try.sizeOf25 rfl rfl (by exact Nat.le_refl _)) ?_
  refine WO.put 19 (.agg [.sc (.int .i64 2), .sc (.int .i64 a1), .sc (.int .i64 a2), .sc (.int .u32 a3), .sc (.int .i64 a4), .sc (.int .i64 a5), .sc (.bool true), .sc (.int .u32 a7), .sc (.int .u32 a8), .sc (.int .i64 a9), .sc (.int .i64 a10), .sc (.int .i64 a11), .sc (.string a12), .sc (.string a13)]) (by kernel_rfl) ?_
  refine WO.op rfl rfl rfl rfl (step_pure Try.call11 rfl (by (repeat (first | exact Nl.nil | refine Nl.keep (by rfl) ?_))) (hE) (by repeat (first | with_reducible exact noOwn_im | with_reducible refine noOwn_tup ?_ | with_reducible exact noOwnL_nil | with_reducible refine noOwnL_cons ?_ ?_ | rfl))) ?_
  refine WO.op rfl rfl rfl rfl (mv_tup rfl) ?_
  refine WO.op rfl rfl rfl rfl (step_extract rfl rfl) ?_
  refine WO.op rfl rfl rfl rfl (step_extract rfl rfl) ?_
  refine WO.op rfl rfl rfl rfl (as_im rfl) ?_
  refine WO.op rfl rfl rfl rfl (as_sc rfl) ?_
  refine WO.nil ?_
  refine W.seq ?_
  refine W.seq ?_
  refine W.to [(0, _), (1, _), (2, _), (3, _), (6, _), (8, _), (9, _), (10, _)] [_] rfl ⟨(by exact sh_sc rfl), (by exact sh_sc rfl), (by exact sh_agg rfl), (by exact sh_sc rfl), (by exact sh_ptr rfl), (by exact sh_sc rfl), (by exact sh_im rfl), (by exact sh_sc rfl), trivial⟩ ?_
  refine W.region ?_
  refine WO.op rfl rfl rfl rfl (step_pure Try.call10 rfl (by (repeat (exact Nl.nil))) (w_lives) (by repeat (rfl))) ?_
  refine WO.op rfl rfl rfl rfl (step_not rfl) ?_
  refine WO.put 24 (.sc (.bool false)) (rfl) ?_
  refine WO.nil ?_
  refine W.condF rfl ?_
  refine W.skip ?_
  refine W.seq ?_
  refine W.seq ?_
  refine W.to [(0, _), (1, _), (2, _), (3, _), (6, _), (8, _), (9, _), (10, _), (24, _)] [_] rfl ⟨(by exact sh_sc rfl), (by exact sh_sc rfl), (by exact sh_agg rfl), (by exact sh_sc rfl), (by exact sh_ptr rfl), (by exact sh_sc rfl), (by exact sh_im rfl), (by exact sh_sc rfl), (by exact sh_sc rfl), trivial⟩ ?_
  refine W.region ?_
  refine WO.op rfl rfl rfl rfl (mv_sc rfl) ?_
  refine WO.op rfl rfl rfl rfl (step_int2 rfl rfl rfl) ?_
  refine WO.put 26 (.sc (.bool false)) (by kernel_rfl) ?_
  refine WO.op rfl rfl rfl rfl (mv_sc rfl) ?_
  refine WO.op rfl rfl rfl rfl (step_fieldR (k := 0) (FieldOff.mk (by kernel_rfl)) rfl rfl (by exact Nat.zero_add _)) ?_
  refine WO.op rfl rfl rfl rfl (step_load Try.isAgg3 rfl rfl rfl) ?_
  refine WO.op rfl rfl rfl rfl (step_int2 rfl rfl rfl) ?_
  refine WO.put 30 (.sc (.bool false)) (by kernel_rfl) ?_
  refine WO.op rfl rfl rfl rfl (pk_f rfl rfl rfl) ?_
  refine WO.op rfl rfl rfl rfl (mv_sc rfl) ?_
  refine WO.op rfl rfl rfl rfl (step_fieldR (k := 6) (FieldOff.mk (by kernel_rfl)) rfl rfl (by exact Nat.zero_add _)) ?_
  refine WO.op rfl rfl rfl rfl (step_load Try.isAgg4 rfl rfl rfl) ?_
  refine WO.put 34 (.sc (.bool true)) (by kernel_rfl) ?_
  refine WO.op rfl rfl rfl rfl (pk_f rfl rfl rfl) ?_
  refine WO.nil ?_
  refine W.condT rfl ?_
  refine W.seq ?_
  refine W.to [(0, _), (1, _), (2, _), (3, _), (6, _), (8, _), (9, _), (10, _), (24, _), (35, _)] [_] rfl ⟨(by exact sh_sc rfl), (by exact sh_sc rfl), (by exact sh_agg rfl), (by exact sh_sc rfl), (by exact sh_ptr rfl), (by exact sh_sc rfl), (by exact sh_im rfl), (by exact sh_sc rfl), (by exact sh_sc rfl), (by exact sh_sc rfl), trivial⟩ ?_
  refine W.region ?_
  refine WO.op rfl rfl rfl rfl (mv_sc rfl) ?_
  refine WO.op rfl rfl rfl rfl (step_int2 rfl rfl rfl) ?_
  refine WO.put 37 (.sc (.bool true)) (by kernel_rfl) ?_
  refine WO.op rfl rfl rfl rfl (step_loadA Try.isAgg25 Try.sizeOf25 rfl rfl (by exact Nat.le_refl _)) ?_
  refine WO.put 38 (.agg [.sc (.int .i64 2), .sc (.int .i64 a1), .sc (.int .i64 a2), .sc (.int .u32 a3), .sc (.int .i64 a4), .sc (.int .i64 a5), .sc (.bool true), .sc (.int .u32 a7), .sc (.int .u32 a8), .sc (.int .i64 a9), .sc (.int .i64 a10), .sc (.int .i64 a11), .sc (.string a12), .sc (.string a13)]) (by kernel_rfl) ?_
  refine WO.op rfl rfl rfl rfl (step_pure Try.call13 rfl (by (repeat (first | exact Nl.nil | refine Nl.keep (by rfl) ?_))) (hC) (by repeat (rfl))) ?_
  refine WO.op rfl rfl rfl rfl (step_int2 rfl rfl rfl) ?_
  refine WO.put 40 (.sc (.bool true)) (by kernel_rfl) ?_
  refine WO.op rfl rfl rfl rfl (step_eqBool Try.runUnderlying4 rfl rfl) ?_
  refine WO.put 41 (.sc (.bool true)) (by kernel_rfl) ?_
  refine WO.op rfl rfl rfl rfl (as_sc rfl) ?_
  refine WO.nil ?_
  refine W.ret ?_
  refine ⟨.inl rfl, ?_⟩
  exact ret0 (Res.tmp rfl Res.nil) (.keep rfl)

theorem w_Turn1 {src dst n : Nat} {a1 : Int} {a2 : Int} {a3 : Int} {a4 : Int} {a5 : Int} {a7 : Int} {a8 : Int} {a9 : Int} {a10 : Int} {a11 : Int} {a12 : ByteArray} {a13 : ByteArray} {bit : Int} {c : List UInt8}  (hbit : -9223372036854775808 ≤ bit ∧ bit ≤ 9223372036854775807) (hn : n = c.length) (hf : 4 ≤ n) (hn2 : n ≤ 65535) (hE : Go.SL.Spec Try.prog 11 [.sc (.int .u32 ((src : Nat) : Int)), .sc (.int .u32 ((dst : Nat) : Int)), .agg [.sc (.int .i64 1), .sc (.int .i64 a1), .sc (.int .i64 a2), .sc (.int .u32 a3), .sc (.int .i64 a4), .sc (.int .i64 a5), .sc (.bool false), .sc (.int .u32 a7), .sc (.int .u32 a8), .sc (.int .i64 a9), .sc (.int .i64 a10), .sc (.int .i64 a11), .sc (.string a12), .sc (.string a13)]] [] (fun r hp' => r = .tup [.sl 0 0 n, .sc (.int .i64 0)] ∧ hp' = [.row 1 (c.map byteAV)])) (hD : ∀ i b, 4 ≤ i → i < n → Spec0 Try.prog 8 [.sc (.int .u32 ((src : Nat) : Int)), .sc (.int .u32 ((dst : Nat) : Int)), .sc (.int .i64 1), .im 1 ((flip c i b).map byteAV)] (.tup [.agg [.sc (.int .i64 0), .sc (.int .i64 0), .sc (.int .i64 0), .sc (.int .u32 0), .sc (.int .i64 0), .sc (.int .i64 0), .sc (.bool false), .sc (.int .u32 0), .sc (.int .u32 0), .sc (.int .i64 0), .sc (.int .i64 0), .sc (.int .i64 0), .sc (.string ⟨#[]⟩), .sc (.string ⟨#[]⟩)], .sc (.int .i64 30)])) : Spec0 Try.prog 7 [.sc (.int .u32 ((src : Nat) : Int)), .sc (.int .u32 ((dst : Nat) : Int)), .agg [.sc (.int .i64 1), .sc (.int .i64 a1), .sc (.int .i64 a2), .sc (.int .u32 a3), .sc (.int .i64 a4), .sc (.int .i64 a5), .sc (.bool false), .sc (.int .u32 a7), .sc (.int .u32 a8), .sc (.int .i64 a9), .sc (.int .i64 a10), .sc (.int .i64 a11), .sc (.string a12), .sc (.string a13)], .sc (.int .i64 bit)] (.sc (.bool true)) := by
  refine Spec.body Try.func7 rfl (Nat.le_of_ble_eq_true rfl) ?_
  refine W.seq ?_
  refine W.region ?_
  refine WO.opA rfl rfl rfl rfl (al_boxA rfl rfl) rfl rfl ?_
  refine WO.put 6 (.ptr 0 0) rfl ?_
  refine WO.op rfl rfl rfl rfl (as_sc rfl) ?_
  refine WO.nil ?_
  refine W.seq ?_
  refine W.to [(0, _), (1, _), (2, _), (3, _), (6, _), (8, _)] [_] rfl ⟨(by exact sh_sc rfl), (by exact sh_sc rfl), (by exact sh_agg rfl), (by exact sh_sc rfl), (by exact sh_ptr rfl), (by exact sh_sc rfl), trivial⟩ ?_
  refine W.region ?_
  refine WO.op rfl rfl rfl rfl (mv_sc rfl) ?_
  refine WO.op rfl rfl rfl rfl (mv_sc rfl) ?_
  refine WO.op rfl rfl rfl rfl (step_loadA Try.isAgg25 Try.sizeOf25 rfl rfl (by exact Nat.le_refl _)) ?_
  refine WO.put 19 (.agg [.sc (.int .i64 1), .sc (.int .i64 a1), .sc (.int .i64 a2), .sc (.int .u32 a3), .sc (.int .i64 a4), .sc (.int .i64 a5), .sc (.bool false), .sc (.int .u32 a7), .sc (.int .u32 a8), .sc (.int .i64 a9), .sc (.int .i64 a10), .sc (.int .i64 a11), .sc (.string a12), .sc (.string a13)]) (by kernel_rfl) ?_
  refine WO.op rfl rfl rfl rfl (step_own Try.call11 rfl (by repeat (first | exact Nl.nil | refine Nl.keep rfl ?_)) hE noOwn_bytes rfl) ?_
  skip
  refine WO.op rfl rfl rfl rfl (mv_tup rfl) ?_
  refine WO.op rfl rfl rfl rfl (step_extract rfl rfl) ?_
  refine WO.op rfl rfl rfl rfl (step_extract rfl rfl) ?_
  refine WO.op rfl rfl rfl rfl (as_sl rfl) ?_
  refine WO.op rfl rfl rfl rfl (as_sc rfl) ?_
  refine WO.nil ?_
  refine W.seq ?_
  refine W.seq ?_
  refine W.to [(0, _), (1, _), (2, _), (3, _), (6, _), (8, _), (9, _), (10, _)] [_, _] rfl ⟨(by exact sh_sc rfl), (by exact sh_sc rfl), (by exact sh_agg rfl), (by exact sh_sc rfl), (by exact sh_ptr rfl), (by exact sh_sc rfl), (by exact sh_sl rfl), (by exact sh_sc rfl), trivial⟩ ?_
  refine W.region ?_
  refine WO.op rfl rfl rfl rfl (step_pure Try.call10 rfl (by (repeat (exact Nl.nil))) (w_lives) (by repeat (rfl))) ?_
  refine WO.op rfl rfl rfl rfl (step_not rfl) ?_
  refine WO.put 24 (.sc (.bool false)) (rfl) ?_
  refine WO.nil ?_
  refine W.condF rfl ?_
  refine W.skip ?_
  refine W.seq ?_
  refine W.seq ?_
  refine W.to [(0, _), (1, _), (2, _), (3, _), (6, _), (8, _), (9, _), (10, _), (24, _)] [_, _] rfl ⟨(by exact sh_sc rfl), (by exact sh_sc rfl), (by exact sh_agg rfl), (by exact sh_sc rfl), (by exact sh_ptr rfl), (by exact sh_sc rfl), (by exact sh_sl rfl), (by exact sh_sc rfl), (by exact sh_sc rfl), trivial⟩ ?_
  refine W.region ?_
  refine WO.op rfl rfl rfl rfl (mv_sc rfl) ?_
  refine WO.op rfl rfl rfl rfl (step_int2 rfl rfl rfl) ?_
  refine WO.put 26 (.sc (.bool false)) (by kernel_rfl) ?_
  refine WO.op rfl rfl rfl rfl (mv_sc rfl) ?_
  refine WO.op rfl rfl rfl rfl (step_fieldR (k := 0) (FieldOff.mk (by kernel_rfl)) rfl rfl (by exact Nat.zero_add _)) ?_
  refine WO.op rfl rfl rfl rfl (step_load Try.isAgg3 rfl rfl rfl) ?_
  refine WO.op rfl rfl rfl rfl (step_int2 rfl rfl rfl) ?_
  refine WO.put 30 (.sc (.bool false)) (by kernel_rfl) ?_
  refine WO.op rfl rfl rfl rfl (pk_f rfl rfl rfl) ?_
  refine WO.op rfl rfl rfl rfl (mv_sc rfl) ?_
  refine WO.op rfl rfl rfl rfl (step_fieldR (k := 6) (FieldOff.mk (by kernel_rfl)) rfl rfl (by exact Nat.zero_add _)) ?_
  refine WO.op rfl rfl rfl rfl (step_load Try.isAgg4 rfl rfl rfl) ?_
  refine WO.put 34 (.sc (.bool false)) (by kernel_rfl) ?_
  refine WO.op rfl rfl rfl rfl (pk_f rfl rfl rfl) ?_
  refine WO.nil ?_
  refine W.condF rfl ?_
  refine W.skip ?_
  refine W.seq ?_
  refine W.to [(0, _), (1, _), (2, _), (3, _), (6, _), (8, _), (9, _), (10, _), (24, _), (35, _)] [_, _] rfl ⟨(by exact sh_sc rfl), (by exact sh_sc rfl), (by exact sh_agg rfl), (by exact sh_sc rfl), (by exact sh_ptr rfl), (by exact sh_sc rfl), (by exact sh_sl rfl), (by exact sh_sc rfl), (by exact sh_sc rfl), (by exact sh_sc rfl), trivial⟩ ?_
  refine W.region ?_
  refine WO.op rfl rfl rfl rfl (step_fieldR (k := 0) (FieldOff.mk (by kernel_rfl)) rfl rfl (by exact Nat.zero_add _)) ?_
  refine WO.op rfl rfl rfl rfl (step_load Try.isAgg3 rfl rfl rfl) ?_
  refine WO.op rfl rfl rfl rfl (step_pure Try.call17 rfl (by (repeat (first | exact Nl.nil | refine Nl.keep (by rfl) ?_))) (w_map1) (by repeat (rfl))) ?_
  refine WO.op rfl rfl rfl rfl (as_sc rfl) ?_
  refine WO.nil ?_
  refine W.seq ?_
  refine W.seq ?_
  refine W.to [(0, _), (1, _), (2, _), (3, _), (6, _), (8, _), (9, _), (10, _), (11, _), (24, _), (35, _)] [_, _] rfl ⟨(by exact sh_sc rfl), (by exact sh_sc rfl), (by exact sh_agg rfl), (by exact sh_sc rfl), (by exact sh_ptr rfl), (by exact sh_sc rfl), (by exact sh_sl rfl), (by exact sh_sc rfl), (by exact sh_sc rfl), (by exact sh_sc rfl), (by exact sh_sc rfl), trivial⟩ ?_
  refine W.region ?_
  refine WO.op rfl rfl rfl rfl (mv_sl rfl) ?_
  refine WO.op rfl rfl rfl rfl (step_lenL Try.runUnderlying23 rfl rfl) ?_
  refine WO.op rfl rfl rfl rfl (mv_sc rfl) ?_
  refine WO.op rfl rfl rfl rfl (step_int2 rfl rfl rfl) ?_
  refine WO.nil ?_
  refine W.cond rfl (fun h1 => ?_) (fun h1 => ?_)
  · try simp only [decide_eq_true_eq, decide_eq_false_iff_not, Bool.not_eq_true', Bool.not_eq_false', beq_iff_eq, bne_iff_ne, beq_eq_false_iff_ne, bne_eq_false_iff_eq, gt_iff_lt, ge_iff_le, Int.not_lt, Int.not_le] at h1
    refine W.seq ?_
    refine W.to [(0, _), (1, _), (2, _), (3, _), (6, _), (8, _), (9, _), (10, _), (11, _), (24, _), (35, _), (48, _)] [_, _] rfl ⟨(by exact sh_sc rfl), (by exact sh_sc rfl), (by exact sh_agg rfl), (by exact sh_sc rfl), (by exact sh_ptr rfl), (by exact sh_sc rfl), (by exact sh_sl rfl), (by exact sh_sc rfl), (by exact sh_sc rfl), (by exact sh_sc rfl), (by exact sh_sc rfl), (by exact sh_sc rfl), trivial⟩ ?_
    refine W.region ?_
    refine WO.op rfl rfl rfl rfl (as_sc rfl) ?_
    refine WO.nil ?_
    refine W.ret ?_
    refine ⟨.inl rfl, ?_⟩
    exact ret0 (Res.tmp rfl Res.nil) (.keep rfl)
  · try simp only [decide_eq_true_eq, decide_eq_false_iff_not, Bool.not_eq_true', Bool.not_eq_false', beq_iff_eq, bne_iff_ne, beq_eq_false_iff_ne, bne_eq_false_iff_eq, gt_iff_lt, ge_iff_le, Int.not_lt, Int.not_le] at h1
    have hnf : 4 < n := by omega
    obtain ⟨kk, hkk⟩ : ∃ k : Int, k = bit.tmod (8 * ((n : Nat) - 4 : Int)) := ⟨_, rfl⟩
    have hrng := tmod_rng (x := bit) (m := 8 * ((n : Nat) - 4 : Int)) (by omega)
    rw [← hkk] at hrng
    refine W.skip ?_
    refine W.seq ?_
    refine W.to [(0, _), (1, _), (2, _), (3, _), (6, _), (8, _), (9, _), (10, _), (11, _), (24, _), (35, _), (48, _)] [_, _] rfl ⟨(by exact sh_sc rfl), (by exact sh_sc rfl), (by exact sh_agg rfl), (by exact sh_sc rfl), (by exact sh_ptr rfl), (by exact sh_sc rfl), (by exact sh_sl rfl), (by exact sh_sc rfl), (by exact sh_sc rfl), (by exact sh_sc rfl), (by exact sh_sc rfl), (by exact sh_sc rfl), trivial⟩ ?_
    refine W.region ?_
    refine WO.op rfl rfl rfl rfl (mv_sc rfl) ?_
    refine WO.op rfl rfl rfl rfl (mv_sl rfl) ?_
    refine WO.op rfl rfl rfl rfl (step_lenL Try.runUnderlying23 rfl rfl) ?_
    refine WO.op rfl rfl rfl rfl (mv_sc rfl) ?_
    refine WO.op rfl rfl rfl rfl (step_subN rfl rfl (by omega) (by (simp only [cap]; omega))) ?_
    refine WO.put 53 (.sc (.int .i64 ((n - 4 : Nat) : Int))) (rfl) ?_
    refine WO.op rfl rfl rfl rfl (step_mulN (p := 8) rfl rfl (by (simp only [cap]; omega))) ?_
    refine WO.put 54 (.sc (.int .i64 ((8 * (n - 4) : Nat) : Int))) (rfl) ?_
    refine WO.op rfl rfl rfl rfl (step_rem rfl rfl (by omega)) ?_
    refine WO.put 55 (.sc (.int .i64 kk)) (congrArg (fun z : Int => AV.sc (.int .i64 z)) (by (rw [hkk]; congr 1; omega))) ?_
    refine WO.op rfl rfl rfl rfl (as_sc rfl) ?_
    refine WO.nil ?_
    refine W.seq ?_
    refine W.seq ?_
    refine W.to [(0, _), (1, _), (2, _), (3, _), (6, _), (8, _), (9, _), (10, _), (11, _), (12, _), (24, _), (35, _), (48, _)] [_, _] rfl ⟨(by exact sh_sc rfl), (by exact sh_sc rfl), (by exact sh_agg rfl), (by exact sh_sc rfl), (by exact sh_ptr rfl), (by exact sh_sc rfl), (by exact sh_sl rfl), (by exact sh_sc rfl), (by exact sh_sc rfl), (by exact sh_sc rfl), (by exact sh_sc rfl), (by exact sh_sc rfl), (by exact sh_sc rfl), trivial⟩ ?_
    refine W.region ?_
    refine WO.op rfl rfl rfl rfl (mv_sc rfl) ?_
    refine WO.op rfl rfl rfl rfl (step_int2 rfl rfl rfl) ?_
    refine WO.nil ?_
    refine W.cond rfl (fun h2 => ?_) (fun h2 => ?_)
    · try simp only [decide_eq_true_eq, decide_eq_false_iff_not, Bool.not_eq_true', Bool.not_eq_false', beq_iff_eq, bne_iff_ne, beq_eq_false_iff_ne, bne_eq_false_iff_eq, gt_iff_lt, ge_iff_le, Int.not_lt, Int.not_le] at h2
      obtain ⟨j, hj⟩ : ∃ j : Nat, kk + 8 * ((n : Nat) - 4 : Int) = (j : Int) := ⟨(kk + 8 * ((n : Nat) - 4 : Int)).toNat, by omega⟩
      have hj2 : j < 8 * (n - 4) := by omega
      refine W.to [(0, _), (1, _), (2, _), (3, _), (6, _), (8, _), (9, _), (10, _), (11, _), (12, _), (24, _), (35, _), (48, _), (57, _)] [_, _] rfl ⟨(by exact sh_sc rfl), (by exact sh_sc rfl), (by exact sh_agg rfl), (by exact sh_sc rfl), (by exact sh_ptr rfl), (by exact sh_sc rfl), (by exact sh_sl rfl), (by exact sh_sc rfl), (by exact sh_sc rfl), (by exact sh_sc rfl), (by exact sh_sc rfl), (by exact sh_sc rfl), (by exact sh_sc rfl), (by exact sh_sc rfl), trivial⟩ ?_
      refine W.region ?_
      refine WO.op rfl rfl rfl rfl (mv_sc rfl) ?_
      refine WO.op rfl rfl rfl rfl (mv_sl rfl) ?_
      refine WO.op rfl rfl rfl rfl (step_lenL Try.runUnderlying23 rfl rfl) ?_
      refine WO.op rfl rfl rfl rfl (mv_sc rfl) ?_
      refine WO.op rfl rfl rfl rfl (step_subN rfl rfl (by omega) (by (simp only [cap]; omega))) ?_
      refine WO.put 62 (.sc (.int .i64 ((n - 4 : Nat) : Int))) (rfl) ?_
      refine WO.op rfl rfl rfl rfl (step_mulN (p := 8) rfl rfl (by (simp only [cap]; omega))) ?_
      refine WO.put 63 (.sc (.int .i64 ((8 * (n - 4) : Nat) : Int))) (rfl) ?_
      refine WO.op rfl rfl rfl rfl (step_int2 rfl rfl (int2_add (by exact IntWalk.i64_in _ (by omega)))) ?_
      refine WO.op rfl rfl rfl rfl (as_sc rfl) ?_
      refine WO.nil ?_
      refine W.seq ?_
      refine W.to [(0, _), (1, _), (2, _), (3, _), (6, _), (8, _), (9, _), (10, _), (11, _), (12, _), (24, _), (35, _), (48, _), (57, _)] [_, _] rfl ⟨(by exact sh_sc rfl), (by exact sh_sc rfl), (by exact sh_agg rfl), (by exact sh_sc rfl), (by exact sh_ptr rfl), (by exact sh_sc rfl), (by exact sh_sl rfl), (by exact sh_sc rfl), (by exact sh_sc rfl), (by exact sh_sc rfl), (by exact sh_sc rfl), (by exact sh_sc rfl), (by exact sh_sc rfl), (by exact sh_sc rfl), trivial⟩ ?_
      refine W.put 12 (.sc (.int .i64 ((j : Nat) : Int))) (congrArg (fun z : Int => AV.sc (.int .i64 z)) (by omega)) ?_
      have hby := byte_le (c.getD (4 + j / 8) 0)
      refine W.draw (Checked.mixed Try.checked) ?_
      refine DC.op rfl rfl rfl (fun _ => mv_sl rfl) ?_
      refine DC.op rfl rfl rfl (fun _ => mv_sc rfl) ?_
      refine DC.op rfl rfl rfl (fun _ => mv_sc rfl) ?_
      refine DC.op rfl rfl rfl (fun _ => step_quoN (q := 8) rfl rfl (by omega) (by (simp only [cap]; omega))) ?_
      refine DC.op rfl rfl rfl (fun _ => step_addN rfl rfl (by (simp only [cap]; omega))) ?_
      refine DC.op rfl rfl rfl (fun _ => mv_sl rfl) ?_
      refine DC.op rfl rfl rfl (fun _ => mv_sc rfl) ?_
      refine DC.op rfl rfl rfl (fun _ => mv_sc rfl) ?_
      refine DC.op rfl rfl rfl (fun _ => step_quoN (q := 8) rfl rfl (by omega) (by (simp only [cap]; omega))) ?_
      refine DC.op rfl rfl rfl (fun _ => step_addN rfl rfl (by (simp only [cap]; omega))) ?_
      refine DC.op1 rfl rfl rfl rfl (fun _ ho => step_idxO Try.runUnderlying23 Try.sizeOf5 rfl ho rfl (by (exact rfl)) (by (simp only [List.length_map, List.length_append, List.length_take, List.length_drop, List.length_set, List.length_cons, List.length_nil, List.length_replicate] <;> omega)) (by exact Nat.zero_add _)) ?_
      refine DC.op1 rfl rfl rfl rfl (fun _ ho => step_loadO Try.isAgg5 rfl ho (by (simp only [List.length_map, List.length_append, List.length_take, List.length_drop, List.length_set, List.length_cons, List.length_nil, List.length_replicate] <;> omega))) ?_
      refine DC.op rfl rfl rfl (fun _ => mv_sc rfl) ?_
      refine DC.op rfl rfl rfl (fun _ => step_remN (q := 8) rfl rfl (by omega)) ?_
      refine DC.op rfl rfl rfl (fun _ => step_shl rfl rfl (by omega)) ?_
      refine DC.set 79 (.sc (.int .u8 ((1 * 2 ^ (j % 8) % 256 : Nat) : Int))) (congrArg (fun z : Int => AV.sc (.int .u8 z)) (shl8 (by omega))) ?_
      refine DC.op rfl rfl rfl (fun _ => step_xorN rfl rfl (by (simp only [cap]; omega)) (by (simp only [cap]; omega))) ?_
      refine DC.set 80 (.sc (.int .u8 (((UInt8.ofNat ((c.getD (4 + j / 8) 0).toNat ^^^ (1 * 2 ^ (j % 8) % 256))).toNat : Nat) : Int))) (congrArg (fun z : Nat => AV.sc (.int .u8 (z : Int))) (xor_u8 (j := j) hby).symm) ?_
      refine DC.op1 rfl rfl rfl rfl (fun _ ho => step_idxO Try.runUnderlying23 Try.sizeOf5 rfl ho rfl (by (exact rfl)) (by (simp only [List.length_map, List.length_append, List.length_take, List.length_drop, List.length_set, List.length_cons, List.length_nil, List.length_replicate] <;> omega)) (by exact Nat.zero_add _)) ?_
      refine DC.opE0 rfl rfl (step_storeB (b := _) Try.sizeOf5 rfl rfl rfl (by (exact rfl)) (by (simp only [List.length_map, List.length_append, List.length_take, List.length_drop, List.length_set, List.length_cons, List.length_nil, List.length_replicate] <;> omega))) (by simp) (by repeat (first | exact True.intro | refine And.intro (by rfl) ?_)) (by repeat (first | exact True.intro | refine And.intro (by first | exact rowLt_bytes | rfl) ?_)) ?_
      refine DC.fin [(10, 0), (11, 0), (16, 0)] (by kernel_rfl) (by kernel_rfl) ?_ ?_
      · repeat (first | exact True.intro | refine And.intro ?_ ?_ | kernel_rfl)
      · refine W.seq ?_
        refine W.to [(0, _), (1, _), (2, _), (3, _), (6, _), (8, _), (9, _), (10, _), (11, _), (12, _), (24, _), (35, _), (48, _), (57, _)] [_, _] rfl ⟨(by exact sh_sc rfl), (by exact sh_sc rfl), (by exact sh_agg rfl), (by exact sh_sc rfl), (by exact sh_ptr rfl), (by exact sh_sc rfl), (by exact sh_sl rfl), (by exact sh_sc rfl), (by exact sh_sc rfl), (by exact sh_sc rfl), (by exact sh_sc rfl), (by exact sh_sc rfl), (by exact sh_sc rfl), (by exact sh_sc rfl), trivial⟩ ?_
        refine W.gatC [_] [] (flip c (4 + j / 8) j) rfl rfl ?_
        intro L1 hL1
        have hl1 : L1.length = n := by rw [hL1, hn]; unfold flip; rw [List.length_set]
        refine W.region ?_
        refine WO.op rfl rfl rfl rfl (step_fieldR (k := 0) (FieldOff.mk (by kernel_rfl)) rfl rfl (by exact Nat.zero_add _)) ?_
        refine WO.op rfl rfl rfl rfl (step_load Try.isAgg3 rfl rfl rfl) ?_
        refine WO.op rfl rfl rfl rfl (step_pure Try.call15 rfl (by (repeat (first | exact Nl.nil | refine Nl.keep (by rfl) ?_))) (w_Proto1) (by repeat (first | with_reducible refine noOwn_tup ?_ | with_reducible exact noOwnL_nil | with_reducible refine noOwnL_cons ?_ ?_ | rfl))) ?_
        refine WO.op rfl rfl rfl rfl (mv_tup rfl) ?_
        refine WO.op rfl rfl rfl rfl (step_extract rfl rfl) ?_
        refine WO.op rfl rfl rfl rfl (step_extract rfl rfl) ?_
        refine WO.op rfl rfl rfl rfl (as_sc rfl) ?_
        refine WO.op rfl rfl rfl rfl (as_sc rfl) ?_
        refine WO.nil ?_
        refine W.seq ?_
        refine W.to [(0, _), (1, _), (2, _), (3, _), (6, _), (8, _), (9, _), (10, _), (11, _), (12, _), (13, _), (24, _), (35, _), (48, _), (57, _)] [_, _] rfl ⟨(by exact sh_sc rfl), (by exact sh_sc rfl), (by exact sh_agg rfl), (by exact sh_sc rfl), (by exact sh_ptr rfl), (by exact sh_sc rfl), (by exact sh_sl rfl), (by exact sh_sc rfl), (by exact sh_sc rfl), (by exact sh_sc rfl), (by exact sh_sc rfl), (by exact sh_sc rfl), (by exact sh_sc rfl), (by exact sh_sc rfl), (by exact sh_sc rfl), trivial⟩ ?_
        refine W.region ?_
        refine WO.op rfl rfl rfl rfl (mv_sc rfl) ?_
        refine WO.op rfl rfl rfl rfl (mv_sc rfl) ?_
        refine WO.op rfl rfl rfl rfl (mv_sc rfl) ?_
        refine WO.op rfl rfl rfl rfl (mv_sl rfl) ?_
        refine WO.op rfl rfl rfl rfl (step_lent Try.call8 rfl (by (repeat (first | exact Bw.nil | refine Bw.keep (by rfl) ?_ | refine Bw.slB rfl (by (exact take_whole (by omega))) (by (simp only [List.length_map, List.length_append, List.length_take, List.length_drop, List.length_set, List.length_cons, List.length_nil, List.length_replicate] <;> omega)) ?_))) ((hL1 ▸ hD (4 + j / 8) j (by omega) (by omega))) (by repeat (rfl))) ?_
        refine WO.op rfl rfl rfl rfl (mv_tup rfl) ?_
        refine WO.op rfl rfl rfl rfl (step_extract rfl rfl) ?_
        refine WO.op rfl rfl rfl rfl (step_extract rfl rfl) ?_
        refine WO.opA rfl rfl rfl rfl (al_alloc Try.zeroValue25) rfl rfl ?_
        refine WO.put 15 (.ptr 2 0) rfl ?_
        refine WO.op0 rfl rfl rfl (step_storeA Try.sizeOf25 rfl rfl rfl (by repeat (exact all_cell rfl rfl)) rfl rfl) ?_
        refine WO.op rfl rfl rfl rfl (as_sc rfl) ?_
        refine WO.nil ?_
        refine W.seq ?_
        refine W.to [(0, _), (1, _), (2, _), (3, _), (6, _), (8, _), (9, _), (10, _), (11, _), (12, _), (13, _), (15, _), (24, _), (35, _), (48, _), (57, _)] [_, _, _] rfl ⟨(by exact sh_sc rfl), (by exact sh_sc rfl), (by exact sh_agg rfl), (by exact sh_sc rfl), (by exact sh_ptr rfl), (by exact sh_sc rfl), (by exact sh_sl rfl), (by exact sh_sc rfl), (by exact sh_sc rfl), (by exact sh_sc rfl), (by exact sh_sc rfl), (by exact sh_ptr rfl), (by exact sh_sc rfl), (by exact sh_sc rfl), (by exact sh_sc rfl), (by exact sh_sc rfl), trivial⟩ ?_
        refine W.region ?_
        refine WO.op rfl rfl rfl rfl (mv_sc rfl) ?_
        refine WO.op rfl rfl rfl rfl (step_int2 rfl rfl rfl) ?_
        refine WO.put 97 (.sc (.bool true)) (by kernel_rfl) ?_
        refine WO.op rfl rfl rfl rfl (mv_sc rfl) ?_
        refine WO.op rfl rfl rfl rfl (step_loadA Try.isAgg25 Try.sizeOf25 rfl rfl (by exact Nat.le_refl _)) ?_
        refine WO.put 99 (.agg [.sc (.int .i64 0), .sc (.int .i64 0), .sc (.int .i64 0), .sc (.int .u32 0), .sc (.int .i64 0), .sc (.int .i64 0), .sc (.bool false), .sc (.int .u32 0), .sc (.int .u32 0), .sc (.int .i64 0), .sc (.int .i64 0), .sc (.int .i64 0), .sc (.string ⟨#[]⟩), .sc (.string ⟨#[]⟩)]) (by kernel_rfl) ?_
        refine WO.op rfl rfl rfl rfl (step_build (out := [.sc (.int .i64 0), .sc (.int .i64 0), .sc (.int .i64 0), .sc (.int .u32 0), .sc (.int .i64 0), .sc (.int .i64 0), .sc (.bool false), .sc (.int .u32 0), .sc (.int .u32 0), .sc (.int .i64 0), .sc (.int .i64 0), .sc (.int .i64 0), .sc (.string ⟨#[]⟩), .sc (.string ⟨#[]⟩)]) Try.zeroValue25 (pl := [(0, 1), (1, 1), (2, 1), (3, 1), (4, 1), (5, 1), (6, 1), (7, 1), (8, 1), (9, 1), (10, 1), (11, 1), (12, 1), (13, 1)]) (PlacesOf.mk (by kernel_rfl)) (by kernel_rfl)) ?_
        refine WO.put 100 (.agg [.sc (.int .i64 0), .sc (.int .i64 0), .sc (.int .i64 0), .sc (.int .u32 0), .sc (.int .i64 0), .sc (.int .i64 0), .sc (.bool false), .sc (.int .u32 0), .sc (.int .u32 0), .sc (.int .i64 0), .sc (.int .i64 0), .sc (.int .i64 0), .sc (.string ⟨#[]⟩), .sc (.string ⟨#[]⟩)]) (by kernel_rfl) ?_
        refine WO.op rfl rfl rfl rfl (eq_L4 (a0 := 0) (a1 := 0) (a2 := 0) (a3 := 0) (a4 := 0) (a5 := 0) (a6 := false) (a7 := 0) (a8 := 0) (a9 := 0) (a10 := 0) (a11 := 0) (a12 := ⟨#[]⟩) (a13 := ⟨#[]⟩) (by (constructor <;> omega)) (by (constructor <;> omega)) (by (constructor <;> omega)) (by (constructor <;> omega)) (by (constructor <;> omega)) (by (constructor <;> omega)) (by (constructor <;> omega)) (by (constructor <;> omega)) (by (constructor <;> omega)) (by (constructor <;> omega)) (by (constructor <;> omega)) (by decide) (by decide) rfl rfl) ?_
        refine WO.put 101 (.sc (.bool true)) (rfl) ?_
        refine WO.op rfl rfl rfl rfl (pk_t rfl rfl rfl) ?_
        refine WO.op rfl rfl rfl rfl (as_sc rfl) ?_
        refine WO.nil ?_
        refine W.ret ?_
        refine ⟨.inl rfl, ?_⟩
        exact ret0 (Res.tmp rfl Res.nil) (.keep rfl)
    · try simp only [decide_eq_true_eq, decide_eq_false_iff_not, Bool.not_eq_true', Bool.not_eq_false', beq_iff_eq, bne_iff_ne, beq_eq_false_iff_ne, bne_eq_false_iff_eq, gt_iff_lt, ge_iff_le, Int.not_lt, Int.not_le] at h2
      obtain ⟨j, hj⟩ : ∃ j : Nat, kk = (j : Int) := ⟨(kk).toNat, by omega⟩
      have hj2 : j < 8 * (n - 4) := by omega
      refine W.skip ?_
      refine W.seq ?_
      refine W.to [(0, _), (1, _), (2, _), (3, _), (6, _), (8, _), (9, _), (10, _), (11, _), (12, _), (24, _), (35, _), (48, _), (57, _)] [_, _] rfl ⟨(by exact sh_sc rfl), (by exact sh_sc rfl), (by exact sh_agg rfl), (by exact sh_sc rfl), (by exact sh_ptr rfl), (by exact sh_sc rfl), (by exact sh_sl rfl), (by exact sh_sc rfl), (by exact sh_sc rfl), (by exact sh_sc rfl), (by exact sh_sc rfl), (by exact sh_sc rfl), (by exact sh_sc rfl), (by exact sh_sc rfl), trivial⟩ ?_
      refine W.put 12 (.sc (.int .i64 ((j : Nat) : Int))) (congrArg (fun z : Int => AV.sc (.int .i64 z)) (by exact hj)) ?_
      have hby := byte_le (c.getD (4 + j / 8) 0)
      refine W.draw (Checked.mixed Try.checked) ?_
      refine DC.op rfl rfl rfl (fun _ => mv_sl rfl) ?_
      refine DC.op rfl rfl rfl (fun _ => mv_sc rfl) ?_
      refine DC.op rfl rfl rfl (fun _ => mv_sc rfl) ?_
      refine DC.op rfl rfl rfl (fun _ => step_quoN (q := 8) rfl rfl (by omega) (by (simp only [cap]; omega))) ?_
      refine DC.op rfl rfl rfl (fun _ => step_addN rfl rfl (by (simp only [cap]; omega))) ?_
      refine DC.op rfl rfl rfl (fun _ => mv_sl rfl) ?_
      refine DC.op rfl rfl rfl (fun _ => mv_sc rfl) ?_
      refine DC.op rfl rfl rfl (fun _ => mv_sc rfl) ?_
      refine DC.op rfl rfl rfl (fun _ => step_quoN (q := 8) rfl rfl (by omega) (by (simp only [cap]; omega))) ?_
      refine DC.op rfl rfl rfl (fun _ => step_addN rfl rfl (by (simp only [cap]; omega))) ?_
      refine DC.op1 rfl rfl rfl rfl (fun _ ho => step_idxO Try.runUnderlying23 Try.sizeOf5 rfl ho rfl (by (exact rfl)) (by (simp only [List.length_map, List.length_append, List.length_take, List.length_drop, List.length_set, List.length_cons, List.length_nil, List.length_replicate] <;> omega)) (by exact Nat.zero_add _)) ?_
      refine DC.op1 rfl rfl rfl rfl (fun _ ho => step_loadO Try.isAgg5 rfl ho (by (simp only [List.length_map, List.length_append, List.length_take, List.length_drop, List.length_set, List.length_cons, List.length_nil, List.length_replicate] <;> omega))) ?_
      refine DC.op rfl rfl rfl (fun _ => mv_sc rfl) ?_
      refine DC.op rfl rfl rfl (fun _ => step_remN (q := 8) rfl rfl (by omega)) ?_
      refine DC.op rfl rfl rfl (fun _ => step_shl rfl rfl (by omega)) ?_
      refine DC.set 79 (.sc (.int .u8 ((1 * 2 ^ (j % 8) % 256 : Nat) : Int))) (congrArg (fun z : Int => AV.sc (.int .u8 z)) (shl8 (by omega))) ?_
      refine DC.op rfl rfl rfl (fun _ => step_xorN rfl rfl (by (simp only [cap]; omega)) (by (simp only [cap]; omega))) ?_
      refine DC.set 80 (.sc (.int .u8 (((UInt8.ofNat ((c.getD (4 + j / 8) 0).toNat ^^^ (1 * 2 ^ (j % 8) % 256))).toNat : Nat) : Int))) (congrArg (fun z : Nat => AV.sc (.int .u8 (z : Int))) (xor_u8 (j := j) hby).symm) ?_
      refine DC.op1 rfl rfl rfl rfl (fun _ ho => step_idxO Try.runUnderlying23 Try.sizeOf5 rfl ho rfl (by (exact rfl)) (by (simp only [List.length_map, List.length_append, List.length_take, List.length_drop, List.length_set, List.length_cons, List.length_nil, List.length_replicate] <;> omega)) (by exact Nat.zero_add _)) ?_
      refine DC.opE0 rfl rfl (step_storeB (b := _) Try.sizeOf5 rfl rfl rfl (by (exact rfl)) (by (simp only [List.length_map, List.length_append, List.length_take, List.length_drop, List.length_set, List.length_cons, List.length_nil, List.length_replicate] <;> omega))) (by simp) (by repeat (first | exact True.intro | refine And.intro (by rfl) ?_)) (by repeat (first | exact True.intro | refine And.intro (by first | exact rowLt_bytes | rfl) ?_)) ?_
      refine DC.fin [(10, 0), (11, 0), (16, 0)] (by kernel_rfl) (by kernel_rfl) ?_ ?_
      · repeat (first | exact True.intro | refine And.intro ?_ ?_ | kernel_rfl)
      · refine W.seq ?_
        refine W.to [(0, _), (1, _), (2, _), (3, _), (6, _), (8, _), (9, _), (10, _), (11, _), (12, _), (24, _), (35, _), (48, _), (57, _)] [_, _] rfl ⟨(by exact sh_sc rfl), (by exact sh_sc rfl), (by exact sh_agg rfl), (by exact sh_sc rfl), (by exact sh_ptr rfl), (by exact sh_sc rfl), (by exact sh_sl rfl), (by exact sh_sc rfl), (by exact sh_sc rfl), (by exact sh_sc rfl), (by exact sh_sc rfl), (by exact sh_sc rfl), (by exact sh_sc rfl), (by exact sh_sc rfl), trivial⟩ ?_
        refine W.gatC [_] [] (flip c (4 + j / 8) j) rfl rfl ?_
        intro L1 hL1
        have hl1 : L1.length = n := by rw [hL1, hn]; unfold flip; rw [List.length_set]
        refine W.region ?_
        refine WO.op rfl rfl rfl rfl (step_fieldR (k := 0) (FieldOff.mk (by kernel_rfl)) rfl rfl (by exact Nat.zero_add _)) ?_
        refine WO.op rfl rfl rfl rfl (step_load Try.isAgg3 rfl rfl rfl) ?_
        refine WO.op rfl rfl rfl rfl (step_pure Try.call15 rfl (by (repeat (first | exact Nl.nil | refine Nl.keep (by rfl) ?_))) (w_Proto1) (by repeat (first | with_reducible refine noOwn_tup ?_ | with_reducible exact noOwnL_nil | with_reducible refine noOwnL_cons ?_ ?_ | rfl))) ?_
        refine WO.op rfl rfl rfl rfl (mv_tup rfl) ?_
        refine WO.op rfl rfl rfl rfl (step_extract rfl rfl) ?_
        refine WO.op rfl rfl rfl rfl (step_extract rfl rfl) ?_
        refine WO.op rfl rfl rfl rfl (as_sc rfl) ?_
        refine WO.op rfl rfl rfl rfl (as_sc rfl) ?_
        refine WO.nil ?_
        refine W.seq ?_
        refine W.to [(0, _), (1, _), (2, _), (3, _), (6, _), (8, _), (9, _), (10, _), (11, _), (12, _), (13, _), (24, _), (35, _), (48, _), (57, _)] [_, _] rfl ⟨(by exact sh_sc rfl), (by exact sh_sc rfl), (by exact sh_agg rfl), (by exact sh_sc rfl), (by exact sh_ptr rfl), (by exact sh_sc rfl), (by exact sh_sl rfl), (by exact sh_sc rfl), (by exact sh_sc rfl), (by exact sh_sc rfl), (by exact sh_sc rfl), (by exact sh_sc rfl), (by exact sh_sc rfl), (by exact sh_sc rfl), (by exact sh_sc rfl), trivial⟩ ?_
        refine W.region ?_
        refine WO.op rfl rfl rfl rfl (mv_sc rfl) ?_
        refine WO.op rfl rfl rfl rfl (mv_sc rfl) ?_
        refine WO.op rfl rfl rfl rfl (mv_sc rfl) ?_
        refine WO.op rfl rfl rfl rfl (mv_sl rfl) ?_
        refine WO.op rfl rfl rfl rfl (step_lent Try.call8 rfl (by (repeat (first | exact Bw.nil | refine Bw.keep (by rfl) ?_ | refine Bw.slB rfl (by (exact take_whole (by omega))) (by (simp only [List.length_map, List.length_append, List.length_take, List.length_drop, List.length_set, List.length_cons, List.length_nil, List.length_replicate] <;> omega)) ?_))) ((hL1 ▸ hD (4 + j / 8) j (by omega) (by omega))) (by repeat (rfl))) ?_
        refine WO.op rfl rfl rfl rfl (mv_tup rfl) ?_
        refine WO.op rfl rfl rfl rfl (step_extract rfl rfl) ?_
        refine WO.op rfl rfl rfl rfl (step_extract rfl rfl) ?_
        refine WO.opA rfl rfl rfl rfl (al_alloc Try.zeroValue25) rfl rfl ?_
        refine WO.put 15 (.ptr 2 0) rfl ?_
        refine WO.op0 rfl rfl rfl (step_storeA Try.sizeOf25 rfl rfl rfl (by repeat (exact all_cell rfl rfl)) rfl rfl) ?_
        refine WO.op rfl rfl rfl rfl (as_sc rfl) ?_
        refine WO.nil ?_
        refine W.seq ?_
        refine W.to [(0, _), (1, _), (2, _), (3, _), (6, _), (8, _), (9, _), (10, _), (11, _), (12, _), (13, _), (15, _), (24, _), (35, _), (48, _), (57, _)] [_, _, _] rfl ⟨(by exact sh_sc rfl), (by exact sh_sc rfl), (by exact sh_agg rfl), (by exact sh_sc rfl), (by exact sh_ptr rfl), (by exact sh_sc rfl), (by exact sh_sl rfl), (by exact sh_sc rfl), (by exact sh_sc rfl), (by exact sh_sc rfl), (by exact sh_sc rfl), (by exact sh_ptr rfl), (by exact sh_sc rfl), (by exact sh_sc rfl), (by exact sh_sc rfl), (by exact sh_sc rfl), trivial⟩ ?_
        refine W.region ?_
        refine WO.op rfl rfl rfl rfl (mv_sc rfl) ?_
        refine WO.op rfl rfl rfl rfl (step_int2 rfl rfl rfl) ?_
        refine WO.put 97 (.sc (.bool true)) (by kernel_rfl) ?_
        refine WO.op rfl rfl rfl rfl (mv_sc rfl) ?_
        refine WO.op rfl rfl rfl rfl (step_loadA Try.isAgg25 Try.sizeOf25 rfl rfl (by exact Nat.le_refl _)) ?_
        refine WO.put 99 (.agg [.sc (.int .i64 0), .sc (.int .i64 0), .sc (.int .i64 0), .sc (.int .u32 0), .sc (.int .i64 0), .sc (.int .i64 0), .sc (.bool false), .sc (.int .u32 0), .sc (.int .u32 0), .sc (.int .i64 0), .sc (.int .i64 0), .sc (.int .i64 0), .sc (.string ⟨#[]⟩), .sc (.string ⟨#[]⟩)]) (by kernel_rfl) ?_
        refine WO.op rfl rfl rfl rfl (step_build (out := [.sc (.int .i64 0), .sc (.int .i64 0), .sc (.int .i64 0), .sc (.int .u32 0), .sc (.int .i64 0), .sc (.int .i64 0), .sc (.bool false), .sc (.int .u32 0), .sc (.int .u32 0), .sc (.int .i64 0), .sc (.int .i64 0), .sc (.int .i64 0), .sc (.string ⟨#[]⟩), .sc (.string ⟨#[]⟩)]) Try.zeroValue25 (pl := [(0, 1), (1, 1), (2, 1), (3, 1), (4, 1), (5, 1), (6, 1), (7, 1), (8, 1), (9, 1), (10, 1), (11, 1), (12, 1), (13, 1)]) (PlacesOf.mk (by kernel_rfl)) (by kernel_rfl)) ?_
        refine WO.put 100 (.agg [.sc (.int .i64 0), .sc (.int .i64 0), .sc (.int .i64 0), .sc (.int .u32 0), .sc (.int .i64 0), .sc (.int .i64 0), .sc (.bool false), .sc (.int .u32 0), .sc (.int .u32 0), .sc (.int .i64 0), .sc (.int .i64 0), .sc (.int .i64 0), .sc (.string ⟨#[]⟩), .sc (.string ⟨#[]⟩)]) (by kernel_rfl) ?_
        refine WO.op rfl rfl rfl rfl (eq_L4 (a0 := 0) (a1 := 0) (a2 := 0) (a3 := 0) (a4 := 0) (a5 := 0) (a6 := false) (a7 := 0) (a8 := 0) (a9 := 0) (a10 := 0) (a11 := 0) (a12 := ⟨#[]⟩) (a13 := ⟨#[]⟩) (by (constructor <;> omega)) (by (constructor <;> omega)) (by (constructor <;> omega)) (by (constructor <;> omega)) (by (constructor <;> omega)) (by (constructor <;> omega)) (by (constructor <;> omega)) (by (constructor <;> omega)) (by (constructor <;> omega)) (by (constructor <;> omega)) (by (constructor <;> omega)) (by decide) (by decide) rfl rfl) ?_
        refine WO.put 101 (.sc (.bool true)) (rfl) ?_
        refine WO.op rfl rfl rfl rfl (pk_t rfl rfl rfl) ?_
        refine WO.op rfl rfl rfl rfl (as_sc rfl) ?_
        refine WO.nil ?_
        refine W.ret ?_
        refine ⟨.inl rfl, ?_⟩
        exact ret0 (Res.tmp rfl Res.nil) (.keep rfl)

theorem w_Turn2 {src dst n : Nat} {a1 : Int} {a2 : Int} {a3 : Int} {a4 : Int} {a5 : Int} {a7 : Int} {a8 : Int} {a9 : Int} {a10 : Int} {a11 : Int} {a12 : ByteArray} {a13 : ByteArray} {bit : Int} {c : List UInt8}  (hbit : -9223372036854775808 ≤ bit ∧ bit ≤ 9223372036854775807) (hn : n = c.length) (hf : 8 ≤ n) (hn2 : n ≤ 65535) (hE : Go.SL.Spec Try.prog 11 [.sc (.int .u32 ((src : Nat) : Int)), .sc (.int .u32 ((dst : Nat) : Int)), .agg [.sc (.int .i64 2), .sc (.int .i64 a1), .sc (.int .i64 a2), .sc (.int .u32 a3), .sc (.int .i64 a4), .sc (.int .i64 a5), .sc (.bool false), .sc (.int .u32 a7), .sc (.int .u32 a8), .sc (.int .i64 a9), .sc (.int .i64 a10), .sc (.int .i64 a11), .sc (.string a12), .sc (.string a13)]] [] (fun r hp' => r = .tup [.sl 0 0 n, .sc (.int .i64 0)] ∧ hp' = [.row 1 (c.map byteAV)])) (hD : ∀ i b, 8 ≤ i → i < n → Spec0 Try.prog 8 [.sc (.int .u32 ((src : Nat) : Int)), .sc (.int .u32 ((dst : Nat) : Int)), .sc (.int .i64 17), .im 1 ((flip c i b).map byteAV)] (.tup [.agg [.sc (.int .i64 0), .sc (.int .i64 0), .sc (.int .i64 0), .sc (.int .u32 0), .sc (.int .i64 0), .sc (.int .i64 0), .sc (.bool false), .sc (.int .u32 0), .sc (.int .u32 0), .sc (.int .i64 0), .sc (.int .i64 0), .sc (.int .i64 0), .sc (.string ⟨#[]⟩), .sc (.string ⟨#[]⟩)], .sc (.int .i64 30)])) : Spec0 Try.prog 7 [.sc (.int .u32 ((src : Nat) : Int)), .sc (.int .u32 ((dst : Nat) : Int)), .agg [.sc (.int .i64 2), .sc (.int .i64 a1), .sc (.int .i64 a2), .sc (.int .u32 a3), .sc (.int .i64 a4), .sc (.int .i64 a5), .sc (.bool false), .sc (.int .u32 a7), .sc (.int .u32 a8), .sc (.int .i64 a9), .sc (.int .i64 a10), .sc (.int .i64 a11), .sc (.string a12), .sc (.string a13)], .sc (.int .i64 bit)] (.sc (.bool true)) := by
  refine Spec.body Try.func7 rfl (Nat.le_of_ble_eq_true rfl) ?_
  refine W.seq ?_
  refine W.region ?_
  refine WO.opA rfl rfl rfl rfl (al_boxA rfl rfl) rfl rfl ?_
  refine WO.put 6 (.ptr 0 0) rfl ?_
  refine WO.op rfl rfl rfl rfl (as_sc rfl) ?_
  refine WO.nil ?_
  refine W.seq ?_
  refine W.to [(0, _), (1, _), (2, _), (3, _), (6, _), (8, _)] [_] rfl ⟨(by exact sh_sc rfl), (by exact sh_sc rfl), (by exact sh_agg rfl), (by exact sh_sc rfl), (by exact sh_ptr rfl), (by exact sh_sc rfl), trivial⟩ ?_
  refine W.region ?_
  refine WO.op rfl rfl rfl rfl (mv_sc rfl) ?_
  refine WO.op rfl rfl rfl rfl (mv_sc rfl) ?_
  refine WO.op rfl rfl rfl rfl (step_loadA Try.isAgg25 Try.sizeOf25 rfl rfl (by exact Nat.le_refl _)) ?_
  refine WO.put 19 (.agg [.sc (.int .i64 2), .sc (.int .i64 a1), .sc (.int .i64 a2), .sc (.int .u32 a3), .sc (.int .i64 a4), .sc (.int .i64 a5), .sc (.bool false), .sc (.int .u32 a7), .sc (.int .u32 a8), .sc (.int .i64 a9), .sc (.int .i64 a10), .sc (.int .i64 a11), .sc (.string a12), .sc (.string a13)]) (by kernel_rfl) ?_
  refine WO.op rfl rfl rfl rfl (step_own Try.call11 rfl (by repeat (first | exact Nl.nil | refine Nl.keep rfl ?_)) hE noOwn_bytes rfl) ?_
  skip
  refine WO.op rfl rfl rfl rfl (mv_tup rfl) ?_
  refine WO.op rfl rfl rfl rfl (step_extract rfl rfl) ?_
  refine WO.op rfl rfl rfl rfl (step_extract rfl rfl) ?_
  refine WO.op rfl rfl rfl rfl (as_sl rfl) ?_
  refine WO.op rfl rfl rfl rfl (as_sc rfl) ?_
  refine WO.nil ?_
  refine W.seq ?_
  refine W.seq ?_
  refine W.to [(0, _), (1, _), (2, _), (3, _), (6, _), (8, _), (9, _), (10, _)] [_, _] rfl ⟨(by exact sh_sc rfl), (by exact sh_sc rfl), (by exact sh_agg rfl), (by exact sh_sc rfl), (by exact sh_ptr rfl), (by exact sh_sc rfl), (by exact sh_sl rfl), (by exact sh_sc rfl), trivial⟩ ?_
  refine W.region ?_
  refine WO.op rfl rfl rfl rfl (step_pure Try.call10 rfl (by (repeat (exact Nl.nil))) (w_lives) (by repeat (rfl))) ?_
  refine WO.op rfl rfl rfl rfl (step_not rfl) ?_
  refine WO.put 24 (.sc (.bool false)) (rfl) ?_
  refine WO.nil ?_
  refine W.condF rfl ?_
  refine W.skip ?_
  refine W.seq ?_
  refine W.seq ?_
  refine W.to [(0, _), (1, _), (2, _), (3, _), (6, _), (8, _), (9, _), (10, _), (24, _)] [_, _] rfl ⟨(by exact sh_sc rfl), (by exact sh_sc rfl), (by exact sh_agg rfl), (by exact sh_sc rfl), (by exact sh_ptr rfl), (by exact sh_sc rfl), (by exact sh_sl rfl), (by exact sh_sc rfl), (by exact sh_sc rfl), trivial⟩ ?_
  refine W.region ?_
  refine WO.op rfl rfl rfl rfl (mv_sc rfl) ?_
  refine WO.op rfl rfl rfl rfl (step_int2 rfl rfl rfl) ?_
  refine WO.put 26 (.sc (.bool false)) (by kernel_rfl) ?_
  refine WO.op rfl rfl rfl rfl (mv_sc rfl) ?_
  refine WO.op rfl rfl rfl rfl (step_fieldR (k := 0) (FieldOff.mk (by kernel_rfl)) rfl rfl (by exact Nat.zero_add _)) ?_
  refine WO.op rfl rfl rfl rfl (step_load Try.isAgg3 rfl rfl rfl) ?_
  refine WO.op rfl rfl rfl rfl (step_int2 rfl rfl rfl) ?_
  refine WO.put 30 (.sc (.bool false)) (by kernel_rfl) ?_
  refine WO.op rfl rfl rfl rfl (pk_f rfl rfl rfl) ?_
  refine WO.op rfl rfl rfl rfl (mv_sc rfl) ?_
  refine WO.op rfl rfl rfl rfl (step_fieldR (k := 6) (FieldOff.mk (by kernel_rfl)) rfl rfl (by exact Nat.zero_add _)) ?_
  refine WO.op rfl rfl rfl rfl (step_load Try.isAgg4 rfl rfl rfl) ?_
  refine WO.put 34 (.sc (.bool false)) (by kernel_rfl) ?_
  refine WO.op rfl rfl rfl rfl (pk_f rfl rfl rfl) ?_
  refine WO.nil ?_
  refine W.condF rfl ?_
  refine W.skip ?_
  refine W.seq ?_
  refine W.to [(0, _), (1, _), (2, _), (3, _), (6, _), (8, _), (9, _), (10, _), (24, _), (35, _)] [_, _] rfl ⟨(by exact sh_sc rfl), (by exact sh_sc rfl), (by exact sh_agg rfl), (by exact sh_sc rfl), (by exact sh_ptr rfl), (by exact sh_sc rfl), (by exact sh_sl rfl), (by exact sh_sc rfl), (by exact sh_sc rfl), (by exact sh_sc rfl), trivial⟩ ?_
  refine W.region ?_
  refine WO.op rfl rfl rfl rfl (step_fieldR (k := 0) (FieldOff.mk (by kernel_rfl)) rfl rfl (by exact Nat.zero_add _)) ?_
  refine WO.op rfl rfl rfl rfl (step_load Try.isAgg3 rfl rfl rfl) ?_
  refine WO.op rfl rfl rfl rfl (step_pure Try.call17 rfl (by (repeat (first | exact Nl.nil | refine Nl.keep (by rfl) ?_))) (w_map2) (by repeat (rfl))) ?_
  refine WO.op rfl rfl rfl rfl (as_sc rfl) ?_
  refine WO.nil ?_
  refine W.seq ?_
  refine W.seq ?_
  refine W.to [(0, _), (1, _), (2, _), (3, _), (6, _), (8, _), (9, _), (10, _), (11, _), (24, _), (35, _)] [_, _] rfl ⟨(by exact sh_sc rfl), (by exact sh_sc rfl), (by exact sh_agg rfl), (by exact sh_sc rfl), (by exact sh_ptr rfl), (by exact sh_sc rfl), (by exact sh_sl rfl), (by exact sh_sc rfl), (by exact sh_sc rfl), (by exact sh_sc rfl), (by exact sh_sc rfl), trivial⟩ ?_
  refine W.region ?_
  refine WO.op rfl rfl rfl rfl (mv_sl rfl) ?_
  refine WO.op rfl rfl rfl rfl (step_lenL Try.runUnderlying23 rfl rfl) ?_
  refine WO.op rfl rfl rfl rfl (mv_sc rfl) ?_
  refine WO.op rfl rfl rfl rfl (step_int2 rfl rfl rfl) ?_
  refine WO.nil ?_
  refine W.cond rfl (fun h1 => ?_) (fun h1 => ?_)
  · try simp only [decide_eq_true_eq, decide_eq_false_iff_not, Bool.not_eq_true', Bool.not_eq_false', beq_iff_eq, bne_iff_ne, beq_eq_false_iff_ne, bne_eq_false_iff_eq, gt_iff_lt, ge_iff_le, Int.not_lt, Int.not_le] at h1
    refine W.seq ?_
    refine W.to [(0, _), (1, _), (2, _), (3, _), (6, _), (8, _), (9, _), (10, _), (11, _), (24, _), (35, _), (48, _)] [_, _] rfl ⟨(by exact sh_sc rfl), (by exact sh_sc rfl), (by exact sh_agg rfl), (by exact sh_sc rfl), (by exact sh_ptr rfl), (by exact sh_sc rfl), (by exact sh_sl rfl), (by exact sh_sc rfl), (by exact sh_sc rfl), (by exact sh_sc rfl), (by exact sh_sc rfl), (by exact sh_sc rfl), trivial⟩ ?_
    refine W.region ?_
    refine WO.op rfl rfl rfl rfl (as_sc rfl) ?_
    refine WO.nil ?_
    refine W.ret ?_
    refine ⟨.inl rfl, ?_⟩
    exact ret0 (Res.tmp rfl Res.nil) (.keep rfl)
  · try simp only [decide_eq_true_eq, decide_eq_false_iff_not, Bool.not_eq_true', Bool.not_eq_false', beq_iff_eq, bne_iff_ne, beq_eq_false_iff_ne, bne_eq_false_iff_eq, gt_iff_lt, ge_iff_le, Int.not_lt, Int.not_le] at h1
    have hnf : 8 < n := by omega
    obtain ⟨kk, hkk⟩ : ∃ k : Int, k = bit.tmod (8 * ((n : Nat) - 8 : Int)) := ⟨_, rfl⟩
    have hrng := tmod_rng (x := bit) (m := 8 * ((n : Nat) - 8 : Int)) (by omega)
    rw [← hkk] at hrng
    refine W.skip ?_
    refine W.seq ?_
    refine W.to [(0, _), (1, _), (2, _), (3, _), (6, _), (8, _), (9, _), (10, _), (11, _), (24, _), (35, _), (48, _)] [_, _] rfl ⟨(by exact sh_sc rfl), (by exact sh_sc rfl), (by exact sh_agg rfl), (by exact sh_sc rfl), (by exact sh_ptr rfl), (by exact sh_sc rfl), (by exact sh_sl rfl), (by exact sh_sc rfl), (by exact sh_sc rfl), (by exact sh_sc rfl), (by exact sh_sc rfl), (by exact sh_sc rfl), trivial⟩ ?_
    refine W.region ?_
    refine WO.op rfl rfl rfl rfl (mv_sc rfl) ?_
    refine WO.op rfl rfl rfl rfl (mv_sl rfl) ?_
    refine WO.op rfl rfl rfl rfl (step_lenL Try.runUnderlying23 rfl rfl) ?_
    refine WO.op rfl rfl rfl rfl (mv_sc rfl) ?_
    refine WO.op rfl rfl rfl rfl (step_subN rfl rfl (by omega) (by (simp only [cap]; omega))) ?_
    refine WO.put 53 (.sc (.int .i64 ((n - 8 : Nat) : Int))) (rfl) ?_
    refine WO.op rfl rfl rfl rfl (step_mulN (p := 8) rfl rfl (by (simp only [cap]; omega))) ?_
    refine WO.put 54 (.sc (.int .i64 ((8 * (n - 8) : Nat) : Int))) (rfl) ?_
    refine WO.op rfl rfl rfl rfl (step_rem rfl rfl (by omega)) ?_
    refine WO.put 55 (.sc (.int .i64 kk)) (congrArg (fun z : Int => AV.sc (.int .i64 z)) (by (rw [hkk]; congr 1; omega))) ?_
    refine WO.op rfl rfl rfl rfl (as_sc rfl) ?_
    refine WO.nil ?_
    refine W.seq ?_
    refine W.seq ?_
    refine W.to [(0, _), (1, _), (2, _), (3, _), (6, _), (8, _), (9, _), (10, _), (11, _), (12, _), (24, _), (35, _), (48, _)] [_, _] rfl ⟨(by exact sh_sc rfl), (by exact sh_sc rfl), (by exact sh_agg rfl), (by exact sh_sc rfl), (by exact sh_ptr rfl), (by exact sh_sc rfl), (by exact sh_sl rfl), (by exact sh_sc rfl), (by exact sh_sc rfl), (by exact sh_sc rfl), (by exact sh_sc rfl), (by exact sh_sc rfl), (by exact sh_sc rfl), trivial⟩ ?_
    refine W.region ?_
    refine WO.op rfl rfl rfl rfl (mv_sc rfl) ?_
    refine WO.op rfl rfl rfl rfl (step_int2 rfl rfl rfl) ?_
    refine WO.nil ?_
    refine W.cond rfl (fun h2 => ?_) (fun h2 => ?_)
    · try simp only [decide_eq_true_eq, decide_eq_false_iff_not, Bool.not_eq_true', Bool.not_eq_false', beq_iff_eq, bne_iff_ne, beq_eq_false_iff_ne, bne_eq_false_iff_eq, gt_iff_lt, ge_iff_le, Int.not_lt, Int.not_le] at h2
      obtain ⟨j, hj⟩ : ∃ j : Nat, kk + 8 * ((n : Nat) - 8 : Int) = (j : Int) := ⟨(kk + 8 * ((n : Nat) - 8 : Int)).toNat, by omega⟩
      have hj2 : j < 8 * (n - 8) := by omega
      refine W.to [(0, _), (1, _), (2, _), (3, _), (6, _), (8, _), (9, _), (10, _), (11, _), (12, _), (24, _), (35, _), (48, _), (57, _)] [_, _] rfl ⟨(by exact sh_sc rfl), (by exact sh_sc rfl), (by exact sh_agg rfl), (by exact sh_sc rfl), (by exact sh_ptr rfl), (by exact sh_sc rfl), (by exact sh_sl rfl), (by exact sh_sc rfl), (by exact sh_sc rfl), (by exact sh_sc rfl), (by exact sh_sc rfl), (by exact sh_sc rfl), (by exact sh_sc rfl), (by exact sh_sc rfl), trivial⟩ ?_
      refine W.region ?_
      refine WO.op rfl rfl rfl rfl (mv_sc rfl) ?_
      refine WO.op rfl rfl rfl rfl (mv_sl rfl) ?_
      refine WO.op rfl rfl rfl rfl (step_lenL Try.runUnderlying23 rfl rfl) ?_
      refine WO.op rfl rfl rfl rfl (mv_sc rfl) ?_
      refine WO.op rfl rfl rfl rfl (step_subN rfl rfl (by omega) (by (simp only [cap]; omega))) ?_
      refine WO.put 62 (.sc (.int .i64 ((n - 8 : Nat) : Int))) (rfl) ?_
      refine WO.op rfl rfl rfl rfl (step_mulN (p := 8) rfl rfl (by (simp only [cap]; omega))) ?_
      refine WO.put 63 (.sc (.int .i64 ((8 * (n - 8) : Nat) : Int))) (rfl) ?_
      refine WO.op rfl rfl rfl rfl (step_int2 rfl rfl (int2_add (by exact IntWalk.i64_in _ (by omega)))) ?_
      refine WO.op rfl rfl rfl rfl (as_sc rfl) ?_
      refine WO.nil ?_
      refine W.seq ?_
      refine W.to [(0, _), (1, _), (2, _), (3, _), (6, _), (8, _), (9, _), (10, _), (11, _), (12, _), (24, _), (35, _), (48, _), (57, _)] [_, _] rfl ⟨(by exact sh_sc rfl), (by exact sh_sc rfl), (by exact sh_agg rfl), (by exact sh_sc rfl), (by exact sh_ptr rfl), (by exact sh_sc rfl), (by exact sh_sl rfl), (by exact sh_sc rfl), (by exact sh_sc rfl), (by exact sh_sc rfl), (by exact sh_sc rfl), (by exact sh_sc rfl), (by exact sh_sc rfl), (by exact sh_sc rfl), trivial⟩ ?_
      refine W.put 12 (.sc (.int .i64 ((j : Nat) : Int))) (congrArg (fun z : Int => AV.sc (.int .i64 z)) (by omega)) ?_
      have hby := byte_le (c.getD (8 + j / 8) 0)
      refine W.draw (Checked.mixed Try.checked) ?_
      refine DC.op rfl rfl rfl (fun _ => mv_sl rfl) ?_
      refine DC.op rfl rfl rfl (fun _ => mv_sc rfl) ?_
      refine DC.op rfl rfl rfl (fun _ => mv_sc rfl) ?_
      refine DC.op rfl rfl rfl (fun _ => step_quoN (q := 8) rfl rfl (by omega) (by (simp only [cap]; omega))) ?_
      refine DC.op rfl rfl rfl (fun _ => step_addN rfl rfl (by (simp only [cap]; omega))) ?_
      refine DC.op rfl rfl rfl (fun _ => mv_sl rfl) ?_
      refine DC.op rfl rfl rfl (fun _ => mv_sc rfl) ?_
      refine DC.op rfl rfl rfl (fun _ => mv_sc rfl) ?_
      refine DC.op rfl rfl rfl (fun _ => step_quoN (q := 8) rfl rfl (by omega) (by (simp only [cap]; omega))) ?_
      refine DC.op rfl rfl rfl (fun _ => step_addN rfl rfl (by (simp only [cap]; omega))) ?_
      refine DC.op1 rfl rfl rfl rfl (fun _ ho => step_idxO Try.runUnderlying23 Try.sizeOf5 rfl ho rfl (by (exact rfl)) (by (simp only [List.length_map, List.length_append, List.length_take, List.length_drop, List.length_set, List.length_cons, List.length_nil, List.length_replicate] <;> omega)) (by exact Nat.zero_add _)) ?_
      refine DC.op1 rfl rfl rfl rfl (fun _ ho => step_loadO Try.isAgg5 rfl ho (by (simp only [List.length_map, List.length_append, List.length_take, List.length_drop, List.length_set, List.length_cons, List.length_nil, List.length_replicate] <;> omega))) ?_
      refine DC.op rfl rfl rfl (fun _ => mv_sc rfl) ?_
      refine DC.op rfl rfl rfl (fun _ => step_remN (q := 8) rfl rfl (by omega)) ?_
      refine DC.op rfl rfl rfl (fun _ => step_shl rfl rfl (by omega)) ?_
      refine DC.set 79 (.sc (.int .u8 ((1 * 2 ^ (j % 8) % 256 : Nat) : Int))) (congrArg (fun z : Int => AV.sc (.int .u8 z)) (shl8 (by omega))) ?_
      refine DC.op rfl rfl rfl (fun _ => step_xorN rfl rfl (by (simp only [cap]; omega)) (by (simp only [cap]; omega))) ?_
      refine DC.set 80 (.sc (.int .u8 (((UInt8.ofNat ((c.getD (8 + j / 8) 0).toNat ^^^ (1 * 2 ^ (j % 8) % 256))).toNat : Nat) : Int))) (congrArg (fun z : Nat => AV.sc (.int .u8 (z : Int))) (xor_u8 (j := j) hby).symm) ?_
      refine DC.op1 rfl rfl rfl rfl (fun _ ho => step_idxO Try.runUnderlying23 Try.sizeOf5 rfl ho rfl (by (exact rfl)) (by (simp only [List.length_map, List.length_append, List.length_take, List.length_drop, List.length_set, List.length_cons, List.length_nil, List.length_replicate] <;> omega)) (by exact Nat.zero_add _)) ?_
      refine DC.opE0 rfl rfl (step_storeB (b := _) Try.sizeOf5 rfl rfl rfl (by (exact rfl)) (by (simp only [List.length_map, List.length_append, List.length_take, List.length_drop, List.length_set, List.length_cons, List.length_nil, List.length_replicate] <;> omega))) (by simp) (by repeat (first | exact True.intro | refine And.intro (by rfl) ?_)) (by repeat (first | exact True.intro | refine And.intro (by first | exact rowLt_bytes | rfl) ?_)) ?_
      refine DC.fin [(10, 0), (11, 0), (16, 0)] (by kernel_rfl) (by kernel_rfl) ?_ ?_
      · repeat (first | exact True.intro | refine And.intro ?_ ?_ | kernel_rfl)
      · refine W.seq ?_
        refine W.to [(0, _), (1, _), (2, _), (3, _), (6, _), (8, _), (9, _), (10, _), (11, _), (12, _), (24, _), (35, _), (48, _), (57, _)] [_, _] rfl ⟨(by exact sh_sc rfl), (by exact sh_sc rfl), (by exact sh_agg rfl), (by exact sh_sc rfl), (by exact sh_ptr rfl), (by exact sh_sc rfl), (by exact sh_sl rfl), (by exact sh_sc rfl), (by exact sh_sc rfl), (by exact sh_sc rfl), (by exact sh_sc rfl), (by exact sh_sc rfl), (by exact sh_sc rfl), (by exact sh_sc rfl), trivial⟩ ?_
        refine W.gatC [_] [] (flip c (8 + j / 8) j) rfl rfl ?_
        intro L1 hL1
        have hl1 : L1.length = n := by rw [hL1, hn]; unfold flip; rw [List.length_set]
        refine W.region ?_
        refine WO.op rfl rfl rfl rfl (step_fieldR (k := 0) (FieldOff.mk (by kernel_rfl)) rfl rfl (by exact Nat.zero_add _)) ?_
        refine WO.op rfl rfl rfl rfl (step_load Try.isAgg3 rfl rfl rfl) ?_
        refine WO.op rfl rfl rfl rfl (step_pure Try.call15 rfl (by (repeat (first | exact Nl.nil | refine Nl.keep (by rfl) ?_))) (w_Proto2) (by repeat (first | with_reducible refine noOwn_tup ?_ | with_reducible exact noOwnL_nil | with_reducible refine noOwnL_cons ?_ ?_ | rfl))) ?_
        refine WO.op rfl rfl rfl rfl (mv_tup rfl) ?_
        refine WO.op rfl rfl rfl rfl (step_extract rfl rfl) ?_
        refine WO.op rfl rfl rfl rfl (step_extract rfl rfl) ?_
        refine WO.op rfl rfl rfl rfl (as_sc rfl) ?_
        refine WO.op rfl rfl rfl rfl (as_sc rfl) ?_
        refine WO.nil ?_
        refine W.seq ?_
        refine W.to [(0, _), (1, _), (2, _), (3, _), (6, _), (8, _), (9, _), (10, _), (11, _), (12, _), (13, _), (24, _), (35, _), (48, _), (57, _)] [_, _] rfl ⟨(by exact sh_sc rfl), (by exact sh_sc rfl), (by exact sh_agg rfl), (by exact sh_sc rfl), (by exact sh_ptr rfl), (by exact sh_sc rfl), (by exact sh_sl rfl), (by exact sh_sc rfl), (by exact sh_sc rfl), (by exact sh_sc rfl), (by exact sh_sc rfl), (by exact sh_sc rfl), (by exact sh_sc rfl), (by exact sh_sc rfl), (by exact sh_sc rfl), trivial⟩ ?_
        refine W.region ?_
        refine WO.op rfl rfl rfl rfl (mv_sc rfl) ?_
        refine WO.op rfl rfl rfl rfl (mv_sc rfl) ?_
        refine WO.op rfl rfl rfl rfl (mv_sc rfl) ?_
        refine WO.op rfl rfl rfl rfl (mv_sl rfl) ?_
        refine WO.op rfl rfl rfl rfl (step_lent Try.call8 rfl (by (repeat (first | exact Bw.nil | refine Bw.keep (by rfl) ?_ | refine Bw.slB rfl (by (exact take_whole (by omega))) (by (simp only [List.length_map, List.length_append, List.length_take, List.length_drop, List.length_set, List.length_cons, List.length_nil, List.length_replicate] <;> omega)) ?_))) ((hL1 ▸ hD (8 + j / 8) j (by omega) (by omega))) (by repeat (rfl))) ?_
        refine WO.op rfl rfl rfl rfl (mv_tup rfl) ?_
        refine WO.op rfl rfl rfl rfl (step_extract rfl rfl) ?_
        refine WO.op rfl rfl rfl rfl (step_extract rfl rfl) ?_
        refine WO.opA rfl rfl rfl rfl (al_alloc Try.zeroValue25) rfl rfl ?_
        refine WO.put 15 (.ptr 2 0) rfl ?_
        refine WO.op0 rfl rfl rfl (step_storeA Try.sizeOf25 rfl rfl rfl (by repeat (exact all_cell rfl rfl)) rfl rfl) ?_
        refine WO.op rfl rfl rfl rfl (as_sc rfl) ?_
        refine WO.nil ?_
        refine W.seq ?_
        refine W.to [(0, _), (1, _), (2, _), (3, _), (6, _), (8, _), (9, _), (10, _), (11, _), (12, _), (13, _), (15, _), (24, _), (35, _), (48, _), (57, _)] [_, _, _] rfl ⟨(by exact sh_sc rfl), (by exact sh_sc rfl), (by exact sh_agg rfl), (by exact sh_sc rfl), (by exact sh_ptr rfl), (by exact sh_sc rfl), (by exact sh_sl rfl), (by exact sh_sc rfl), (by exact sh_sc rfl), (by exact sh_sc rfl), (by exact sh_sc rfl), (by exact sh_ptr rfl), (by exact sh_sc rfl), (by exact sh_sc rfl), (by exact sh_sc rfl), (by exact sh_sc rfl), trivial⟩ ?_
        refine W.region ?_
        refine WO.op rfl rfl rfl rfl (mv_sc rfl) ?_
        refine WO.op rfl rfl rfl rfl (step_int2 rfl rfl rfl) ?_
        refine WO.put 97 (.sc (.bool true)) (by kernel_rfl) ?_
        refine WO.op rfl rfl rfl rfl (mv_sc rfl) ?_
        refine WO.op rfl rfl rfl rfl (step_loadA Try.isAgg25 Try.sizeOf25 rfl rfl (by exact Nat.le_refl _)) ?_
        refine WO.put 99 (.agg [.sc (.int .i64 0), .sc (.int .i64 0), .sc (.int .i64 0), .sc (.int .u32 0), .sc (.int .i64 0), .sc (.int .i64 0), .sc (.bool false), .sc (.int .u32 0), .sc (.int .u32 0), .sc (.int .i64 0), .sc (.int .i64 0), .sc (.int .i64 0), .sc (.string ⟨#[]⟩), .sc (.string ⟨#[]⟩)]) (by kernel_rfl) ?_
        refine WO.op rfl rfl rfl rfl (step_build (out := [.sc (.int .i64 0), .sc (.int .i64 0), .sc (.int .i64 0), .sc (.int .u32 0), .sc (.int .i64 0), .sc (.int .i64 0), .sc (.bool false), .sc (.int .u32 0), .sc (.int .u32 0), .sc (.int .i64 0), .sc (.int .i64 0), .sc (.int .i64 0), .sc (.string ⟨#[]⟩), .sc (.string ⟨#[]⟩)]) Try.zeroValue25 (pl := [(0, 1), (1, 1), (2, 1), (3, 1), (4, 1), (5, 1), (6, 1), (7, 1), (8, 1), (9, 1), (10, 1), (11, 1), (12, 1), (13, 1)]) (PlacesOf.mk (by kernel_rfl)) (by kernel_rfl)) ?_
        refine WO.put 100 (.agg [.sc (.int .i64 0), .sc (.int .i64 0), .sc (.int .i64 0), .sc (.int .u32 0), .sc (.int .i64 0), .sc (.int .i64 0), .sc (.bool false), .sc (.int .u32 0), .sc (.int .u32 0), .sc (.int .i64 0), .sc (.int .i64 0), .sc (.int .i64 0), .sc (.string ⟨#[]⟩), .sc (.string ⟨#[]⟩)]) (by kernel_rfl) ?_
        refine WO.op rfl rfl rfl rfl (eq_L4 (a0 := 0) (a1 := 0) (a2 := 0) (a3 := 0) (a4 := 0) (a5 := 0) (a6 := false) (a7 := 0) (a8 := 0) (a9 := 0) (a10 := 0) (a11 := 0) (a12 := ⟨#[]⟩) (a13 := ⟨#[]⟩) (by (constructor <;> omega)) (by (constructor <;> omega)) (by (constructor <;> omega)) (by (constructor <;> omega)) (by (constructor <;> omega)) (by (constructor <;> omega)) (by (constructor <;> omega)) (by (constructor <;> omega)) (by (constructor <;> omega)) (by (constructor <;> omega)) (by (constructor <;> omega)) (by decide) (by decide) rfl rfl) ?_
        refine WO.put 101 (.sc (.bool true)) (rfl) ?_
        refine WO.op rfl rfl rfl rfl (pk_t rfl rfl rfl) ?_
        refine WO.op rfl rfl rfl rfl (as_sc rfl) ?_
        refine WO.nil ?_
        refine W.ret ?_
        refine ⟨.inl rfl, ?_⟩
        exact ret0 (Res.tmp rfl Res.nil) (.keep rfl)
    · try simp only [decide_eq_true_eq, decide_eq_false_iff_not, Bool.not_eq_true', Bool.not_eq_false', beq_iff_eq, bne_iff_ne, beq_eq_false_iff_ne, bne_eq_false_iff_eq, gt_iff_lt, ge_iff_le, Int.not_lt, Int.not_le] at h2
      obtain ⟨j, hj⟩ : ∃ j : Nat, kk = (j : Int) := ⟨(kk).toNat, by omega⟩
      have hj2 : j < 8 * (n - 8) := by omega
      refine W.skip ?_
      refine W.seq ?_
      refine W.to [(0, _), (1, _), (2, _), (3, _), (6, _), (8, _), (9, _), (10, _), (11, _), (12, _), (24, _), (35, _), (48, _), (57, _)] [_, _] rfl ⟨(by exact sh_sc rfl), (by exact sh_sc rfl), (by exact sh_agg rfl), (by exact sh_sc rfl), (by exact sh_ptr rfl), (by exact sh_sc rfl), (by exact sh_sl rfl), (by exact sh_sc rfl), (by exact sh_sc rfl), (by exact sh_sc rfl), (by exact sh_sc rfl), (by exact sh_sc rfl), (by exact sh_sc rfl), (by exact sh_sc rfl), trivial⟩ ?_
      refine W.put 12 (.sc (.int .i64 ((j : Nat) : Int))) (congrArg (fun z : Int => AV.sc (.int .i64 z)) (by exact hj)) ?_
      have hby := byte_le (c.getD (8 + j / 8) 0)
      refine W.draw (Checked.mixed Try.checked) ?_
      refine DC.op rfl rfl rfl (fun _ => mv_sl rfl) ?_
      refine DC.op rfl rfl rfl (fun _ => mv_sc rfl) ?_
      refine DC.op rfl rfl rfl (fun _ => mv_sc rfl) ?_
      refine DC.op rfl rfl rfl (fun _ => step_quoN (q := 8) rfl rfl (by omega) (by (simp only [cap]; omega))) ?_
      refine DC.op rfl rfl rfl (fun _ => step_addN rfl rfl (by (simp only [cap]; omega))) ?_
      refine DC.op rfl rfl rfl (fun _ => mv_sl rfl) ?_
      refine DC.op rfl rfl rfl (fun _ => mv_sc rfl) ?_
      refine DC.op rfl rfl rfl (fun _ => mv_sc rfl) ?_
      refine DC.op rfl rfl rfl (fun _ => step_quoN (q := 8) rfl rfl (by omega) (by (simp only [cap]; omega))) ?_
      refine DC.op rfl rfl rfl (fun _ => step_addN rfl rfl (by (simp only [cap]; omega))) ?_
      refine DC.op1 rfl rfl rfl rfl (fun _ ho => step_idxO Try.runUnderlying23 Try.sizeOf5 rfl ho rfl (by (exact rfl)) (by (simp only [List.length_map, List.length_append, List.length_take, List.length_drop, List.length_set, List.length_cons, List.length_nil, List.length_replicate] <;> omega)) (by exact Nat.zero_add _)) ?_
      refine DC.op1 rfl rfl rfl rfl (fun _ ho => step_loadO Try.isAgg5 rfl ho (by (simp only [List.length_map, List.length_append, List.length_take, List.length_drop, List.length_set, List.length_cons, List.length_nil, List.length_replicate] <;> omega))) ?_
      refine DC.op rfl rfl rfl (fun _ => mv_sc rfl) ?_
      refine DC.op rfl rfl rfl (fun _ => step_remN (q := 8) rfl rfl (by omega)) ?_
      refine DC.op rfl rfl rfl (fun _ => step_shl rfl rfl (by omega)) ?_
      refine DC.set 79 (.sc (.int .u8 ((1 * 2 ^ (j % 8) % 256 : Nat) : Int))) (congrArg (fun z : Int => AV.sc (.int .u8 z)) (shl8 (by omega))) ?_
      refine DC.op rfl rfl rfl (fun _ => step_xorN rfl rfl (by (simp only [cap]; omega)) (by (simp only [cap]; omega))) ?_
      refine DC.set 80 (.sc (.int .u8 (((UInt8.ofNat ((c.getD (8 + j / 8) 0).toNat ^^^ (1 * 2 ^ (j % 8) % 256))).toNat : Nat) : Int))) (congrArg (fun z : Nat => AV.sc (.int .u8 (z : Int))) (xor_u8 (j := j) hby).symm) ?_
      refine DC.op1 rfl rfl rfl rfl (fun _ ho => step_idxO Try.runUnderlying23 Try.sizeOf5 rfl ho rfl (by (exact rfl)) (by (simp only [List.length_map, List.length_append, List.length_take, List.length_drop, List.length_set, List.length_cons, List.length_nil, List.length_replicate] <;> omega)) (by exact Nat.zero_add _)) ?_
      refine DC.opE0 rfl rfl (step_storeB (b := _) Try.sizeOf5 rfl rfl rfl (by (exact rfl)) (by (simp only [List.length_map, List.length_append, List.length_take, List.length_drop, List.length_set, List.length_cons, List.length_nil, List.length_replicate] <;> omega))) (by simp) (by repeat (first | exact True.intro | refine And.intro (by rfl) ?_)) (by repeat (first | exact True.intro | refine And.intro (by first | exact rowLt_bytes | rfl) ?_)) ?_
      refine DC.fin [(10, 0), (11, 0), (16, 0)] (by kernel_rfl) (by kernel_rfl) ?_ ?_
      · repeat (first | exact True.intro | refine And.intro ?_ ?_ | kernel_rfl)
      · refine W.seq ?_
        refine W.to [(0, _), (1, _), (2, _), (3, _), (6, _), (8, _), (9, _), (10, _), (11, _), (12, _), (24, _), (35, _), (48, _), (57, _)] [_, _] rfl ⟨(by exact sh_sc rfl), (by exact sh_sc rfl), (by exact sh_agg rfl), (by exact sh_sc rfl), (by exact sh_ptr rfl), (by exact sh_sc rfl), (by exact sh_sl rfl), (by exact sh_sc rfl), (by exact sh_sc rfl), (by exact sh_sc rfl), (by exact sh_sc rfl), (by exact sh_sc rfl), (by exact sh_sc rfl), (by exact sh_sc rfl), trivial⟩ ?_
        refine W.gatC [_] [] (flip c (8 + j / 8) j) rfl rfl ?_
        intro L1 hL1
        have hl1 : L1.length = n := by rw [hL1, hn]; unfold flip; rw [List.length_set]
        refine W.region ?_
        refine WO.op rfl rfl rfl rfl (step_fieldR (k := 0) (FieldOff.mk (by kernel_rfl)) rfl rfl (by exact Nat.zero_add _)) ?_
        refine WO.op rfl rfl rfl rfl (step_load Try.isAgg3 rfl rfl rfl) ?_
        refine WO.op rfl rfl rfl rfl (step_pure Try.call15 rfl (by (repeat (first | exact Nl.nil | refine Nl.keep (by rfl) ?_))) (w_Proto2) (by repeat (first | with_reducible refine noOwn_tup ?_ | with_reducible exact noOwnL_nil | with_reducible refine noOwnL_cons ?_ ?_ | rfl))) ?_
        refine WO.op rfl rfl rfl rfl (mv_tup rfl) ?_
        refine WO.op rfl rfl rfl rfl (step_extract rfl rfl) ?_
        refine WO.op rfl rfl rfl rfl (step_extract rfl rfl) ?_
        refine WO.op rfl rfl rfl rfl (as_sc rfl) ?_
        refine WO.op rfl rfl rfl rfl (as_sc rfl) ?_
        refine WO.nil ?_
        refine W.seq ?_
        refine W.to [(0, _), (1, _), (2, _), (3, _), (6, _), (8, _), (9, _), (10, _), (11, _), (12, _), (13, _), (24, _), (35, _), (48, _), (57, _)] [_, _] rfl ⟨(by exact sh_sc rfl), (by exact sh_sc rfl), (by exact sh_agg rfl), (by exact sh_sc rfl), (by exact sh_ptr rfl), (by exact sh_sc rfl), (by exact sh_sl rfl), (by exact sh_sc rfl), (by exact sh_sc rfl), (by exact sh_sc rfl), (by exact sh_sc rfl), (by exact sh_sc rfl), (by exact sh_sc rfl), (by exact sh_sc rfl), (by exact sh_sc rfl), trivial⟩ ?_
        refine W.region ?_
        refine WO.op rfl rfl rfl rfl (mv_sc rfl) ?_
        refine WO.op rfl rfl rfl rfl (mv_sc rfl) ?_
        refine WO.op rfl rfl rfl rfl (mv_sc rfl) ?_
        refine WO.op rfl rfl rfl rfl (mv_sl rfl) ?_
        refine WO.op rfl rfl rfl rfl (step_lent Try.call8 rfl (by (repeat (first | exact Bw.nil | refine Bw.keep (by rfl) ?_ | refine Bw.slB rfl (by (exact take_whole (by omega))) (by (simp only [List.length_map, List.length_append, List.length_take, List.length_drop, List.length_set, List.length_cons, List.length_nil, List.length_replicate] <;> omega)) ?_))) ((hL1 ▸ hD (8 + j / 8) j (by omega) (by omega))) (by repeat (rfl))) ?_
        refine WO.op rfl rfl rfl rfl (mv_tup rfl) ?_
        refine WO.op rfl rfl rfl rfl (step_extract rfl rfl) ?_
        refine WO.op rfl rfl rfl rfl (step_extract rfl rfl) ?_
        refine WO.opA rfl rfl rfl rfl (al_alloc Try.zeroValue25) rfl rfl ?_
        refine WO.put 15 (.ptr 2 0) rfl ?_
        refine WO.op0 rfl rfl rfl (step_storeA Try.sizeOf25 rfl rfl rfl (by repeat (exact all_cell rfl rfl)) rfl rfl) ?_
        refine WO.op rfl rfl rfl rfl (as_sc rfl) ?_
        refine WO.nil ?_
        refine W.seq ?_
        refine W.to [(0, _), (1, _), (2, _), (3, _), (6, _), (8, _), (9, _), (10, _), (11, _), (12, _), (13, _), (15, _), (24, _), (35, _), (48, _), (57, _)] [_, _, _] rfl ⟨(by exact sh_sc rfl), (by exact sh_sc rfl), (by exact sh_agg rfl), (by exact sh_sc rfl), (by exact sh_ptr rfl), (by exact sh_sc rfl), (by exact sh_sl rfl), (by exact sh_sc rfl), (by exact sh_sc rfl), (by exact sh_sc rfl), (by exact sh_sc rfl), (by exact sh_ptr rfl), (by exact sh_sc rfl), (by exact sh_sc rfl), (by exact sh_sc rfl), (by exact sh_sc rfl), trivial⟩ ?_
        refine W.region ?_
        refine WO.op rfl rfl rfl rfl (mv_sc rfl) ?_
        refine WO.op rfl rfl rfl rfl (step_int2 rfl rfl rfl) ?_
        refine WO.put 97 (.sc (.bool true)) (by kernel_rfl) ?_
        refine WO.op rfl rfl rfl rfl (mv_sc rfl) ?_
        refine WO.op rfl rfl rfl rfl (step_loadA Try.isAgg25 Try.sizeOf25 rfl rfl (by exact Nat.le_refl _)) ?_
        refine WO.put 99 (.agg [.sc (.int .i64 0), .sc (.int .i64 0), .sc (.int .i64 0), .sc (.int .u32 0), .sc (.int .i64 0), .sc (.int .i64 0), .sc (.bool false), .sc (.int .u32 0), .sc (.int .u32 0), .sc (.int .i64 0), .sc (.int .i64 0), .sc (.int .i64 0), .sc (.string ⟨#[]⟩), .sc (.string ⟨#[]⟩)]) (by kernel_rfl) ?_
        refine WO.op rfl rfl rfl rfl (step_build (out := [.sc (.int .i64 0), .sc (.int .i64 0), .sc (.int .i64 0), .sc (.int .u32 0), .sc (.int .i64 0), .sc (.int .i64 0), .sc (.bool false), .sc (.int .u32 0), .sc (.int .u32 0), .sc (.int .i64 0), .sc (.int .i64 0), .sc (.int .i64 0), .sc (.string ⟨#[]⟩), .sc (.string ⟨#[]⟩)]) Try.zeroValue25 (pl := [(0, 1), (1, 1), (2, 1), (3, 1), (4, 1), (5, 1), (6, 1), (7, 1), (8, 1), (9, 1), (10, 1), (11, 1), (12, 1), (13, 1)]) (PlacesOf.mk (by kernel_rfl)) (by kernel_rfl)) ?_
        refine WO.put 100 (.agg [.sc (.int .i64 0), .sc (.int .i64 0), .sc (.int .i64 0), .sc (.int .u32 0), .sc (.int .i64 0), .sc (.int .i64 0), .sc (.bool false), .sc (.int .u32 0), .sc (.int .u32 0), .sc (.int .i64 0), .sc (.int .i64 0), .sc (.int .i64 0), .sc (.string ⟨#[]⟩), .sc (.string ⟨#[]⟩)]) (by kernel_rfl) ?_
        refine WO.op rfl rfl rfl rfl (eq_L4 (a0 := 0) (a1 := 0) (a2 := 0) (a3 := 0) (a4 := 0) (a5 := 0) (a6 := false) (a7 := 0) (a8 := 0) (a9 := 0) (a10 := 0) (a11 := 0) (a12 := ⟨#[]⟩) (a13 := ⟨#[]⟩) (by (constructor <;> omega)) (by (constructor <;> omega)) (by (constructor <;> omega)) (by (constructor <;> omega)) (by (constructor <;> omega)) (by (constructor <;> omega)) (by (constructor <;> omega)) (by (constructor <;> omega)) (by (constructor <;> omega)) (by (constructor <;> omega)) (by (constructor <;> omega)) (by decide) (by decide) rfl rfl) ?_
        refine WO.put 101 (.sc (.bool true)) (rfl) ?_
        refine WO.op rfl rfl rfl rfl (pk_t rfl rfl rfl) ?_
        refine WO.op rfl rfl rfl rfl (as_sc rfl) ?_
        refine WO.nil ?_
        refine W.ret ?_
        refine ⟨.inl rfl, ?_⟩
        exact ret0 (Res.tmp rfl Res.nil) (.keep rfl)

theorem w_Turn3 {src dst n : Nat} {a1 : Int} {a2 : Int} {a3 : Int} {a4 : Int} {a5 : Int} {a7 : Int} {a8 : Int} {a9 : Int} {a10 : Int} {a11 : Int} {a12 : ByteArray} {a13 : ByteArray} {bit : Int} {c : List UInt8}  (hbit : -9223372036854775808 ≤ bit ∧ bit ≤ 9223372036854775807) (hn : n = c.length) (hf : 18 ≤ n) (hn2 : n ≤ 65535) (hE : Go.SL.Spec Try.prog 11 [.sc (.int .u32 ((src : Nat) : Int)), .sc (.int .u32 ((dst : Nat) : Int)), .agg [.sc (.int .i64 3), .sc (.int .i64 a1), .sc (.int .i64 a2), .sc (.int .u32 a3), .sc (.int .i64 a4), .sc (.int .i64 a5), .sc (.bool false), .sc (.int .u32 a7), .sc (.int .u32 a8), .sc (.int .i64 a9), .sc (.int .i64 a10), .sc (.int .i64 a11), .sc (.string a12), .sc (.string a13)]] [] (fun r hp' => r = .tup [.sl 0 0 n, .sc (.int .i64 0)] ∧ hp' = [.row 1 (c.map byteAV)])) (hD : ∀ i b, 18 ≤ i → i < n → Spec0 Try.prog 8 [.sc (.int .u32 ((src : Nat) : Int)), .sc (.int .u32 ((dst : Nat) : Int)), .sc (.int .i64 6), .im 1 ((flip c i b).map byteAV)] (.tup [.agg [.sc (.int .i64 0), .sc (.int .i64 0), .sc (.int .i64 0), .sc (.int .u32 0), .sc (.int .i64 0), .sc (.int .i64 0), .sc (.bool false), .sc (.int .u32 0), .sc (.int .u32 0), .sc (.int .i64 0), .sc (.int .i64 0), .sc (.int .i64 0), .sc (.string ⟨#[]⟩), .sc (.string ⟨#[]⟩)], .sc (.int .i64 30)])) : Spec0 Try.prog 7 [.sc (.int .u32 ((src : Nat) : Int)), .sc (.int .u32 ((dst : Nat) : Int)), .agg [.sc (.int .i64 3), .sc (.int .i64 a1), .sc (.int .i64 a2), .sc (.int .u32 a3), .sc (.int .i64 a4), .sc (.int .i64 a5), .sc (.bool false), .sc (.int .u32 a7), .sc (.int .u32 a8), .sc (.int .i64 a9), .sc (.int .i64 a10), .sc (.int .i64 a11), .sc (.string a12), .sc (.string a13)], .sc (.int .i64 bit)] (.sc (.bool true)) := by
  refine Spec.body Try.func7 rfl (Nat.le_of_ble_eq_true rfl) ?_
  refine W.seq ?_
  refine W.region ?_
  refine WO.opA rfl rfl rfl rfl (al_boxA rfl rfl) rfl rfl ?_
  refine WO.put 6 (.ptr 0 0) rfl ?_
  refine WO.op rfl rfl rfl rfl (as_sc rfl) ?_
  refine WO.nil ?_
  refine W.seq ?_
  refine W.to [(0, _), (1, _), (2, _), (3, _), (6, _), (8, _)] [_] rfl ⟨(by exact sh_sc rfl), (by exact sh_sc rfl), (by exact sh_agg rfl), (by exact sh_sc rfl), (by exact sh_ptr rfl), (by exact sh_sc rfl), trivial⟩ ?_
  refine W.region ?_
  refine WO.op rfl rfl rfl rfl (mv_sc rfl) ?_
  refine WO.op rfl rfl rfl rfl (mv_sc rfl) ?_
  refine WO.op rfl rfl rfl rfl (step_loadA Try.isAgg25 Try.sizeOf25 rfl rfl (by exact Nat.le_refl _)) ?_
  refine WO.put 19 (.agg [.sc (.int .i64 3), .sc (.int .i64 a1), .sc (.int .i64 a2), .sc (.int .u32 a3), .sc (.int .i64 a4), .sc (.int .i64 a5), .sc (.bool false), .sc (.int .u32 a7), .sc (.int .u32 a8), .sc (.int .i64 a9), .sc (.int .i64 a10), .sc (.int .i64 a11), .sc (.string a12), .sc (.string a13)]) (by kernel_rfl) ?_
  refine WO.op rfl rfl rfl rfl (step_own Try.call11 rfl (by repeat (first | exact Nl.nil | refine Nl.keep rfl ?_)) hE noOwn_bytes rfl) ?_
  skip
  refine WO.op rfl rfl rfl rfl (mv_tup rfl) ?_
  refine WO.op rfl rfl rfl rfl (step_extract rfl rfl) ?_
  refine WO.op rfl rfl rfl rfl (step_extract rfl rfl) ?_
  refine WO.op rfl rfl rfl rfl (as_sl rfl) ?_
  refine WO.op rfl rfl rfl rfl (as_sc rfl) ?_
  refine WO.nil ?_
  refine W.seq ?_
  refine W.seq ?_
  refine W.to [(0, _), (1, _), (2, _), (3, _), (6, _), (8, _), (9, _), (10, _)] [_, _] rfl ⟨(by exact sh_sc rfl), (by exact sh_sc rfl), (by exact sh_agg rfl), (by exact sh_sc rfl), (by exact sh_ptr rfl), (by exact sh_sc rfl), (by exact sh_sl rfl), (by exact sh_sc rfl), trivial⟩ ?_
  refine W.region ?_
  refine WO.op rfl rfl rfl rfl (step_pure Try.call10 rfl (by (repeat (exact Nl.nil))) (w_lives) (by repeat (rfl))) ?_
  refine WO.op rfl rfl rfl rfl (step_not rfl) ?_
  refine WO.put 24 (.sc (.bool false)) (rfl) ?_
  refine WO.nil ?_
  refine W.condF rfl ?_
  refine W.skip ?_
  refine W.seq ?_
  refine W.seq ?_
  refine W.to [(0, _), (1, _), (2, _), (3, _), (6, _), (8, _), (9, _), (10, _), (24, _)] [_, _] rfl ⟨(by exact sh_sc rfl), (by exact sh_sc rfl), (by exact sh_agg rfl), (by exact sh_sc rfl), (by exact sh_ptr rfl), (by exact sh_sc rfl), (by exact sh_sl rfl), (by exact sh_sc rfl), (by exact sh_sc rfl), trivial⟩ ?_
  refine W.region ?_
  refine WO.op rfl rfl rfl rfl (mv_sc rfl) ?_
  refine WO.op rfl rfl rfl rfl (step_int2 rfl rfl rfl) ?_
  refine WO.put 26 (.sc (.bool false)) (by kernel_rfl) ?_
  refine WO.op rfl rfl rfl rfl (mv_sc rfl) ?_
  refine WO.op rfl rfl rfl rfl (step_fieldR (k := 0) (FieldOff.mk (by kernel_rfl)) rfl rfl (by exact Nat.zero_add _)) ?_
  refine WO.op rfl rfl rfl rfl (step_load Try.isAgg3 rfl rfl rfl) ?_
  refine WO.op rfl rfl rfl rfl (step_int2 rfl rfl rfl) ?_
  refine WO.put 30 (.sc (.bool false)) (by kernel_rfl) ?_
  refine WO.op rfl rfl rfl rfl (pk_f rfl rfl rfl) ?_
  refine WO.op rfl rfl rfl rfl (mv_sc rfl) ?_
  refine WO.op rfl rfl rfl rfl (step_fieldR (k := 6) (FieldOff.mk (by kernel_rfl)) rfl rfl (by exact Nat.zero_add _)) ?_
  refine WO.op rfl rfl rfl rfl (step_load Try.isAgg4 rfl rfl rfl) ?_
  refine WO.put 34 (.sc (.bool false)) (by kernel_rfl) ?_
  refine WO.op rfl rfl rfl rfl (pk_f rfl rfl rfl) ?_
  refine WO.nil ?_
  refine W.condF rfl ?_
  refine W.skip ?_
  refine W.seq ?_
  refine W.to [(0, _), (1, _), (2, _), (3, _), (6, _), (8, _), (9, _), (10, _), (24, _), (35, _)] [_, _] rfl ⟨(by exact sh_sc rfl), (by exact sh_sc rfl), (by exact sh_agg rfl), (by exact sh_sc rfl), (by exact sh_ptr rfl), (by exact sh_sc rfl), (by exact sh_sl rfl), (by exact sh_sc rfl), (by exact sh_sc rfl), (by exact sh_sc rfl), trivial⟩ ?_
  refine W.region ?_
  refine WO.op rfl rfl rfl rfl (step_fieldR (k := 0) (FieldOff.mk (by kernel_rfl)) rfl rfl (by exact Nat.zero_add _)) ?_
  refine WO.op rfl rfl rfl rfl (step_load Try.isAgg3 rfl rfl rfl) ?_
  refine WO.op rfl rfl rfl rfl (step_pure Try.call17 rfl (by (repeat (first | exact Nl.nil | refine Nl.keep (by rfl) ?_))) (w_map3) (by repeat (rfl))) ?_
  refine WO.op rfl rfl rfl rfl (as_sc rfl) ?_
  refine WO.nil ?_
  refine W.seq ?_
  refine W.seq ?_
  refine W.to [(0, _), (1, _), (2, _), (3, _), (6, _), (8, _), (9, _), (10, _), (11, _), (24, _), (35, _)] [_, _] rfl ⟨(by exact sh_sc rfl), (by exact sh_sc rfl), (by exact sh_agg rfl), (by exact sh_sc rfl), (by exact sh_ptr rfl), (by exact sh_sc rfl), (by exact sh_sl rfl), (by exact sh_sc rfl), (by exact sh_sc rfl), (by exact sh_sc rfl), (by exact sh_sc rfl), trivial⟩ ?_
  refine W.region ?_
  refine WO.op rfl rfl rfl rfl (mv_sl rfl) ?_
  refine WO.op rfl rfl rfl rfl (step_lenL Try.runUnderlying23 rfl rfl) ?_
  refine WO.op rfl rfl rfl rfl (mv_sc rfl) ?_
  refine WO.op rfl rfl rfl rfl (step_int2 rfl rfl rfl) ?_
  refine WO.nil ?_
  refine W.cond rfl (fun h1 => ?_) (fun h1 => ?_)
  · try simp only [decide_eq_true_eq, decide_eq_false_iff_not, Bool.not_eq_true', Bool.not_eq_false', beq_iff_eq, bne_iff_ne, beq_eq_false_iff_ne, bne_eq_false_iff_eq, gt_iff_lt, ge_iff_le, Int.not_lt, Int.not_le] at h1
    refine W.seq ?_
    refine W.to [(0, _), (1, _), (2, _), (3, _), (6, _), (8, _), (9, _), (10, _), (11, _), (24, _), (35, _), (48, _)] [_, _] rfl ⟨(by exact sh_sc rfl), (by exact sh_sc rfl), (by exact sh_agg rfl), (by exact sh_sc rfl), (by exact sh_ptr rfl), (by exact sh_sc rfl), (by exact sh_sl rfl), (by exact sh_sc rfl), (by exact sh_sc rfl), (by exact sh_sc rfl), (by exact sh_sc rfl), (by exact sh_sc rfl), trivial⟩ ?_
    refine W.region ?_
    refine WO.op rfl rfl rfl rfl (as_sc rfl) ?_
    refine WO.nil ?_
    refine W.ret ?_
    refine ⟨.inl rfl, ?_⟩
    exact ret0 (Res.tmp rfl Res.nil) (.keep rfl)
  · try simp only [decide_eq_true_eq, decide_eq_false_iff_not, Bool.not_eq_true', Bool.not_eq_false', beq_iff_eq, bne_iff_ne, beq_eq_false_iff_ne, bne_eq_false_iff_eq, gt_iff_lt, ge_iff_le, Int.not_lt, Int.not_le] at h1
    have hnf : 18 < n := by omega
    obtain ⟨kk, hkk⟩ : ∃ k : Int, k = bit.tmod (8 * ((n : Nat) - 18 : Int)) := ⟨_, rfl⟩
    have hrng := tmod_rng (x := bit) (m := 8 * ((n : Nat) - 18 : Int)) (by omega)
    rw [← hkk] at hrng
    refine W.skip ?_
    refine W.seq ?_
    refine W.to [(0, _), (1, _), (2, _), (3, _), (6, _), (8, _), (9, _), (10, _), (11, _), (24, _), (35, _), (48, _)] [_, _] rfl ⟨(by exact sh_sc rfl), (by exact sh_sc rfl), (by exact sh_agg rfl), (by exact sh_sc rfl), (by exact sh_ptr rfl), (by exact sh_sc rfl), (by exact sh_sl rfl), (by exact sh_sc rfl), (by exact sh_sc rfl), (by exact sh_sc rfl), (by exact sh_sc rfl), (by exact sh_sc rfl), trivial⟩ ?_
    refine W.region ?_
    refine WO.op rfl rfl rfl rfl (mv_sc rfl) ?_
    refine WO.op rfl rfl rfl rfl (mv_sl rfl) ?_
    refine WO.op rfl rfl rfl rfl (step_lenL Try.runUnderlying23 rfl rfl) ?_
    refine WO.op rfl rfl rfl rfl (mv_sc rfl) ?_
    refine WO.op rfl rfl rfl rfl (step_subN rfl rfl (by omega) (by (simp only [cap]; omega))) ?_
    refine WO.put 53 (.sc (.int .i64 ((n - 18 : Nat) : Int))) (rfl) ?_
    refine WO.op rfl rfl rfl rfl (step_mulN (p := 8) rfl rfl (by (simp only [cap]; omega))) ?_
    refine WO.put 54 (.sc (.int .i64 ((8 * (n - 18) : Nat) : Int))) (rfl) ?_
    refine WO.op rfl rfl rfl rfl (step_rem rfl rfl (by omega)) ?_
    refine WO.put 55 (.sc (.int .i64 kk)) (congrArg (fun z : Int => AV.sc (.int .i64 z)) (by (rw [hkk]; congr 1; omega))) ?_
    refine WO.op rfl rfl rfl rfl (as_sc rfl) ?_
    refine WO.nil ?_
    refine W.seq ?_
    refine W.seq ?_
    refine W.to [(0, _), (1, _), (2, _), (3, _), (6, _), (8, _), (9, _), (10, _), (11, _), (12, _), (24, _), (35, _), (48, _)] [_, _] rfl ⟨(by exact sh_sc rfl), (by exact sh_sc rfl), (by exact sh_agg rfl), (by exact sh_sc rfl), (by exact sh_ptr rfl), (by exact sh_sc rfl), (by exact sh_sl rfl), (by exact sh_sc rfl), (by exact sh_sc rfl), (by exact sh_sc rfl), (by exact sh_sc rfl), (by exact sh_sc rfl), (by exact sh_sc rfl), trivial⟩ ?_
    refine W.region ?_
    refine WO.op rfl rfl rfl rfl (mv_sc rfl) ?_
    refine WO.op rfl rfl rfl rfl (step_int2 rfl rfl rfl) ?_
    refine WO.nil ?_
    refine W.cond rfl (fun h2 => ?_) (fun h2 => ?_)
    · try simp only [decide_eq_true_eq, decide_eq_false_iff_not, Bool.not_eq_true', Bool.not_eq_false', beq_iff_eq, bne_iff_ne, beq_eq_false_iff_ne, bne_eq_false_iff_eq, gt_iff_lt, ge_iff_le, Int.not_lt, Int.not_le] at h2
      obtain ⟨j, hj⟩ : ∃ j : Nat, kk + 8 * ((n : Nat) - 18 : Int) = (j : Int) := ⟨(kk + 8 * ((n : Nat) - 18 : Int)).toNat, by omega⟩
      have hj2 : j < 8 * (n - 18) := by omega
      refine W.to [(0, _), (1, _), (2, _), (3, _), (6, _), (8, _), (9, _), (10, _), (11, _), (12, _), (24, _), (35, _), (48, _), (57, _)] [_, _] rfl ⟨(by exact sh_sc rfl), (by exact sh_sc rfl), (by exact sh_agg rfl), (by exact sh_sc rfl), (by exact sh_ptr rfl), (by exact sh_sc rfl), (by exact sh_sl rfl), (by exact sh_sc rfl), (by exact sh_sc rfl), (by exact sh_sc rfl), (by exact sh_sc rfl), (by exact sh_sc rfl), (by exact sh_sc rfl), (by exact sh_sc rfl), trivial⟩ ?_
      refine W.region ?_
      refine WO.op rfl rfl rfl rfl (mv_sc rfl) ?_
      refine WO.op rfl rfl rfl rfl (mv_sl rfl) ?_
      refine WO.op rfl rfl rfl rfl (step_lenL Try.runUnderlying23 rfl rfl) ?_
      refine WO.op rfl rfl rfl rfl (mv_sc rfl) ?_
      refine WO.op rfl rfl rfl rfl (step_subN rfl rfl (by omega) (by (simp only [cap]; omega))) ?_
      refine WO.put 62 (.sc (.int .i64 ((n - 18 : Nat) : Int))) (rfl) ?_
      refine WO.op rfl rfl rfl rfl (step_mulN (p := 8) rfl rfl (by (simp only [cap]; omega))) ?_
      refine WO.put 63 (.sc (.int .i64 ((8 * (n - 18) : Nat) : Int))) (rfl) ?_
      refine WO.op rfl rfl rfl rfl (step_int2 rfl rfl (int2_add (by exact IntWalk.i64_in _ (by omega)))) ?_
      refine WO.op rfl rfl rfl rfl (as_sc rfl) ?_
      refine WO.nil ?_
      refine W.seq ?_
      refine W.to [(0, _), (1, _), (2, _), (3, _), (6, _), (8, _), (9, _), (10, _), (11, _), (12, _), (24, _), (35, _), (48, _), (57, _)] [_, _] rfl ⟨(by exact sh_sc rfl), (by exact sh_sc rfl), (by exact sh_agg rfl), (by exact sh_sc rfl), (by exact sh_ptr rfl), (by exact sh_sc rfl), (by exact sh_sl rfl), (by exact sh_sc rfl), (by exact sh_sc rfl), (by exact sh_sc rfl), (by exact sh_sc rfl), (by exact sh_sc rfl), (by exact sh_sc rfl), (by exact sh_sc rfl), trivial⟩ ?_
      refine W.put 12 (.sc (.int .i64 ((j : Nat) : Int))) (congrArg (fun z : Int => AV.sc (.int .i64 z)) (by omega)) ?_
      have hby := byte_le (c.getD (18 + j / 8) 0)
      refine W.draw (Checked.mixed Try.checked) ?_
      refine DC.op rfl rfl rfl (fun _ => mv_sl rfl) ?_
      refine DC.op rfl rfl rfl (fun _ => mv_sc rfl) ?_
      refine DC.op rfl rfl rfl (fun _ => mv_sc rfl) ?_
      refine DC.op rfl rfl rfl (fun _ => step_quoN (q := 8) rfl rfl (by omega) (by (simp only [cap]; omega))) ?_
      refine DC.op rfl rfl rfl (fun _ => step_addN rfl rfl (by (simp only [cap]; omega))) ?_
      refine DC.op rfl rfl rfl (fun _ => mv_sl rfl) ?_
      refine DC.op rfl rfl rfl (fun _ => mv_sc rfl) ?_
      refine DC.op rfl rfl rfl (fun _ => mv_sc rfl) ?_
      refine DC.op rfl rfl rfl (fun _ => step_quoN (q := 8) rfl rfl (by omega) (by (simp only [cap]; omega))) ?_
      refine DC.op rfl rfl rfl (fun _ => step_addN rfl rfl (by (simp only [cap]; omega))) ?_
      refine DC.op1 rfl rfl rfl rfl (fun _ ho => step_idxO Try.runUnderlying23 Try.sizeOf5 rfl ho rfl (by (exact rfl)) (by (simp only [List.length_map, List.length_append, List.length_take, List.length_drop, List.length_set, List.length_cons, List.length_nil, List.length_replicate] <;> omega)) (by exact Nat.zero_add _)) ?_
      refine DC.op1 rfl rfl rfl rfl (fun _ ho => step_loadO Try.isAgg5 rfl ho (by (simp only [List.length_map, List.length_append, List.length_take, List.length_drop, List.length_set, List.length_cons, List.length_nil, List.length_replicate] <;> omega))) ?_
      refine DC.op rfl rfl rfl (fun _ => mv_sc rfl) ?_
      refine DC.op rfl rfl rfl (fun _ => step_remN (q := 8) rfl rfl (by omega)) ?_
      refine DC.op rfl rfl rfl (fun _ => step_shl rfl rfl (by omega)) ?_
      refine DC.set 79 (.sc (.int .u8 ((1 * 2 ^ (j % 8) % 256 : Nat) : Int))) (congrArg (fun z : Int => AV.sc (.int .u8 z)) (shl8 (by omega))) ?_
      refine DC.op rfl rfl rfl (fun _ => step_xorN rfl rfl (by (simp only [cap]; omega)) (by (simp only [cap]; omega))) ?_
      refine DC.set 80 (.sc (.int .u8 (((UInt8.ofNat ((c.getD (18 + j / 8) 0).toNat ^^^ (1 * 2 ^ (j % 8) % 256))).toNat : Nat) : Int))) (congrArg (fun z : Nat => AV.sc (.int .u8 (z : Int))) (xor_u8 (j := j) hby).symm) ?_
      refine DC.op1 rfl rfl rfl rfl (fun _ ho => step_idxO Try.runUnderlying23 Try.sizeOf5 rfl ho rfl (by (exact rfl)) (by (simp only [List.length_map, List.length_append, List.length_take, List.length_drop, List.length_set, List.length_cons, List.length_nil, List.length_replicate] <;> omega)) (by exact Nat.zero_add _)) ?_
      refine DC.opE0 rfl rfl (step_storeB (b := _) Try.sizeOf5 rfl rfl rfl (by (exact rfl)) (by (simp only [List.length_map, List.length_append, List.length_take, List.length_drop, List.length_set, List.length_cons, List.length_nil, List.length_replicate] <;> omega))) (by simp) (by repeat (first | exact True.intro | refine And.intro (by rfl) ?_)) (by repeat (first | exact True.intro | refine And.intro (by first | exact rowLt_bytes | rfl) ?_)) ?_
      refine DC.fin [(10, 0), (11, 0), (16, 0)] (by kernel_rfl) (by kernel_rfl) ?_ ?_
      · repeat (first | exact True.intro | refine And.intro ?_ ?_ | kernel_rfl)
      · refine W.seq ?_
        refine W.to [(0, _), (1, _), (2, _), (3, _), (6, _), (8, _), (9, _), (10, _), (11, _), (12, _), (24, _), (35, _), (48, _), (57, _)] [_, _] rfl ⟨(by exact sh_sc rfl), (by exact sh_sc rfl), (by exact sh_agg rfl), (by exact sh_sc rfl), (by exact sh_ptr rfl), (by exact sh_sc rfl), (by exact sh_sl rfl), (by exact sh_sc rfl), (by exact sh_sc rfl), (by exact sh_sc rfl), (by exact sh_sc rfl), (by exact sh_sc rfl), (by exact sh_sc rfl), (by exact sh_sc rfl), trivial⟩ ?_
        refine W.gatC [_] [] (flip c (18 + j / 8) j) rfl rfl ?_
        intro L1 hL1
        have hl1 : L1.length = n := by rw [hL1, hn]; unfold flip; rw [List.length_set]
        refine W.region ?_
        refine WO.op rfl rfl rfl rfl (step_fieldR (k := 0) (FieldOff.mk (by kernel_rfl)) rfl rfl (by exact Nat.zero_add _)) ?_
        refine WO.op rfl rfl rfl rfl (step_load Try.isAgg3 rfl rfl rfl) ?_
        refine WO.op rfl rfl rfl rfl (step_pure Try.call15 rfl (by (repeat (first | exact Nl.nil | refine Nl.keep (by rfl) ?_))) (w_Proto3) (by repeat (first | with_reducible refine noOwn_tup ?_ | with_reducible exact noOwnL_nil | with_reducible refine noOwnL_cons ?_ ?_ | rfl))) ?_
        refine WO.op rfl rfl rfl rfl (mv_tup rfl) ?_
        refine WO.op rfl rfl rfl rfl (step_extract rfl rfl) ?_
        refine WO.op rfl rfl rfl rfl (step_extract rfl rfl) ?_
        refine WO.op rfl rfl rfl rfl (as_sc rfl) ?_
        refine WO.op rfl rfl rfl rfl (as_sc rfl) ?_
        refine WO.nil ?_
        refine W.seq ?_
        refine W.to [(0, _), (1, _), (2, _), (3, _), (6, _), (8, _), (9, _), (10, _), (11, _), (12, _), (13, _), (24, _), (35, _), (48, _), (57, _)] [_, _] rfl ⟨(by exact sh_sc rfl), (by exact sh_sc rfl), (by exact sh_agg rfl), (by exact sh_sc rfl), (by exact sh_ptr rfl), (by exact sh_sc rfl), (by exact sh_sl rfl), (by exact sh_sc rfl), (by exact sh_sc rfl), (by exact sh_sc rfl), (by exact sh_sc rfl), (by exact sh_sc rfl), (by exact sh_sc rfl), (by exact sh_sc rfl), (by exact sh_sc rfl), trivial⟩ ?_
        refine W.region ?_
        refine WO.op rfl rfl rfl rfl (mv_sc rfl) ?_
        refine WO.op rfl rfl rfl rfl (mv_sc rfl) ?_
        refine WO.op rfl rfl rfl rfl (mv_sc rfl) ?_
        refine WO.op rfl rfl rfl rfl (mv_sl rfl) ?_
        refine WO.op rfl rfl rfl rfl (step_lent Try.call8 rfl (by (repeat (first | exact Bw.nil | refine Bw.keep (by rfl) ?_ | refine Bw.slB rfl (by (exact take_whole (by omega))) (by (simp only [List.length_map, List.length_append, List.length_take, List.length_drop, List.length_set, List.length_cons, List.length_nil, List.length_replicate] <;> omega)) ?_))) ((hL1 ▸ hD (18 + j / 8) j (by omega) (by omega))) (by repeat (rfl))) ?_
        refine WO.op rfl rfl rfl rfl (mv_tup rfl) ?_
        refine WO.op rfl rfl rfl rfl (step_extract rfl rfl) ?_
        refine WO.op rfl rfl rfl rfl (step_extract rfl rfl) ?_
        refine WO.opA rfl rfl rfl rfl (al_alloc Try.zeroValue25) rfl rfl ?_
        refine WO.put 15 (.ptr 2 0) rfl ?_
        refine WO.op0 rfl rfl rfl (step_storeA Try.sizeOf25 rfl rfl rfl (by repeat (exact all_cell rfl rfl)) rfl rfl) ?_
        refine WO.op rfl rfl rfl rfl (as_sc rfl) ?_
        refine WO.nil ?_
        refine W.seq ?_
        refine W.to [(0, _), (1, _), (2, _), (3, _), (6, _), (8, _), (9, _), (10, _), (11, _), (12, _), (13, _), (15, _), (24, _), (35, _), (48, _), (57, _)] [_, _, _] rfl ⟨(by exact sh_sc rfl), (by exact sh_sc rfl), (by exact sh_agg rfl), (by exact sh_sc rfl), (by exact sh_ptr rfl), (by exact sh_sc rfl), (by exact sh_sl rfl), (by exact sh_sc rfl), (by exact sh_sc rfl), (by exact sh_sc rfl), (by exact sh_sc rfl), (by exact sh_ptr rfl), (by exact sh_sc rfl), (by exact sh_sc rfl), (by exact sh_sc rfl), (by exact sh_sc rfl), trivial⟩ ?_
        refine W.region ?_
        refine WO.op rfl rfl rfl rfl (mv_sc rfl) ?_
        refine WO.op rfl rfl rfl rfl (step_int2 rfl rfl rfl) ?_
        refine WO.put 97 (.sc (.bool true)) (by kernel_rfl) ?_
        refine WO.op rfl rfl rfl rfl (mv_sc rfl) ?_
        refine WO.op rfl rfl rfl rfl (step_loadA Try.isAgg25 Try.sizeOf25 rfl rfl (by exact Nat.le_refl _)) ?_
        refine WO.put 99 (.agg [.sc (.int .i64 0), .sc (.int .i64 0), .sc (.int .i64 0), .sc (.int .u32 0), .sc (.int .i64 0), .sc (.int .i64 0), .sc (.bool false), .sc (.int .u32 0), .sc (.int .u32 0), .sc (.int .i64 0), .sc (.int .i64 0), .sc (.int .i64 0), .sc (.string ⟨#[]⟩), .sc (.string ⟨#[]⟩)]) (by kernel_rfl) ?_
        refine WO.op rfl rfl rfl rfl (step_build (out := [.sc (.int .i64 0), .sc (.int .i64 0), .sc (.int .i64 0), .sc (.int .u32 0), .sc (.int .i64 0), .sc (.int .i64 0), .sc (.bool false), .sc (.int .u32 0), .sc (.int .u32 0), .sc (.int .i64 0), .sc (.int .i64 0), .sc (.int .i64 0), .sc (.string ⟨#[]⟩), .sc (.string ⟨#[]⟩)]) Try.zeroValue25 (pl := [(0, 1), (1, 1), (2, 1), (3, 1), (4, 1), (5, 1), (6, 1), (7, 1), (8, 1), (9, 1), (10, 1), (11, 1), (12, 1), (13, 1)]) (PlacesOf.mk (by kernel_rfl)) (by kernel_rfl)) ?_
        refine WO.put 100 (.agg [.sc (.int .i64 0), .sc (.int .i64 0), .sc (.int .i64 0), .sc (.int .u32 0), .sc (.int .i64 0), .sc (.int .i64 0), .sc (.bool false), .sc (.int .u32 0), .sc (.int .u32 0), .sc (.int .i64 0), .sc (.int .i64 0), .sc (.int .i64 0), .sc (.string ⟨#[]⟩), .sc (.string ⟨#[]⟩)]) (by kernel_rfl) ?_
        refine WO.op rfl rfl rfl rfl (eq_L4 (a0 := 0) (a1 := 0) (a2 := 0) (a3 := 0) (a4 := 0) (a5 := 0) (a6 := false) (a7 := 0) (a8 := 0) (a9 := 0) (a10 := 0) (a11 := 0) (a12 := ⟨#[]⟩) (a13 := ⟨#[]⟩) (by (constructor <;> omega)) (by (constructor <;> omega)) (by (constructor <;> omega)) (by (constructor <;> omega)) (by (constructor <;> omega)) (by (constructor <;> omega)) (by (constructor <;> omega)) (by (constructor <;> omega)) (by (constructor <;> omega)) (by (constructor <;> omega)) (by (constructor <;> omega)) (by decide) (by decide) rfl rfl) ?_
        refine WO.put 101 (.sc (.bool true)) (rfl) ?_
        refine WO.op rfl rfl rfl rfl (pk_t rfl rfl rfl) ?_
        refine WO.op rfl rfl rfl rfl (as_sc rfl) ?_
        refine WO.nil ?_
        refine W.ret ?_
        refine ⟨.inl rfl, ?_⟩
        exact ret0 (Res.tmp rfl Res.nil) (.keep rfl)
    · try simp only [decide_eq_true_eq, decide_eq_false_iff_not, Bool.not_eq_true', Bool.not_eq_false', beq_iff_eq, bne_iff_ne, beq_eq_false_iff_ne, bne_eq_false_iff_eq, gt_iff_lt, ge_iff_le, Int.not_lt, Int.not_le] at h2
      obtain ⟨j, hj⟩ : ∃ j : Nat, kk = (j : Int) := ⟨(kk).toNat, by omega⟩
      have hj2 : j < 8 * (n - 18) := by omega
      refine W.skip ?_
      refine W.seq ?_
      refine W.to [(0, _), (1, _), (2, _), (3, _), (6, _), (8, _), (9, _), (10, _), (11, _), (12, _), (24, _), (35, _), (48, _), (57, _)] [_, _] rfl ⟨(by exact sh_sc rfl), (by exact sh_sc rfl), (by exact sh_agg rfl), (by exact sh_sc rfl), (by exact sh_ptr rfl), (by exact sh_sc rfl), (by exact sh_sl rfl), (by exact sh_sc rfl), (by exact sh_sc rfl), (by exact sh_sc rfl), (by exact sh_sc rfl), (by exact sh_sc rfl), (by exact sh_sc rfl), (by exact sh_sc rfl), trivial⟩ ?_
      refine W.put 12 (.sc (.int .i64 ((j : Nat) : Int))) (congrArg (fun z : Int => AV.sc (.int .i64 z)) (by exact hj)) ?_
      have hby := byte_le (c.getD (18 + j / 8) 0)
      refine W.draw (Checked.mixed Try.checked) ?_
      refine DC.op rfl rfl rfl (fun _ => mv_sl rfl) ?_
      refine DC.op rfl rfl rfl (fun _ => mv_sc rfl) ?_
      refine DC.op rfl rfl rfl (fun _ => mv_sc rfl) ?_
      refine DC.op rfl rfl rfl (fun _ => step_quoN (q := 8) rfl rfl (by omega) (by (simp only [cap]; omega))) ?_
      refine DC.op rfl rfl rfl (fun _ => step_addN rfl rfl (by (simp only [cap]; omega))) ?_
      refine DC.op rfl rfl rfl (fun _ => mv_sl rfl) ?_
      refine DC.op rfl rfl rfl (fun _ => mv_sc rfl) ?_
      refine DC.op rfl rfl rfl (fun _ => mv_sc rfl) ?_
      refine DC.op rfl rfl rfl (fun _ => step_quoN (q := 8) rfl rfl (by omega) (by (simp only [cap]; omega))) ?_
      refine DC.op rfl rfl rfl (fun _ => step_addN rfl rfl (by (simp only [cap]; omega))) ?_
      refine DC.op1 rfl rfl rfl rfl (fun _ ho => step_idxO Try.runUnderlying23 Try.sizeOf5 rfl ho rfl (by (exact rfl)) (by (simp only [List.length_map, List.length_append, List.length_take, List.length_drop, List.length_set, List.length_cons, List.length_nil, List.length_replicate] <;> omega)) (by exact Nat.zero_add _)) ?_
      refine DC.op1 rfl rfl rfl rfl (fun _ ho => step_loadO Try.isAgg5 rfl ho (by (simp only [List.length_map, List.length_append, List.length_take, List.length_drop, List.length_set, List.length_cons, List.length_nil, List.length_replicate] <;> omega))) ?_
      refine DC.op rfl rfl rfl (fun _ => mv_sc rfl) ?_
      refine DC.op rfl rfl rfl (fun _ => step_remN (q := 8) rfl rfl (by omega)) ?_
      refine DC.op rfl rfl rfl (fun _ => step_shl rfl rfl (by omega)) ?_
      refine DC.set 79 (.sc (.int .u8 ((1 * 2 ^ (j % 8) % 256 : Nat) : Int))) (congrArg (fun z : Int => AV.sc (.int .u8 z)) (shl8 (by omega))) ?_
      refine DC.op rfl rfl rfl (fun _ => step_xorN rfl rfl (by (simp only [cap]; omega)) (by (simp only [cap]; omega))) ?_
      refine DC.set 80 (.sc (.int .u8 (((UInt8.ofNat ((c.getD (18 + j / 8) 0).toNat ^^^ (1 * 2 ^ (j % 8) % 256))).toNat : Nat) : Int))) (congrArg (fun z : Nat => AV.sc (.int .u8 (z : Int))) (xor_u8 (j := j) hby).symm) ?_
      refine DC.op1 rfl rfl rfl rfl (fun _ ho => step_idxO Try.runUnderlying23 Try.sizeOf5 rfl ho rfl (by (exact rfl)) (by (simp only [List.length_map, List.length_append, List.length_take, List.length_drop, List.length_set, List.length_cons, List.length_nil, List.length_replicate] <;> omega)) (by exact Nat.zero_add _)) ?_
      refine DC.opE0 rfl rfl (step_storeB (b := _) Try.sizeOf5 rfl rfl rfl (by (exact rfl)) (by (simp only [List.length_map, List.length_append, List.length_take, List.length_drop, List.length_set, List.length_cons, List.length_nil, List.length_replicate] <;> omega))) (by simp) (by repeat (first | exact True.intro | refine And.intro (by rfl) ?_)) (by repeat (first | exact True.intro | refine And.intro (by first | exact rowLt_bytes | rfl) ?_)) ?_
      refine DC.fin [(10, 0), (11, 0), (16, 0)] (by kernel_rfl) (by kernel_rfl) ?_ ?_
      · repeat (first | exact True.intro | refine And.intro ?_ ?_ | kernel_rfl)
      · refine W.seq ?_
        refine W.to [(0, _), (1, _), (2, _), (3, _), (6, _), (8, _), (9, _), (10, _), (11, _), (12, _), (24, _), (35, _), (48, _), (57, _)] [_, _] rfl ⟨(by exact sh_sc rfl), (by exact sh_sc rfl), (by exact sh_agg rfl), (by exact sh_sc rfl), (by exact sh_ptr rfl), (by exact sh_sc rfl), (by exact sh_sl rfl), (by exact sh_sc rfl), (by exact sh_sc rfl), (by exact sh_sc rfl), (by exact sh_sc rfl), (by exact sh_sc rfl), (by exact sh_sc rfl), (by exact sh_sc rfl), trivial⟩ ?_
        refine W.gatC [_] [] (flip c (18 + j / 8) j) rfl rfl ?_
        intro L1 hL1
        have hl1 : L1.length = n := by rw [hL1, hn]; unfold flip; rw [List.length_set]
        refine W.region ?_
        refine WO.op rfl rfl rfl rfl (step_fieldR (k := 0) (FieldOff.mk (by kernel_rfl)) rfl rfl (by exact Nat.zero_add _)) ?_
        refine WO.op rfl rfl rfl rfl (step_load Try.isAgg3 rfl rfl rfl) ?_
        refine WO.op rfl rfl rfl rfl (step_pure Try.call15 rfl (by (repeat (first | exact Nl.nil | refine Nl.keep (by rfl) ?_))) (w_Proto3) (by repeat (first | with_reducible refine noOwn_tup ?_ | with_reducible exact noOwnL_nil | with_reducible refine noOwnL_cons ?_ ?_ | rfl))) ?_
        refine WO.op rfl rfl rfl rfl (mv_tup rfl) ?_
        refine WO.op rfl rfl rfl rfl (step_extract rfl rfl) ?_
        refine WO.op rfl rfl rfl rfl (step_extract rfl rfl) ?_
        refine WO.op rfl rfl rfl rfl (as_sc rfl) ?_
        refine WO.op rfl rfl rfl rfl (as_sc rfl) ?_
        refine WO.nil ?_
        refine W.seq ?_
        refine W.to [(0, _), (1, _), (2, _), (3, _), (6, _), (8, _), (9, _), (10, _), (11, _), (12, _), (13, _), (24, _), (35, _), (48, _), (57, _)] [_, _] rfl ⟨(by exact sh_sc rfl), (by exact sh_sc rfl), (by exact sh_agg rfl), (by exact sh_sc rfl), (by exact sh_ptr rfl), (by exact sh_sc rfl), (by exact sh_sl rfl), (by exact sh_sc rfl), (by exact sh_sc rfl), (by exact sh_sc rfl), (by exact sh_sc rfl), (by exact sh_sc rfl), (by exact sh_sc rfl), (by exact sh_sc rfl), (by exact sh_sc rfl), trivial⟩ ?_
        refine W.region ?_
        refine WO.op rfl rfl rfl rfl (mv_sc rfl) ?_
        refine WO.op rfl rfl rfl rfl (mv_sc rfl) ?_
        refine WO.op rfl rfl rfl rfl (mv_sc rfl) ?_
        refine WO.op rfl rfl rfl rfl (mv_sl rfl) ?_
        refine WO.op rfl rfl rfl rfl (step_lent Try.call8 rfl (by (repeat (first | exact Bw.nil | refine Bw.keep (by rfl) ?_ | refine Bw.slB rfl (by (exact take_whole (by omega))) (by (simp only [List.length_map, List.length_append, List.length_take, List.length_drop, List.length_set, List.length_cons, List.length_nil, List.length_replicate] <;> omega)) ?_))) ((hL1 ▸ hD (18 + j / 8) j (by omega) (by omega))) (by repeat (rfl))) ?_
        refine WO.op rfl rfl rfl rfl (mv_tup rfl) ?_
        refine WO.op rfl rfl rfl rfl (step_extract rfl rfl) ?_
        refine WO.op rfl rfl rfl rfl (step_extract rfl rfl) ?_
        refine WO.opA rfl rfl rfl rfl (al_alloc Try.zeroValue25) rfl rfl ?_
        refine WO.put 15 (.ptr 2 0) rfl ?_
        refine WO.op0 rfl rfl rfl (step_storeA Try.sizeOf25 rfl rfl rfl (by repeat (exact all_cell rfl rfl)) rfl rfl) ?_
        refine WO.op rfl rfl rfl rfl (as_sc rfl) ?_
        refine WO.nil ?_
        refine W.seq ?_
        refine W.to [(0, _), (1, _), (2, _), (3, _), (6, _), (8, _), (9, _), (10, _), (11, _), (12, _), (13, _), (15, _), (24, _), (35, _), (48, _), (57, _)] [_, _, _] rfl ⟨(by exact sh_sc rfl), (by exact sh_sc rfl), (by exact sh_agg rfl), (by exact sh_sc rfl), (by exact sh_ptr rfl), (by exact sh_sc rfl), (by exact sh_sl rfl), (by exact sh_sc rfl), (by exact sh_sc rfl), (by exact sh_sc rfl), (by exact sh_sc rfl), (by exact sh_ptr rfl), (by exact sh_sc rfl), (by exact sh_sc rfl), (by exact sh_sc rfl), (by exact sh_sc rfl), trivial⟩ ?_
        refine W.region ?_
        refine WO.op rfl rfl rfl rfl (mv_sc rfl) ?_
        refine WO.op rfl rfl rfl rfl (step_int2 rfl rfl rfl) ?_
        refine WO.put 97 (.sc (.bool true)) (by kernel_rfl) ?_
        refine WO.op rfl rfl rfl rfl (mv_sc rfl) ?_
        refine WO.op rfl rfl rfl rfl (step_loadA Try.isAgg25 Try.sizeOf25 rfl rfl (by exact Nat.le_refl _)) ?_
        refine WO.put 99 (.agg [.sc (.int .i64 0), .sc (.int .i64 0), .sc (.int .i64 0), .sc (.int .u32 0), .sc (.int .i64 0), .sc (.int .i64 0), .sc (.bool false), .sc (.int .u32 0), .sc (.int .u32 0), .sc (.int .i64 0), .sc (.int .i64 0), .sc (.int .i64 0), .sc (.string ⟨#[]⟩), .sc (.string ⟨#[]⟩)]) (by kernel_rfl) ?_
        refine WO.op rfl rfl rfl rfl (step_build (out := [.sc (.int .i64 0), .sc (.int .i64 0), .sc (.int .i64 0), .sc (.int .u32 0), .sc (.int .i64 0), .sc (.int .i64 0), .sc (.bool false), .sc (.int .u32 0), .sc (.int .u32 0), .sc (.int .i64 0), .sc (.int .i64 0), .sc (.int .i64 0), .sc (.string ⟨#[]⟩), .sc (.string ⟨#[]⟩)]) Try.zeroValue25 (pl := [(0, 1), (1, 1), (2, 1), (3, 1), (4, 1), (5, 1), (6, 1), (7, 1), (8, 1), (9, 1), (10, 1), (11, 1), (12, 1), (13, 1)]) (PlacesOf.mk (by kernel_rfl)) (by kernel_rfl)) ?_
        refine WO.put 100 (.agg [.sc (.int .i64 0), .sc (.int .i64 0), .sc (.int .i64 0), .sc (.int .u32 0), .sc (.int .i64 0), .sc (.int .i64 0), .sc (.bool false), .sc (.int .u32 0), .sc (.int .u32 0), .sc (.int .i64 0), .sc (.int .i64 0), .sc (.int .i64 0), .sc (.string ⟨#[]⟩), .sc (.string ⟨#[]⟩)]) (by kernel_rfl) ?_
        refine WO.op rfl rfl rfl rfl (eq_L4 (a0 := 0) (a1 := 0) (a2 := 0) (a3 := 0) (a4 := 0) (a5 := 0) (a6 := false) (a7 := 0) (a8 := 0) (a9 := 0) (a10 := 0) (a11 := 0) (a12 := ⟨#[]⟩) (a13 := ⟨#[]⟩) (by (constructor <;> omega)) (by (constructor <;> omega)) (by (constructor <;> omega)) (by (constructor <;> omega)) (by (constructor <;> omega)) (by (constructor <;> omega)) (by (constructor <;> omega)) (by (constructor <;> omega)) (by (constructor <;> omega)) (by (constructor <;> omega)) (by (constructor <;> omega)) (by decide) (by decide) rfl rfl) ?_
        refine WO.put 101 (.sc (.bool true)) (rfl) ?_
        refine WO.op rfl rfl rfl rfl (pk_t rfl rfl rfl) ?_
        refine WO.op rfl rfl rfl rfl (as_sc rfl) ?_
        refine WO.nil ?_
        refine W.ret ?_
        refine ⟨.inl rfl, ?_⟩
        exact ret0 (Res.tmp rfl Res.nil) (.keep rfl)

end Go.Proofs.Ytdmlkcphlidcfaa
